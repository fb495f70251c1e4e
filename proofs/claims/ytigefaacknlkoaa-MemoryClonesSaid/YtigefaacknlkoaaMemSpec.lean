/- The memories as assertions; what the calls on them do. -/
import Derived.Test.YtigefaacknlkoaaMemRefB
import Derived.Test.YtigefaacknlkoaaMemFnsC
import Derived.Test.YtigefaacknlkoaaSep
set_option linter.unusedVariables false
namespace Go.Proofs.Ytigefaacknlkoaa
open Go.RowKit Go.Proofs.Num
def memP (p : Nat) (ws : List Nat) (c : Nat) : HProp := fun w F => ∃ g cap, MemO w p ws c g cap ∧ ∀ k, F k ↔ ft p g k
def refP (r : Nat) (ws : List Nat) (c : Nat) : HProp := fun w F => ∃ g cap, RefO w r ws c g cap ∧ ∀ k, F k ↔ (k = r ∨ k = g)
theorem memP_stable (p : Nat) (ws : List Nat) (c : Nat) : Stable (memP p ws c) where
  dom := by
    rintro w F ⟨g, cap, h, hF⟩ k hk
    rcases (hF k).1 hk with rfl | rfl
    · exact h.lt
    · exact own_lt h.own
  keep := by
    rintro w w' F S ⟨g, cap, h, hF⟩ hk hS
    exact ⟨g, cap, h.keep hk (hS p ((hF p).2 (Or.inl rfl))) (hS g ((hF g).2 (Or.inr rfl))), hF⟩
theorem refP_stable (r : Nat) (ws : List Nat) (c : Nat) : Stable (refP r ws c) where
  dom := by
    rintro w F ⟨g, cap, h, hF⟩ k hk
    rcases (hF k).1 hk with rfl | rfl
    · exact h.lt
    · exact h.ltg
  keep := by
    rintro w w' F S ⟨g, cap, h, hF⟩ hk hS
    exact ⟨g, cap, h.keep hk (hS r ((hF r).2 (Or.inl rfl))) (hS g ((hF g).2 (Or.inr rfl))), hF⟩
theorem mem_spec {f : FuncId} {args : Array Value} {p c c' : Nat} {ws ws' : List Nat} {v : Value}
    (h : ∀ w g cap, MemO w p ws c g cap → Calls Try.prog f args w (Left p g cap w v ws' c')) : HSpecV Try.prog f args (memP p ws c) v (memP p ws' c') := by
  rintro w F ⟨g, cap, hm, hF⟩
  refine (h w g cap hm).mono ?_
  rintro e w' ⟨he, hm', hk⟩
  exact ⟨(), F, he, ⟨g, cap, hm', hF⟩, hk.mono (fun k _ h => (hF k).2 h), fun k h => Or.inl h⟩
theorem mem_look {f : FuncId} {args : Array Value} {p c : Nat} {ws : List Nat} {v : Value}
    (h : ∀ w g cap, MemO w p ws c g cap → Calls Try.prog f args w fun e w' => e = .returned v ∧ w = w') : HSpecV Try.prog f args (memP p ws c) v (memP p ws c) := by
  rintro w F ⟨g, cap, hm, hF⟩
  refine (h w g cap hm).mono ?_
  rintro e w' ⟨he, rfl⟩
  exact ⟨(), F, he, ⟨g, cap, hm, hF⟩, Keep.refl _ _, fun k h => Or.inl h⟩
theorem ref_spec {f : FuncId} {args : Array Value} {r c c' : Nat} {ws ws' : List Nat} {v : Value}
    (h : ∀ w g cap, RefO w r ws c g cap → Calls Try.prog f args w (LeftR r g w v ws' c')) : HSpecV Try.prog f args (refP r ws c) v (refP r ws' c') := by
  rintro w F ⟨g, cap, hm, hF⟩
  refine (h w g cap hm).mono ?_
  rintro e w' ⟨he, g', cap', hm', hk, hg⟩
  refine ⟨(), fun k => k = r ∨ k = g', he, ⟨g', cap', hm', fun k => Iff.rfl⟩, hk.mono (fun k _ h => (hF k).2 (Or.inl h)), ?_⟩
  rintro k (rfl | rfl)
  · exact Or.inl ((hF k).2 (Or.inl rfl))
  · rcases hg with rfl | hg
    · exact Or.inl ((hF k).2 (Or.inr rfl))
    · exact Or.inr hg
section
variable (p r c : Nat) (ws : List Nat)
theorem s33 (i : Int) (v : Nat) (hv : v < 4294967296) : HSpecV Try.prog 33 #[.pointer (some ⟨p, 0, none⟩), .int .i64 i, .int .u32 v] (memP p ws c) (.int .i64 ((Ecc.mwrite ws i v).1 : Nat)) (memP p (Ecc.mwrite ws i v).2 c) :=
  mem_spec fun w g cap h => c33 w p c g cap ws i v h hv
theorem s34 (i b : Int) : HSpecV Try.prog 34 #[.pointer (some ⟨p, 0, none⟩), .int .i64 i, .int .i64 b] (memP p ws c) (.int .i64 ((Ecc.mflip ws i b).1 : Nat)) (memP p (Ecc.mflip ws i b).2 c) :=
  mem_spec fun w g cap h => c34 w p c g cap ws i b h
theorem s32 (i : Int) (hc : c < 100000000000) : HSpecV Try.prog 32 #[.pointer (some ⟨p, 0, none⟩), .int .i64 i] (memP p ws c) (.tuple #[.int .u32 ((Ecc.mread ws c i).1 : Nat), .int .i64 ((Ecc.mread ws c i).2.1 : Nat)]) (memP p (Ecc.mread ws c i).2.2.1 (Ecc.mread ws c i).2.2.2) :=
  mem_spec fun w g cap h => c32 w p c g cap ws i h (by omega)
theorem s35 (i n : Int) (hc : c < 100000000000) : HSpecV Try.prog 35 #[.pointer (some ⟨p, 0, none⟩), .int .i64 i, .int .i64 n] (memP p ws c) (.tuple #[.int .i64 ((Ecc.mscrub ws c i n).1 : Nat), .int .i64 ((Ecc.mscrub ws c i n).2.1 : Nat)]) (memP p (Ecc.mscrub ws c i n).2.2.1 (Ecc.mscrub ws c i n).2.2.2) :=
  mem_spec fun w g cap h => c35 w p c g cap ws i n h hc
theorem s28 : HSpecV Try.prog 28 #[.pointer (some ⟨p, 0, none⟩)] (memP p ws c) (.int .i64 (ws.length : Nat)) (memP p ws c) := mem_look fun w g cap h => c28 w p c g cap ws h
theorem s31 : HSpecV Try.prog 31 #[.pointer (some ⟨p, 0, none⟩)] (memP p ws c) (.int .i64 (c : Nat)) (memP p ws c) := mem_look fun w g cap h => c31 w p c g cap ws h
theorem s47 (i : Int) (v : Nat) (hv : v < 4294967296) : HSpecV Try.prog 47 #[.pointer (some ⟨r, 0, none⟩), .int .i64 i, .int .u32 v] (refP r ws c) (.int .i64 ((Ecc.mwrite ws i v).1 : Nat)) (refP r (Ecc.mwrite ws i v).2 c) :=
  ref_spec fun w g cap h => c47 w r c g cap ws i v h hv
theorem s48 (i b : Int) : HSpecV Try.prog 48 #[.pointer (some ⟨r, 0, none⟩), .int .i64 i, .int .i64 b] (refP r ws c) (.int .i64 ((Ecc.mflip ws i b).1 : Nat)) (refP r (Ecc.mflip ws i b).2 c) :=
  ref_spec fun w g cap h => c48 w r c g cap ws i b h
theorem s50 (i : Int) (hc : c < 100000000000) : HSpecV Try.prog 50 #[.pointer (some ⟨r, 0, none⟩), .int .i64 i] (refP r ws c) (.tuple #[.int .u32 ((Ecc.mread ws c i).1 : Nat), .int .i64 ((Ecc.mread ws c i).2.1 : Nat)]) (refP r (Ecc.mread ws c i).2.2.1 (Ecc.mread ws c i).2.2.2) :=
  ref_spec fun w g cap h => c50 w r c g cap ws i h (by omega)
theorem s49 (i n : Int) (hc : c < 100000000000) : HSpecV Try.prog 49 #[.pointer (some ⟨r, 0, none⟩), .int .i64 i, .int .i64 n] (refP r ws c) (.tuple #[.int .i64 ((Ecc.mscrub ws c i n).1 : Nat), .int .i64 ((Ecc.mscrub ws c i n).2.1 : Nat)]) (refP r (Ecc.mscrub ws c i n).2.2.1 (Ecc.mscrub ws c i n).2.2.2) :=
  ref_spec fun w g cap h => c49 w r c g cap ws i n h hc
theorem s27 (z : Int) (n : Nat) (hz : clamp z = n) : HSpec Try.prog 27 #[.int .i64 z] emp (fun p : Nat => .pointer (some ⟨p, 0, none⟩)) (fun p => memP p (zeros n) 0) := by
  intro w F hF
  refine (c27 w z n hz).mono ?_
  rintro e w' ⟨p, g, he, hm, hb, hp, hg⟩
  refine ⟨p, ft p g, he, ⟨g, n, hm, fun k => Iff.rfl⟩, Keep.of_below hb, ?_⟩
  rintro k (rfl | rfl)
  · exact Or.inr hp
  · exact Or.inr hg
theorem s36 : HSpec Try.prog 36 #[.pointer (some ⟨p, 0, none⟩)] (memP p ws c) (fun q : Nat => .pointer (some ⟨q, 0, none⟩)) (fun q => star (memP q ws c) (memP p ws c)) := by
  rintro w F ⟨g, cap, hm, hF⟩
  refine (c36 w p c g cap ws hm).mono ?_
  rintro e w' ⟨q, g', cap', he, hm', hb, hq, hg⟩
  have hlt : ∀ k, F k → k < w.heap.size := (memP_stable p ws c).dom ⟨g, cap, hm, hF⟩
  refine ⟨q, fun k => ft q g' k ∨ F k, he, ⟨ft q g', F, ⟨g', cap', hm', fun k => Iff.rfl⟩, ⟨g, cap, hm.below hb, hF⟩, ?_, fun k => Iff.rfl⟩, Keep.of_below hb, ?_⟩
  · rintro k (rfl | rfl) hk <;> have := hlt k hk <;> omega
  · rintro k ((rfl | rfl) | h)
    · exact Or.inr hq
    · exact Or.inr hg
    · exact Or.inl h
end
/-- Whatever the specification's memory says of its words and repairs. -/
theorem refP_c1 {w : World} {F : Nat → Prop} {r c : Nat} {ws : List Nat} (h : refP r ws c w F) : w.cell? ⟨r, 1, none⟩ = some (.int .i64 c) := by
  obtain ⟨g, cap, h, _⟩ := h; exact h.c1
end Go.Proofs.Ytigefaacknlkoaa
