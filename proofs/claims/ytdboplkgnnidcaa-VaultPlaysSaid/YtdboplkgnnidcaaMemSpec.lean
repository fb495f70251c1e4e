/- The memories as assertions; what the calls on them do. -/
import Derived.Test.YtdboplkgnnidcaaMemFnsB
import Derived.Test.YtdboplkgnnidcaaSep
set_option linter.unusedVariables false
namespace Go.Proofs.Ytdboplkgnnidcaa
open Go.RowKit Go.Proofs.Num
def memP (p : Nat) (ws : List Nat) (c : Nat) : HProp := fun w F => ∃ g cap, MemO w p ws c g cap ∧ ∀ k, F k ↔ ft p g k
theorem memP_stable (p : Nat) (ws : List Nat) (c : Nat) : Stable (memP p ws c) where
  dom := by
    rintro w F ⟨g, cap, h, hF⟩ k hk
    rcases (hF k).1 hk with rfl | rfl
    · exact h.lt
    · exact own_lt h.own
  keep := by
    rintro w w' F S ⟨g, cap, h, hF⟩ hk hS
    exact ⟨g, cap, h.keep hk (hS p ((hF p).2 (Or.inl rfl))) (hS g ((hF g).2 (Or.inr rfl))), hF⟩
theorem mem_spec {f : FuncId} {args : Array Value} {p c c' : Nat} {ws ws' : List Nat} {v : Value}
    (h : ∀ w g cap, MemO w p ws c g cap → Calls Try.prog f args w (Left p g cap w v ws' c')) : HSpecV Try.prog f args (memP p ws c) v (memP p ws' c') := by
  rintro w F ⟨g, cap, hm, hF⟩
  refine (h w g cap hm).mono ?_
  rintro e w' ⟨he, hm', hk⟩
  exact ⟨(), F, he, ⟨g, cap, hm', hF⟩, hk.mono (fun k _ h => (hF k).2 h), fun k h => Or.inl h⟩
theorem mem_look {f : FuncId} {args : Array Value} {p c : Nat} {ws : List Nat} {v : Value}
    (h : ∀ w g cap, MemO w p ws c g cap → Calls Try.prog f args w fun e w' => e = .returned v ∧ w = w') : HSpecV Try.prog f args (memP p ws c) v (memP p ws c) := by
  rintro w F ⟨g, cap, hm, hF⟩
  refine (h w g cap hm).mono ?_
  rintro e w' ⟨he, rfl⟩
  exact ⟨(), F, he, ⟨g, cap, hm, hF⟩, Keep.refl _ _, fun k h => Or.inl h⟩
section
variable (p r c : Nat) (ws : List Nat)
theorem s33 (i : Int) (v : Nat) (hv : v < 4294967296) : HSpecV Try.prog 29 #[.pointer (some ⟨p, 0, none⟩), .int .i64 i, .int .u32 v] (memP p ws c) (.int .i64 ((Ecc.mwrite ws i v).1 : Nat)) (memP p (Ecc.mwrite ws i v).2 c) :=
  mem_spec fun w g cap h => c33 w p c g cap ws i v h hv
theorem s34 (i b : Int) : HSpecV Try.prog 26 #[.pointer (some ⟨p, 0, none⟩), .int .i64 i, .int .i64 b] (memP p ws c) (.int .i64 ((Ecc.mflip ws i b).1 : Nat)) (memP p (Ecc.mflip ws i b).2 c) :=
  mem_spec fun w g cap h => c34 w p c g cap ws i b h
theorem s32 (i : Int) (hc : c < 100000000000) : HSpecV Try.prog 36 #[.pointer (some ⟨p, 0, none⟩), .int .i64 i] (memP p ws c) (.tuple #[.int .u32 ((Ecc.mread ws c i).1 : Nat), .int .i64 ((Ecc.mread ws c i).2.1 : Nat)]) (memP p (Ecc.mread ws c i).2.2.1 (Ecc.mread ws c i).2.2.2) :=
  mem_spec fun w g cap h => c32 w p c g cap ws i h (by omega)
theorem s28 : HSpecV Try.prog 48 #[.pointer (some ⟨p, 0, none⟩)] (memP p ws c) (.int .i64 (ws.length : Nat)) (memP p ws c) := mem_look fun w g cap h => c28 w p c g cap ws h
theorem s27 (z : Int) (n : Nat) (hz : clamp z = n) : HSpec Try.prog 20 #[.int .i64 z] emp (fun p : Nat => .pointer (some ⟨p, 0, none⟩)) (fun p => memP p (zeros n) 0) := by
  intro w F hF
  refine (c27 w z n hz).mono ?_
  rintro e w' ⟨p, g, he, hm, hb, hp, hg⟩
  refine ⟨p, ft p g, he, ⟨g, n, hm, fun k => Iff.rfl⟩, Keep.of_below hb, ?_⟩
  rintro k (rfl | rfl)
  · exact Or.inr hp
  · exact Or.inr hg
end
end Go.Proofs.Ytdboplkgnnidcaa
