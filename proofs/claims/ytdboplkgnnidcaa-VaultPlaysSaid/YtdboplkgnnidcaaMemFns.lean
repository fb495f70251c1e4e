/- The contracts of the program's functions (package memory). -/
import Derived.Test.YtdboplkgnnidcaaEccFns
import Derived.Test.YtdboplkgnnidcaaKeep
import Derived.Test.YtdboplkgnnidcaaMemMath
import Derived.Deep.RegionHeld3
import Derived.WalkSpells
set_option linter.unusedVariables false
namespace Go.Proofs.Ytdboplkgnnidcaa
open Go.RowKit Go.Proofs.Num
def u64s (ws : List Nat) : List Value := ws.map fun x => .int .u64 (x : Nat)
theorem u64s_len (ws : List Nat) : (u64s ws).length = ws.length := by simp [u64s]
theorem u64s_get (ws : List Nat) (i : Nat) (h : i < ws.length) : (u64s ws)[i]? = some (.int .u64 (ws.getD i 0 : Nat)) := by
  simp [u64s, h, List.getD]
theorem u64s_set (ws : List Nat) (i x : Nat) : (u64s ws).set i (.int .u64 (x : Nat)) = u64s (ws.set i x) := by simp [u64s, List.map_set]
/-- Block p is a memory of the program with the words ws, which lie in block g, and fx repairs. -/
structure MemO (w : World) (p : Nat) (ws : List Nat) (fx g cap : Nat) : Prop where
  blk : w.heap[p]? = some (.cells #[.bool true, .slice (some ⟨g, 0, none⟩) ws.length cap, .int .i64 fx] 81 (0, 0))
  own : w.ownsRow 0 82 1 (.slice (some ⟨g, 0, none⟩) ws.length cap) ws.length (u64s ws)
  ne : g ≠ p
  wds : Ecc.Words ws
  few : ws.length ≤ 65536
def ft (p g : Nat) (k : Nat) : Prop := k = p ∨ k = g
section
variable {w w' : World} {p fx g cap : Nat} {ws : List Nat}
theorem MemO.c0 (h : MemO w p ws fx g cap) : w.cell? ⟨p, 0, none⟩ = some (.bool true) := cell_blk h.blk rfl
theorem MemO.c1 (h : MemO w p ws fx g cap) : w.cell? ⟨p, 1, none⟩ = some (.slice (some ⟨g, 0, none⟩) ws.length cap) := cell_blk h.blk rfl
theorem MemO.c2 (h : MemO w p ws fx g cap) : w.cell? ⟨p, 2, none⟩ = some (.int .i64 fx) := cell_blk h.blk rfl
theorem MemO.f (h : MemO w p ws fx g cap) (j : Nat) : w.frozen? ⟨p, j, none⟩ = false := free_blk h.blk
theorem MemO.cg (h : MemO w p ws fx g cap) {i : Nat} (hi : i < ws.length) : w.cell? ⟨g, i, none⟩ = some (.int .u64 (ws.getD i 0 : Nat)) := by
  rw [h.own.cellAt i (by omega), u64s_get ws i hi]
theorem MemO.fg (h : MemO w p ws fx g cap) (i : Nat) : w.frozen? ⟨g, i, none⟩ = false := h.own.frozenAt i
theorem MemO.keep {S : Nat → Prop} (h : MemO w p ws fx g cap) (k : Keep S w w') (hp : ¬ S p) (hg : ¬ S g) : MemO w' p ws fx g cap :=
  ⟨k.heap h.blk hp, k.ownsRow h.own (by intro i hi; simp [Value.ownBlock] at hi; subst hi; exact hg), h.ne, h.wds, h.few⟩
theorem MemO.below (h : MemO w p ws fx g cap) (k : Below w.heap.size w w') : MemO w' p ws fx g cap := h.keep (S := fun _ => False) (Keep.of_below k) (fun h => h) (fun h => h)
theorem MemO.drew (h : MemO w p ws fx g cap) : MemO w.drew p ws fx g cap := ⟨h.blk, h.own, h.ne, h.wds, h.few⟩
theorem MemO.c1s (h : MemO w p ws fx g cap) (i : Nat) (v : Value) : (w.setCell ⟨g, i, none⟩ v).cell? ⟨p, 1, none⟩ = some (.slice (some ⟨g, 0, none⟩) ws.length cap) := by
  rw [World.cell?_setCell_other (h := by intro e; injection e with e1; exact h.ne e1)]; exact h.c1
theorem Keep.undrew {S : Nat → Prop} (h : Keep S w.drew w') : Keep S w w' := ⟨h.os, h.tape, h.output, h.size, h.block⟩
theorem MemO.setW (h : MemO w p ws fx g cap) {i x : Nat} (hx : x < 18446744073709551616) : MemO (w.setCell ⟨g, i, none⟩ (.int .u64 (x : Nat))) p (ws.set i x) fx g cap := by
  have hs := h.own.stored i (.int .u64 (x : Nat))
  refine ⟨?_, ?_, h.ne, h.wds.set i x hx, by simpa using h.few⟩
  · rw [Below.heap_setCell _ _ _ _ (by simpa using h.ne.symm)]; simpa using h.blk
  · have := hs.1; rw [u64s_set] at this; simpa using this
theorem MemO.setF (h : MemO w p ws fx g cap) (n : Nat) : MemO (w.setCell ⟨p, 2, none⟩ (.int .i64 (n : Nat))) p ws n g cap := by
  refine ⟨set_blk h.blk, ?_, h.ne, h.wds, h.few⟩
  have k : Keep (fun k => k = p) w (w.setCell ⟨p, 2, none⟩ (.int .i64 (n : Nat))) := (Keep.refl (fun k => k = p) w).setCell (p := ⟨p, 2, none⟩) (fun _ => rfl) _
  exact k.ownsRow h.own (by intro i hi; simp [Value.ownBlock] at hi; subst hi; exact h.ne)
theorem MemO.lt (h : MemO w p ws fx g cap) : p < w.heap.size := lt_of_heap h.blk
end
set_option maxRecDepth 100000 in
theorem c52 (w : World) (p fx g cap : Nat) (ws : List Nat) (i : Nat) (hm : MemO w p ws fx g cap) (hi : i < ws.length) (hf : fx < 1000000000000) :
    Calls Try.prog 55 #[.pointer (some ⟨p, 0, none⟩), .int .i64 i] w fun e w' => e = .returned (.int .i64 ((Ecc.rpr ws fx i).1 : Nat)) ∧
      MemO w' p (Ecc.rpr ws fx i).2.1 (Ecc.rpr ws fx i).2.2 g cap ∧ Keep (ft p g) w w' := by
  have hx := hm.wds.get i
  have hlen := hm.few
  have c1 := hm.c1
  have cg := hm.cg hi
  have hr := Ecc.rep_lt _ hx
  have hfn := Ecc.rpr_fst ws fx i
  unfold Ecc.rpr
  have k16 := hid fun w => c16 _ w hx
  generalize hxv : ws.getD i 0 = x at *
  have HX := hid hxv
  clear hxv
  generalize Ecc.rep x = r at *
  obtain ⟨r1, r2⟩ := r
  simp only at hr
  clear hfn
  by_cases h1 : r2 = 1
  · subst h1
    rw [if_pos rfl]
    go_enter Try.func55, Try.ntmps55
    go_wp2_with fail
    refine (k16.out _).mono ?_; rintro e w1 ⟨rfl, hb⟩
    have hm1 := hm.below hb
    clear c1 cg
    have c1 := hm1.c1
    have c2 := hm1.c2
    have f2 := hm1.f 2
    have cg := hm1.cg hi
    rw [HX.out] at cg
    have fg := hm1.fg i
    have hne := hm1.ne
    go_wp2_with fail
    go_ret
    refine ⟨rfl, (hm1.setW hr).setF (fx + 1), ?_⟩
    exact ((Keep.of_below hb).setCell (fun _ => Or.inr rfl) _).setCell (fun _ => Or.inl rfl) _
  · have h1b : ((r2 : Int) == 1) = false := by simp; omega
    rw [if_neg h1]
    go_enter Try.func55, Try.ntmps55
    go_wp2_with fail
    refine (k16.out _).mono ?_; rintro e w1 ⟨rfl, hb⟩
    go_wp2_with fail
    go_ret
    exact ⟨rfl, hm.below hb, Keep.of_below hb⟩
/-! ### Nil pointers, zero values, what is made -/
theorem c46y (w : World) (p : Nat) (h : w.cell? ⟨p, 0, none⟩ = some (.bool true)) : Calls Try.prog 62 #[.pointer (some ⟨p, 0, none⟩)] w fun e w' => e = .returned (.bool true) ∧ w = w' := by
  go_enter Try.func62, Try.ntmps62
  go_wp2
  go_ret
  exact ⟨rfl, rfl⟩
theorem c46z (w : World) (p : Nat) (h : w.cell? ⟨p, 0, none⟩ = some (.bool false)) : Calls Try.prog 62 #[.pointer (some ⟨p, 0, none⟩)] w fun e w' => e = .returned (.bool false) ∧ w = w' := by
  go_enter Try.func62, Try.ntmps62
  go_wp2
  go_ret
  exact ⟨rfl, rfl⟩
theorem c46n (w : World) : Calls Try.prog 62 #[.pointer none] w fun e w' => e = .returned (.bool false) ∧ w = w' := by
  go_enter Try.func62, Try.ntmps62
  go_wp2
  go_ret
  exact ⟨rfl, rfl⟩
theorem c51n (w : World) (i : Int) : Calls Try.prog 44 #[.pointer none, .int .i64 i] w fun e w' => e = .returned (.int .i64 2) ∧ w = w' := by
  go_enter Try.func44, Try.ntmps44
  go_wp2_with (go_at_call 62; refine (c46n _).mono ?_; rintro e w' ⟨rfl, rfl⟩)
  go_ret
  exact ⟨rfl, rfl⟩
theorem c51z (w : World) (p : Nat) (i : Int) (h : w.cell? ⟨p, 0, none⟩ = some (.bool false)) : Calls Try.prog 44 #[.pointer (some ⟨p, 0, none⟩), .int .i64 i] w fun e w' => e = .returned (.int .i64 2) ∧ w = w' := by
  go_enter Try.func44, Try.ntmps44
  go_wp2_with (go_at_call 62; refine (c46z _ _ (by assumption)).mono ?_; rintro e w' ⟨rfl, rfl⟩)
  go_ret
  exact ⟨rfl, rfl⟩
section
variable (w : World) (p fx g cap : Nat) (ws : List Nat)
theorem c51i (i : Nat) (hm : MemO w p ws fx g cap) (hi : i < ws.length) : Calls Try.prog 44 #[.pointer (some ⟨p, 0, none⟩), .int .i64 i] w fun e w' => e = .returned (.int .i64 0) ∧ w = w' := by
  have c0 := hm.c0
  have c1 := hm.c1
  go_enter Try.func44, Try.ntmps44
  go_wp2_with (go_at_call 62; refine (c46y _ _ (by assumption)).mono ?_; rintro e w' ⟨rfl, rfl⟩)
  go_ret
  exact ⟨rfl, rfl⟩
theorem c51o (i : Int) (hm : MemO w p ws fx g cap) (hi : i < 0 ∨ (ws.length : Int) ≤ i) : Calls Try.prog 44 #[.pointer (some ⟨p, 0, none⟩), .int .i64 i] w fun e w' => e = .returned (.int .i64 1) ∧ w = w' := by
  have c0 := hm.c0
  have c1 := hm.c1
  by_cases h0 : i < 0
  · clear hi
    go_enter Try.func44, Try.ntmps44
    go_wp2_with (go_at_call 62; refine (c46y _ _ (by assumption)).mono ?_; rintro e w' ⟨rfl, rfl⟩)
    go_ret
    exact ⟨rfl, rfl⟩
  · have h1 : (ws.length : Int) ≤ i := by omega
    clear hi
    go_enter Try.func44, Try.ntmps44
    go_wp2_with (go_at_call 62; refine (c46y _ _ (by assumption)).mono ?_; rintro e w' ⟨rfl, rfl⟩)
    go_ret
    exact ⟨rfl, rfl⟩
theorem c28 (hm : MemO w p ws fx g cap) : Calls Try.prog 48 #[.pointer (some ⟨p, 0, none⟩)] w fun e w' => e = .returned (.int .i64 (ws.length : Nat)) ∧ w = w' := by
  have c0 := hm.c0
  have c1 := hm.c1
  go_enter Try.func48, Try.ntmps48
  go_wp2_with (go_at_call 62; refine (c46y _ _ (by assumption)).mono ?_; rintro e w' ⟨rfl, rfl⟩)
  go_ret
  exact ⟨rfl, rfl⟩
theorem out_nat (i : Nat) (hi : i < ws.length) : Ecc.out ws (i : Int) = false := by simp [Ecc.out]; omega
theorem out_yes (i : Int) (h : i < 0 ∨ (ws.length : Int) ≤ i) : Ecc.out ws i = true := by simpa [Ecc.out] using h
/-- What a call leaves of a memory: its answer, its words, the number of repairs. -/
def Left (p g cap : Nat) (w : World) (v : Value) (ws : List Nat) (fx : Nat) (e : Ending) (w' : World) : Prop := e = .returned v ∧ MemO w' p ws fx g cap ∧ Keep (ft p g) w w'
set_option maxRecDepth 100000 in
theorem c32i (i : Nat) (hm : MemO w p ws fx g cap) (hi : i < ws.length) (hf : fx < 1000000000000) :
    Calls Try.prog 36 #[.pointer (some ⟨p, 0, none⟩), .int .i64 i] w
      (Left p g cap w (.tuple #[.int .u32 ((Ecc.mread ws fx i).1 : Nat), .int .i64 ((Ecc.mread ws fx i).2.1 : Nat)]) (Ecc.mread ws fx i).2.2.1 (Ecc.mread ws fx i).2.2.2) := by
  have k52 := hid (c52 w p fx g cap ws i hm hi hf)
  have hlen := Ecc.rpr_len ws fx i
  have hw := (hm.wds.rpr fx i).get i
  have hfst := Ecc.rpr_fst ws fx i
  unfold Ecc.mread
  rw [out_nat ws i hi]
  simp only [Int.toNat_natCast, Bool.false_eq_true, if_false]
  by_cases h2 : (Ecc.rpr ws fx i).1 = 2
  · rw [if_pos h2]
    rw [Ecc.rpr_bad ws fx i h2, h2] at k52
    clear h2 hw hlen hfst
    go_enter Try.func36, Try.ntmps36
    go_wp2_with fail
    refine (c51i w p fx g cap ws i hm hi).mono ?_; rintro e w1 ⟨rfl, rfl⟩
    go_wp2_with fail
    refine k52.out.mono ?_; rintro e w1 ⟨rfl, hm1, hk⟩
    go_wp2_with fail
    go_ret2
    exact ⟨rfl, hm1, hk⟩
  · rw [if_neg h2]
    have hx := Ecc.rpr_at ws fx i hi h2
    have h2' : (Ecc.rep (ws.getD i 0)).2 ≠ 2 := by rw [← hfst]; exact h2
    rw [hx] at hw
    have k15 := hid fun w => c15 _ w hw
    rw [Ecc.dec_rep _ h2'] at k15
    clear hfst h2'
    generalize (Ecc.rep (ws.getD i 0)).1 = x at *
    generalize Ecc.dat x = d at *
    generalize Ecc.rpr ws fx i = r at *
    obtain ⟨r1, vs, fx'⟩ := r
    simp only at hlen hw k52 hx h2 ⊢
    have hi' : i < vs.length := by omega
    have h2b : ((r1 : Int) == 2) = false := by simp; omega
    have HX := hid hx
    have HL := hid hlen
    clear hx hlen
    go_enter Try.func36, Try.ntmps36
    go_wp2_with fail
    refine (c51i w p fx g cap ws i hm hi).mono ?_; rintro e w1 ⟨rfl, rfl⟩
    go_wp2_with fail
    refine k52.out.mono ?_; rintro e w1 ⟨rfl, hm1, hk⟩
    have c1 := hm1.c1
    have cg := hm1.cg hi'
    rw [HX.out] at cg
    go_wp2_with fail
    refine (k15.out _).mono ?_; rintro e w2 ⟨rfl, hb⟩
    go_wp2_with fail
    go_ret2
    exact ⟨rfl, hm1.below hb, hk.trans_same (Keep.of_below hb)⟩
theorem c32o (i : Int) (hm : MemO w p ws fx g cap) (hi : i < 0 ∨ (ws.length : Int) ≤ i) :
    Calls Try.prog 36 #[.pointer (some ⟨p, 0, none⟩), .int .i64 i] w
      (Left p g cap w (.tuple #[.int .u32 ((Ecc.mread ws fx i).1 : Nat), .int .i64 ((Ecc.mread ws fx i).2.1 : Nat)]) (Ecc.mread ws fx i).2.2.1 (Ecc.mread ws fx i).2.2.2) := by
  unfold Ecc.mread
  rw [out_yes ws i hi, if_pos rfl]
  go_enter Try.func36, Try.ntmps36
  go_wp2_with fail
  refine (c51o w p fx g cap ws i hm hi).mono ?_; rintro e w1 ⟨rfl, rfl⟩
  go_wp2_with fail
  go_ret2
  exact ⟨rfl, hm, Keep.refl _ _⟩
theorem c32 (i : Int) (hm : MemO w p ws fx g cap) (hf : fx < 1000000000000) :
    Calls Try.prog 36 #[.pointer (some ⟨p, 0, none⟩), .int .i64 i] w
      (Left p g cap w (.tuple #[.int .u32 ((Ecc.mread ws fx i).1 : Nat), .int .i64 ((Ecc.mread ws fx i).2.1 : Nat)]) (Ecc.mread ws fx i).2.2.1 (Ecc.mread ws fx i).2.2.2) := by
  by_cases hi : i < 0 ∨ (ws.length : Int) ≤ i
  · exact c32o w p fx g cap ws i hm hi
  · obtain ⟨n, rfl⟩ := Int.eq_ofNat_of_zero_le (show 0 ≤ i by omega)
    exact c32i w p fx g cap ws n hm (by omega) hf
theorem c33i (i : Nat) (v : Nat) (hm : MemO w p ws fx g cap) (hi : i < ws.length) (hv : v < 4294967296) :
    Calls Try.prog 29 #[.pointer (some ⟨p, 0, none⟩), .int .i64 i, .int .u32 v] w
      (Left p g cap w (.int .i64 ((Ecc.mwrite ws i v).1 : Nat)) (Ecc.mwrite ws i v).2 fx) := by
  have hl : Ecc.enc v < 18446744073709551616 := Nat.lt_trans (Ecc.enc_lt v) (by decide)
  have k14 := hid fun w => c14 v w hv
  unfold Ecc.mwrite
  rw [out_nat ws i hi]
  simp only [Int.toNat_natCast, Bool.false_eq_true, if_false]
  generalize Ecc.enc v = x at *
  have c1 := hm.c1
  have fg := hm.fg i
  have cg := hm.cg hi
  generalize ws.getD i 0 = y at cg
  go_enter Try.func29, Try.ntmps29
  go_wp2_with fail
  refine (c51i w p fx g cap ws i hm hi).mono ?_; rintro e w1 ⟨rfl, rfl⟩
  go_wp2_with fail
  have hk := Keep.refl (ft p g) w
  go_region_held3 (fun w' => w'.cell? ⟨p, 1, none⟩ = some (.slice (some ⟨g, 0, none⟩) ws.length cap))
    (first | exact c1 | assumption | exact c1s _)
    (first | (go_at_call 42; refine (k14.out _).mono ?_; rintro e w1 ⟨rfl, hb⟩; have hm1 := hm.drew.below hb; have c1w := hm1.c1; have fgw := hm1.fg i; obtain ⟨y1, cgw⟩ : ∃ y, w1.cell? ⟨g, i, none⟩ = some (.int .u64 (y : Nat)) := ⟨_, hm1.cg hi⟩; have c1s := hm1.c1s i))
  go_wp2_with fail
  go_ret
  exact ⟨rfl, hm1.setW hl, Keep.undrew ((Keep.of_below hb).setCell (fun _ => Or.inr rfl) _)⟩
theorem c33o (i : Int) (v : Nat) (hm : MemO w p ws fx g cap) (hi : i < 0 ∨ (ws.length : Int) ≤ i) :
    Calls Try.prog 29 #[.pointer (some ⟨p, 0, none⟩), .int .i64 i, .int .u32 v] w
      (Left p g cap w (.int .i64 ((Ecc.mwrite ws i v).1 : Nat)) (Ecc.mwrite ws i v).2 fx) := by
  unfold Ecc.mwrite
  rw [out_yes ws i hi, if_pos rfl]
  go_enter Try.func29, Try.ntmps29
  go_wp2_with fail
  refine (c51o w p fx g cap ws i hm hi).mono ?_; rintro e w1 ⟨rfl, rfl⟩
  go_wp2_with fail
  go_ret
  exact ⟨rfl, hm, Keep.refl _ _⟩
theorem c33 (i : Int) (v : Nat) (hm : MemO w p ws fx g cap) (hv : v < 4294967296) :
    Calls Try.prog 29 #[.pointer (some ⟨p, 0, none⟩), .int .i64 i, .int .u32 v] w
      (Left p g cap w (.int .i64 ((Ecc.mwrite ws i v).1 : Nat)) (Ecc.mwrite ws i v).2 fx) := by
  by_cases hi : i < 0 ∨ (ws.length : Int) ≤ i
  · exact c33o w p fx g cap ws i v hm hi
  · obtain ⟨n, rfl⟩ := Int.eq_ofNat_of_zero_le (show 0 ≤ i by omega)
    exact c33i w p fx g cap ws n v hm (by omega) hv
end
end Go.Proofs.Ytdboplkgnnidcaa
