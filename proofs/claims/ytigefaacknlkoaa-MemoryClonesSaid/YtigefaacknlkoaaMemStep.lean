/- The step of the memory's laws: one call upon the program's memory and upon the specification's. -/
import Derived.Test.YtigefaacknlkoaaMemSpec
set_option linter.unusedVariables false
namespace Ecc
def mstep (ws : List Nat) (c k : Nat) (a n : Int) (v : Nat) : List Nat × Nat :=
  if k % 4 = 1 then ((mwrite ws a v).2, c) else if k % 4 = 2 then ((mflip ws a n).2, c) else if k % 4 = 3 then (mscrub ws c a n).2.2 else (mread ws c a).2.2
end Ecc
namespace Go.Proofs.Ytigefaacknlkoaa
open Go.RowKit Go.Proofs.Num
theorem box_cell {w : World} {F : Nat → Prop} {b j : Nat} {cs : Array Value} {t : TypeId} {v : Value} (h : blkP b (.cells cs t (0, 0)) w F) (hv : cs[j]? = some v) : w.cell? ⟨b, j, none⟩ = some v := cell_blk h.1 hv
section
variable (W w : World) (p r c : Nat) (ws : List Nat) (l : List HProp)
theorem st3 {A B C : HProp} {l : List HProp} (hA : Stable A) (hB : Stable B) (hC : Stable C) (hl : ∀ D ∈ l, Stable D) : ∀ D ∈ A :: B :: C :: l, Stable D := by
  intro D hD; simp at hD; rcases hD with rfl | rfl | rfl | h
  · exact hA
  · exact hB
  · exact hC
  · exact hl D h
theorem st2 {A B : HProp} {l : List HProp} (hA : Stable A) (hB : Stable B) (hl : ∀ D ∈ l, Stable D) : ∀ D ∈ A :: B :: l, Stable D := by
  intro D hD; simp at hD; rcases hD with rfl | rfl | h
  · exact hA
  · exact hB
  · exact hl D h
/-- The box of a step: an assertion of which its cells alone are known. -/
theorem box_step (k a n : Int) (v : Nat) (hl : ∀ B ∈ l, Stable B) (h : Sts W (memP p ws c :: refP r ws c :: l) w) :
    ∃ BX : HProp, Stable BX ∧ (∀ w' F, BX w' F → w'.cell? ⟨w.heap.size, 0, none⟩ = some (.int .u8 k) ∧ w'.cell? ⟨w.heap.size, 1, none⟩ = some (.int .i64 a) ∧ w'.cell? ⟨w.heap.size, 2, none⟩ = some (.int .i64 n) ∧ w'.cell? ⟨w.heap.size, 3, none⟩ = some (.int .u32 v)) ∧
      Sts W (memP p ws c :: BX :: refP r ws c :: l) (w.alloc (.cells #[.int .u8 k, .int .i64 a, .int .i64 n, .int .u32 v] 49)) :=
  ⟨blkP w.heap.size (.cells #[.int .u8 k, .int .i64 a, .int .i64 n, .int .u32 v] 49), blkP_stable _ _,
    fun w' F hb => ⟨box_cell hb rfl, box_cell hb rfl, box_cell hb rfl, box_cell hb rfl⟩,
    (h.alloc (st2 (memP_stable _ _ _) (refP_stable _ _ _) hl) _).swap⟩
theorem c30_write (k a n : Int) (v : Nat) (hk : k.tmod 4 = 1) (hk2 : k % 4 = 1) (hv : v < 4294967296) (hl : ∀ B ∈ l, Stable B) (h : Sts W (memP p ws c :: refP r ws c :: l) w) :
    Calls Try.prog 30 #[.pointer (some ⟨p, 0, none⟩), .pointer (some ⟨r, 0, none⟩), .agg #[.int .u8 k, .int .i64 a, .int .i64 n, .int .u32 v]] w
      fun e w' => e = .returned (.bool true) ∧ Sts W (memP p (Ecc.mwrite ws a v).2 c :: refP r (Ecc.mwrite ws a v).2 c :: l) w' := by
  obtain ⟨BX, hBX, hcell, hs⟩ := box_step W w p r c ws l k a n v hl h
  have hs' := hs.drew (st3 (memP_stable _ _ _) hBX (refP_stable _ _ _) hl)
  have H := hid hs'
  have K1 := hid (fun w (h : Sts W (memP p ws c :: BX :: refP r ws c :: l) w) => Sts.callV (st2 hBX (refP_stable _ _ _) hl) h (s33 p c ws a v hv))
  have K2 := hid (fun w (h : Sts W (refP r ws c :: memP p (Ecc.mwrite ws a v).2 c :: BX :: l) w) => Sts.callV (st2 (memP_stable _ _ _) hBX hl) h (s47 r c ws a v hv))
  have HC := hid hcell
  obtain ⟨F0, b0⟩ := hs.swap.head
  obtain ⟨d0, d1, d2, d3⟩ := hcell _ _ b0
  clear hs hs' h hcell b0
  generalize (Ecc.mwrite ws a v).1 = x at *
  generalize (Ecc.mwrite ws a v).2 = vs at *
  go_enter Try.func30, Try.ntmps30
  go_wp2_with fail
  go_region_held3 (fun w' => w'.cell? ⟨w.heap.size, 1, none⟩ = some (.int .i64 a) ∧ w'.cell? ⟨w.heap.size, 3, none⟩ = some (.int .u32 v))
    (first | exact ⟨d1, d3⟩ | exact ⟨m1, m3⟩ | exact ⟨q1, q3⟩)
    (first
      | (go_at_call 33; refine (K1.out _ H.out).mono ?_; rintro e w1 ⟨rfl, h1⟩; obtain ⟨F1, b1⟩ := h1.swap.head; obtain ⟨m0, m1, m2, m3⟩ := HC.out _ _ b1)
      | (go_at_call 47; refine (K2.out _ (h1.third)).mono ?_; rintro e w2 ⟨rfl, h2⟩; obtain ⟨F2, b2⟩ := h2.tail.swap.head; obtain ⟨q0, q1, q2, q3⟩ := HC.out _ _ b2))
  go_wp2_with fail
  go_ret
  exact ⟨rfl, h2.swap.third.tail⟩
theorem c30_flip (k a n : Int) (v : Nat) (hk : k.tmod 4 = 2) (hk2 : k % 4 = 2) (hl : ∀ B ∈ l, Stable B) (h : Sts W (memP p ws c :: refP r ws c :: l) w) :
    Calls Try.prog 30 #[.pointer (some ⟨p, 0, none⟩), .pointer (some ⟨r, 0, none⟩), .agg #[.int .u8 k, .int .i64 a, .int .i64 n, .int .u32 v]] w
      fun e w' => e = .returned (.bool true) ∧ Sts W (memP p (Ecc.mflip ws a n).2 c :: refP r (Ecc.mflip ws a n).2 c :: l) w' := by
  obtain ⟨BX, hBX, hcell, hs⟩ := box_step W w p r c ws l k a n v hl h
  have hs' := hs.drew (st3 (memP_stable _ _ _) hBX (refP_stable _ _ _) hl)
  have H := hid hs'
  have K1 := hid (fun w (h : Sts W (memP p ws c :: BX :: refP r ws c :: l) w) => Sts.callV (st2 hBX (refP_stable _ _ _) hl) h (s34 p c ws a n))
  have K2 := hid (fun w (h : Sts W (refP r ws c :: memP p (Ecc.mflip ws a n).2 c :: BX :: l) w) => Sts.callV (st2 (memP_stable _ _ _) hBX hl) h (s48 r c ws a n))
  have HC := hid hcell
  obtain ⟨F0, b0⟩ := hs.swap.head
  obtain ⟨d0, d1, d2, d3⟩ := hcell _ _ b0
  clear hs hs' h hcell b0
  generalize (Ecc.mflip ws a n).1 = x at *
  generalize (Ecc.mflip ws a n).2 = vs at *
  go_enter Try.func30, Try.ntmps30
  go_wp2_with fail
  go_region_held3 (fun w' => w'.cell? ⟨w.heap.size, 1, none⟩ = some (.int .i64 a) ∧ w'.cell? ⟨w.heap.size, 2, none⟩ = some (.int .i64 n))
    (first | exact ⟨d1, d2⟩ | exact ⟨m1, m2⟩ | exact ⟨q1, q2⟩)
    (first
      | (go_at_call 34; refine (K1.out _ H.out).mono ?_; rintro e w1 ⟨rfl, h1⟩; obtain ⟨F1, b1⟩ := h1.swap.head; obtain ⟨m0, m1, m2, m3⟩ := HC.out _ _ b1)
      | (go_at_call 48; refine (K2.out _ (h1.third)).mono ?_; rintro e w2 ⟨rfl, h2⟩; obtain ⟨F2, b2⟩ := h2.tail.swap.head; obtain ⟨q0, q1, q2, q3⟩ := HC.out _ _ b2))
  go_wp2_with fail
  go_ret
  exact ⟨rfl, h2.swap.third.tail⟩
theorem c30_scrub (k a n : Int) (v : Nat) (hk : k.tmod 4 = 3) (hk2 : k % 4 = 3) (hc : c < 100000000000) (hl : ∀ B ∈ l, Stable B) (h : Sts W (memP p ws c :: refP r ws c :: l) w) :
    Calls Try.prog 30 #[.pointer (some ⟨p, 0, none⟩), .pointer (some ⟨r, 0, none⟩), .agg #[.int .u8 k, .int .i64 a, .int .i64 n, .int .u32 v]] w
      fun e w' => e = .returned (.bool true) ∧ Sts W (memP p (Ecc.mscrub ws c a n).2.2.1 (Ecc.mscrub ws c a n).2.2.2 :: refP r (Ecc.mscrub ws c a n).2.2.1 (Ecc.mscrub ws c a n).2.2.2 :: l) w' := by
  obtain ⟨BX, hBX, hcell, hs⟩ := box_step W w p r c ws l k a n v hl h
  have H := hid hs
  have K1 := hid (fun w (h : Sts W (memP p ws c :: BX :: refP r ws c :: l) w) => Sts.callV (st2 hBX (refP_stable _ _ _) hl) h (s35 p c ws a n hc))
  have K2 := hid (fun w (h : Sts W (refP r ws c :: memP p (Ecc.mscrub ws c a n).2.2.1 (Ecc.mscrub ws c a n).2.2.2 :: BX :: l) w) => Sts.callV (st2 (memP_stable _ _ _) hBX hl) h (s49 r c ws a n hc))
  have HC := hid hcell
  obtain ⟨F0, b0⟩ := hs.swap.head
  obtain ⟨d0, d1, d2, d3⟩ := hcell _ _ b0
  clear hs h hcell b0
  generalize Ecc.mscrub ws c a n = q at *
  obtain ⟨q1, q2, vs, vc⟩ := q
  go_enter Try.func30, Try.ntmps30
  go_wp2_with fail
  refine (K1.out _ H.out).mono ?_; rintro e w1 ⟨rfl, h1⟩; obtain ⟨F1, b1⟩ := h1.swap.head; obtain ⟨m0, m1, m2, m3⟩ := HC.out _ _ b1
  go_wp2_with fail
  refine (K2.out _ (h1.third)).mono ?_; rintro e w2 ⟨rfl, h2⟩
  go_wp2_with fail
  go_ret
  exact ⟨rfl, h2.swap.third.tail⟩
theorem c30_read (k a n : Int) (v : Nat) (hk : k.tmod 4 = 0) (hk2 : k % 4 = 0) (hc : c < 100000000000) (hl : ∀ B ∈ l, Stable B) (h : Sts W (memP p ws c :: refP r ws c :: l) w) :
    Calls Try.prog 30 #[.pointer (some ⟨p, 0, none⟩), .pointer (some ⟨r, 0, none⟩), .agg #[.int .u8 k, .int .i64 a, .int .i64 n, .int .u32 v]] w
      fun e w' => e = .returned (.bool true) ∧ Sts W (memP p (Ecc.mread ws c a).2.2.1 (Ecc.mread ws c a).2.2.2 :: refP r (Ecc.mread ws c a).2.2.1 (Ecc.mread ws c a).2.2.2 :: l) w' := by
  obtain ⟨BX, hBX, hcell, hs⟩ := box_step W w p r c ws l k a n v hl h
  have H := hid hs
  have K1 := hid (fun w (h : Sts W (memP p ws c :: BX :: refP r ws c :: l) w) => Sts.callV (st2 hBX (refP_stable _ _ _) hl) h (s32 p c ws a hc))
  have K2 := hid (fun w (h : Sts W (refP r ws c :: memP p (Ecc.mread ws c a).2.2.1 (Ecc.mread ws c a).2.2.2 :: BX :: l) w) => Sts.callV (st2 (memP_stable _ _ _) hBX hl) h (s50 r c ws a hc))
  have HC := hid hcell
  obtain ⟨F0, b0⟩ := hs.swap.head
  obtain ⟨d0, d1, d2, d3⟩ := hcell _ _ b0
  clear hs h hcell b0
  generalize Ecc.mread ws c a = q at *
  obtain ⟨q1, q2, vs, vc⟩ := q
  go_enter Try.func30, Try.ntmps30
  go_wp2_with fail
  refine (K1.out _ H.out).mono ?_; rintro e w1 ⟨rfl, h1⟩; obtain ⟨F1, b1⟩ := h1.swap.head; obtain ⟨m0, m1, m2, m3⟩ := HC.out _ _ b1
  go_wp2_with fail
  refine (K2.out _ (h1.third)).mono ?_; rintro e w2 ⟨rfl, h2⟩
  go_wp2_with fail
  go_ret
  exact ⟨rfl, h2.swap.third.tail⟩
theorem c30 (k v : Nat) (a n : Int) (hk : k < 256) (hv : v < 4294967296) (hc : c < 100000000000) (hl : ∀ B ∈ l, Stable B) (h : Sts W (memP p ws c :: refP r ws c :: l) w) :
    Calls Try.prog 30 #[.pointer (some ⟨p, 0, none⟩), .pointer (some ⟨r, 0, none⟩), .agg #[.int .u8 k, .int .i64 a, .int .i64 n, .int .u32 v]] w
      fun e w' => e = .returned (.bool true) ∧ Sts W (memP p (Ecc.mstep ws c k a n v).1 (Ecc.mstep ws c k a n v).2 :: refP r (Ecc.mstep ws c k a n v).1 (Ecc.mstep ws c k a n v).2 :: l) w' := by
  have e1 : (k : Int).tmod 4 = ((k % 4 : Nat) : Int) := by rw [Int.tmod_eq_emod_of_nonneg (by omega)]; simp
  have e2 : (k : Int) % 4 = ((k % 4 : Nat) : Int) := by simp
  unfold Ecc.mstep
  have h4 : k % 4 < 4 := Nat.mod_lt _ (by decide)
  by_cases k1 : k % 4 = 1
  · rw [if_pos k1]; rw [k1] at e1 e2
    exact c30_write W w p r c ws l k a n v e1 e2 hv hl h
  · rw [if_neg k1]
    by_cases k2 : k % 4 = 2
    · rw [if_pos k2]; rw [k2] at e1 e2
      exact c30_flip W w p r c ws l k a n v e1 e2 hl h
    · rw [if_neg k2]
      by_cases k3 : k % 4 = 3
      · rw [if_pos k3]; rw [k3] at e1 e2
        exact c30_scrub W w p r c ws l k a n v e1 e2 hc hl h
      · rw [if_neg k3]
        have k0 : k % 4 = 0 := by omega
        rw [k0] at e1 e2
        exact c30_read W w p r c ws l k a n v e1 e2 hc hl h
end
end Go.Proofs.Ytigefaacknlkoaa
