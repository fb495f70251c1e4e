/- The step of the memory's laws upon anything that answers as the specification's memory does; two memories of the specification that may share their words. -/
import Derived.Test.YtigefaacknlkoaaMemStep
set_option linter.unusedVariables false
namespace Go.Proofs.Ytigefaacknlkoaa
open Go.RowKit Go.Proofs.Num
/-- Block r answers as a memory of the specification, and R tells its words and repairs. -/
structure RefLike (r : Nat) (R : List Nat → Nat → HProp) : Prop where
  st : ∀ ws c, Stable (R ws c)
  m47 : ∀ c ws (i : Int) (v : Nat), v < 4294967296 → HSpecV Try.prog 47 #[.pointer (some ⟨r, 0, none⟩), .int .i64 i, .int .u32 v] (R ws c) (.int .i64 ((Ecc.mwrite ws i v).1 : Nat)) (R (Ecc.mwrite ws i v).2 c)
  m48 : ∀ c ws (i b : Int), HSpecV Try.prog 48 #[.pointer (some ⟨r, 0, none⟩), .int .i64 i, .int .i64 b] (R ws c) (.int .i64 ((Ecc.mflip ws i b).1 : Nat)) (R (Ecc.mflip ws i b).2 c)
  m49 : ∀ c ws (i n : Int), c < 100000000000 → HSpecV Try.prog 49 #[.pointer (some ⟨r, 0, none⟩), .int .i64 i, .int .i64 n] (R ws c) (.tuple #[.int .i64 ((Ecc.mscrub ws c i n).1 : Nat), .int .i64 ((Ecc.mscrub ws c i n).2.1 : Nat)]) (R (Ecc.mscrub ws c i n).2.2.1 (Ecc.mscrub ws c i n).2.2.2)
  m50 : ∀ c ws (i : Int), c < 100000000000 → HSpecV Try.prog 50 #[.pointer (some ⟨r, 0, none⟩), .int .i64 i] (R ws c) (.tuple #[.int .u32 ((Ecc.mread ws c i).1 : Nat), .int .i64 ((Ecc.mread ws c i).2.1 : Nat)]) (R (Ecc.mread ws c i).2.2.1 (Ecc.mread ws c i).2.2.2)
theorem refP_like (r : Nat) : RefLike r (refP r) := ⟨refP_stable r, fun c ws i v hv => s47 r c ws i v hv, fun c ws i b => s48 r c ws i b, fun c ws i n hc => s49 r c ws i n hc, fun c ws i hc => s50 r c ws i hc⟩
/-- Two memories of the specification; they may share their words, which nothing writes. -/
def ref2P (r s : Nat) (ws : List Nat) (c : Nat) (vs : List Nat) (d : Nat) : HProp := fun w F =>
  ∃ g cap h caph, RefO w r ws c g cap ∧ RefO w s vs d h caph ∧ r ≠ s ∧ g ≠ s ∧ h ≠ r ∧ ∀ k, F k ↔ (k = r ∨ k = g ∨ k = s ∨ k = h)
theorem ref2P_swap {r s : Nat} {ws vs : List Nat} {c d : Nat} {w : World} {F : Nat → Prop} (h : ref2P r s ws c vs d w F) : ref2P s r vs d ws c w F := by
  obtain ⟨g, cap, h, caph, h1, h2, n1, n2, n3, hF⟩ := h
  exact ⟨h, caph, g, cap, h2, h1, fun e => n1 e.symm, n3, n2, fun k => by rw [hF k]; exact ⟨fun x => by rcases x with x | x | x | x <;> simp [x], fun x => by rcases x with x | x | x | x <;> simp [x]⟩⟩
theorem ref2P_stable (r s : Nat) (ws : List Nat) (c : Nat) (vs : List Nat) (d : Nat) : Stable (ref2P r s ws c vs d) where
  dom := by
    rintro w F ⟨g, cap, h, caph, h1, h2, n1, n2, n3, hF⟩ k hk
    rcases (hF k).1 hk with rfl | rfl | rfl | rfl
    · exact h1.lt
    · exact h1.ltg
    · exact h2.lt
    · exact h2.ltg
  keep := by
    rintro w w' F S ⟨g, cap, h, caph, h1, h2, n1, n2, n3, hF⟩ hk hS
    exact ⟨g, cap, h, caph, h1.keep hk (hS r ((hF r).2 (by simp))) (hS g ((hF g).2 (by simp))), h2.keep hk (hS s ((hF s).2 (by simp))) (hS h ((hF h).2 (by simp))), n1, n2, n3, hF⟩
theorem ref2_spec {f : FuncId} {args : Array Value} {r s d c c' : Nat} {vs ws ws' : List Nat} {v : Value}
    (h : ∀ w g cap, RefO w r ws c g cap → Calls Try.prog f args w (LeftR r g w v ws' c')) : HSpecV Try.prog f args (ref2P r s ws c vs d) v (ref2P r s ws' c' vs d) := by
  rintro w F ⟨g, cap, gh, caph, h1, h2, n1, n2, n3, hF⟩
  refine (h w g cap h1).mono ?_
  rintro e w' ⟨he, g', cap', hm', hk, hg⟩
  refine ⟨(), fun k => k = r ∨ k = g' ∨ k = s ∨ k = gh, he, ⟨g', cap', gh, caph, hm', h2.keep hk (fun e => n1 e.symm) (fun e => n3 e), n1, ?_, n3, fun k => Iff.rfl⟩, hk.mono (fun k _ h => (hF k).2 (Or.inl h)), ?_⟩
  · intro e
    rcases hg with rfl | hg
    · exact n2 e
    · have := h2.lt; omega
  · rintro k (rfl | rfl | rfl | rfl)
    · exact Or.inl ((hF k).2 (by simp))
    · rcases hg with rfl | hg
      · exact Or.inl ((hF k).2 (by simp))
      · exact Or.inr hg
    · exact Or.inl ((hF k).2 (by simp))
    · exact Or.inl ((hF k).2 (by simp))
theorem ref2_left (r s : Nat) (vs : List Nat) (d : Nat) : RefLike r (fun ws c => ref2P r s ws c vs d) :=
  ⟨fun ws c => ref2P_stable r s ws c vs d, fun c ws i v hv => ref2_spec fun w g cap h => c47 w r c g cap ws i v h hv, fun c ws i b => ref2_spec fun w g cap h => c48 w r c g cap ws i b h,
    fun c ws i n hc => ref2_spec fun w g cap h => c49 w r c g cap ws i n h hc, fun c ws i hc => ref2_spec fun w g cap h => c50 w r c g cap ws i h (by omega)⟩
section
variable {r : Nat} {R : List Nat → Nat → HProp} (H : RefLike r R) (W w : World) (p c : Nat) (ws : List Nat) (l : List HProp)
include H
/-- The box of a step: an assertion of which its cells alone are known. -/
theorem RefLike.box_step (k a n : Int) (v : Nat) (hl : ∀ B ∈ l, Stable B) (h : Sts W (memP p ws c :: R ws c :: l) w) :
    ∃ BX : HProp, Stable BX ∧ (∀ w' F, BX w' F → w'.cell? ⟨w.heap.size, 0, none⟩ = some (.int .u8 k) ∧ w'.cell? ⟨w.heap.size, 1, none⟩ = some (.int .i64 a) ∧ w'.cell? ⟨w.heap.size, 2, none⟩ = some (.int .i64 n) ∧ w'.cell? ⟨w.heap.size, 3, none⟩ = some (.int .u32 v)) ∧
      Sts W (memP p ws c :: BX :: R ws c :: l) (w.alloc (.cells #[.int .u8 k, .int .i64 a, .int .i64 n, .int .u32 v] 49)) :=
  ⟨blkP w.heap.size (.cells #[.int .u8 k, .int .i64 a, .int .i64 n, .int .u32 v] 49), blkP_stable _ _,
    fun w' F hb => ⟨box_cell hb rfl, box_cell hb rfl, box_cell hb rfl, box_cell hb rfl⟩,
    (h.alloc (st2 (memP_stable _ _ _) (H.st _ _) hl) _).swap⟩
theorem RefLike.c30_write (k a n : Int) (v : Nat) (hk : k.tmod 4 = 1) (hk2 : k % 4 = 1) (hv : v < 4294967296) (hl : ∀ B ∈ l, Stable B) (h : Sts W (memP p ws c :: R ws c :: l) w) :
    Calls Try.prog 30 #[.pointer (some ⟨p, 0, none⟩), .pointer (some ⟨r, 0, none⟩), .agg #[.int .u8 k, .int .i64 a, .int .i64 n, .int .u32 v]] w
      fun e w' => e = .returned (.bool true) ∧ Sts W (memP p (Ecc.mwrite ws a v).2 c :: R (Ecc.mwrite ws a v).2 c :: l) w' := by
  obtain ⟨BX, hBX, hcell, hs⟩ := H.box_step W w p c ws l k a n v hl h
  have hs' := hs.drew (st3 (memP_stable _ _ _) hBX (H.st _ _) hl)
  have HH := hid hs'
  have K1 := hid (fun w (h : Sts W (memP p ws c :: BX :: R ws c :: l) w) => Sts.callV (st2 hBX (H.st _ _) hl) h (s33 p c ws a v hv))
  have K2 := hid (fun w (h : Sts W (R ws c :: memP p (Ecc.mwrite ws a v).2 c :: BX :: l) w) => Sts.callV (st2 (memP_stable _ _ _) hBX hl) h (H.m47 c ws a v hv))
  have HC := hid hcell
  obtain ⟨F0, b0⟩ := hs.swap.head
  obtain ⟨d0, d1, d2, d3⟩ := hcell _ _ b0
  clear hs hs' h hcell b0
  generalize (Ecc.mwrite ws a v).1 = x at *
  generalize (Ecc.mwrite ws a v).2 = vs at *
  go_enter Try.func30, Try.ntmps30
  go_wp2_with fail
  go_region_held3 (fun w' => w'.cell? ⟨w.heap.size, 1, none⟩ = some (.int .i64 a) ∧ w'.cell? ⟨w.heap.size, 3, none⟩ = some (.int .u32 v))
    (first | exact ⟨d1, d3⟩ | exact ⟨m1, m3⟩ | exact ⟨q1, q3⟩)
    (first
      | (go_at_call 33; refine (K1.out _ HH.out).mono ?_; rintro e w1 ⟨rfl, h1⟩; obtain ⟨F1, b1⟩ := h1.swap.head; obtain ⟨m0, m1, m2, m3⟩ := HC.out _ _ b1)
      | (go_at_call 47; refine (K2.out _ (h1.third)).mono ?_; rintro e w2 ⟨rfl, h2⟩; obtain ⟨F2, b2⟩ := h2.tail.swap.head; obtain ⟨q0, q1, q2, q3⟩ := HC.out _ _ b2))
  go_wp2_with fail
  go_ret
  exact ⟨rfl, h2.swap.third.tail⟩
theorem RefLike.c30_flip (k a n : Int) (v : Nat) (hk : k.tmod 4 = 2) (hk2 : k % 4 = 2) (hl : ∀ B ∈ l, Stable B) (h : Sts W (memP p ws c :: R ws c :: l) w) :
    Calls Try.prog 30 #[.pointer (some ⟨p, 0, none⟩), .pointer (some ⟨r, 0, none⟩), .agg #[.int .u8 k, .int .i64 a, .int .i64 n, .int .u32 v]] w
      fun e w' => e = .returned (.bool true) ∧ Sts W (memP p (Ecc.mflip ws a n).2 c :: R (Ecc.mflip ws a n).2 c :: l) w' := by
  obtain ⟨BX, hBX, hcell, hs⟩ := H.box_step W w p c ws l k a n v hl h
  have hs' := hs.drew (st3 (memP_stable _ _ _) hBX (H.st _ _) hl)
  have HH := hid hs'
  have K1 := hid (fun w (h : Sts W (memP p ws c :: BX :: R ws c :: l) w) => Sts.callV (st2 hBX (H.st _ _) hl) h (s34 p c ws a n))
  have K2 := hid (fun w (h : Sts W (R ws c :: memP p (Ecc.mflip ws a n).2 c :: BX :: l) w) => Sts.callV (st2 (memP_stable _ _ _) hBX hl) h (H.m48 c ws a n))
  have HC := hid hcell
  obtain ⟨F0, b0⟩ := hs.swap.head
  obtain ⟨d0, d1, d2, d3⟩ := hcell _ _ b0
  clear hs hs' h hcell b0
  generalize (Ecc.mflip ws a n).1 = x at *
  generalize (Ecc.mflip ws a n).2 = vs at *
  go_enter Try.func30, Try.ntmps30
  go_wp2_with fail
  go_region_held3 (fun w' => w'.cell? ⟨w.heap.size, 1, none⟩ = some (.int .i64 a) ∧ w'.cell? ⟨w.heap.size, 2, none⟩ = some (.int .i64 n))
    (first | exact ⟨d1, d2⟩ | exact ⟨m1, m2⟩ | exact ⟨q1, q2⟩)
    (first
      | (go_at_call 34; refine (K1.out _ HH.out).mono ?_; rintro e w1 ⟨rfl, h1⟩; obtain ⟨F1, b1⟩ := h1.swap.head; obtain ⟨m0, m1, m2, m3⟩ := HC.out _ _ b1)
      | (go_at_call 48; refine (K2.out _ (h1.third)).mono ?_; rintro e w2 ⟨rfl, h2⟩; obtain ⟨F2, b2⟩ := h2.tail.swap.head; obtain ⟨q0, q1, q2, q3⟩ := HC.out _ _ b2))
  go_wp2_with fail
  go_ret
  exact ⟨rfl, h2.swap.third.tail⟩
theorem RefLike.c30_scrub (k a n : Int) (v : Nat) (hk : k.tmod 4 = 3) (hk2 : k % 4 = 3) (hc : c < 100000000000) (hl : ∀ B ∈ l, Stable B) (h : Sts W (memP p ws c :: R ws c :: l) w) :
    Calls Try.prog 30 #[.pointer (some ⟨p, 0, none⟩), .pointer (some ⟨r, 0, none⟩), .agg #[.int .u8 k, .int .i64 a, .int .i64 n, .int .u32 v]] w
      fun e w' => e = .returned (.bool true) ∧ Sts W (memP p (Ecc.mscrub ws c a n).2.2.1 (Ecc.mscrub ws c a n).2.2.2 :: R (Ecc.mscrub ws c a n).2.2.1 (Ecc.mscrub ws c a n).2.2.2 :: l) w' := by
  obtain ⟨BX, hBX, hcell, hs⟩ := H.box_step W w p c ws l k a n v hl h
  have HH := hid hs
  have K1 := hid (fun w (h : Sts W (memP p ws c :: BX :: R ws c :: l) w) => Sts.callV (st2 hBX (H.st _ _) hl) h (s35 p c ws a n hc))
  have K2 := hid (fun w (h : Sts W (R ws c :: memP p (Ecc.mscrub ws c a n).2.2.1 (Ecc.mscrub ws c a n).2.2.2 :: BX :: l) w) => Sts.callV (st2 (memP_stable _ _ _) hBX hl) h (H.m49 c ws a n hc))
  have HC := hid hcell
  obtain ⟨F0, b0⟩ := hs.swap.head
  obtain ⟨d0, d1, d2, d3⟩ := hcell _ _ b0
  clear hs h hcell b0
  generalize Ecc.mscrub ws c a n = q at *
  obtain ⟨q1, q2, vs, vc⟩ := q
  go_enter Try.func30, Try.ntmps30
  go_wp2_with fail
  refine (K1.out _ HH.out).mono ?_; rintro e w1 ⟨rfl, h1⟩; obtain ⟨F1, b1⟩ := h1.swap.head; obtain ⟨m0, m1, m2, m3⟩ := HC.out _ _ b1
  go_wp2_with fail
  refine (K2.out _ (h1.third)).mono ?_; rintro e w2 ⟨rfl, h2⟩
  go_wp2_with fail
  go_ret
  exact ⟨rfl, h2.swap.third.tail⟩
theorem RefLike.c30_read (k a n : Int) (v : Nat) (hk : k.tmod 4 = 0) (hk2 : k % 4 = 0) (hc : c < 100000000000) (hl : ∀ B ∈ l, Stable B) (h : Sts W (memP p ws c :: R ws c :: l) w) :
    Calls Try.prog 30 #[.pointer (some ⟨p, 0, none⟩), .pointer (some ⟨r, 0, none⟩), .agg #[.int .u8 k, .int .i64 a, .int .i64 n, .int .u32 v]] w
      fun e w' => e = .returned (.bool true) ∧ Sts W (memP p (Ecc.mread ws c a).2.2.1 (Ecc.mread ws c a).2.2.2 :: R (Ecc.mread ws c a).2.2.1 (Ecc.mread ws c a).2.2.2 :: l) w' := by
  obtain ⟨BX, hBX, hcell, hs⟩ := H.box_step W w p c ws l k a n v hl h
  have HH := hid hs
  have K1 := hid (fun w (h : Sts W (memP p ws c :: BX :: R ws c :: l) w) => Sts.callV (st2 hBX (H.st _ _) hl) h (s32 p c ws a hc))
  have K2 := hid (fun w (h : Sts W (R ws c :: memP p (Ecc.mread ws c a).2.2.1 (Ecc.mread ws c a).2.2.2 :: BX :: l) w) => Sts.callV (st2 (memP_stable _ _ _) hBX hl) h (H.m50 c ws a hc))
  have HC := hid hcell
  obtain ⟨F0, b0⟩ := hs.swap.head
  obtain ⟨d0, d1, d2, d3⟩ := hcell _ _ b0
  clear hs h hcell b0
  generalize Ecc.mread ws c a = q at *
  obtain ⟨q1, q2, vs, vc⟩ := q
  go_enter Try.func30, Try.ntmps30
  go_wp2_with fail
  refine (K1.out _ HH.out).mono ?_; rintro e w1 ⟨rfl, h1⟩; obtain ⟨F1, b1⟩ := h1.swap.head; obtain ⟨m0, m1, m2, m3⟩ := HC.out _ _ b1
  go_wp2_with fail
  refine (K2.out _ (h1.third)).mono ?_; rintro e w2 ⟨rfl, h2⟩
  go_wp2_with fail
  go_ret
  exact ⟨rfl, h2.swap.third.tail⟩
theorem RefLike.c30 (k v : Nat) (a n : Int) (hk : k < 256) (hv : v < 4294967296) (hc : c < 100000000000) (hl : ∀ B ∈ l, Stable B) (h : Sts W (memP p ws c :: R ws c :: l) w) :
    Calls Try.prog 30 #[.pointer (some ⟨p, 0, none⟩), .pointer (some ⟨r, 0, none⟩), .agg #[.int .u8 k, .int .i64 a, .int .i64 n, .int .u32 v]] w
      fun e w' => e = .returned (.bool true) ∧ Sts W (memP p (Ecc.mstep ws c k a n v).1 (Ecc.mstep ws c k a n v).2 :: R (Ecc.mstep ws c k a n v).1 (Ecc.mstep ws c k a n v).2 :: l) w' := by
  have e1 : (k : Int).tmod 4 = ((k % 4 : Nat) : Int) := by rw [Int.tmod_eq_emod_of_nonneg (by omega)]; simp
  have e2 : (k : Int) % 4 = ((k % 4 : Nat) : Int) := by simp
  unfold Ecc.mstep
  have h4 : k % 4 < 4 := Nat.mod_lt _ (by decide)
  by_cases k1 : k % 4 = 1
  · rw [if_pos k1]; rw [k1] at e1 e2
    exact RefLike.c30_write H W w p c ws l k a n v e1 e2 hv hl h
  · rw [if_neg k1]
    by_cases k2 : k % 4 = 2
    · rw [if_pos k2]; rw [k2] at e1 e2
      exact RefLike.c30_flip H W w p c ws l k a n v e1 e2 hl h
    · rw [if_neg k2]
      by_cases k3 : k % 4 = 3
      · rw [if_pos k3]; rw [k3] at e1 e2
        exact RefLike.c30_scrub H W w p c ws l k a n v e1 e2 hc hl h
      · rw [if_neg k3]
        have k0 : k % 4 = 0 := by omega
        rw [k0] at e1 e2
        exact RefLike.c30_read H W w p c ws l k a n v e1 e2 hc hl h
end
end Go.Proofs.Ytigefaacknlkoaa
