/- The law MemoryClones: its walk. -/
import Derived.Test.YtigefaacknlkoaaMemStepG
import Derived.Test.YtigefaacknlkoaaMemLawA
import Derived.Test.YtigefaacknlkoaaQuietTail
set_option linter.unusedVariables false
namespace Go.Proofs.Num
open Go.RowKit
theorem Sts.split {W w : World} {A B : HProp} {l : List HProp} (h : Sts W (star A B :: l) w) : Sts W (A :: B :: l) w := by
  obtain ⟨F, ⟨F1, F2, ⟨F3, F4, a, b, d1, e1⟩, c, d2, e2⟩, k, n⟩ := h
  refine ⟨F, ⟨F3, fun k => F4 k ∨ F2 k, a, ⟨F4, F2, b, c, fun k h h' => d2 k ((e1 k).2 (Or.inr h)) h', fun k => Iff.rfl⟩, ?_, ?_⟩, k, n⟩
  · rintro k h3 (h4 | h2)
    · exact d1 k h3 h4
    · exact d2 k ((e1 k).2 (Or.inl h3)) h2
  · intro k; rw [e2 k, e1 k, or_assoc]
end Go.Proofs.Num
namespace Go.Proofs.Ytigefaacknlkoaa
open Go.RowKit Go.Proofs.Num
theorem ref_copied {w : World} {F : Nat → Prop} {r s g cap c : Nat} {ws : List Nat} (h0 : w.cell? ⟨r, 0, none⟩ = some (.slice (some ⟨g, 0, none⟩) ws.length cap))
    (h : star (blkP s (.cells #[.slice (some ⟨g, 0, none⟩) ws.length cap, .int .i64 c] 44 (0, 0))) (refP r ws c) w F) : ref2P r s ws c ws c w F := by
  obtain ⟨F1, F2, ⟨hb, hF1⟩, ⟨g', cap', hr, hF2⟩, hd, hF⟩ := h
  have e := hr.c0.symm.trans h0
  simp only [Option.some.injEq, Value.slice.injEq, Addr.mk.injEq, and_true, true_and] at e
  obtain ⟨rfl, rfl⟩ := e
  have n1 : r ≠ s := fun e => hd s ((hF1 s).2 rfl) ((hF2 s).2 (Or.inl e.symm))
  have n2 : g' ≠ s := fun e => hd s ((hF1 s).2 rfl) ((hF2 s).2 (Or.inr e.symm))
  refine ⟨g', cap', g', cap', hr, ⟨hb, hr.own, n2, hr.wds, hr.few⟩, n1, n2, hr.ne, fun k => ?_⟩
  rw [hF k, hF1 k, hF2 k]
  exact ⟨fun x => by rcases x with x | x | x <;> simp [x], fun x => by rcases x with x | x | x | x <;> simp [x]⟩
theorem sides {W w : World} {p q r s c d : Nat} {ws vs : List Nat} (h : Sts W [memP p ws c, ref2P r s ws c vs d, memP q vs d] w) : Sts W [memP q vs d, ref2P s r vs d ws c, memP p ws c] w :=
  (h.swap.weaken (fun F hF => ref2P_swap hF)).third
theorem stabQ (q d : Nat) (vs : List Nat) : ∀ B ∈ [memP q vs d], Stable B := stab1 (memP_stable _ _ _)
/-- Both sides. -/
def Both (w : World) (p q r s n b : Nat) (w' : World) : Prop := ∃ ws c vs d, ws.length = n ∧ vs.length = n ∧ c ≤ b ∧ d ≤ b ∧ Sts w [memP p ws c, ref2P r s ws c vs d, memP q vs d] w'
theorem Both.swap {w w' : World} {p q r s n b : Nat} (h : Both w p q r s n b w') : Both w q p s r n b w' := by
  obtain ⟨ws, c, vs, d, h1, h2, h3, h4, h5⟩ := h
  exact ⟨vs, d, ws, c, h2, h1, h4, h3, sides h5⟩
theorem Both.step {w w' : World} {p q r s n b : Nat} (h : Both w p q r s n b w') (hn : n ≤ 255) (hb : b < 100000000) (k v : Nat) (a m : Int) (hk : k < 256) (hv : v < 4294967296) :
    Calls Try.prog 30 #[.pointer (some ⟨p, 0, none⟩), .pointer (some ⟨r, 0, none⟩), .agg #[.int .u8 k, .int .i64 a, .int .i64 m, .int .u32 v]] w'
      fun e w'' => e = .returned (.bool true) ∧ Both w p q r s n (b + 256) w'' := by
  obtain ⟨ws, c, vs, d, h1, h2, h3, h4, h5⟩ := h
  refine (RefLike.c30 (ref2_left r s vs d) w w' p c ws [memP q vs d] k v a m hk hv (by omega) (stabQ q d vs) h5).mono ?_
  rintro e w'' ⟨he, h⟩
  have hl := Ecc.mstep_len ws c k a m v
  have hc := Ecc.mstep_cnt ws c k a m v
  exact ⟨he, _, _, vs, d, by rw [hl, h1], h2, by omega, by omega, h⟩
theorem Both.mono {w w' : World} {p q r s n b b' : Nat} (h : Both w p q r s n b w') (hb : b ≤ b') : Both w p q r s n b' w' := by
  obtain ⟨ws, c, vs, d, h1, h2, h3, h4, h5⟩ := h
  exact ⟨ws, c, vs, d, h1, h2, by omega, by omega, h5⟩
theorem Both.below {w w' : World} {p q r s n b : Nat} (h : Both w p q r s n b w') : Below w.heap.size w w' := by
  obtain ⟨ws, c, vs, d, h1, h2, h3, h4, h5⟩ := h; exact h5.below
theorem both_c1 {W w : World} {p q r s c d : Nat} {ws vs : List Nat} (h : Sts W [memP p ws c, ref2P r s ws c vs d, memP q vs d] w) :
    w.cell? ⟨r, 1, none⟩ = some (.int .i64 c) ∧ w.cell? ⟨s, 1, none⟩ = some (.int .i64 d) := by
  obtain ⟨F, g, cap, g', cap', h1, h2, _⟩ := h.tail.head
  exact ⟨h1.c1, h2.c1⟩
/-- One side. -/
def Side (w : World) (p r n b : Nat) (w' : World) : Prop := ∃ ws c, ws.length = n ∧ c ≤ b ∧ Sts w [memP p ws c, refP r ws c] w'
theorem Side.step {w w' : World} {p r n b : Nat} (h : Side w p r n b w') (hn : n ≤ 255) (hb : b < 100000000) (k v : Nat) (a m : Int) (hk : k < 256) (hv : v < 4294967296) :
    Calls Try.prog 30 #[.pointer (some ⟨p, 0, none⟩), .pointer (some ⟨r, 0, none⟩), .agg #[.int .u8 k, .int .i64 a, .int .i64 m, .int .u32 v]] w'
      fun e w'' => e = .returned (.bool true) ∧ Side w p r n (b + 256) w'' := by
  obtain ⟨ws, c, h1, h3, h5⟩ := h
  refine (c30 w w' p r c ws [] k v a m hk hv (by omega) stab0 h5).mono ?_
  rintro e w'' ⟨he, h⟩
  have hl := Ecc.mstep_len ws c k a m v
  have hc := Ecc.mstep_cnt ws c k a m v
  exact ⟨he, _, _, by rw [hl, h1], by omega, h⟩
theorem Side.below {w w' : World} {p r n b : Nat} (h : Side w p r n b w') : Below w.heap.size w w' := by
  obtain ⟨ws, c, h1, h3, h5⟩ := h; exact h5.below
set_option maxHeartbeats 4000000 in
set_option maxRecDepth 100000 in
theorem clones (n : Nat) (hn : n < 256) (v : Value) (S : List Ecc.Step) (w : World) (hS : StepsAt w v S) :
    Calls Try.prog 12 #[.int .u8 n, v] w fun e w' => e = .returned (.bool true) ∧ Below w.heap.size w w' := by
  obtain ⟨A, cap, rfl, hcells⟩ := hS.open
  have hwf := hid hS.wf
  have hCells := hid hcells
  clear hS hcells
  have hcl : clamp (n : Int) = n := by unfold clamp; rw [if_neg (by omega), if_neg (by omega)]; simp
  have K27 := hid (s27 n n hcl)
  have K29 := hid (s29 n n hcl)
  have h0 := Sts.withEmp (Sts.nil w)
  clear hcl
  by_cases h100 : 100 < S.length
  · have h1 : decide ((100 : Int) < S.length) = true := by simp; omega
    go_enter Try.func12, Try.ntmps12
    go_wp2_with fail
    refine (Sts.call stab0 h0 K27.out).mono ?_; rintro e w1 ⟨p, rfl, h1⟩
    go_wp2_with fail
    refine (Sts.call (stab1 (memP_stable _ _ _)) h1.withEmp K29.out).mono ?_; rintro e w3 ⟨g, rfl, h3⟩
    have a0 := (h3.alloc (st2 (rowP_stable _ _ _ _ _) (memP_stable _ _ _) stab0) (.cells #[.slice (some ⟨g, 0, none⟩) n n, .int .i64 0] 44 (0, 0))).below
    have hb := hid a0
    go_wp2_with fail
    refine (c26 _).mono ?_; rintro e w4 ⟨rfl, h4⟩
    go_wp2_with fail
    go_ret
    exact ⟨rfl, hb.out.trans (h4.mono hb.out.size)⟩
  · have h1 : decide ((100 : Int) < S.length) = false := by simp; omega
    have eq : (S.length : Int).tdiv 2 = ((S.length / 2 : Nat) : Int) := by rw [Int.tdiv_eq_ediv_of_nonneg (by omega)]; simp
    have eq2 : (S.length : Int) / 2 = ((S.length / 2 : Nat) : Int) := by simp
    have hN : S.length / 2 ≤ S.length := Nat.div_le_self _ _
    have hL : S.length ≤ 100 := by omega
    generalize S.length / 2 = N at *
    go_enter Try.func12, Try.ntmps12
    go_wp2_with fail
    refine (Sts.call stab0 h0 K27.out).mono ?_; rintro e w1 ⟨p, rfl, h1⟩
    go_wp2_with fail
    refine (Sts.call (stab1 (memP_stable _ _ _)) h1.withEmp K29.out).mono ?_; rintro e w3 ⟨g, rfl, h3⟩
    have a0 := h3.alloc (st2 (rowP_stable _ _ _ _ _) (memP_stable _ _ _) stab0) (.cells #[.slice (some ⟨g, 0, none⟩) n n, .int .i64 0] 44 (0, 0))
    have a3 := a0.join (C := refP w3.heap.size (zeros n) 0) (fun F hF => ref_made (by omega) hF)
    have HS : Side w p w3.heap.size n 0 (w3.alloc (.cells #[.slice (some ⟨g, 0, none⟩) n n, .int .i64 0] 44)) := ⟨zeros n, 0, zeros_len n, by omega, a3.swap⟩
    clear a0 a3 h0 h1 h3 K27 K29
    go_wp2_with fail
    go_loopw [8] (fun a wr => ∃ k : Nat, k ≤ N ∧ a = .int .i64 k ∧ Side w p w3.heap.size n (k * 256) wr) (fun a _ => N - (intOf a).toNat)
    case atStart => exact ⟨0, by omega, rfl, HS⟩
    case round =>
      obtain ⟨k, hk, rfl, hs⟩ := hrel
      clear HS
      by_cases hlt : k < N
      · obtain ⟨b, off, rfl, hb, hc⟩ := hCells.out k (by omega)
        obtain ⟨hwk, hwv⟩ := hwf.out _ (List.getElem_mem (show k < S.length by omega))
        have hC : StepCells w b (off + k * 4) S[k] := hc
        clear hc hCells
        obtain ⟨d0, d1, d2, d3⟩ := hC.below hb hs.below
        have K30 := hid (hs.step (by omega) (by omega) S[k].1 S[k].2.2.2 S[k].2.1 S[k].2.2.1 hwk hwv)
        generalize S[k] = s at *
        obtain ⟨sk, sa, sn, sv⟩ := s
        simp only at d0 d1 d2 d3 K30
        go_wp2_with fail
        refine K30.out.mono ?_; rintro e w4 ⟨rfl, h4⟩
        go_wp2_with fail
        go_roundw
        case rel => exact ⟨k + 1, by omega, by go_num, by rw [Nat.add_mul]; exact h4⟩
        case measure => simp [intOf]; omega
      · have hsd := hid hs
        obtain ⟨ws, c, hl, hc, h5⟩ := hs
        obtain ⟨F0, g1, cap1, hr1, _⟩ := h5.swap.head
        have hr10 := hr1.c0
        have hr11 := hr1.c1
        have K36 := hid (Sts.call (stab1 (refP_stable _ _ _)) h5 (s36 p c ws))
        go_wp2_with fail
        refine K36.out.mono ?_; rintro e w5 ⟨q, rfl, h6⟩
        have h7 := h6.split.third
        obtain ⟨F1, g2, cap2, hr2, _⟩ := h7.head
        have c0 := hr2.c0
        have c1 := hr2.c1
        have hst : ∀ B ∈ [refP w3.heap.size ws c, memP q ws c, memP p ws c], Stable B := st3 (refP_stable _ _ _) (memP_stable _ _ _) (memP_stable _ _ _) stab0
        have h8 := h7.alloc hst (.cells #[.slice (some ⟨g2, 0, none⟩) ws.length cap2, .int .i64 c] 44 (0, 0))
        have h9 := h8.join (C := ref2P w3.heap.size w5.heap.size ws c ws c) (fun F hF => ref_copied ((hr2.below ((Below.refl _ _).alloc (Nat.le_refl _) _)).c0) hF)
        have HB : Both w p q w3.heap.size w5.heap.size n (N * 256) (w5.alloc (.cells #[.slice (some ⟨g2, 0, none⟩) ws.length cap2, .int .i64 c] 44)) :=
          ⟨ws, c, ws, c, hl, hl, by have : k = N := by omega
                                    subst this; exact hc, by have : k = N := by omega
                                                             subst this; exact hc, h9.third⟩
        rw [hl] at HB
        clear h5 h6 h7 h8 h9 hr1 hr2 hsd K36
        go_wp2_with fail
        go_loopw [11] (fun a wq => ∃ j : Nat, N ≤ j ∧ j ≤ S.length ∧ a = .int .i64 j ∧ Both w p q w3.heap.size w5.heap.size n (j * 256) wq) (fun a _ => S.length - (intOf a).toNat)
        case atStart => exact ⟨N, by omega, by omega, rfl, HB⟩
        case round =>
          obtain ⟨j, hj1, hj2, rfl, hq⟩ := hrel
          clear HB
          by_cases hlt : j < S.length
          · obtain ⟨b, off, rfl, hb, hc⟩ := hCells.out j hlt
            obtain ⟨hwk, hwv⟩ := hwf.out _ (List.getElem_mem hlt)
            have hC : StepCells w b (off + j * 4) S[j] := hc
            clear hc hCells
            obtain ⟨d0, d1, d2, d3⟩ := hC.below hb hq.below
            have K30 := hid (hq.step (by omega) (by omega) S[j].1 S[j].2.2.2 S[j].2.1 S[j].2.2.1 hwk hwv)
            have J30 := hid (hq.swap.step (by omega) (by omega) S[j].1 S[j].2.2.2 S[j].2.1 S[j].2.2.1 hwk hwv)
            generalize S[j] = s at *
            obtain ⟨sk, sa, sn, sv⟩ := s
            simp only at d0 d1 d2 d3 K30 J30
            have et : (j : Int).tmod 2 = (j : Int) % 2 := Int.tmod_eq_emod_of_nonneg (by omega)
            rcases Nat.mod_two_eq_zero_or_one j with hm | hm
            · have e1 : (j : Int) % 2 = 0 := by omega
              rw [e1] at et
              go_wp2_with fail
              refine K30.out.mono ?_; rintro e w4 ⟨rfl, h4⟩
              go_wp2_with fail
              go_roundw
              case rel => exact ⟨j + 1, by omega, by omega, by go_num, by rw [Nat.add_mul]; exact h4⟩
              case measure => simp [intOf]; omega
            · have e1 : (j : Int) % 2 = 1 := by omega
              rw [e1] at et
              go_wp2_with fail
              refine J30.out.mono ?_; rintro e w4 ⟨rfl, h4⟩
              go_wp2_with fail
              go_roundw
              case rel => exact ⟨j + 1, by omega, by omega, by go_num, by rw [Nat.add_mul]; exact h4.swap⟩
              case measure => simp [intOf]; omega
          · have HB := hq.mono (show j * 256 ≤ 25600 by omega)
            clear hq
            go_wp2_with fail
            go_loopw [12] (fun a wt => ∃ i : Nat, i ≤ n ∧ a = .int .i64 i ∧ Both w p q w3.heap.size w5.heap.size n (25600 + i * 512) wt) (fun a _ => n - (intOf a).toNat)
            case atStart => exact ⟨0, by omega, rfl, HB⟩
            case round =>
              obtain ⟨i, hi, rfl, ht⟩ := hrel
              clear HB
              by_cases hlt : i < n
              · have K30 := hid (ht.step (by omega) (by omega) 0 0 i 0 (by decide) (by decide))
                go_wp2_with fail
                refine K30.out.mono ?_; rintro e w6 ⟨rfl, h6⟩
                have J30 := hid (h6.swap.step (by omega) (by omega) 0 0 i 0 (by decide) (by decide))
                go_wp2_with fail
                refine J30.out.mono ?_; rintro e w7 ⟨rfl, h7⟩
                go_wp2_with fail
                go_roundw
                case rel => exact ⟨i + 1, by omega, by go_num, h7.swap.mono (by omega)⟩
                case measure => simp [intOf]; omega
              · obtain ⟨xs, c, ys, d, hx, hy, hc, hd, h5⟩ := ht
                have hst : ∀ B ∈ [memP p xs c, ref2P w3.heap.size w5.heap.size xs c ys d, memP q ys d], Stable B := st3 (memP_stable _ _ _) (ref2P_stable _ _ _ _ _ _) (memP_stable _ _ _) stab0
                have HD := hid (h5.drew hst)
                have K1 : ∀ w', Sts w [memP p xs c, ref2P w3.heap.size w5.heap.size xs c ys d, memP q ys d] w' → Calls Try.prog 31 #[.pointer (some ⟨p, 0, none⟩)] w' (fun e w'' => e = .returned (.int .i64 c) ∧ Sts w [memP p xs c, ref2P w3.heap.size w5.heap.size xs c ys d, memP q ys d] w'') :=
                  fun w' h => Sts.callV (st2 (ref2P_stable _ _ _ _ _ _) (memP_stable _ _ _) stab0) h (s31 p c xs)
                have K2 : ∀ w', Sts w [memP p xs c, ref2P w3.heap.size w5.heap.size xs c ys d, memP q ys d] w' → Calls Try.prog 31 #[.pointer (some ⟨q, 0, none⟩)] w' (fun e w'' => e = .returned (.int .i64 d) ∧ Sts w [memP p xs c, ref2P w3.heap.size w5.heap.size xs c ys d, memP q ys d] w'') :=
                  fun w' h => (Sts.callV (st2 (memP_stable _ _ _) (ref2P_stable _ _ _ _ _ _) stab0) h.third (s31 q d ys)).mono fun e w'' ⟨he, hh⟩ => ⟨he, hh.third'⟩
                have K3 : ∀ w', Sts w [memP p xs c, ref2P w3.heap.size w5.heap.size xs c ys d, memP q ys d] w' → Calls Try.prog 26 #[] w' (fun e w'' => e = .returned (.bool true) ∧ Sts w [memP p xs c, ref2P w3.heap.size w5.heap.size xs c ys d, memP q ys d] w'') :=
                  fun w' h => (c26 w').mono fun e w'' ⟨he, hh⟩ => ⟨he, h.quiet hst hh⟩
                have CC := fun w' (h : Sts w [memP p xs c, ref2P w3.heap.size w5.heap.size xs c ys d, memP q ys d] w') => both_c1 h
                have CB := fun w' (h : Sts w [memP p xs c, ref2P w3.heap.size w5.heap.size xs c ys d, memP q ys d] w') => h.below
                replace HD := hid HD.out
                clear h5 hc hd hx hy hst
                generalize Sts w [memP p xs c, ref2P w3.heap.size w5.heap.size xs c ys d, memP q ys d] = C at *
                generalize w3.heap.size = r at *
                generalize w5.heap.size = s at *
                have KK1 := hid K1
                have KK2 := hid K2
                have KK3 := hid K3
                have HCC := hid CC
                have HCB := hid CB
                clear K1 K2 K3 CC CB hwf hCells
                go_wp2_with fail
                obtain ⟨D1, D2⟩ := HCC.out _ HD.out
                go_region_held3 (fun w' => w'.cell? ⟨r, 1, none⟩ = some (.int .i64 c) ∧ w'.cell? ⟨s, 1, none⟩ = some (.int .i64 d))
                  (first | exact ⟨D1, D2⟩ | exact ⟨m1, m2⟩ | exact ⟨n1, n2⟩ | exact ⟨o1, o2⟩)
                  (first
                    | (go_at_call 31; refine (KK1.out _ HD.out).mono ?_; rintro e w6 ⟨rfl, h6⟩; obtain ⟨m1, m2⟩ := HCC.out _ h6)
                    | (go_at_call 31; refine (KK2.out _ h6).mono ?_; rintro e w7 ⟨rfl, h7⟩; obtain ⟨n1, n2⟩ := HCC.out _ h7)
                    | (go_at_call 26; refine (KK3.out _ h7).mono ?_; rintro e w8 ⟨rfl, h8⟩; obtain ⟨o1, o2⟩ := HCC.out _ h8))
                have hb := hid (HCB.out _ h8)
                go_wp2_with fail
                go_ret
                exact ⟨rfl, hb.out⟩
end Go.Proofs.Ytigefaacknlkoaa
