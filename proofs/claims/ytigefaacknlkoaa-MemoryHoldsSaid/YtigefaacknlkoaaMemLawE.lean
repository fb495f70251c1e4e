/- The law MemoryHolds: its walk. -/
import Derived.Test.YtigefaacknlkoaaMemHoldS
import Derived.Test.YtigefaacknlkoaaMemHoldL
import Derived.Test.YtigefaacknlkoaaMemPlay
import Derived.Test.YtigefaacknlkoaaMemLives
set_option linter.unusedVariables false
namespace Go.Proofs.Ytigefaacknlkoaa
open Go.RowKit Go.Proofs.Num
theorem info22 : (Try.prog.info? 22).map (fun i => (i.zero, i.size, i.bytes)) = some (some (.int .u32 0), 1, 4) := by kernel_rfl
theorem info4 : (Try.prog.info? 4).map (fun i => (i.zero, i.size, i.bytes)) = some (some (.bool false), 1, 1) := by kernel_rfl
def HoldB (w : World) (p g h n b : Nat) (w' : World) : Prop := ∃ c ws want up, c ≤ b ∧ HoldA w p g h n c ws want up w'
theorem HoldB.mono {w w' : World} {p g h n b b' : Nat} (H : HoldB w p g h n b w') (hb : b ≤ b') : HoldB w p g h n b' w' := by
  obtain ⟨c, ws, want, up, h1, h2⟩ := H; exact ⟨c, ws, want, up, by omega, h2⟩
def HoldC (w : World) (p g h n b : Nat) (w' : World) : Prop := ∃ c ws want up up2, c ≤ b ∧ Ecc.Held ws want up n ∧ Sts w (parts p g h n c ws want up2) w'
theorem sts_read {w w' : World} {p g h n c : Nat} {ws want : List Nat} {up up2 : List Bool} (H : Ecc.Held ws want up n) (hs : Sts w (parts p g h n c ws want up2) w') (i : Nat) (hi : i < n) (hc : c < 100000000000) :
    Calls Try.prog 32 #[.pointer (some ⟨p, 0, none⟩), .int .i64 i] w' fun e w'' => e = .returned (.tuple #[.int .u32 (want.getD i 0 : Nat), .int .i64 0]) ∧
      Sts w (parts p g h n (c + if up.getD i false then 1 else 0) (ws.set i (Ecc.enc (want.getD i 0))) want up2) w'' := by
  have k := Sts.callV (st2 (stabW g n want) (stabU h n up2) stab0) hs (s32 p c ws i hc)
  rw [H.read c i hi] at k
  exact k
set_option maxRecDepth 100000 in
theorem holds_long (w : World) (m n : Nat) (hn : 1 + ((m % 40 : Nat) : Int) = n) (hn2 : n ≤ 40) (hn1 : 1 ≤ n) (hw : m < 256) (a : Option Addr) (len cap : Nat) (h : 200 < len) :
    Calls Try.prog 10 #[.int .u8 m, .slice a len cap] w fun e w' => e = .returned (.bool true) ∧ Below w.heap.size w w' := by
  have e1 : (m : Int).tmod 40 = ((m % 40 : Nat) : Int) := by rw [Int.tmod_eq_emod_of_nonneg (by omega)]; simp
  have e2 : (m : Int) % 40 = ((m % 40 : Nat) : Int) := by simp
  have h1 : decide ((200 : Int) < len) = true := by simp; omega
  have K27 := hid (s27 n n (by unfold clamp; rw [if_neg (by omega), if_neg (by omega)]; simp))
  have h0 := Sts.withEmp (Sts.nil w)
  generalize m % 40 = r at *
  go_enter Try.func10, Try.ntmps10
  go_wp2_with fail
  refine (Sts.call stab0 h0 K27.out).mono ?_; rintro e w1 ⟨p, rfl, h1⟩
  have hb := hid h1.below
  go_wp2_with fail
  refine (c26 w1).mono ?_; rintro e w2 ⟨rfl, h2⟩
  go_wp2_with fail
  go_ret
  exact ⟨rfl, hb.out.trans (h2.mono hb.out.size)⟩
set_option maxHeartbeats 1000000 in
set_option maxRecDepth 100000 in
theorem holds_main (w : World) (m n : Nat) (hn : 1 + ((m % 40 : Nat) : Int) = n) (hn2 : n ≤ 40) (hn1 : 1 ≤ n) (hw : m < 256) (v : Value) (S : List Ecc.Step) (hS : StepsAt w v S) (h : ¬ 200 < S.length) :
    Calls Try.prog 10 #[.int .u8 m, v] w fun e w' => e = .returned (.bool true) ∧ Below w.heap.size w w' := by
  obtain ⟨A, cap, rfl, hcells⟩ := hS.open
  have hwf := hid hS.wf
  have hCells := hid hcells
  clear hS hcells
  obtain ⟨i0, hi, hz0, hz1, hz2⟩ := info_parts info22
  obtain ⟨j0, hj, hy0, hy1, hy2⟩ := info_parts info4
  have e1 : (m : Int).tmod 40 = ((m % 40 : Nat) : Int) := by rw [Int.tmod_eq_emod_of_nonneg (by omega)]; simp
  have e2 : (m : Int) % 40 = ((m % 40 : Nat) : Int) := by simp
  have h1 : decide ((200 : Int) < S.length) = false := by simp; omega
  have K27 := hid (s27 n n (by unfold clamp; rw [if_neg (by omega), if_neg (by omega)]; simp))
  have h0 := Sts.withEmp (Sts.nil w)
  generalize m % 40 = r at *
  go_enter Try.func10, Try.ntmps10
  go_wp2_with fail
  refine (Sts.call stab0 h0 K27.out).mono ?_; rintro e w1 ⟨p, rfl, h1⟩
  have HS1 := hid h1
  clear h1 h0 K27 hn e1 e2
  go_wp2_with (first
    | (at_make; refine wpList_make_full _ rfl (.tmp 38) (.tmp 38) 51 rfl 0 22 i0 (.int .u32 0) 1 Try.underlying51 hi hz0 hz1 .i64 .i64 _ _ n rfl rfl (by omega) (by omega) (by rw [hz2]; omega) (by unfold maxLen; omega) (Nat.zero_le _) ?_; intro w2 hown hgr; rw [u32_rep] at hown; have h2 := hid (HS1.out.made (stab1 (memP_stable _ _ _)) hown hgr); clear hown hgr)
    | (at_make; refine wpList_make_full _ rfl (.tmp 40) (.tmp 40) 52 rfl 0 4 j0 (.bool false) 1 Try.underlying52 hj hy0 hy1 .i64 .i64 _ _ n rfl rfl (by omega) (by omega) (by rw [hy2]; omega) (by unfold maxLen; omega) (Nat.zero_le _) ?_; intro w3 hown hgr; rw [bool_rep] at hown; have h3 := hid (h2.out.made (st2 (rowP_stable _ _ _ _ _) (memP_stable _ _ _) stab0) hown hgr); clear hown hgr))
  have HB : HoldB w p w1.heap.size w2.heap.size n 0 w3 := ⟨0, zeros n, List.replicate n 0, List.replicate n false, Nat.le_refl _, Ecc.held_zero n, h3.out.swap.third⟩
  clear h2 h3 HS1 hi hj hz0 hz1 hz2 hy0 hy1 hy2
  generalize w1.heap.size = g at *
  generalize w2.heap.size = h at *
  go_wp2_with fail
  go_loopw [9] (fun a wr => ∃ k : Nat, k ≤ S.length ∧ a = .int .i64 k ∧ HoldB w p g h n (k * 40) wr) (fun a _ => S.length - (intOf a).toNat)
  case atStart => exact ⟨0, by omega, rfl, HB⟩
  case round =>
    obtain ⟨k, hk, rfl, hs⟩ := hrel
    clear HB
    by_cases hlt : k < S.length
    · obtain ⟨c, ws, want, up, hc, HA⟩ := hs
      obtain ⟨b, off, rfl, hb, hcc⟩ := hCells.out k hlt
      obtain ⟨hwk, hwv⟩ := hwf.out _ (List.getElem_mem hlt)
      have hC : StepCells w b (off + k * 4) S[k] := hcc
      clear hcc hCells
      obtain ⟨d0, d1, d2, d3⟩ := hC.below hb HA.below
      generalize S[k] = s at *
      obtain ⟨sk, sa, sn, sv⟩ := s
      simp only at d0 d1 d2 d3 hwk hwv
      have t1 : (sk : Int).tmod 4 = ((sk % 4 : Nat) : Int) := by rw [Int.tmod_eq_emod_of_nonneg (by omega)]; simp
      have t2 : (sk : Int) % 4 = ((sk % 4 : Nat) : Int) := by simp
      have h4 : sk % 4 < 4 := Nat.mod_lt _ (by decide)
      obtain ⟨q, hq⟩ : ∃ q, q = sk % 4 := ⟨_, rfl⟩
      rw [← hq] at t1 t2 h4
      clear hq
      obtain ⟨x, hX⟩ : ∃ x : Nat, sa % 4294967296 % (n : Int) = (x : Nat) := ⟨_, (Int.toNat_of_nonneg (Int.emod_nonneg _ (by omega))).symm⟩
      have hx : x < n := by
        have := Int.emod_lt_of_pos (sa % 4294967296) (show (0 : Int) < n by omega)
        omega
      have hc9 : c < 100000000000 := by omega
      have l1 := hid HA.held.l1
      have l2 := hid HA.held.l2
      have l3 := hid HA.held.l3
      have HD := hid HA.held
      have HC := hid hC
      rcases (show q = 0 ∨ q = 1 ∨ q = 2 ∨ q = 3 by omega) with rfl | rfl | rfl | rfl
      · obtain ⟨y, hy⟩ : ∃ y, want.getD x 0 = y := ⟨_, rfl⟩
        have HY := hid hy
        have KR := hid (HA.read x hx hc9)
        have HCl := hid (HA.held.clean x hx)
        rw [hy] at KR HCl
        clear hy HA hC
        have hle : (if up.getD x false = true then 1 else 0) ≤ 1 := by split <;> omega
        generalize (if up.getD x false = true then 1 else 0) = z at *
        go_wp2_with fail
        refine KR.out.mono ?_; rintro e w4 ⟨rfl, h4⟩
        obtain ⟨q1, q2⟩ := sts_want_cell h4 x l2.out hx
        rw [HY.out] at q1
        obtain ⟨q3, q4⟩ := sts_up_cell h4 x l3.out hx
        have h5 := hid (sts_up h4 x false)
        clear h4
        generalize up.getD x false = yy at q3
        go_wp2_with fail
        go_roundw
        case rel => exact ⟨k + 1, by omega, by go_num, c + z, _, want, _, by omega, HCl.out, h5.out⟩
        case measure => simp [intOf]; omega
      · have KW := hid (HA.write x sv hx hwv)
        have HW := hid (HA.held.write x sv hx hwv).2
        clear HA hC
        go_wp2_with fail
        refine KW.out.mono ?_; rintro e w4 ⟨rfl, h4⟩
        obtain ⟨q1, q2⟩ := sts_want_cell h4 x l2.out hx
        obtain ⟨f0, f1, f2, f3⟩ := HC.out.below hb h4.below
        have h5 := sts_want h4 x sv
        obtain ⟨q3, q4⟩ := sts_up_cell h5 x l3.out hx
        have h6 := hid (sts_up h5 x false)
        clear h4 h5
        generalize up.getD x false = yy at q3
        generalize want.getD x 0 = y at q1
        clear d0 d1 d2 d3 f0 f1 f2
        go_wp2_with fail
        go_roundw
        case rel => exact ⟨k + 1, by omega, by go_num, c, _, _, _, by omega, HW.out, h6.out⟩
        case measure => simp [intOf]; omega
      · obtain ⟨q3, q4⟩ := HA.upC x hx
        obtain ⟨b', hB⟩ : ∃ b' : Nat, sn % 4294967296 % 39 = (b' : Nat) := ⟨_, (Int.toNat_of_nonneg (Int.emod_nonneg _ (by omega))).symm⟩
        have hb' : b' < 39 := by
          have := Int.emod_lt_of_pos (sn % 4294967296) (show (0 : Int) < 39 by omega)
          omega
        obtain ⟨u, hu⟩ : ∃ u, up.getD x false = u := ⟨_, rfl⟩
        rw [hu] at q3
        cases u with
        | true =>
          have h5 := hid (sts_up HA.sts x true)
          have HR := hid (HA.held.again x hu)
          clear HA hC hu
          go_wp2_with fail
          go_roundw
          case rel => exact ⟨k + 1, by omega, by go_num, c, _, _, _, by omega, HR.out, h5.out⟩
          case measure => simp [intOf]; omega
        | false =>
          have KF := hid (HA.flip x b' hx hb' hu)
          have HR := hid (HA.held.flip x b' hx hb' hu).2
          clear HA hC
          have hU := hid hu
          clear hu
          go_wp2_with fail
          refine KF.out.mono ?_; rintro e w4 ⟨rfl, h4⟩
          clear q3 q4
          obtain ⟨q3, q4⟩ := sts_up_cell h4 x l3.out hx
          rw [hU.out] at q3
          have h6 := hid (sts_up h4 x true)
          clear h4
          go_wp2_with fail
          go_roundw
          case rel => exact ⟨k + 1, by omega, by go_num, c, _, _, _, by omega, HR.out, h6.out⟩
          case measure => simp [intOf]; omega
      · have KS := hid (HA.scrub x hx hc9)
        have hcnt : up.count true ≤ n := by have := List.count_le_length (a := true) (l := up); have := l3.out; omega
        clear HA hC
        go_wp2_with fail
        refine KS.out.mono ?_; rintro e w4 ⟨rfl, ws', HS, h4⟩
        obtain ⟨wo, hwo⟩ : ∃ wo : World, wo = wr := ⟨_, rfl⟩
        clear hwo
        have H0 : Sts w (parts p g h n (c + up.count true) ws' want (Ecc.clr 0 up)) w4 := by rw [Ecc.clr_zero]; exact h4
        have H1 := hid H0
        clear H0 h4 d0 d1 d2 d3
        go_wp2_with fail
        go_loopw [15, 16] (fun a i wt => ∃ j : Nat, j ≤ n ∧ i = .int .i64 j ∧ a = .int .i64 (Ecc.cnt1 j up : Nat) ∧ Sts w (parts p g h n (c + up.count true) ws' want (Ecc.clr j up)) wt) (fun _ i _ => n - (intOf i).toNat)
        case atStart => exact ⟨0, by omega, rfl, by rw [Ecc.cnu_zero]; rfl, H1.out⟩
        case round =>
          obtain ⟨j, hj, rfl, rfl, h5⟩ := hrel
          by_cases hlt2 : j < n
          · obtain ⟨q3, q4⟩ := sts_up_cell h5 j (by rw [Ecc.clr_len (by have := l3.out; omega)]; exact l3.out) hlt2
            have h6 := sts_up h5 j false
            rw [Ecc.clr_set (by have := l3.out; omega)] at h6
            have H6 := hid h6
            rw [Ecc.clr_get] at q3
            have HN := hid (Ecc.cnu_succ (j := j) (up := up) (by have := l3.out; omega))
            have hle := Ecc.cnu_le j up
            clear h5 h6 H1
            generalize up.getD j false = u at *
            cases u
            all_goals
              go_wp2_with fail
              go_roundw
            case rel => exact ⟨j + 1, by omega, by go_num, by rw [HN.out]; simp, H6.out⟩
            case measure => simp [intOf]; omega
            case rel => exact ⟨j + 1, by omega, by go_num, by rw [HN.out]; simp, H6.out⟩
            case measure => simp [intOf]; omega
          · have hjn : j = n := by omega
            subst hjn
            rw [Ecc.clr_all _ _ l3.out] at h5
            have HC1 := hid (Ecc.cnu_all _ up l3.out)
            rw [Ecc.cnu_all _ up l3.out]
            have H5 := hid h5
            clear h5 H1
            generalize up.count true = z at *
            go_wp2_with fail
            go_roundw
            case rel => exact ⟨k + 1, by omega, by go_num, c + z, _, _, _, by omega, HS, H5.out⟩
            case measure => simp [intOf]; omega
    · have hB : HoldC w p g h n 8000 wr := by
        obtain ⟨c, ws, want, up, hc, HA⟩ := hs
        exact ⟨c, ws, want, up, up, by omega, HA.held, HA.sts⟩
      have H1 := hid hB
      clear hs hB hCells hwf
      obtain ⟨wo, hwo⟩ : ∃ wo : World, wo = wr := ⟨_, rfl⟩
      clear hwo
      go_wp2_with fail
      go_loopw [17] (fun i wt => ∃ j : Nat, j ≤ n ∧ i = .int .i64 j ∧ HoldC w p g h n (8000 + j) wt) (fun i _ => n - (intOf i).toNat)
      case atStart => exact ⟨0, by omega, rfl, H1.out⟩
      case round =>
        obtain ⟨j, hj, rfl, c, ws, want, up, up2, hc, HA, hs⟩ := hrel
        clear H1
        by_cases hlt2 : j < n
        · obtain ⟨y, hy⟩ : ∃ y, want.getD j 0 = y := ⟨_, rfl⟩
          have HY := hid hy
          have KR := hid (sts_read HA hs j hlt2 (by omega))
          have HCl := hid (HA.clean j hlt2)
          have hl2 := hid HA.l2
          rw [hy] at KR HCl
          have hle : (if up.getD j false = true then 1 else 0) ≤ 1 := by split <;> omega
          generalize (if up.getD j false = true then 1 else 0) = z at *
          clear hy HA hs
          go_wp2_with fail
          refine KR.out.mono ?_; rintro e w4 ⟨rfl, h4⟩
          obtain ⟨q1, q2⟩ := sts_want_cell h4 j hl2.out hlt2
          rw [HY.out] at q1
          have H4 := hid h4
          clear h4
          go_wp2_with fail
          go_roundw
          case rel => exact ⟨j + 1, by omega, by go_num, c + z, _, _, _, _, by omega, HCl.out, H4.out⟩
          case measure => simp [intOf]; omega
        · have hb := hid hs.below
          clear HA hs
          go_wp2_with fail
          refine (c26 _).mono ?_; rintro e w6 ⟨rfl, h6⟩
          go_wp2_with fail
          go_ret
          exact ⟨rfl, hb.out.trans (h6.mono hb.out.size)⟩
theorem holds (m : Nat) (hw : m < 256) (v : Value) (S : List Ecc.Step) (w : World) (hS : StepsAt w v S) :
    Calls Try.prog 10 #[.int .u8 m, v] w fun e w' => e = .returned (.bool true) ∧ Below w.heap.size w w' := by
  have h40 : m % 40 < 40 := Nat.mod_lt _ (by decide)
  by_cases h : 200 < S.length
  · obtain ⟨A, cap, rfl, _⟩ := hS.open
    exact holds_long w m (1 + m % 40) (by omega) (by omega) (by omega) hw A _ cap h
  · exact holds_main w m (1 + m % 40) (by omega) (by omega) (by omega) hw v S hS h
end Go.Proofs.Ytigefaacknlkoaa
