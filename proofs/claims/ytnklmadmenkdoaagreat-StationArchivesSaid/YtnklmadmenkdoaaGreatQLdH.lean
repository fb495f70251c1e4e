/- StationFollows: the law, every input. -/
import Derived.Test.YtnklmadmenkdoaaGreatQLdF
import Derived.Test.YtnklmadmenkdoaaGreatQStnR
import Derived.Test.YtnklmadmenkdoaaGreatQStdF
set_option linter.unusedVariables false
set_option linter.unusedSimpArgs false
namespace Go.Proofs.YtnklmadmenkdoaaGreat
open Go.RowKit Go.Proofs.Num Go.ChangeShapes
theorem Sts.add {W w w' : World} {l m : List HProp} (hl : ∀ B ∈ l, Stable B) (h : Sts W l w) (k : Sts w m w') : Sts W (m ++ l) w' := by
  obtain ⟨F2, a2, b2, n2⟩ := k
  obtain ⟨F1, a1, b1, n1⟩ := h
  have hs := stars_stable hl
  have hsz := b1.size
  have hd : ∀ k, F2 k → ¬ F1 k := fun k h2 h1 => by
    have h3 := hs.dom a1 k h1
    have h4 := n2 k h2
    omega
  refine ⟨fun k => F2 k ∨ F1 k, stars_app.2 ⟨F2, F1, a2, ?_, hd, fun k => Iff.rfl⟩, b1.trans (b2.mono hsz), fun k hk => ?_⟩
  · obtain ⟨F3, a3, b3, n3⟩ := Sts.quiet hl ⟨F1, a1, b1, n1⟩ b2
    exact hs.keep a1 (Keep.of_below b2) (fun k h1 h2 => by have := hs.dom a1 k h1; omega)
  · rcases hk with hk | hk
    · have := n2 k hk; omega
    · exact n1 k hk
/-- The stages as the law keeps them. -/
def stg (ts : List (Int × Int)) : List Value := .int .i64 0 :: ts.map (fun p => .int .i64 p.1)
theorem stg_new (N : Nat) : List.replicate (N + 1) (Value.int .i64 0) = stg (List.replicate N (0, 0)) := by simp [stg, List.replicate_succ]
theorem stg_get (ts : List (Int × Int)) (j : Nat) (hj : j < ts.length) : (stg ts)[j + 1]? = some (.int .i64 ts[j].1) := by simp [stg, hj]
theorem stg_set (ts : List (Int × Int)) (j : Nat) (p : Int × Int) : (stg ts).set (j + 1) (.int .i64 p.1) = stg (ts.set j p) := by simp [stg, List.map_set]
theorem rep_tkN {x : RepA} (h : x.a ≠ 1) (ha : x.a = 2 ∨ x.a = 3 ∨ x.a = 5) (ts : List (Int × Int)) : x.rep.tk ts = ts := by
  unfold Dn.Rep.tk
  rw [if_neg (show ¬ x.rep.a = 1 from (show ¬ x.a.toNat = 1 by omega))]
theorem rep_tkY {x : RepA} (h : x.a = 1) (hok : Ver.ok x.s x.n x.st x.co = true) (ts : List (Int × Int)) : x.rep.tk ts = Trk.take ts x.s x.n x.st x.co := by
  have h2 := (Ver.ok_iff _ _ _ _).1 hok
  unfold Dn.Rep.tk
  rw [if_pos (show x.rep.a = 1 from (show x.a.toNat = 1 by omega))]
  show Trk.take ts (x.s.toNat : Int) (x.n.toNat : Int) (x.st.toNat : Int) (x.co.toNat : Int) = _
  rw [Int.toNat_of_nonneg h2.1.1, Int.toNat_of_nonneg h2.2.1.1, Int.toNat_of_nonneg (by omega), Int.toNat_of_nonneg h2.2.2.2.1]
theorem mkI_run (w : World) (n : Nat) (hn : n ≤ 100000) : (Instr.makeSlice 34 (.int .i64 (n : Int)) (.int .i64 (n : Int))).run Tryz.prog w = .ok (.slice (some ⟨w.heap.size, 0, none⟩) n n) (w.alloc (.cells (madeCells #[.int .i64 0] n) 3)) := by
  obtain ⟨i0, hi, hz0, hz1, hz2⟩ := info_parts infoI
  have hr := run_make (P := Tryz.prog) w 34 3 i0 (.int .i64 0) Tryz.underlying34 hi hz0 .i64 .i64 (n : Int) (n : Int) (by omega) (Int.le_refl _) (by rw [hz2]; omega) (by omega)
  rw [hz1, Nat.mul_one, Int.toNat_natCast] at hr
  exact hr
theorem mkI_sts {W w : World} {l : List HProp} (hl : ∀ B ∈ l, Stable B) (hS : Sts W l w) (n : Nat) (hn : n ≤ 100000) : Sts W (rowP 3 1 (.slice (some ⟨w.heap.size, 0, none⟩) n n) n (List.replicate n (.int .i64 0)) :: l) (w.alloc (.cells (madeCells #[.int .i64 0] n) 3)) := by
  have h2 := Sts.weaken (Sts.alloc hl hS (.cells (madeCells #[.int .i64 0] n) 3)) (fun F h => blkP.row h (by rw [size_madeCells]; omega))
  rw [size_madeCells, toList_madeCells_one] at h2
  exact h2
theorem RepsAt.below {w w' : World} {v : Value} {S : List RepA} (h : RepsAt w v S) (k : Below w.heap.size w w') : RepsAt w' v S :=
  SliceOf.below h (fun cs s hs => ⟨hs.1, hs.2.1.below k, hs.2.2⟩) k
set_option maxRecDepth 100000 in
set_option maxHeartbeats 32000000 in
theorem cFollowsLaw (w : World) (n0 : Int) (v : Value) (S : List RepA) (hS : RepsAt w v S) :
    Calls Tryz.prog 5 #[.int .i64 n0, v] w fun e w' => e = .returned (.bool true) ∧ Below w.heap.size w w' := by
  have hu : @Go.yielded.match_1 (fun _ => Option Bool) (some undef) (fun b => some b) (fun _ => none) = none := rfl
  have HS := hid hS
  clear hS
  go_enter Tryz.func5, Tryz.ntmps5
  go_wp2_with (first
    | (go_at_call 8; refine (cAwakeW _).mono ?_; rintro e w1 ⟨rfl, hb1⟩; have HB1 := hid hb1; clear hb1))
  refine (cRight w1 v S (RepsAt.below HS.out HB1.out)).mono ?_
  rintro e w2 ⟨b, rfl, hb2, hall⟩
  have HB2 := hid ((Sts.quiet stab0 (Sts.nil_below HB1.out) hb2).below)
  clear hb2
  cases b with
  | false =>
    clear hall
    go_wp2_with fail
    go_ret
    exact ⟨rfl, HB2.out⟩
  | true =>
    obtain ⟨h15, hok⟩ := hall rfl
    have H15 := hid h15
    have HOK := hid hok
    clear hall h15 hok
    by_cases hn1 : n0 < 1
    · have d1 : decide (n0 < 1) = true := decide_eq_true hn1
      go_wp2_with fail
      go_ret
      exact ⟨rfl, HB2.out⟩
    have d1 : decide (n0 < 1) = false := decide_eq_false hn1
    by_cases hn5 : 5 < n0
    · have d2 : decide (5 < n0) = true := decide_eq_true hn5
      go_wp2_with fail
      go_ret
      exact ⟨rfl, HB2.out⟩
    have d2 : decide (5 < n0) = false := decide_eq_false hn5
    obtain ⟨N, rfl⟩ : ∃ N : Nat, n0 = (N : Int) := ⟨n0.toNat, by omega⟩
    have HN1 : Hid (1 ≤ N) := hid (by omega)
    have HN5 : Hid (N ≤ 5) := hid (by omega)
    clear hn1 hn5
    go_wp2_with (first
      | (go_at_call 10; refine (cConfig _).mono ?_; rintro e w3 ⟨rfl, hb3⟩; have HB3 := hid ((Sts.quiet stab0 (Sts.nil_below HB2.out) hb3).below); clear hb3)
      | (go_at_call 9; refine (cStart2 _).mono ?_; rintro e w4 ⟨g, fi, u0, u1, u2, ar, tq, c, fq, mp, rfl, h4⟩; have H4 := hid h4; clear h4))
    have HR3 := hid (RepsAt.below HS.out HB3.out)
    have H5 : Hid (Sts w3 (stL g fi u0 u1 u2 ar tq c fq mp 0 (png 0) 0 0 0 0 ++ [couP c 0, finP fi, unpS u0 0, arcP ar []]) w4) := hid ((((trk_new ((H4.out).perm (List.perm_middle (l₁ := [_, _, _])))).perm (List.perm_middle (l₁ := [_]))).perm (.cons _ (List.perm_middle (l₁ := [_])))).perm (.cons _ (.cons _ (List.perm_middle (l₁ := [_])))))
    clear H4 HS d1 d2
    go_loopw [7] (fun i wr => ∃ k, k ≤ N ∧ i = .int .i64 (k : Int) ∧ Sts w3 (stL g fi u0 u1 u2 ar tq c fq mp k (png k) 0 0 0 0 ++ [couP c 0, finP fi, unpS u0 0, arcP ar []]) wr) (fun i _ => N - (intOf i).toNat)
    case atStart => exact ⟨0, Nat.zero_le _, rfl, H5.out⟩
    case round =>
      clear H5
      obtain ⟨k, hk, rfl, hs⟩ := hrel
      by_cases hlt : k < N
      · have d3 : decide ((k : Int) < (N : Int)) = true := decide_eq_true (by omega)
        have KC := hid (show Calls Tryz.prog 11 #[.pointer (some ⟨g, 0, none⟩), .int .i64 1, .slice none 0 0, .slice none 0 0] wr fun e w' => (∃ t, e = .returned t) ∧ Sts w3 (stL g fi u0 u1 u2 ar tq c fq mp (k + 1) (png (k + 1)) 0 0 0 0 ++ [couP c 0, finP fi, unpS u0 0, arcP ar []]) w' from by
          refine (cCommandOk (stabC (couP_stable _ _) (stabC (finP_stable _) (stabC (unpS_stable _ _) (stabC (arcP_stable _ _) (stab0))))) g fi u0 u1 u2 ar tq c fq mp k (png k) 0 0 0 0 hs 1 none 0 [] none 0 [] (Rd.nil _ _ _ (by unfold maxLen; omega)) ⟨Rd.nil _ _ _ (by unfold maxLen; omega), by simp⟩ (by decide) (fun _ => rfl) (by have := HN5.out; omega) (by rw [png_len]; have := HN5.out; omega) (by decide)).mono ?_
          rintro e w' ⟨rfl, h9⟩
          refine ⟨⟨_, rfl⟩, ?_⟩
          rw [png_succ]
          exact h9)
        have HK := hid hlt
        have HE8 : Hid (wrap64 ((k : Int) + 1) = ((k + 1 : Nat) : Int)) := hid (by have := HN5.out; unfold wrap64; omega)
        clear hs hk hlt
        go_wp2_with (go_at_call 11; refine KC.out.mono ?_; rintro e w5 ⟨⟨tt, rfl⟩, h5⟩; have H6 := hid h5; clear h5)
        go_roundw
        case rel => exact ⟨k + 1, HK.out, congrArg (Value.int .i64) HE8.out, H6.out⟩
        case measure =>
          rw [HE8.out]
          have := HK.out
          simp [intOf]
          omega
      · obtain rfl : N = k := by omega
        have d3 : decide ((N : Int) < (N : Int)) = false := decide_eq_false (by omega)
        have H5 := hid ((((Sts.closeDn (((Sts.join (C := rcvP ar tq [] 0 (List.replicate N (0, 0))) ((tk_open HN1.out HN5.out ((hs).perm (List.perm_middle (l₁ := [_, _, _])))).perm (List.perm_middle (l₁ := [_, _, _, _, _, _, _]))) (fun F hF => hF)).perm (List.perm_middle (l₁ := [_, _, _, _, _]))).perm (.cons _ (List.perm_middle (l₁ := [_, _, _, _, _]))))).perm (List.perm_middle (l₁ := [_, _, _]))).perm (.cons _ (List.perm_middle (l₁ := [_])))).perm (.cons _ (.cons _ (List.perm_middle (l₁ := [_])))))
        obtain ⟨M, hM⟩ : ∃ M, M = N + 1 := ⟨_, rfl⟩
        have e7 : wrap64 ((N : Int) + 1) = (M : Int) := by have := HN5.out; clear d3; unfold wrap64; omega
        have HMM := hid hM
        clear hs hlt hM
        have hmk := mkI_run wr M (by have h1 := HMM.out; have h2 := HN5.out; clear e7 d3; omega)
        have h6 := mkI_sts (stabC (fopP_stable _ _ _ _ _ _) (stabC (blkP_stable _ _) (stabC (blkP_stable _ _) (stabC (dnP_stable _ _ _ _ _ _ _ _) (stabC (couP_stable _ _) (stab0)))))) H5.out M (by have h1 := HMM.out; have h2 := HN5.out; clear e7 d3; omega)
        obtain ⟨w6, hw6⟩ : ∃ w6, w6 = wr.alloc (.cells (madeCells #[.int .i64 0] M) 3) := ⟨_, rfl⟩
        obtain ⟨sg, hsg⟩ : ∃ sg, sg = wr.heap.size := ⟨_, rfl⟩
        rw [← hw6, ← hsg] at hmk h6
        have H6 := hid (show Sts w3 (rowP 3 1 (.slice (some ⟨sg, 0, none⟩) M M) M (stg (List.replicate N (0, 0))) :: fopP fq (png N) 0 0 0 0 :: blkP g (.cells (staC fi u0 u1 u2 ar tq c fq mp 0 (N + 1)) 119 (0, 0)) :: blkP mp (cntO N) :: dnP fi u0 ar tq 0 [] 0 (List.replicate N (0, 0)) :: couP c 0 :: []) w6 from by
          rw [show List.replicate M (Value.int .i64 0) = stg (List.replicate N (0, 0)) by rw [HMM.out, stg_new]] at h6
          exact h6)
        clear h6 hw6 hsg
        go_wp2_with fail
        clear hmk H5
        clear e7 d3
        go_loopw [9] (fun i wr => ∃ k, k ≤ S.length ∧ i = .int .i64 (k : Int) ∧ Sts w3 (rowP 3 1 (.slice (some ⟨sg, 0, none⟩) M M) M (stg (Dn.tkAll ((S.map RepA.rep).take k) (List.replicate N (0, 0)))) :: fopP fq (png N) 0 0 0 0 :: blkP g (.cells (staC fi u0 u1 u2 ar tq c fq mp 0 (N + 1)) 119 (0, 0)) :: blkP mp (cntO N) :: dnP fi u0 ar tq 0 [] 0 (List.replicate N (0, 0)) :: couP c 0 :: []) wr) (fun i _ => S.length - (intOf i).toNat)
        case atStart => exact ⟨0, Nat.zero_le _, rfl, H6.out⟩
        case round =>
          clear H6
          obtain ⟨k, hk, rfl, hs⟩ := hrel
          obtain ⟨va0, vc0, e0, _, hx⟩ := HR3.out
          subst e0
          by_cases hlt : k < S.length
          · obtain ⟨ab, aoff, cs, ha, hab, hcl, hcell, hE⟩ := hx k hlt
            subst ha
            obtain ⟨x, hxx⟩ : ∃ x, x = S[k] := ⟨_, rfl⟩
            rw [← hxx] at hE
            obtain ⟨rfl, hD, hnl⟩ := hE
            have hxo : x.ok := by rw [hxx]; exact HOK.out _ (List.getElem_mem _)
            obtain ⟨ts1, hts1⟩ : ∃ ts1, ts1 = Dn.tkAll ((S.map RepA.rep).take k) (List.replicate N (0, 0)) := ⟨_, rfl⟩
            rw [← hts1] at hs
            obtain ⟨ts2, hts2⟩ : ∃ ts2, ts2 = x.rep.tk ts1 := ⟨_, rfl⟩
            have HNX : Hid (Dn.tkAll ((S.map RepA.rep).take (k + 1)) (List.replicate N (0, 0)) = ts2) := hid (by
              have h := take_fold (fun ts r => Dn.Rep.tk r ts) (S.map RepA.rep) k (by rw [List.length_map]; exact hlt) (List.replicate N (0, 0))
              rw [hts2, hts1, hxx]
              rw [List.getElem_map] at h
              exact h)
            have HTL : Hid (ts1.length = N) := hid (by rw [hts1, Dn.tkAll_len, List.length_replicate])
            have HVOK := hid hxo.hk
            have HTKY : Hid (x.a = 1 → ts2 = Trk.take ts1 x.s x.n x.st x.co) := hid (fun h => hts2.trans <| rep_tkY h (hxo.hk h) ts1)
            have HTKN : Hid (x.a ≠ 1 → ts2 = ts1) := hid (fun h => hts2.trans <| rep_tkN h (by have := hxo.ha; omega) ts1)
            have HQ0 : Hid (∀ y : World, Below w3.heap.size w3 y → y.cell? ⟨ab, aoff + k * 8, none⟩ = some (.int .i64 x.a)) := hid (fun y hy => (hy.cell hab).trans (hcell 0 (by simp)))
            have q3 : wr.cell? ⟨ab, aoff + k * 8 + 3, none⟩ = some (.int .i64 x.s) := (hs.below.cell hab).trans (hcell 3 (by simp))
            have q4 : wr.cell? ⟨ab, aoff + k * 8 + 4, none⟩ = some (.int .i64 x.n) := (hs.below.cell hab).trans (hcell 4 (by simp))
            have q5 : wr.cell? ⟨ab, aoff + k * 8 + 5, none⟩ = some (.int .i64 x.st) := (hs.below.cell hab).trans (hcell 5 (by simp))
            have q6 : wr.cell? ⟨ab, aoff + k * 8 + 6, none⟩ = some (.int .i64 x.co) := (hs.below.cell hab).trans (hcell 6 (by simp))
            have HA : Hid (Sts w3 (blkP wr.heap.size (.cells #[.int .i64 x.s, .int .i64 x.n, .int .i64 x.st, .int .i64 x.co] 61 (0, 0)) :: rowP 3 1 (.slice (some ⟨sg, 0, none⟩) M M) M (stg ts1) :: fopP fq (png N) 0 0 0 0 :: blkP g (.cells (staC fi u0 u1 u2 ar tq c fq mp 0 (N + 1)) 119 (0, 0)) :: blkP mp (cntO N) :: dnP fi u0 ar tq 0 [] 0 (List.replicate N (0, 0)) :: couP c 0 :: []) (wr.alloc (.cells #[.int .i64 x.s, .int .i64 x.n, .int .i64 x.st, .int .i64 x.co] 61))) := hid (Sts.alloc (stabC (rowP_stable _ _ _ _ _) (stabC (fopP_stable _ _ _ _ _ _) (stabC (blkP_stable _ _) (stabC (blkP_stable _ _) (stabC (dnP_stable _ _ _ _ _ _ _ _) (stabC (couP_stable _ _) (stab0))))))) hs _)
            have HK1 : Hid (k + 1 ≤ S.length) := hid hlt
            have HE8 : Hid (wrap64 ((k : Int) + 1) = ((k + 1 : Nat) : Int)) := hid (by have := H15.out; clear q3 q4 q5 q6; unfold wrap64; omega)
            have p0 : (0 : Int) ≤ (k : Int) := Int.natCast_nonneg _
            have p1 : (k : Int) < ((S.length : Nat) : Int) := by omega
            clear hs hcell hD hnl hxo hxx hx hts1 hts2 hk hlt hcl hab
            obtain ⟨a, c0, t0, s, nn, st, co, da, dc, dd⟩ := x
            simp only at q3 q4 q5 q6 HVOK HTKY HTKN HQ0 HA
            go_wp2_with fail
            clear q3 q4 q5 q6
            by_cases a1 : a = 1
            · have HVO := hid (HVOK.out a1)
              have e1 : (a == 1) = true := by rw [beq_iff_eq]; exact a1
              have HTK : Hid (ts2 = Trk.take ts1 s nn st co) := hid (HTKY.out a1)
              clear a1
              by_cases s1 : s = 1
              · have e2 : (s == 1) = true := by rw [beq_iff_eq]; exact s1
                have HS1 := hid s1
                clear s1
                by_cases n1 : 1 ≤ nn
                · have e3 : decide (1 ≤ nn) = true := decide_eq_true n1
                  by_cases n2 : nn ≤ (N : Int)
                  · have e4 : decide (nn ≤ (N : Int)) = true := decide_eq_true n2
                    obtain ⟨j, hj⟩ : ∃ j : Nat, nn = ((j + 1 : Nat) : Int) := ⟨(nn - 1).toNat, by omega⟩
                    obtain ⟨jj, hjj⟩ : ∃ jj, jj = j + 1 := ⟨_, rfl⟩
                    rw [← hjj] at hj
                    have hjN : j < ts1.length := by rw [HTL.out]; omega
                    have HJM : Hid (jj < M) := hid (by have := HMM.out; omega)
                    obtain ⟨sj, hsj⟩ : ∃ sj, sj = ts1[j].1 := ⟨_, rfl⟩
                    have HST : Hid ((stg ts1)[jj]? = some (.int .i64 sj)) := hid (by rw [hjj, hsj]; exact stg_get ts1 j hjN)
                    have HTE : Hid (ts2 = if Ver.fol sj st = true then ts1.set j (st, co) else ts1) := hid (by
                      rw [HTK.out]
                      unfold Trk.take
                      rw [if_pos ⟨HS1.out, n1, by rw [HTL.out]; exact n2⟩, show (nn - 1).toNat = j by omega, List.getD_eq_getElem?_getD, List.getElem?_eq_getElem hjN, Option.getD_some, ← hsj])
                    have HSS : Hid ((stg ts1).set jj (.int .i64 st) = stg (ts1.set j (st, co))) := hid (by rw [hjj]; exact stg_set ts1 j (st, co))
                    have i0 : (0 : Int) ≤ (jj : Int) := Int.natCast_nonneg _
                    have i1 : (jj : Int) < (M : Int) := by have := HJM.out; omega
                    have g1 : 1 ≤ jj := by omega
                    have g2 : jj ≤ N := by omega
                    subst hj
                    clear n1 n2 hjj hjN hsj
                    refine wp_region_ordQ (.pure 0 (.pure 1 (.pure 2 (.pure 3 (.pure 4 (.pure 5 (.pure 6 (.pure 7 (.pure 8 (.pure 9 (.pure 10 (.pure 11 (.pure 12 (.pure 13 (.pure 14 (.pure 15 (.pure 16 (.pure 17 (.pure 18 (.pure 19 (.pure 20 (.pure 21 (.pure 22 (.pure 23 (.pure 24 (.pure 25 (.pure 26 (.pure 27 (.pure 28 (.pure 29 (.pure 30 (.pure 31 .nil)))))))))))))))))))))))))))))))) (fun y => y.cell? ⟨ab, aoff + k * 8, none⟩ = some (.int .i64 a) ∧ y.cell? ⟨wr.heap.size, 0, none⟩ = some (.int .i64 s) ∧ y.cell? ⟨wr.heap.size, 1, none⟩ = some (.int .i64 (jj : Int)) ∧ y.cell? ⟨wr.heap.size, 2, none⟩ = some (.int .i64 st) ∧ y.cell? ⟨sg, jj, none⟩ = some (.int .i64 sj)) (fun y => Sts w3 (blkP wr.heap.size (.cells #[.int .i64 s, .int .i64 (jj : Int), .int .i64 st, .int .i64 co] 61 (0, 0)) :: rowP 3 1 (.slice (some ⟨sg, 0, none⟩) M M) M (stg ts1) :: fopP fq (png N) 0 0 0 0 :: blkP g (.cells (staC fi u0 u1 u2 ar tq c fq mp 0 (N + 1)) 119 (0, 0)) :: blkP mp (cntO N) :: dnP fi u0 ar tq 0 [] 0 (List.replicate N (0, 0)) :: couP c 0 :: []) y) (by kernel_rfl) (by kernel_rfl) (HA.out.drew (stabC (blkP_stable _ _) (stabC (rowP_stable _ _ _ _ _) (stabC (fopP_stable _ _ _ _ _ _) (stabC (blkP_stable _ _) (stabC (blkP_stable _ _) (stabC (dnP_stable _ _ _ _ _ _ _ _) (stabC (couP_stable _ _) (stab0))))))))) (fun y hy => ⟨HQ0.out y hy.below, (Sts.boxCell hy 0 _ rfl).1, (Sts.boxCell hy 1 _ rfl).1, (Sts.boxCell hy 2 _ rfl).1, Sts.rowCell hy.tail jj HJM.out _ HST.out⟩) ?_
                    iterate 30
                      (apply ordq_pure (ho := rfl)
                       · go_simp
                       · intro x hx; obtain ⟨x1, x2, x3, x4, x5⟩ := hx; go_simp; rfl
                       apply ordq_norm
                       · go_simp; rfl)
                    apply ordq_call (ho := rfl) (f := 19) (args := #[.int .i64 sj, .int .i64 st]) (v := .bool (Ver.fol sj st)) (h2 := fun x _ => cFollows x sj st)
                    · go_simp
                    · intro x hx; go_simp
                    apply ordq_norm
                    · go_simp; rfl
                    iterate 1
                      (apply ordq_pure (ho := rfl)
                       · go_simp
                       · intro x hx; obtain ⟨x1, x2, x3, x4, x5⟩ := hx; go_simp; rfl
                       apply ordq_norm
                       · go_simp; rfl)
                    refine ordq_nil fun z hz => ?_
                    have HB := hid hz
                    clear hz HA
                    cases hfol : Ver.fol sj st with
                    | false =>
                      have HT : Hid (ts2 = ts1) := hid (by rw [HTE.out, hfol]; rfl)
                      rw [hfol] at *
                      go_wp2_with fail
                      go_roundw
                      case rel => exact ⟨k + 1, HK1.out, congrArg (Value.int .i64) HE8.out, by rw [HNX.out, HT.out]; exact HB.out.tail⟩
                      case measure =>
                        rw [HE8.out]
                        have := HK1.out
                        simp [intOf]
                        omega
                    | true =>
                      have HT : Hid (ts2 = ts1.set j (st, co)) := hid (by rw [HTE.out, hfol]; rfl)
                      rw [hfol] at *
                      have hz := HB.out
                      have g1 := Sts.rowFree hz.tail jj
                      have g2 := Sts.rowCell hz.tail jj HJM.out _ HST.out
                      have b1 : z.cell? ⟨wr.heap.size, 1, none⟩ = some (.int .i64 (jj : Int)) := (Sts.boxCell hz 1 _ rfl).1
                      have b2 : z.cell? ⟨wr.heap.size, 2, none⟩ = some (.int .i64 st) := (Sts.boxCell hz 2 _ rfl).1
                      have hst := Sts.rowStore (stabC (fopP_stable _ _ _ _ _ _) (stabC (blkP_stable _ _) (stabC (blkP_stable _ _) (stabC (dnP_stable _ _ _ _ _ _ _ _) (stabC (couP_stable _ _) (stab0)))))) hz.tail jj (.int .i64 st)
                      rw [HSS.out] at hst
                      have HST2 := hid hst
                      clear hz hst HST HB
                      go_wp2_with fail
                      go_roundw
                      case rel => exact ⟨k + 1, HK1.out, congrArg (Value.int .i64) HE8.out, by rw [HNX.out, HT.out]; exact HST2.out⟩
                      case measure =>
                        rw [HE8.out]
                        have := HK1.out
                        simp [intOf]
                        omega
                  · have e4 : decide (nn ≤ (N : Int)) = false := decide_eq_false n2
                    have HT : Hid (ts2 = ts1) := hid (by rw [HTK.out]; unfold Trk.take; rw [if_neg (fun h => n2 (by rw [HTL.out] at h; exact h.2.2))])
                    clear n1 n2
                    refine wp_region_ordQ (.pure 0 (.pure 1 (.pure 2 (.pure 3 (.pure 4 (.pure 5 (.pure 6 (.pure 7 (.pure 8 (.pure 9 (.pure 10 (.pure 11 (.pure 12 (.pure 13 (.pure 14 (.pure 15 (.pure 16 (.pure 17 (.pure 18 (.pure 19 (.pure 20 (.pure 21 (.pure 22 (.pure 23 (.pure 24 (.pure 25 (.pure 26 (.pure 27 (.pure 28 (.pure 29 (.pure 30 (.pure 31 .nil)))))))))))))))))))))))))))))))) (fun y => y.cell? ⟨ab, aoff + k * 8, none⟩ = some (.int .i64 a) ∧ y.cell? ⟨wr.heap.size, 0, none⟩ = some (.int .i64 s) ∧ y.cell? ⟨wr.heap.size, 1, none⟩ = some (.int .i64 nn) ∧ y.cell? ⟨wr.heap.size, 2, none⟩ = some (.int .i64 st)) (fun y => Sts w3 (blkP wr.heap.size (.cells #[.int .i64 s, .int .i64 nn, .int .i64 st, .int .i64 co] 61 (0, 0)) :: rowP 3 1 (.slice (some ⟨sg, 0, none⟩) M M) M (stg ts1) :: fopP fq (png N) 0 0 0 0 :: blkP g (.cells (staC fi u0 u1 u2 ar tq c fq mp 0 (N + 1)) 119 (0, 0)) :: blkP mp (cntO N) :: dnP fi u0 ar tq 0 [] 0 (List.replicate N (0, 0)) :: couP c 0 :: []) y) (by kernel_rfl) (by kernel_rfl) (HA.out.drew (stabC (blkP_stable _ _) (stabC (rowP_stable _ _ _ _ _) (stabC (fopP_stable _ _ _ _ _ _) (stabC (blkP_stable _ _) (stabC (blkP_stable _ _) (stabC (dnP_stable _ _ _ _ _ _ _ _) (stabC (couP_stable _ _) (stab0))))))))) (fun y hy => ⟨HQ0.out y hy.below, (Sts.boxCell hy 0 _ rfl).1, (Sts.boxCell hy 1 _ rfl).1, (Sts.boxCell hy 2 _ rfl).1⟩) ?_
                    iterate 23
                      (apply ordq_pure (ho := rfl)
                       · go_simp
                       · intro x hx; obtain ⟨x1, x2, x3, x4⟩ := hx; go_simp; rfl
                       apply ordq_norm
                       · go_simp; rfl)
                    iterate 8
                      (apply ordq_skip (ho := rfl)
                       · go_simp
                       apply ordq_norm
                       · go_simp; rfl)
                    iterate 1
                      (apply ordq_pure (ho := rfl)
                       · go_simp
                       · intro x hx; obtain ⟨x1, x2, x3, x4⟩ := hx; go_simp; rfl
                       apply ordq_norm
                       · go_simp; rfl)
                    refine ordq_nil fun z hz => ?_
                    have HB := hid hz
                    clear hz HA
                    go_wp2_with fail
                    go_roundw
                    case rel => exact ⟨k + 1, HK1.out, congrArg (Value.int .i64) HE8.out, by rw [HNX.out, HT.out]; exact HB.out.tail⟩
                    case measure =>
                      rw [HE8.out]
                      have := HK1.out
                      simp [intOf]
                      omega
                · have e3 : decide (1 ≤ nn) = false := decide_eq_false n1
                  have HT : Hid (ts2 = ts1) := hid (by rw [HTK.out]; unfold Trk.take; rw [if_neg (fun h => n1 h.2.1)])
                  clear n1
                  refine wp_region_ordQ (.pure 0 (.pure 1 (.pure 2 (.pure 3 (.pure 4 (.pure 5 (.pure 6 (.pure 7 (.pure 8 (.pure 9 (.pure 10 (.pure 11 (.pure 12 (.pure 13 (.pure 14 (.pure 15 (.pure 16 (.pure 17 (.pure 18 (.pure 19 (.pure 20 (.pure 21 (.pure 22 (.pure 23 (.pure 24 (.pure 25 (.pure 26 (.pure 27 (.pure 28 (.pure 29 (.pure 30 (.pure 31 .nil)))))))))))))))))))))))))))))))) (fun y => y.cell? ⟨ab, aoff + k * 8, none⟩ = some (.int .i64 a) ∧ y.cell? ⟨wr.heap.size, 0, none⟩ = some (.int .i64 s) ∧ y.cell? ⟨wr.heap.size, 1, none⟩ = some (.int .i64 nn) ∧ y.cell? ⟨wr.heap.size, 2, none⟩ = some (.int .i64 st)) (fun y => Sts w3 (blkP wr.heap.size (.cells #[.int .i64 s, .int .i64 nn, .int .i64 st, .int .i64 co] 61 (0, 0)) :: rowP 3 1 (.slice (some ⟨sg, 0, none⟩) M M) M (stg ts1) :: fopP fq (png N) 0 0 0 0 :: blkP g (.cells (staC fi u0 u1 u2 ar tq c fq mp 0 (N + 1)) 119 (0, 0)) :: blkP mp (cntO N) :: dnP fi u0 ar tq 0 [] 0 (List.replicate N (0, 0)) :: couP c 0 :: []) y) (by kernel_rfl) (by kernel_rfl) (HA.out.drew (stabC (blkP_stable _ _) (stabC (rowP_stable _ _ _ _ _) (stabC (fopP_stable _ _ _ _ _ _) (stabC (blkP_stable _ _) (stabC (blkP_stable _ _) (stabC (dnP_stable _ _ _ _ _ _ _ _) (stabC (couP_stable _ _) (stab0))))))))) (fun y hy => ⟨HQ0.out y hy.below, (Sts.boxCell hy 0 _ rfl).1, (Sts.boxCell hy 1 _ rfl).1, (Sts.boxCell hy 2 _ rfl).1⟩) ?_
                  iterate 17
                    (apply ordq_pure (ho := rfl)
                     · go_simp
                     · intro x hx; obtain ⟨x1, x2, x3, x4⟩ := hx; go_simp; rfl
                     apply ordq_norm
                     · go_simp; rfl)
                  iterate 4
                    (apply ordq_skip (ho := rfl)
                     · go_simp
                     apply ordq_norm
                     · go_simp; rfl)
                  iterate 2
                    (apply ordq_pure (ho := rfl)
                     · go_simp
                     · intro x hx; obtain ⟨x1, x2, x3, x4⟩ := hx; go_simp; rfl
                     apply ordq_norm
                     · go_simp; rfl)
                  iterate 8
                    (apply ordq_skip (ho := rfl)
                     · go_simp
                     apply ordq_norm
                     · go_simp; rfl)
                  iterate 1
                    (apply ordq_pure (ho := rfl)
                     · go_simp
                     · intro x hx; obtain ⟨x1, x2, x3, x4⟩ := hx; go_simp; rfl
                     apply ordq_norm
                     · go_simp; rfl)
                  refine ordq_nil fun z hz => ?_
                  have HB := hid hz
                  clear hz HA
                  go_wp2_with fail
                  go_roundw
                  case rel => exact ⟨k + 1, HK1.out, congrArg (Value.int .i64) HE8.out, by rw [HNX.out, HT.out]; exact HB.out.tail⟩
                  case measure =>
                    rw [HE8.out]
                    have := HK1.out
                    simp [intOf]
                    omega
              · have e2 : (s == 1) = false := beq_eq_false_iff_ne.2 s1
                have HT : Hid (ts2 = ts1) := hid (by rw [HTK.out]; unfold Trk.take; rw [if_neg (fun h => s1 h.1)])
                clear s1
                refine wp_region_ordQ (.pure 0 (.pure 1 (.pure 2 (.pure 3 (.pure 4 (.pure 5 (.pure 6 (.pure 7 (.pure 8 (.pure 9 (.pure 10 (.pure 11 (.pure 12 (.pure 13 (.pure 14 (.pure 15 (.pure 16 (.pure 17 (.pure 18 (.pure 19 (.pure 20 (.pure 21 (.pure 22 (.pure 23 (.pure 24 (.pure 25 (.pure 26 (.pure 27 (.pure 28 (.pure 29 (.pure 30 (.pure 31 .nil)))))))))))))))))))))))))))))))) (fun y => y.cell? ⟨ab, aoff + k * 8, none⟩ = some (.int .i64 a) ∧ y.cell? ⟨wr.heap.size, 0, none⟩ = some (.int .i64 s) ∧ y.cell? ⟨wr.heap.size, 1, none⟩ = some (.int .i64 nn) ∧ y.cell? ⟨wr.heap.size, 2, none⟩ = some (.int .i64 st)) (fun y => Sts w3 (blkP wr.heap.size (.cells #[.int .i64 s, .int .i64 nn, .int .i64 st, .int .i64 co] 61 (0, 0)) :: rowP 3 1 (.slice (some ⟨sg, 0, none⟩) M M) M (stg ts1) :: fopP fq (png N) 0 0 0 0 :: blkP g (.cells (staC fi u0 u1 u2 ar tq c fq mp 0 (N + 1)) 119 (0, 0)) :: blkP mp (cntO N) :: dnP fi u0 ar tq 0 [] 0 (List.replicate N (0, 0)) :: couP c 0 :: []) y) (by kernel_rfl) (by kernel_rfl) (HA.out.drew (stabC (blkP_stable _ _) (stabC (rowP_stable _ _ _ _ _) (stabC (fopP_stable _ _ _ _ _ _) (stabC (blkP_stable _ _) (stabC (blkP_stable _ _) (stabC (dnP_stable _ _ _ _ _ _ _ _) (stabC (couP_stable _ _) (stab0))))))))) (fun y hy => ⟨HQ0.out y hy.below, (Sts.boxCell hy 0 _ rfl).1, (Sts.boxCell hy 1 _ rfl).1, (Sts.boxCell hy 2 _ rfl).1⟩) ?_
                iterate 12
                  (apply ordq_pure (ho := rfl)
                   · go_simp
                   · intro x hx; obtain ⟨x1, x2, x3, x4⟩ := hx; go_simp; rfl
                   apply ordq_norm
                   · go_simp; rfl)
                iterate 3
                  (apply ordq_skip (ho := rfl)
                   · go_simp
                   apply ordq_norm
                   · go_simp; rfl)
                iterate 2
                  (apply ordq_pure (ho := rfl)
                   · go_simp
                   · intro x hx; obtain ⟨x1, x2, x3, x4⟩ := hx; go_simp; rfl
                   apply ordq_norm
                   · go_simp; rfl)
                iterate 4
                  (apply ordq_skip (ho := rfl)
                   · go_simp
                   apply ordq_norm
                   · go_simp; rfl)
                iterate 2
                  (apply ordq_pure (ho := rfl)
                   · go_simp
                   · intro x hx; obtain ⟨x1, x2, x3, x4⟩ := hx; go_simp; rfl
                   apply ordq_norm
                   · go_simp; rfl)
                iterate 8
                  (apply ordq_skip (ho := rfl)
                   · go_simp
                   apply ordq_norm
                   · go_simp; rfl)
                iterate 1
                  (apply ordq_pure (ho := rfl)
                   · go_simp
                   · intro x hx; obtain ⟨x1, x2, x3, x4⟩ := hx; go_simp; rfl
                   apply ordq_norm
                   · go_simp; rfl)
                refine ordq_nil fun z hz => ?_
                have HB := hid hz
                clear hz HA
                go_wp2_with fail
                go_roundw
                case rel => exact ⟨k + 1, HK1.out, congrArg (Value.int .i64) HE8.out, by rw [HNX.out, HT.out]; exact HB.out.tail⟩
                case measure =>
                  rw [HE8.out]
                  have := HK1.out
                  simp [intOf]
                  omega
            · have e1 : (a == 1) = false := beq_eq_false_iff_ne.2 a1
              have HT : Hid (ts2 = ts1) := hid (HTKN.out a1)
              clear a1
              refine wp_region_ordQ (.pure 0 (.pure 1 (.pure 2 (.pure 3 (.pure 4 (.pure 5 (.pure 6 (.pure 7 (.pure 8 (.pure 9 (.pure 10 (.pure 11 (.pure 12 (.pure 13 (.pure 14 (.pure 15 (.pure 16 (.pure 17 (.pure 18 (.pure 19 (.pure 20 (.pure 21 (.pure 22 (.pure 23 (.pure 24 (.pure 25 (.pure 26 (.pure 27 (.pure 28 (.pure 29 (.pure 30 (.pure 31 .nil)))))))))))))))))))))))))))))))) (fun y => y.cell? ⟨ab, aoff + k * 8, none⟩ = some (.int .i64 a) ∧ y.cell? ⟨wr.heap.size, 0, none⟩ = some (.int .i64 s) ∧ y.cell? ⟨wr.heap.size, 1, none⟩ = some (.int .i64 nn) ∧ y.cell? ⟨wr.heap.size, 2, none⟩ = some (.int .i64 st)) (fun y => Sts w3 (blkP wr.heap.size (.cells #[.int .i64 s, .int .i64 nn, .int .i64 st, .int .i64 co] 61 (0, 0)) :: rowP 3 1 (.slice (some ⟨sg, 0, none⟩) M M) M (stg ts1) :: fopP fq (png N) 0 0 0 0 :: blkP g (.cells (staC fi u0 u1 u2 ar tq c fq mp 0 (N + 1)) 119 (0, 0)) :: blkP mp (cntO N) :: dnP fi u0 ar tq 0 [] 0 (List.replicate N (0, 0)) :: couP c 0 :: []) y) (by kernel_rfl) (by kernel_rfl) (HA.out.drew (stabC (blkP_stable _ _) (stabC (rowP_stable _ _ _ _ _) (stabC (fopP_stable _ _ _ _ _ _) (stabC (blkP_stable _ _) (stabC (blkP_stable _ _) (stabC (dnP_stable _ _ _ _ _ _ _ _) (stabC (couP_stable _ _) (stab0))))))))) (fun y hy => ⟨HQ0.out y hy.below, (Sts.boxCell hy 0 _ rfl).1, (Sts.boxCell hy 1 _ rfl).1, (Sts.boxCell hy 2 _ rfl).1⟩) ?_
              iterate 7
                (apply ordq_pure (ho := rfl)
                 · go_simp
                 · intro x hx; obtain ⟨x1, x2, x3, x4⟩ := hx; go_simp; rfl
                 apply ordq_norm
                 · go_simp; rfl)
              iterate 3
                (apply ordq_skip (ho := rfl)
                 · go_simp
                 apply ordq_norm
                 · go_simp; rfl)
              iterate 2
                (apply ordq_pure (ho := rfl)
                 · go_simp
                 · intro x hx; obtain ⟨x1, x2, x3, x4⟩ := hx; go_simp; rfl
                 apply ordq_norm
                 · go_simp; rfl)
              iterate 3
                (apply ordq_skip (ho := rfl)
                 · go_simp
                 apply ordq_norm
                 · go_simp; rfl)
              iterate 2
                (apply ordq_pure (ho := rfl)
                 · go_simp
                 · intro x hx; obtain ⟨x1, x2, x3, x4⟩ := hx; go_simp; rfl
                 apply ordq_norm
                 · go_simp; rfl)
              iterate 4
                (apply ordq_skip (ho := rfl)
                 · go_simp
                 apply ordq_norm
                 · go_simp; rfl)
              iterate 2
                (apply ordq_pure (ho := rfl)
                 · go_simp
                 · intro x hx; obtain ⟨x1, x2, x3, x4⟩ := hx; go_simp; rfl
                 apply ordq_norm
                 · go_simp; rfl)
              iterate 8
                (apply ordq_skip (ho := rfl)
                 · go_simp
                 apply ordq_norm
                 · go_simp; rfl)
              iterate 1
                (apply ordq_pure (ho := rfl)
                 · go_simp
                 · intro x hx; obtain ⟨x1, x2, x3, x4⟩ := hx; go_simp; rfl
                 apply ordq_norm
                 · go_simp; rfl)
              refine ordq_nil fun z hz => ?_
              have HB := hid hz
              clear hz HA
              go_wp2_with fail
              go_roundw
              case rel => exact ⟨k + 1, HK1.out, congrArg (Value.int .i64) HE8.out, by rw [HNX.out, HT.out]; exact HB.out.tail⟩
              case measure =>
                rw [HE8.out]
                have := HK1.out
                simp [intOf]
                omega
          · obtain rfl : k = S.length := by omega
            have e9 : (S.map RepA.rep).take S.length = S.map RepA.rep := List.take_of_length_le (by rw [List.length_map]; exact Nat.le_refl _)
            rw [e9] at hs
            obtain ⟨tsF, htsF⟩ : ∃ tsF, tsF = Dn.tkAll (S.map RepA.rep) (List.replicate N (0, 0)) := ⟨_, rfl⟩
            rw [← htsF] at hs
            have dk : decide (((S.length : Nat) : Int) < ((S.length : Nat) : Int)) = false := decide_eq_false (by omega)
            have KPA := hid (cPackets wr (.slice va0 S.length vc0) S (RepsAt.below HR3.out hs.below) HOK.out H15.out)
            have HTF := hid htsF
            have HE9 := hid e9
            have HSS := hid hs
            clear hs htsF e9 hx hk hlt
            go_wp2_with fail
            refine KPA.out.mono ?_
            rintro e w7 ⟨oa, oc, ovs, rfl, hov, h7⟩
            have h8 := Sts.add (stabC (rowP_stable _ _ _ _ _) (stabC (fopP_stable _ _ _ _ _ _) (stabC (blkP_stable _ _) (stabC (blkP_stable _ _) (stabC (dnP_stable _ _ _ _ _ _ _ _) (stabC (couP_stable _ _) (stab0))))))) HSS.out h7
            have H8 := hid (show Sts w3 (fopP fq (png N) 0 0 0 0 :: blkP g (.cells (staC fi u0 u1 u2 ar tq c fq mp 0 (N + 1)) 119 (0, 0)) :: blkP mp (cntO N) :: dnP fi u0 ar tq 0 (Dn.arcAll ((S.map RepA.rep).take 0) []) 0 (Dn.tkAll ((S.map RepA.rep).take 0) (List.replicate N (0, 0))) :: couP c 0 :: rowP 3 1 (.slice (some ⟨sg, 0, none⟩) M M) M (stg tsF) :: rowP 35 1 (.slice oa S.length oc) S.length ovs :: rowsP 5 ovs (ups 0 (S.map RepA.rep)) :: []) w7 from ((((((h8).perm (List.perm_middle (l₁ := [_, _, _]))).perm (.cons _ (List.perm_middle (l₁ := [_, _, _])))).perm (.cons _ (.cons _ (List.perm_middle (l₁ := [_, _, _]))))).perm (.cons _ (.cons _ (.cons _ (List.perm_middle (l₁ := [_, _, _])))))).perm (.cons _ (.cons _ (.cons _ (.cons _ (List.perm_middle (l₁ := [_, _, _]))))))).perm (.cons _ (.cons _ (.cons _ (.cons _ (.cons _ (List.perm_middle (l₁ := [_, _]))))))))
            have HOV := hid hov
            clear h7 h8 hov HSS KPA dk
            go_wp2_with fail
            go_loopw [12] (fun i wr => ∃ p fl fn tm, p ≤ S.length ∧ i = .int .i64 (p : Int) ∧ fl ≤ N ∧ fn ≤ p ∧ tm ≤ p ∧ Sts w3 (fopP fq (png N) fl fl fn tm :: blkP g (.cells (staC fi u0 u1 u2 ar tq c fq mp p (N + 1)) 119 (0, 0)) :: blkP mp (cntO N) :: dnP fi u0 ar tq p (Dn.arcAll ((S.map RepA.rep).take p) []) p (Dn.tkAll ((S.map RepA.rep).take p) (List.replicate N (0, 0))) :: couP c p :: rowP 3 1 (.slice (some ⟨sg, 0, none⟩) M M) M (stg tsF) :: rowP 35 1 (.slice oa S.length oc) S.length ovs :: rowsP 5 ovs (ups 0 (S.map RepA.rep)) :: []) wr) (fun i _ => S.length - (intOf i).toNat)
            case atStart => exact ⟨0, 0, 0, 0, Nat.zero_le _, rfl, Nat.zero_le _, Nat.le_refl _, Nat.le_refl _, H8.out⟩
            case round =>
              clear H8
              obtain ⟨p, fl, fn, tm, hp, rfl, hfl, hfn, htm, h⟩ := hrel
              by_cases hlt : p < S.length
              · obtain ⟨og, oc', eo⟩ := own_pos (h.tail.tail.tail.tail.tail.tail).rowOwn (by omega)
                injection eo with i1 i2 i3
                subst i1
                clear i3
                have hlR : p < (S.map RepA.rep).length := by rw [List.length_map]; exact hlt
                obtain ⟨F, hF⟩ := h.tail.tail.tail.tail.tail.tail.tail.head
                obtain ⟨vv, hv1, hv2, hv3⟩ := rowsP_rd hF p (by rw [ups_len]; exact hlR)
                have hup : (ups 0 (S.map RepA.rep))[p]'(by rw [ups_len]; exact hlR) = ((S.map RepA.rep)[p]).up p := by
                  have h1 := ups_get (S.map RepA.rep) 0 p hlR
                  rw [Nat.zero_add] at h1
                  exact (List.getElem?_eq_some_iff.1 h1).2
                obtain ⟨r, hr⟩ : ∃ r, r = (S.map RepA.rep)[p] := ⟨_, rfl⟩
                have hro : r.ok := by
                  rw [hr, List.getElem_map]
                  have hxo := HOK.out _ (List.getElem_mem hlt)
                  obtain ⟨_, _, _, _, hx⟩ := HR3.out
                  obtain ⟨_, _, cs, _, _, _, _, hE⟩ := hx p hlt
                  exact RepA.rep_ok hxo hE.2.1.2
                rw [hup, ← hr] at hv2
                have hul : (u8s (r.up p)).length = 260 := by rw [u8s_len]; show (Scr.mark ++ Scr.mix (r.frm p) (r.frm p).length).length = _; rw [List.length_append, Scr.mix_len, up_len p hro]; rfl
                obtain ⟨va, vc, e5⟩ := hv2.eq
                rw [hul] at e5
                subst e5
                have q0 : wr.cell? ⟨og, p, none⟩ = some (.slice va 260 vc) := Sts.rowCell (h.tail.tail.tail.tail.tail.tail) p hlt _ hv1
                have hu8 : ∀ x ∈ r.up p, x < 256 := by
                  intro x hx
                  rcases List.mem_append.1 hx with hx | hx
                  · simp only [Scr.mark, List.mem_cons, List.not_mem_nil, or_false] at hx
                    omega
                  · exact Scr.mix_lt _ _ (frm_lt p (by have := H15.out; omega) hro) x hx
                have HB := hid (Sts.alloc (stabC (fopP_stable _ _ _ _ _ _) (stabC (blkP_stable _ _) (stabC (blkP_stable _ _) (stabC (dnP_stable _ _ _ _ _ _ _ _) (stabC (couP_stable _ _) (stabC (rowP_stable _ _ _ _ _) (stabC (rowP_stable _ _ _ _ _) (stabC (rowsP_stable _ _ _) (stab0))))))))) h (.cells #[.slice va 260 vc] 35))
                have KS := hid (show ∀ y : World, Sts w3 (blkP g (.cells (staC fi u0 u1 u2 ar tq c fq mp p (N + 1)) 119 (0, 0)) :: blkP mp (cntO N) :: fopP fq (png N) fl fl fn tm :: dnP fi u0 ar tq p (Dn.arcAll ((S.map RepA.rep).take p) []) p (Dn.tkAll ((S.map RepA.rep).take p) (List.replicate N (0, 0))) :: couP c p :: blkP wr.heap.size (.cells #[.slice va 260 vc] 35 (0, 0)) :: rowP 3 1 (.slice (some ⟨sg, 0, none⟩) M M) M (stg tsF) :: rowP 35 1 (.slice (some ⟨og, 0, none⟩) S.length oc) S.length ovs :: rowsP 5 ovs (ups 0 (S.map RepA.rep)) :: []) y → Calls Tryz.prog 13 #[.pointer (some ⟨g, 0, none⟩), .slice (some ⟨wr.heap.size, 0, none⟩) 1 1] y (stepDPost w3 (blkP wr.heap.size (.cells #[.slice va 260 vc] 35 (0, 0)) :: rowP 3 1 (.slice (some ⟨sg, 0, none⟩) M M) M (stg tsF) :: rowP 35 1 (.slice (some ⟨og, 0, none⟩) S.length oc) S.length ovs :: rowsP 5 ovs (ups 0 (S.map RepA.rep)) :: []) g fi u0 u1 u2 ar tq c fq mp (N + 1) N (png N) fl p (p + [r].length) (Dn.arcAll [r] (Dn.arcAll ((S.map RepA.rep).take p) [])) (Dn.tkAll [r] (Dn.tkAll ((S.map RepA.rep).take p) (List.replicate N (0, 0))))) from fun y hy => by
                  have hAok : Arc.ok p (Dn.arcAll ((S.map RepA.rep).take p) []) := by
                    have h1 := arcAll_ok ((S.map RepA.rep).take p) 0 [] (fun r hr => by
                      have h2 := List.mem_of_mem_take hr
                      obtain ⟨x, hx, rfl⟩ := List.mem_map.1 h2
                      obtain ⟨q, hq, rfl⟩ := List.mem_iff_getElem.1 hx
                      obtain ⟨_, _, _, _, hX⟩ := HR3.out
                      obtain ⟨_, _, cs, _, _, _, _, hE⟩ := hX q hq
                      exact RepA.rep_ok (HOK.out _ hx) hE.2.1.2) ⟨by simp, by simp⟩
                    rw [List.length_take, Nat.min_eq_left (by omega), Nat.zero_add] at h1
                    exact h1
                  have h15 := H15.out
                  have h5 := HN5.out
                  refine cStepD (stabC (blkP_stable _ _) (stabC (rowP_stable _ _ _ _ _) (stabC (rowP_stable _ _ _ _ _) (stabC (rowsP_stable _ _ _) (stab0))))) g fi u0 u1 u2 ar tq c fq mp (N + 1) N (png N) fl fn tm p p (Dn.arcAll ((S.map RepA.rep).take p) []) p hAok (by omega) _ (by rw [Dn.tkAll_len, List.length_replicate]; omega) [r] (by simpa using hro) (by simp; omega) (some ⟨wr.heap.size, 0, none⟩) 1 (by simp) ?_ hy (by omega) (by omega) (by omega) (by rw [png_len]; omega) (by rw [png_len]; omega) (png_ok N h5).1 (png_ok N h5).2
                  intro B z hz q hq
                  have hq0 : q = 0 := by simpa using hq
                  subst hq0
                  refine ⟨_, va, vc, rfl, (Sts.boxCell hz.tail 0 _ rfl).1, ?_⟩
                  obtain ⟨F2, hF2⟩ := hz.tail.tail.tail.tail.head
                  obtain ⟨v2, g1, g2, _⟩ := rowsP_rd hF2 p (by rw [ups_len]; exact hlR)
                  rw [hup, ← hr] at g2
                  have e6 : v2 = .slice va 260 vc := by rw [hv1] at g1; injection g1 with g1; exact g1.symm
                  rw [e6] at g2
                  exact ⟨g2, hu8⟩)
                have HNX : Hid (Dn.arcAll [r] (Dn.arcAll ((S.map RepA.rep).take p) []) = Dn.arcAll ((S.map RepA.rep).take (p + 1)) [] ∧ Dn.tkAll [r] (Dn.tkAll ((S.map RepA.rep).take p) (List.replicate N (0, 0))) = Dn.tkAll ((S.map RepA.rep).take (p + 1)) (List.replicate N (0, 0))) := hid (by
                  rw [hr]
                  exact ⟨(take_fold (fun A r => Dn.Rep.arc r A) (S.map RepA.rep) p hlR []).symm, (take_fold (fun ts r => Dn.Rep.tk r ts) (S.map RepA.rep) p hlR (List.replicate N (0, 0))).symm⟩)
                have p0 : (0 : Int) ≤ (p : Int) := Int.natCast_nonneg _
                have p1 : (p : Int) < ((S.length : Nat) : Int) := by omega
                have HE8 : Hid (wrap64 ((p : Int) + 1) = ((p + 1 : Nat) : Int)) := hid (by have := H15.out; clear q0; unfold wrap64; omega)
                have HK1 : Hid (p + 1 ≤ S.length) := hid hlt
                have HFL := hid hfl
                clear h hF hv1 hv2 hv3 hup hro hr hul hu8 hlR hfl hfn htm hp hlt
                go_wp2_with fail
                refine (KS.out _ ((((((HB.out).perm (List.perm_middle (l₁ := [_, _]))).perm (.cons _ (List.perm_middle (l₁ := [_, _])))).perm (.cons _ (.cons _ (List.perm_middle (l₁ := [_]))))).perm (.cons _ (.cons _ (.cons _ (List.perm_middle (l₁ := [_])))))).perm (.cons _ (.cons _ (.cons _ (.cons _ (List.perm_middle (l₁ := [_])))))))).mono ?_
                rintro e w8 ⟨ov, ovs2, j, fn', tm', rfl, hj, hfn', htm', h9⟩
                have h10 := Sts.sub (h9) (.cons_cons _ (.cons_cons _ (.cons_cons _ (.cons_cons _ (.cons_cons _ (.cons _ (.cons _ (.cons _ (.cons_cons _ (.cons_cons _ (.cons_cons _ (List.Sublist.refl _))))))))))))
                rw [HNX.out.1, HNX.out.2] at h10
                have H10 := hid h10
                have HJ : Hid (fl + j ≤ N) := hid (by rw [png_len] at hj; have := HFL.out; omega)
                have HF1 := hid hfn'
                have HF2 := hid htm'
                clear h9 h10 hj hfn' htm' q0 KS HB
                go_wp2_with fail
                go_roundw
                case rel => exact ⟨p + 1, fl + j, fn', tm', HK1.out, congrArg (Value.int .i64) HE8.out, HJ.out, HF1.out, HF2.out, H10.out⟩
                case measure =>
                  rw [HE8.out]
                  have := HK1.out
                  simp [intOf]
                  omega
              · obtain rfl : p = S.length := by omega
                rw [HE9.out] at h
                have HZ0 := hid h
                have dk : decide (((S.length : Nat) : Int) < ((S.length : Nat) : Int)) = false := decide_eq_false (by omega)
                clear h hfl hfn htm hp hlt
                go_wp2_with fail
                go_loopw [13] (fun i wz => ∃ Q, 1 ≤ Q ∧ Q ≤ N + 1 ∧ i = .int .i64 (Q : Int) ∧ Sts w3 (fopP fq (png N) fl fl fn tm :: blkP g (.cells (staC fi u0 u1 u2 ar tq c fq mp S.length (N + 1)) 119 (0, 0)) :: blkP mp (cntO N) :: dnP fi u0 ar tq S.length (Dn.arcAll (S.map RepA.rep) []) S.length (Dn.tkAll (S.map RepA.rep) (List.replicate N (0, 0))) :: couP c S.length :: rowP 3 1 (.slice (some ⟨sg, 0, none⟩) M M) M (stg tsF) :: rowP 35 1 (.slice oa S.length oc) S.length ovs :: rowsP 5 ovs (ups 0 (S.map RepA.rep)) :: []) wz) (fun i _ => N + 1 - (intOf i).toNat)
                case atStart => exact ⟨1, Nat.le_refl _, by have := HN1.out; omega, rfl, HZ0.out⟩
                case round =>
                  clear HZ0 dk
                  obtain ⟨Q, hQ1, hQ2, rfl, h⟩ := hrel
                  by_cases hQN : Q ≤ N
                  · have dq : decide ((Q : Int) ≤ (N : Int)) = true := decide_eq_true (by omega)
                    have hqF : Q - 1 < tsF.length := by rw [HTF.out, Dn.tkAll_len, List.length_replicate]; omega
                    obtain ⟨sq, hsq⟩ : ∃ sq, sq = tsF[Q - 1].1 := ⟨_, rfl⟩
                    have HSQ : Hid ((stg tsF)[Q]? = some (.int .i64 sq)) := hid (by
                      have h1 := stg_get tsF (Q - 1) hqF
                      rw [show Q - 1 + 1 = Q by omega, ← hsq] at h1
                      exact h1)
                    have HSTG := hid (show ∀ x : World, Sts w3 (fopP fq (png N) fl fl fn tm :: blkP g (.cells (staC fi u0 u1 u2 ar tq c fq mp S.length (N + 1)) 119 (0, 0)) :: blkP mp (cntO N) :: dnP fi u0 ar tq S.length (Dn.arcAll (S.map RepA.rep) []) S.length (Dn.tkAll (S.map RepA.rep) (List.replicate N (0, 0))) :: couP c S.length :: rowP 3 1 (.slice (some ⟨sg, 0, none⟩) M M) M (stg tsF) :: rowP 35 1 (.slice oa S.length oc) S.length ovs :: rowsP 5 ovs (ups 0 (S.map RepA.rep)) :: []) x → Calls Tryz.prog 21 #[.pointer (some ⟨g, 0, none⟩), .int .i64 (Q : Int)] x fun e w' => e = .returned (.int .i64 sq) ∧ x = w' from fun x hy => by
                      have hh := ((Sts.split ((Sts.openDn ((hy).perm (List.perm_middle (l₁ := [_, _, _])))).perm (List.perm_middle (l₁ := [_, _])))).perm (List.perm_middle (l₁ := [_]))).perm (.cons _ (List.perm_middle (l₁ := [_, _, _, _])))
                      have hl2 : Q - 1 < (Dn.tkAll (S.map RepA.rep) (List.replicate N (0, 0))).length := by rw [← HTF.out]; exact hqF
                      have h1 := cStageS g fi u0 u1 u2 ar tq c fq mp hh (Q - 1) hl2 (by rw [Dn.tkAll_len, List.length_replicate]; have := HN5.out; omega)
                      rw [show Q - 1 + 1 = Q by omega] at h1
                      have e2 : (Dn.tkAll (S.map RepA.rep) (List.replicate N (0, 0)))[Q - 1].1 = sq := by rw [hsq]; congr 1; exact (List.getElem_of_eq HTF.out.symm _)
                      rw [e2] at h1
                      exact h1)
                    have HQM : Hid (Q < M) := hid (by have := HMM.out; omega)
                    have i0 : (0 : Int) ≤ (Q : Int) := Int.natCast_nonneg _
                    have i1 : (Q : Int) < (M : Int) := by have := HQM.out; omega
                    have HE8 : Hid (wrap64 ((Q : Int) + 1) = ((Q + 1 : Nat) : Int)) := hid (by have := HN5.out; unfold wrap64; omega)
                    have HK1 : Hid (Q ≤ N) := hid hQN
                    have HZ := hid h
                    clear h hqF hsq hQ1 hQ2
                    go_wp2_with fail
                    refine wp_region_ordQ (.pure 0 (.pure 1 (.pure 2 (.pure 3 (.pure 4 (.pure 5 (.pure 6 (.pure 7 .nil)))))))) (fun y => y.cell? ⟨sg, Q, none⟩ = some (.int .i64 sq) ∧ Sts w3 (fopP fq (png N) fl fl fn tm :: blkP g (.cells (staC fi u0 u1 u2 ar tq c fq mp S.length (N + 1)) 119 (0, 0)) :: blkP mp (cntO N) :: dnP fi u0 ar tq S.length (Dn.arcAll (S.map RepA.rep) []) S.length (Dn.tkAll (S.map RepA.rep) (List.replicate N (0, 0))) :: couP c S.length :: rowP 3 1 (.slice (some ⟨sg, 0, none⟩) M M) M (stg tsF) :: rowP 35 1 (.slice oa S.length oc) S.length ovs :: rowsP 5 ovs (ups 0 (S.map RepA.rep)) :: []) y) (fun y => Sts w3 (fopP fq (png N) fl fl fn tm :: blkP g (.cells (staC fi u0 u1 u2 ar tq c fq mp S.length (N + 1)) 119 (0, 0)) :: blkP mp (cntO N) :: dnP fi u0 ar tq S.length (Dn.arcAll (S.map RepA.rep) []) S.length (Dn.tkAll (S.map RepA.rep) (List.replicate N (0, 0))) :: couP c S.length :: rowP 3 1 (.slice (some ⟨sg, 0, none⟩) M M) M (stg tsF) :: rowP 35 1 (.slice oa S.length oc) S.length ovs :: rowsP 5 ovs (ups 0 (S.map RepA.rep)) :: []) y) (by kernel_rfl) (by kernel_rfl) (HZ.out.drew (stabC (fopP_stable _ _ _ _ _ _) (stabC (blkP_stable _ _) (stabC (blkP_stable _ _) (stabC (dnP_stable _ _ _ _ _ _ _ _) (stabC (couP_stable _ _) (stabC (rowP_stable _ _ _ _ _) (stabC (rowP_stable _ _ _ _ _) (stabC (rowsP_stable _ _ _) (stab0)))))))))) (fun y hy => ⟨Sts.rowCell hy.tail.tail.tail.tail.tail Q HQM.out _ HSQ.out, hy⟩) ?_
                    iterate 2
                      (apply ordq_pure (ho := rfl)
                       · go_simp
                       · intro x hx; obtain ⟨x1, x2⟩ := hx; go_simp; rfl
                       apply ordq_norm
                       · go_simp; rfl)
                    apply ordq_call (ho := rfl) (f := 21) (args := #[.pointer (some ⟨g, 0, none⟩), .int .i64 (Q : Int)]) (v := .int .i64 sq) (h2 := fun x hx => HSTG.out x hx.2)
                    · go_simp
                    · intro x hx; go_simp
                    apply ordq_norm
                    · go_simp; rfl
                    iterate 5
                      (apply ordq_pure (ho := rfl)
                       · go_simp
                       · intro x hx; obtain ⟨x1, x2⟩ := hx; go_simp; rfl
                       apply ordq_norm
                       · go_simp; rfl)
                    refine ordq_nil fun z hz => ?_
                    have HZ2 := hid hz
                    clear hz HZ
                    clear dq
                    go_wp2_with fail
                    go_roundw
                    case rel => exact ⟨Q + 1, by omega, by have := HK1.out; omega, congrArg (Value.int .i64) HE8.out, HZ2.out⟩
                    case measure =>
                      rw [HE8.out]
                      have := HK1.out
                      simp [intOf]
                      omega
                  · have dq : decide ((Q : Int) ≤ (N : Int)) = false := decide_eq_false (by omega)
                    have KN := hid (cNowS g fi u0 u1 u2 ar tq c fq mp h.tail)
                    have HZ := hid h
                    clear h hQ1 hQ2
                    go_wp2_with (go_at_call 22; refine KN.out.mono ?_; rintro e w9 ⟨rfl, rfl⟩)
                    go_ret
                    exact ⟨rfl, (Sts.quiet stab0 (Sts.nil_below HB3.out) HZ.out.below).below⟩

end Go.Proofs.YtnklmadmenkdoaaGreat
