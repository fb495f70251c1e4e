/- StationArchives: the law, every input. -/
import Derived.Test.YtnklmadmenkdoaaGreatQLdH
import Derived.Test.YtnklmadmenkdoaaGreatArvE
set_option linter.unusedVariables false
set_option linter.unusedSimpArgs false
namespace Arc
theorem itms_ok {N : Nat} {m : Arch} (h : ok N m) (a : Nat) : ∀ e ∈ itms m a, ∀ x ∈ e.d, x < 256 := by
  intro e he
  unfold itms at he
  split at he
  · rename_i hi
    obtain ⟨hf, _⟩ := isA_get hi
    rw [List.getD_eq_getElem?_getD, List.getElem?_eq_getElem hf] at he
    have h2 := (h.2 _ (List.getElem_mem hf)).2.all e he
    exact h2.2.2.2.2.2.1
  · cases he
theorem itms_len {N : Nat} {m : Arch} (h : ok N m) (a : Nat) : (itms m a).length ≤ N := by
  unfold itms
  split
  · rename_i hi
    obtain ⟨hf, _⟩ := isA_get hi
    rw [List.getD_eq_getElem?_getD, List.getElem?_eq_getElem hf]
    exact (h.2 _ (List.getElem_mem hf)).2.le
  · exact Nat.zero_le _
end Arc
namespace Go.Proofs.YtnklmadmenkdoaaGreat
open Go.RowKit Go.Proofs.Num Go.ChangeShapes
section
variable {W w : World} {l : List HProp}
theorem tk_newA {tq : Nat} (h : Sts W (blkP tq (.cells #[.bool true, .int .i64 0, .int .i64 220, .slice none 0 0] 211 (0, 0)) :: l) w) : Sts W (tkP tq 0 [] :: l) w :=
  Sts.closeT0 (now := 0) (Nat.le_refl _) (h.weaken (fun F hF => ⟨⟨_, _, _, hF.1, Or.inl rfl, fun i hi => by
    rw [Nat.zero_add]
    have hi4 : i < 4 := hi
    have hc : i = 0 ∨ i = 1 ∨ i = 2 ∨ i = 3 := by omega
    rcases hc with rfl | rfl | rfl | rfl <;> rfl⟩, hF.2⟩))
set_option maxRecDepth 100000 in
theorem cStaArchive (hl : ∀ B ∈ l, Stable B) (g fi u0 u1 u2 ar tq c fq mp now next N : Nat) (A : Arc.Arch) (hok : Arc.ok N A) (hN : N ≤ 900) (hs : Sts W (blkP g (.cells (staC fi u0 u1 u2 ar tq c fq mp now next) 119 (0, 0)) :: arcP ar A :: l) w) :
    Calls Tryz.prog 29 #[.pointer (some ⟨g, 0, none⟩)] w fun e w' => ∃ o, e = .returned (.pointer (some ⟨o, 0, none⟩)) ∧ Sts W (arcP o A :: arcP ar A :: blkP g (.cells (staC fi u0 u1 u2 ar tq c fq mp now next) 119 (0, 0)) :: l) w' := by
  have HU := hid (cStaUsable g fi u0 u1 u2 ar tq c fq mp hs)
  have c4 : w.cell? ⟨g, 4, none⟩ = some (.pointer (some ⟨ar, 0, none⟩)) := (Sts.boxCell hs 4 _ rfl).1
  have KC := hid (cArcCloneP (stabC (blkP_stable _ _) hl) ar N A hok hN hs.swap)
  clear hs hl hok hN
  go_enter Tryz.func29, Tryz.ntmps29
  go_wp2_with (first
    | (go_at_call 42; refine HU.out.mono ?_; rintro e w1 ⟨rfl, rfl⟩))
  refine KC.out.mono ?_
  rintro e w1 ⟨o, rfl, h1⟩
  have H1 := hid h1
  clear h1 KC c4 HU
  go_wp2_with fail
  go_ret
  exact ⟨o, rfl, H1.out⟩
end
set_option maxRecDepth 100000 in
set_option maxHeartbeats 32000000 in
theorem cArchivesLaw (w : World) (v : Value) (S : List RepA) (hS : RepsAt w v S) :
    Calls Tryz.prog 7 #[v] w fun e w' => e = .returned (.bool true) ∧ Below w.heap.size w w' := by
  have hu : @Go.yielded.match_1 (fun _ => Option Bool) (some undef) (fun b => some b) (fun _ => none) = none := rfl
  have HS := hid hS
  clear hS
  go_enter Tryz.func7, Tryz.ntmps7
  go_wp2_with (first
    | (go_at_call 8; refine (cAwakeW _).mono ?_; rintro e w1 ⟨rfl, hb1⟩; have HB1 := hid hb1; clear hb1))
  refine (cRight w1 v S (RepsAt.below HS.out HB1.out)).mono ?_
  rintro e w2 ⟨b, rfl, hb2, hall⟩
  have HB2 := hid ((Sts.quiet stab0 (Sts.nil_below HB1.out) hb2).below)
  clear hb2
  cases b with
  | false =>
    clear hall
    go_wp2_with fail
    go_ret
    exact ⟨rfl, HB2.out⟩
  | true =>
    obtain ⟨h15, hok⟩ := hall rfl
    have H15 := hid h15
    have HOK := hid hok
    clear hall h15 hok
    go_wp2_with (first
      | (go_at_call 10; refine (cConfig _).mono ?_; rintro e w0 ⟨rfl, hb3⟩; have HB3 := hid ((Sts.quiet stab0 (Sts.nil_below HB2.out) hb3).below); clear hb3)
      | (go_at_call 9; refine (cStart2 _).mono ?_; rintro e w4 ⟨g, fi, u0, u1, u2, ar, tq, c, fq, mp, rfl, h4⟩; have H4 := hid h4; clear h4))
    have H4b := hid (show Sts w0 (blkP g (.cells (staC fi u0 u1 u2 ar tq c fq mp 0 1) 119 (0, 0)) :: blkP mp (cntO 0) :: fopP fq [] 0 0 0 0 :: dnP fi u0 ar tq 0 [] 0 [] :: couP c 0 :: []) w4 from (((Sts.closeDn (((Sts.join (C := rcvP ar tq [] 0 []) ((tk_newA ((H4.out).perm (List.perm_middle (l₁ := [_, _, _])))).perm (List.perm_middle (l₁ := [_, _, _, _, _, _, _]))) (fun F hF => hF)).perm (List.perm_middle (l₁ := [_, _, _, _, _]))).perm (.cons _ (List.perm_middle (l₁ := [_, _, _, _, _]))))).perm (List.perm_middle (l₁ := [_]))).perm (.cons _ (List.perm_middle (l₁ := [_])))).perm (.cons _ (.cons _ (List.perm_middle (l₁ := [_])))))
    clear H4
    refine (cArcNewP (stabC (blkP_stable _ _) (stabC (blkP_stable _ _) (stabC (fopP_stable _ _ _ _ _ _) (stabC (dnP_stable _ _ _ _ _ _ _ _) (stabC (couP_stable _ _) (stab0)))))) H4b.out).mono ?_
    rintro e w5 ⟨aq, rfl, h5⟩
    have H5 := hid h5
    clear h5 H4b
    go_wp2_with fail
    have HR3 := hid (RepsAt.below HS.out HB3.out)
    clear HS
    have HAK := hid (show ∀ k, k ≤ S.length → Arc.ok k (Dn.arcAll ((S.map RepA.rep).take k) []) from fun k hk => by
      have h1 := arcAll_ok ((S.map RepA.rep).take k) 0 [] (fun r hr => by
        have h2 := List.mem_of_mem_take hr
        obtain ⟨x, hx, rfl⟩ := List.mem_map.1 h2
        obtain ⟨q, hq, rfl⟩ := List.mem_iff_getElem.1 hx
        obtain ⟨_, _, _, _, hX⟩ := HR3.out
        obtain ⟨_, _, cs, _, _, _, _, hE⟩ := hX q hq
        exact RepA.rep_ok (HOK.out _ hx) hE.2.1.2) ⟨by simp, by simp⟩
      rw [List.length_take, List.length_map, Nat.min_eq_left hk, Nat.zero_add] at h1
      exact h1)
    go_loopw [6] (fun i wr => ∃ k, k ≤ S.length ∧ i = .int .i64 (k : Int) ∧ Sts w0 (arcP aq (Dn.arcAll ((S.map RepA.rep).take k) []) :: blkP g (.cells (staC fi u0 u1 u2 ar tq c fq mp 0 1) 119 (0, 0)) :: blkP mp (cntO 0) :: fopP fq [] 0 0 0 0 :: dnP fi u0 ar tq 0 [] 0 [] :: couP c 0 :: []) wr) (fun i _ => S.length - (intOf i).toNat)
    case atStart => exact ⟨0, Nat.zero_le _, rfl, H5.out⟩
    case round =>
      clear H5
      obtain ⟨k, hk, rfl, hs⟩ := hrel
      obtain ⟨va0, vc0, e0, _, hX⟩ := HR3.out
      subst e0
      by_cases hlt : k < S.length
      · have dk : decide ((k : Int) < ((S.length : Nat) : Int)) = true := decide_eq_true (by omega)
        obtain ⟨ab, aoff, cs, ha0, hab, hcl, hcell, hE⟩ := hX k hlt
        subst ha0
        obtain ⟨x, hx⟩ : ∃ x, x = S[k] := ⟨_, rfl⟩
        rw [← hx] at hE
        obtain ⟨rfl, hD, hnl⟩ := hE
        have hxo : x.ok := by rw [hx]; exact HOK.out _ (List.getElem_mem _)
        obtain ⟨r, hr⟩ : ∃ r, r = x.rep := ⟨_, rfl⟩
        have hro : r.ok := by rw [hr]; exact RepA.rep_ok hxo hD.2
        obtain ⟨a, ha⟩ : ∃ a : Nat, x.a = (a : Int) := ⟨x.a.toNat, by have := hxo.ha; omega⟩
        obtain ⟨cc, hc⟩ : ∃ c : Nat, x.c = (c : Int) := ⟨x.c.toNat, by have := hxo.hc; omega⟩
        obtain ⟨t, ht⟩ : ∃ t : Nat, x.t = (t : Int) := ⟨x.t.toNat, by have := hxo.ht; omega⟩
        have hra : r.a = a := by rw [hr]; show x.a.toNat = a; omega
        have hrc : r.c = cc := by rw [hr]; show x.c.toNat = cc; omega
        have hrt : r.t = t := by rw [hr]; show x.t.toNat = t; omega
        have HC3 := hid (show ∀ y : World, Below w0.heap.size w0 y → y.cell? ⟨ab, aoff + k * 8, none⟩ = some (.int .i64 (a : Int)) ∧ y.cell? ⟨ab, aoff + k * 8 + 1, none⟩ = some (.int .i64 (cc : Int)) ∧ y.cell? ⟨ab, aoff + k * 8 + 2, none⟩ = some (.int .i64 (t : Int)) from fun y hy => ⟨(hy.cell hab).trans (by rw [← ha]; exact hcell 0 (by simp)), (hy.cell hab).trans (by rw [← hc]; exact hcell 1 (by simp)), (hy.cell hab).trans (by rw [← ht]; exact hcell 2 (by simp))⟩)
        have q0 := (HC3.out _ hs.below).1
        have q7 : wr.cell? ⟨ab, aoff + k * 8 + 7, none⟩ = some (.slice x.da x.d.length x.dc) := (hs.below.cell hab).trans (hcell 7 (by simp))
        have p0 : (0 : Int) ≤ (k : Int) := Int.natCast_nonneg _
        have p1 : (k : Int) < ((S.length : Nat) : Int) := by omega
        obtain ⟨A1, hAB⟩ : ∃ A1, A1 = (Dn.arcAll ((S.map RepA.rep).take k) []) := ⟨_, rfl⟩
        rw [← hAB] at hs
        have HNX : Hid (Dn.arcAll ((S.map RepA.rep).take (k + 1)) [] = r.arc A1) := hid (by
          have h := take_fold (fun A r => Dn.Rep.arc r A) (S.map RepA.rep) k (by rw [List.length_map]; exact hlt) []
          rw [List.getElem_map, ← hx, ← hr] at h
          rw [hAB]
          exact h)
        have hAok : Arc.ok k A1 := by rw [hAB]; exact HAK.out k hk
        have HAOK := hid hAok
        have hok15 := H15.out
        have HK900 : Hid (k ≤ 900) := hid (by omega)
        have ha9 := hxo.ha
        have hc9 := hxo.hc
        have ht9 := hxo.ht
        have HA2 : Hid (a ≤ 2046) := hid (by omega)
        have HC2 : Hid (cc < 16384) := hid (by omega)
        have HT2 : Hid (t ≤ 1099511627776) := hid (by omega)
        have HK1 : Hid (k + 1 ≤ S.length) := hid hlt
        have hE8x : wrap64 ((k : Int) + 1) = ((k + 1 : Nat) : Int) := by unfold wrap64; omega
        have HE8 := hid hE8x
        by_cases ha1 : a = 1
        · have d1 : ((a : Int) == 1) = true := by rw [ha1]; rfl
          have hok := hxo.hk (by omega)
          have hv := (Ver.ok_iff _ _ _ _).1 hok
          obtain ⟨s, hs0⟩ : ∃ s : Nat, x.s = (s : Int) := ⟨x.s.toNat, by omega⟩
          obtain ⟨n, hn0⟩ : ∃ n : Nat, x.n = (n : Int) := ⟨x.n.toNat, by omega⟩
          obtain ⟨st, hst0⟩ : ∃ st : Nat, x.st = (st : Int) := ⟨x.st.toNat, by omega⟩
          obtain ⟨co, hco0⟩ : ∃ co : Nat, x.co = (co : Int) := ⟨x.co.toNat, by omega⟩
          have q3 : wr.cell? ⟨ab, aoff + k * 8 + 3, none⟩ = some (.int .i64 (s : Int)) := (hs.below.cell hab).trans (by rw [← hs0]; exact hcell 3 (by simp))
          have q4 : wr.cell? ⟨ab, aoff + k * 8 + 4, none⟩ = some (.int .i64 (n : Int)) := (hs.below.cell hab).trans (by rw [← hn0]; exact hcell 4 (by simp))
          have q5 : wr.cell? ⟨ab, aoff + k * 8 + 5, none⟩ = some (.int .i64 (st : Int)) := (hs.below.cell hab).trans (by rw [← hst0]; exact hcell 5 (by simp))
          have q6 : wr.cell? ⟨ab, aoff + k * 8 + 6, none⟩ = some (.int .i64 (co : Int)) := (hs.below.cell hab).trans (by rw [← hco0]; exact hcell 6 (by simp))
          rw [hs0, hn0, hst0, hco0] at hok
          obtain ⟨D, hDD⟩ : ∃ D, D = ackB s n st co := ⟨_, rfl⟩
          obtain ⟨m, hm5⟩ : ∃ m, m = 5 := ⟨_, rfl⟩
          have hDm : D.length = m := by rw [hDD, hm5]; rfl
          have HDM := hid hDm
          have HDU : Hid ((u8s D).length = m) := hid (by rw [u8s_len, hDm])
          have hrD : r.d = D := by
            rw [hr, hDD]
            show (if x.a = 1 then ackB x.s.toNat x.n.toNat x.st.toNat x.co.toNat else x.d) = _
            rw [if_pos (by omega), hs0, hn0, hst0, hco0]
            rfl
          have hD8 : ∀ y ∈ D, y < 256 := by rw [← hrD]; exact hro.h8
          have HD8 := hid hD8
          have hd9 := hro.hd2
          have HD2 : Hid (D.length ≤ 4096) := hid (by rw [← hrD]; omega)
          have HARC : Hid (r.arc A1 = Arc.add A1 a cc t D) := hid (by unfold Dn.Rep.arc; rw [hra, hrc, hrt, hrD])
          have HS := hid hs
          have KAC := hid (show Calls Tryz.prog 35 #[.agg #[.int .i64 (s : Int), .int .i64 (n : Int), .int .i64 (st : Int), .int .i64 (co : Int)]] wr fun e w' => ∃ r, e = .returned r ∧ New wr w' 5 r (u8s (ackB s n st co)) from cR56Ack wr s n st co hok)
          rw [← hDD] at KAC
          clear hs hlt hk hxo hro hx hr hE8x hok hv hra hrc hrt ha hc ht ha1 hrD hDm hm5 hs0 hn0 hst0 hco0 hDD hab hcell hnl hD hAB hok15 hAok ha9 hc9 ht9 hd9 hD8
          go_wp2_with fail
          refine KAC.out.mono ?_
          rintro e w6 ⟨rv, rfl, hn⟩
          obtain ⟨ra, rc, hrv⟩ : ∃ ra rc, rv = .slice ra m rc := by
            obtain ⟨x, y, e⟩ := own_slice hn.1
            rw [HDU.out] at e
            exact ⟨x, y, e⟩
          subst hrv
          have h6 := Sts.new (stabC (arcP_stable _ _) (stabC (blkP_stable _ _) (stabC (blkP_stable _ _) (stabC (fopP_stable _ _ _ _ _ _) (stabC (dnP_stable _ _ _ _ _ _ _ _) (stabC (couP_stable _ _) (stab0))))))) HS.out hn
          rw [HDU.out] at h6
          have HB := hid h6.swap
          have KADD := hid (show ∀ y : World, Sts w0 (arcP aq A1 :: rowP 5 1 (.slice ra m rc) m (u8s D) :: blkP g (.cells (staC fi u0 u1 u2 ar tq c fq mp 0 1) 119 (0, 0)) :: blkP mp (cntO 0) :: fopP fq [] 0 0 0 0 :: dnP fi u0 ar tq 0 [] 0 [] :: couP c 0 :: []) y → Calls Tryz.prog 36 #[.pointer (some ⟨aq, 0, none⟩), .agg (itmV a cc t (.slice ra m rc))] y fun e w' => (∃ er, e = .returned (.int .i64 er)) ∧ Sts w0 (arcP aq (r.arc A1) :: rowP 5 1 (.slice ra m rc) m (u8s D) :: blkP g (.cells (staC fi u0 u1 u2 ar tq c fq mp 0 1) 119 (0, 0)) :: blkP mp (cntO 0) :: fopP fq [] 0 0 0 0 :: dnP fi u0 ar tq 0 [] 0 [] :: couP c 0 :: []) w' from fun y hy => by
            have h := cAddP (stabC (rowP_stable _ _ _ _ _) (stabC (blkP_stable _ _) (stabC (blkP_stable _ _) (stabC (fopP_stable _ _ _ _ _ _) (stabC (dnP_stable _ _ _ _ _ _ _ _) (stabC (couP_stable _ _) (stab0))))))) aq k A1 HAOK.out HK900.out a cc t ra rc D HA2.out HC2.out HT2.out HD2.out (by rw [HDM.out]; exact ⟨Rds.row HDU.out (List.mem_cons_self ..), HD8.out⟩) (by rw [HDM.out]; exact NilOk.own (Sts.rowOwn h6)) hy
            rw [HDM.out] at h
            rw [HARC.out]
            exact h)
          clear h6 hn KAC HS q3 q4 q5 q6 q7 q0
          go_wp2_with fail
          refine wp_region_ordQ (.pure 0 (.pure 1 (.pure 2 (.pure 3 (.pure 4 (.pure 5 (.pure 6 (.pure 7 (.pure 8 (.pure 9 (.pure 10 (.pure 11 (.pure 12 (.pure 13 (.pure 14 (.pure 15 (.pure 16 (.pure 17 (.eff 18 .nil))))))))))))))))))) (fun y => y.cell? ⟨ab, aoff + k * 8, none⟩ = some (.int .i64 (a : Int)) ∧ y.cell? ⟨ab, aoff + k * 8 + 1, none⟩ = some (.int .i64 (cc : Int)) ∧ y.cell? ⟨ab, aoff + k * 8 + 2, none⟩ = some (.int .i64 (t : Int))) (fun y => Sts w0 (arcP aq A1 :: rowP 5 1 (.slice ra m rc) m (u8s D) :: blkP g (.cells (staC fi u0 u1 u2 ar tq c fq mp 0 1) 119 (0, 0)) :: blkP mp (cntO 0) :: fopP fq [] 0 0 0 0 :: dnP fi u0 ar tq 0 [] 0 [] :: couP c 0 :: []) y) (by kernel_rfl) (by kernel_rfl) (HB.out.drew (stabC (arcP_stable _ _) (stabC (rowP_stable _ _ _ _ _) (stabC (blkP_stable _ _) (stabC (blkP_stable _ _) (stabC (fopP_stable _ _ _ _ _ _) (stabC (dnP_stable _ _ _ _ _ _ _ _) (stabC (couP_stable _ _) (stab0))))))))) (fun y hy => HC3.out y hy.below) ?_
          iterate 18
            (apply ordq_pure (ho := rfl)
             · go_simp
             · intro x hx; obtain ⟨x1, x2, x3⟩ := hx; go_simp; rfl
             apply ordq_norm
             · go_simp; rfl)
          apply ordq_eff (ho := rfl)
          · go_simp
          intro y hy
          refine eff_call (f := 36) (by go_simp) (KADD.out y hy) ?_
          rintro e w3 ⟨⟨er, rfl⟩, h3⟩
          refine ⟨_, rfl, (fun y => y.cell? ⟨ab, aoff + k * 8, none⟩ = some (.int .i64 (a : Int)) ∧ y.cell? ⟨ab, aoff + k * 8 + 1, none⟩ = some (.int .i64 (cc : Int)) ∧ y.cell? ⟨ab, aoff + k * 8 + 2, none⟩ = some (.int .i64 (t : Int))), (fun y => Sts w0 (arcP aq (r.arc A1) :: rowP 5 1 (.slice ra m rc) m (u8s D) :: blkP g (.cells (staC fi u0 u1 u2 ar tq c fq mp 0 1) 119 (0, 0)) :: blkP mp (cntO 0) :: fopP fq [] 0 0 0 0 :: dnP fi u0 ar tq 0 [] 0 [] :: couP c 0 :: []) y), h3, (fun y hy => HC3.out y hy.below), (fun _ h => h), ?_⟩
          clear h3 hy y 
          apply ordq_norm
          · go_simp; rfl
          refine ordq_nil fun z hz => ?_
          have HZ := hid hz
          clear hz HB
          have H9 := hid (Sts.sub (HZ.out) (.cons_cons _ (.cons _ (.cons_cons _ (.cons_cons _ (.cons_cons _ (.cons_cons _ (.cons_cons _ (List.Sublist.refl _)))))))))
          clear HZ
          go_wp2_with fail
          go_roundw
          case rel => exact ⟨k + 1, HK1.out, congrArg (Value.int .i64) HE8.out, by rw [HNX.out]; exact H9.out⟩
          case measure =>
            rw [HE8.out]
            have := HK1.out
            simp [intOf]
            omega
        · have d1 : ((a : Int) == 1) = false := by rw [beq_eq_false_iff_ne]; omega
          obtain ⟨m, hDm⟩ : ∃ m, x.d.length = m := ⟨_, rfl⟩
          obtain ⟨D, hDD⟩ : ∃ D, x.d = D := ⟨_, rfl⟩
          obtain ⟨da, hda⟩ : ∃ da, x.da = da := ⟨_, rfl⟩
          obtain ⟨dc, hdc⟩ : ∃ dc, x.dc = dc := ⟨_, rfl⟩
          have hrD : r.d = D := by
            rw [hr, ← hDD]
            show (if x.a = 1 then ackB x.s.toNat x.n.toNat x.st.toNat x.co.toNat else x.d) = _
            rw [if_neg (by omega)]
          rw [hDm, hda, hdc] at q7 hD
          rw [hda, hdc] at hnl
          rw [hDD] at hDm hD
          have HDM := hid hDm
          have hD8 : ∀ y ∈ D, y < 256 := hD.2
          have hd9 := hro.hd2
          have HD2 : Hid (D.length ≤ 4096) := hid (by rw [← hrD]; omega)
          have HARC : Hid (r.arc A1 = Arc.add A1 a cc t D) := hid (by unfold Dn.Rep.arc; rw [hra, hrc, hrt, hrD])
          have HRD := hid (show RdB w0 (.slice da D.length dc) D from by rw [hDm]; exact hD)
          have HNL := hid (show NilOk (.slice da D.length dc) from fun c' h => by injection h with h1 h2 h3; rw [← h3]; exact hnl h1)
          clear hDD hda hdc
          have HB := hid hs
          have KADD := hid (show ∀ y : World, Sts w0 (arcP aq A1 :: blkP g (.cells (staC fi u0 u1 u2 ar tq c fq mp 0 1) 119 (0, 0)) :: blkP mp (cntO 0) :: fopP fq [] 0 0 0 0 :: dnP fi u0 ar tq 0 [] 0 [] :: couP c 0 :: []) y → Calls Tryz.prog 36 #[.pointer (some ⟨aq, 0, none⟩), .agg (itmV a cc t (.slice da m dc))] y fun e w' => (∃ er, e = .returned (.int .i64 er)) ∧ Sts w0 (arcP aq (r.arc A1) :: blkP g (.cells (staC fi u0 u1 u2 ar tq c fq mp 0 1) 119 (0, 0)) :: blkP mp (cntO 0) :: fopP fq [] 0 0 0 0 :: dnP fi u0 ar tq 0 [] 0 [] :: couP c 0 :: []) w' from fun y hy => by
            have h := cAddP (stabC (blkP_stable _ _) (stabC (blkP_stable _ _) (stabC (fopP_stable _ _ _ _ _ _) (stabC (dnP_stable _ _ _ _ _ _ _ _) (stabC (couP_stable _ _) (stab0)))))) aq k A1 HAOK.out HK900.out a cc t da dc D HA2.out HC2.out HT2.out HD2.out (RdsB.arg HRD.out) HNL.out hy
            rw [HDM.out] at h
            rw [HARC.out]
            exact h)
          clear hs hlt hk hxo hro hx hr hE8x hra hrc hrt ha hc ht ha1 hrD hDm hab hcell hnl hD hAB hok15 hAok ha9 hc9 ht9 hd9 hD8
          go_wp2_with fail
          refine wp_region_ordQ (.pure 0 (.pure 1 (.pure 2 (.pure 3 (.pure 4 (.pure 5 (.pure 6 (.pure 7 (.pure 8 (.pure 9 (.pure 10 (.pure 11 (.pure 12 (.pure 13 (.pure 14 (.pure 15 (.pure 16 (.pure 17 (.eff 18 .nil))))))))))))))))))) (fun y => y.cell? ⟨ab, aoff + k * 8, none⟩ = some (.int .i64 (a : Int)) ∧ y.cell? ⟨ab, aoff + k * 8 + 1, none⟩ = some (.int .i64 (cc : Int)) ∧ y.cell? ⟨ab, aoff + k * 8 + 2, none⟩ = some (.int .i64 (t : Int))) (fun y => Sts w0 (arcP aq A1 :: blkP g (.cells (staC fi u0 u1 u2 ar tq c fq mp 0 1) 119 (0, 0)) :: blkP mp (cntO 0) :: fopP fq [] 0 0 0 0 :: dnP fi u0 ar tq 0 [] 0 [] :: couP c 0 :: []) y) (by kernel_rfl) (by kernel_rfl) (HB.out.drew (stabC (arcP_stable _ _) (stabC (blkP_stable _ _) (stabC (blkP_stable _ _) (stabC (fopP_stable _ _ _ _ _ _) (stabC (dnP_stable _ _ _ _ _ _ _ _) (stabC (couP_stable _ _) (stab0)))))))) (fun y hy => HC3.out y hy.below) ?_
          iterate 18
            (apply ordq_pure (ho := rfl)
             · go_simp
             · intro x hx; obtain ⟨x1, x2, x3⟩ := hx; go_simp; rfl
             apply ordq_norm
             · go_simp; rfl)
          apply ordq_eff (ho := rfl)
          · go_simp
          intro y hy
          refine eff_call (f := 36) (by go_simp) (KADD.out y hy) ?_
          rintro e w3 ⟨⟨er, rfl⟩, h3⟩
          refine ⟨_, rfl, (fun y => y.cell? ⟨ab, aoff + k * 8, none⟩ = some (.int .i64 (a : Int)) ∧ y.cell? ⟨ab, aoff + k * 8 + 1, none⟩ = some (.int .i64 (cc : Int)) ∧ y.cell? ⟨ab, aoff + k * 8 + 2, none⟩ = some (.int .i64 (t : Int))), (fun y => Sts w0 (arcP aq (r.arc A1) :: blkP g (.cells (staC fi u0 u1 u2 ar tq c fq mp 0 1) 119 (0, 0)) :: blkP mp (cntO 0) :: fopP fq [] 0 0 0 0 :: dnP fi u0 ar tq 0 [] 0 [] :: couP c 0 :: []) y), h3, (fun y hy => HC3.out y hy.below), (fun _ h => h), ?_⟩
          clear h3 hy y 
          apply ordq_norm
          · go_simp; rfl
          refine ordq_nil fun z hz => ?_
          have HZ := hid hz
          clear hz HB
          have H9 := hid (HZ.out)
          clear HZ
          go_wp2_with fail
          go_roundw
          case rel => exact ⟨k + 1, HK1.out, congrArg (Value.int .i64) HE8.out, by rw [HNX.out]; exact H9.out⟩
          case measure =>
            rw [HE8.out]
            have := HK1.out
            simp [intOf]
            omega
      · obtain rfl : k = S.length := by omega
        have dk : decide (((S.length : Nat) : Int) < ((S.length : Nat) : Int)) = false := decide_eq_false (by omega)
        have e9 : (S.map RepA.rep).take S.length = S.map RepA.rep := List.take_of_length_le (by rw [List.length_map]; exact Nat.le_refl _)
        have hAok := HAK.out S.length (Nat.le_refl _)
        rw [e9] at hs hAok
        have HAOK := hid hAok
        have KPA := hid (cPackets wr (.slice va0 S.length vc0) S (RepsAt.below HR3.out hs.below) HOK.out H15.out)
        have HSS := hid hs
        clear hs hX hk hlt hAok
        go_wp2_with fail
        refine KPA.out.mono ?_
        rintro e w7 ⟨oa, oc, ovs, rfl, hov, h7⟩
        have h8 := Sts.add (stabC (arcP_stable _ _) (stabC (blkP_stable _ _) (stabC (blkP_stable _ _) (stabC (fopP_stable _ _ _ _ _ _) (stabC (dnP_stable _ _ _ _ _ _ _ _) (stabC (couP_stable _ _) (stab0))))))) HSS.out h7
        have H8 := hid (show Sts w0 (blkP g (.cells (staC fi u0 u1 u2 ar tq c fq mp 0 1) 119 (0, 0)) :: blkP mp (cntO 0) :: fopP fq [] 0 0 0 0 :: dnP fi u0 ar tq 0 [] 0 [] :: couP c 0 :: rowP 35 1 (.slice oa S.length oc) S.length ovs :: rowsP 5 ovs (ups 0 (S.map RepA.rep)) :: arcP aq (Dn.arcAll (S.map RepA.rep) []) :: []) w7 from (((((h8).perm (List.perm_middle (l₁ := [_, _, _]))).perm (.cons _ (List.perm_middle (l₁ := [_, _, _])))).perm (.cons _ (.cons _ (List.perm_middle (l₁ := [_, _, _]))))).perm (.cons _ (.cons _ (.cons _ (List.perm_middle (l₁ := [_, _, _])))))).perm (.cons _ (.cons _ (.cons _ (.cons _ (List.perm_middle (l₁ := [_, _, _])))))))
        have HOV := hid hov
        clear h7 h8 hov HSS KPA dk
        have KS := hid (show ∀ y : World, Sts w0 (blkP g (.cells (staC fi u0 u1 u2 ar tq c fq mp 0 1) 119 (0, 0)) :: blkP mp (cntO 0) :: fopP fq [] 0 0 0 0 :: dnP fi u0 ar tq 0 [] 0 [] :: couP c 0 :: rowP 35 1 (.slice oa S.length oc) S.length ovs :: rowsP 5 ovs (ups 0 (S.map RepA.rep)) :: arcP aq (Dn.arcAll (S.map RepA.rep) []) :: []) y → Calls Tryz.prog 13 #[.pointer (some ⟨g, 0, none⟩), .slice oa S.length oc] y (stepDPost w0 (rowP 35 1 (.slice oa S.length oc) S.length ovs :: rowsP 5 ovs (ups 0 (S.map RepA.rep)) :: arcP aq (Dn.arcAll (S.map RepA.rep) []) :: []) g fi u0 u1 u2 ar tq c fq mp 1 0 [] 0 0 (0 + S.length) (Dn.arcAll (S.map RepA.rep) []) (Dn.tkAll (S.map RepA.rep) [])) from fun y hy => by
          have hlen : (S.map RepA.rep).length = S.length := List.length_map ..
          have hreps : ∀ r ∈ S.map RepA.rep, r.ok := fun r hr => by
            obtain ⟨x, hx, rfl⟩ := List.mem_map.1 hr
            obtain ⟨q, hq, rfl⟩ := List.mem_iff_getElem.1 hx
            obtain ⟨_, _, _, _, hX⟩ := HR3.out
            obtain ⟨_, _, cs, _, _, _, _, hE⟩ := hX q hq
            exact RepA.rep_ok (HOK.out _ hx) hE.2.1.2
          have h15 := H15.out
          have hrow := hy.tail.tail.tail.tail.tail.rowOwn
          have hcap : S.length ≤ oc := by
            rcases hrow.2 with ⟨h0, h1⟩ | ⟨_, _, _, h0, _, _, h1, _⟩
            · omega
            · injection h0 with _ _ h0; omega
          have h := cStepD (stabC (rowP_stable _ _ _ _ _) (stabC (rowsP_stable _ _ _) (stabC (arcP_stable _ _) (stab0)))) g fi u0 u1 u2 ar tq c fq mp 1 0 [] 0 0 0 0 0 [] 0 ⟨by simp, by simp⟩ (by omega) [] (by simp) (S.map RepA.rep) hreps (by rw [hlen]; omega) oa oc (by rw [hlen]; exact hcap) ?_ hy (by omega) (by omega) (by omega) (by simp) (by simp) (by simp) (by simp)
          · rw [hlen] at h; exact h
          intro B z hz p hp
          have hp2 : p < S.length := by rw [hlen] at hp; exact hp
          obtain ⟨og, oc', eo⟩ := own_pos (hz.tail).rowOwn (by omega)
          injection eo with i1 i2 i3
          subst i1
          subst i3
          obtain ⟨F, hF⟩ := hz.tail.tail.head
          obtain ⟨vv, hv1, hv2, hv3⟩ := rowsP_rd hF p (by rw [ups_len, hlen]; exact hp2)
          have hup : (ups 0 (S.map RepA.rep))[p]'(by rw [ups_len]; exact hp) = ((S.map RepA.rep)[p]).up (0 + p) := (List.getElem?_eq_some_iff.1 (ups_get (S.map RepA.rep) 0 p hp)).2
          rw [hup] at hv2
          have hul : (u8s (((S.map RepA.rep)[p]).up (0 + p))).length = 260 := by rw [u8s_len]; show (Scr.mark ++ Scr.mix ((S.map RepA.rep)[p].frm (0 + p)) ((S.map RepA.rep)[p].frm (0 + p)).length).length = _; rw [List.length_append, Scr.mix_len, up_len (0 + p) (hreps _ (List.getElem_mem hp))]; rfl
          obtain ⟨va, vc, e5⟩ := hv2.eq
          rw [hul] at e5
          subst e5
          refine ⟨og, va, vc, rfl, Sts.rowCell hz.tail p hp2 _ hv1, hv2, fun x hx => ?_⟩
          rcases List.mem_append.1 hx with hx | hx
          · simp only [Scr.mark, List.mem_cons, List.not_mem_nil, or_false] at hx
            omega
          · exact Scr.mix_lt _ _ (frm_lt (0 + p) (by omega) (hreps _ (List.getElem_mem hp))) x hx)
        go_wp2_with fail
        refine (KS.out _ H8.out).mono ?_
        rintro e w8 ⟨ov, ovs2, j, fn', tm', rfl, hj, hfn', htm', h9⟩
        have H9 := hid (Sts.sub (((Sts.split ((Sts.openDn ((h9).perm (List.perm_middle (l₁ := [_, _, _])))).perm (List.perm_middle (l₁ := [_, _])))).perm (List.perm_middle (l₁ := [_, _, _, _, _]))).perm (.cons _ (.cons _ (List.perm_middle (l₁ := [_, _, _, _, _, _, _, _, _, _]))))) (.cons_cons _ (.cons_cons _ (.cons_cons _ (.cons _ (.cons _ (.cons _ (.cons _ (.cons _ (.cons _ (.cons _ (.cons _ (.cons _ (.cons _ (List.Sublist.refl _)))))))))))))))
        clear h9 KS H8 hj hfn' htm'
        obtain ⟨A, hA⟩ : ∃ A, A = Dn.arcAll (S.map RepA.rep) [] := ⟨_, rfl⟩
        rw [← hA] at H9 HAOK
        have H15b : Hid (S.length ≤ 900) := hid (by have := H15.out; omega)
        have KAR := hid (cStaArchive (stabC (arcP_stable _ _) (stab0)) g fi u0 u1 u2 ar tq c fq mp (0 + 1) 1 S.length A HAOK.out H15b.out H9.out)
        go_wp2_with fail
        refine KAR.out.mono ?_
        rintro e w9 ⟨o, rfl, h10⟩
        have H10 := hid (show Sts w0 [arcP o A, arcP aq A] w9 from Sts.sub h10 (.cons_cons _ (.cons _ (.cons _ (.cons_cons _ (List.Sublist.refl _))))))
        clear h10 KAR H9
        go_wp2_with fail
        obtain ⟨cn, hcn⟩ : ∃ cn : Int, cn = ((Arc.cnt A : Nat) : Int) := ⟨_, rfl⟩
        have HCN := hid hcn
        have KL := hid (show ∀ (b1 b2 : Nat) (y : World), Sts w0 [arcP b1 A, arcP b2 A] y → Calls Tryz.prog 30 #[.pointer (some ⟨b1, 0, none⟩)] y fun e w' => e = .returned (.int .i64 cn) ∧ Sts w0 [arcP b1 A, arcP b2 A] w' from fun b1 b2 y hy => by
          rw [HCN.out]
          exact cArcLenP (stabC (arcP_stable _ _) (stab0)) b1 S.length A HAOK.out H15b.out hy)
        clear hcn
        have cn1 : (cn == cn) = true := by simp
        have cn2 : (cn != cn) = false := by simp
        refine (KL.out o aq _ H10.out).mono ?_
        rintro e w10 ⟨rfl, h11⟩
        have H11 := hid h11.swap
        clear h11 H10
        go_wp2_with fail
        refine (KL.out aq o _ H11.out).mono ?_
        rintro e w11 ⟨rfl, h12⟩
        have H12 := hid h12
        clear h12 H11 hA KL
        go_wp2_with fail
        clear cn1 cn2 HCN
        go_loopw [9] (fun i wz => ∃ Q : Nat, 1 ≤ Q ∧ Q ≤ 6 ∧ i = .int .i64 (Q : Int) ∧ Sts w0 [arcP aq A, arcP o A] wz) (fun i _ => 6 - (intOf i).toNat)
        case atStart => exact ⟨1, Nat.le_refl _, by decide, rfl, H12.out⟩
        case round =>
          clear H12
          obtain ⟨Q, hQ1, hQ2, rfl, h⟩ := hrel
          by_cases hQ : Q ≤ 5
          · have dq : decide ((Q : Int) ≤ 5) = true := decide_eq_true (by omega)
            have KX := hid (cArcItemsP (stabC (arcP_stable _ _) (stab0)) aq S.length A HAOK.out H15b.out Q h)
            have HQ6 : Hid (Q + 1 ≤ 6) := hid (by omega)
            have HQW : Hid (wrap64 ((Q : Int) + 1) = ((Q + 1 : Nat) : Int)) := hid (by unfold wrap64; omega)
            clear h hQ1 hQ2 hQ
            go_wp2_with fail
            refine KX.out.mono ?_
            rintro e wa ⟨xv, es, rfl, hes, ha⟩
            have hb := ha.perm (show List.Perm (itmL xv es [arcP aq A, arcP o A]) (arcP o A :: itmL xv es [arcP aq A]) from by
              have e3 : ∀ m : List HProp, itmL xv es m = itmL xv es [] ++ m := fun m => by simp [itmL]
              rw [e3, e3 [arcP aq A]]
              exact (List.Perm.append_left _ (List.Perm.swap _ _ _)).trans List.perm_middle)
            have KY := hid (cArcItemsP (itmL_stable _ _ (stabC (arcP_stable _ _) (stab0))) o S.length A HAOK.out H15b.out Q hb)
            have HES := hid hes
            clear ha hb hes KX
            go_wp2_with fail
            refine KY.out.mono ?_
            rintro e wb ⟨yv, es2, rfl, hes2, hc⟩
            obtain ⟨n, hn⟩ : ∃ n, n = es.length := ⟨_, rfl⟩
            have hn2 : es2.length = n := by
              have h1 := congrArg List.length hes2
              have h2 := congrArg List.length HES.out
              rw [List.length_map] at h1 h2
              omega
            have hnS : n ≤ S.length := by
              have h2 := congrArg List.length HES.out
              rw [List.length_map] at h2
              have h3 := Arc.itms_len HAOK.out Q
              omega
            have hme : rowP 102 4 xv es.length (es.flatMap icl) ∈ itmL yv es2 (arcP o A :: itmL xv es [arcP aq A]) := List.mem_cons_of_mem _ (List.mem_append_right _ (List.mem_cons_of_mem _ (List.mem_cons_self ..)))
            obtain ⟨xa0, xc0, hxv⟩ := own_slice (mem_own hc hme)
            obtain ⟨ya0, yc0, hyv⟩ := own_slice (Sts.rowOwnS' hc)
            rw [← hn] at hxv
            rw [hn2] at hyv
            subst hxv
            subst hyv
            have HN := hid hn
            have HN2 := hid hn2
            have HNS := hid hnS
            have HES2 := hid hes2
            have HC := hid hc
            clear hc hes2 hn hn2 hnS hme KY
            go_wp2_with fail
            go_loopw [12] (fun i wy => ∃ k : Nat, k ≤ n ∧ i = .int .i64 (k : Int) ∧ Sts w0 (itmL (.slice ya0 n yc0) es2 (arcP o A :: itmL (.slice xa0 n xc0) es [arcP aq A])) wy) (fun i _ => n - (intOf i).toNat)
            case atStart => exact ⟨0, Nat.zero_le _, rfl, HC.out⟩
            case round =>
              clear HC
              obtain ⟨k, hk, rfl, hs⟩ := hrel
              by_cases hlt : k < n
              · have dk : decide ((k : Int) < (n : Int)) = true := decide_eq_true (by omega)
                have hkE : k < es.length := by rw [← HN.out]; exact hlt
                have hkE2 : k < es2.length := by rw [HN2.out]; exact hlt
                unfold itmL at hs
                rw [← HN.out, HN2.out] at hs
                have hmx : rowP 102 4 (.slice xa0 n xc0) n (es.flatMap icl) ∈ rowP 102 4 (.slice ya0 n yc0) n (es2.flatMap icl) :: (datL es2 ++ arcP o A :: rowP 102 4 (.slice xa0 n xc0) n (es.flatMap icl) :: (datL es ++ [arcP aq A])) := List.mem_cons_of_mem _ (List.mem_append_right _ (List.mem_cons_of_mem _ (List.mem_cons_self ..)))
                obtain ⟨gx, cx, _, e1, _⟩ := own_ge (mem_own hs hmx) (by omega)
                obtain ⟨gy, cy, _, e2, _⟩ := own_ge (Sts.rowOwnS' hs) (by omega)
                injection e1 with e1 _ e3
                subst e1
                subst e3
                injection e2 with e2 _ e4
                subst e2
                subst e4
                obtain ⟨x, hx⟩ : ∃ x, x = es[k] := ⟨_, rfl⟩
                obtain ⟨y, hy⟩ : ∃ y, y = es2[k] := ⟨_, rfl⟩
                obtain ⟨X, hX⟩ : ∃ X, X = x.1 := ⟨_, rfl⟩
                have hget : ∀ (l : List EntV) (hl : k < l.length), (l.map (·.1))[k]? = some l[k].1 := fun l hl => by rw [List.getElem?_map, List.getElem?_eq_getElem hl]; rfl
                have hxX : (Arc.itms A Q)[k]? = some X := by rw [← HES.out, hget es hkE, ← hx, hX]
                have hyX : y.1 = X := by
                  have h1 := hget es2 hkE2
                  rw [HES2.out, hxX, ← hy] at h1
                  injection h1 with h1
                  exact h1.symm
                have h8 : ∀ b ∈ X.d, b < 256 := Arc.itms_ok HAOK.out Q X (List.mem_of_getElem? hxX)
                have hdx : rowP 5 1 x.2 x.1.d.length (u8s x.1.d) ∈ rowP 102 4 (.slice (some ⟨gy, 0, none⟩) n yc0) n (es2.flatMap icl) :: (datL es2 ++ arcP o A :: rowP 102 4 (.slice (some ⟨gx, 0, none⟩) n xc0) n (es.flatMap icl) :: (datL es ++ [arcP aq A])) := List.mem_cons_of_mem _ (List.mem_append_right _ (List.mem_cons_of_mem _ (List.mem_cons_of_mem _ (List.mem_append_left _ (List.mem_map.2 ⟨x, by rw [hx]; exact List.getElem_mem _, rfl⟩)))))
                have hdy : rowP 5 1 y.2 y.1.d.length (u8s y.1.d) ∈ rowP 102 4 (.slice (some ⟨gy, 0, none⟩) n yc0) n (es2.flatMap icl) :: (datL es2 ++ arcP o A :: rowP 102 4 (.slice (some ⟨gx, 0, none⟩) n xc0) n (es.flatMap icl) :: (datL es ++ [arcP aq A])) := List.mem_cons_of_mem _ (List.mem_append_left _ (List.mem_map.2 ⟨y, by rw [hy]; exact List.getElem_mem _, rfl⟩))
                rw [← hX] at hdx
                rw [hyX] at hdy
                obtain ⟨xa, xc, hxv⟩ := own_slice (mem_own hs hdx)
                obtain ⟨ya, yc, hyv⟩ := own_slice (mem_own hs hdy)
                rw [hxv] at hdx
                rw [hyv] at hdy
                have hgx : ∀ j, j < 4 → (es.flatMap icl)[k * 4 + j]? = (icl x)[j]? := fun j hj => by rw [hx]; exact Arc.flat_get icl 4 icl_len es k hkE j hj
                have hgy : ∀ j, j < 4 → (es2.flatMap icl)[k * 4 + j]? = (icl y)[j]? := fun j hj => by rw [hy]; exact Arc.flat_get icl 4 icl_len es2 k hkE2 j hj
                have hcx : ∀ j u, j < 4 → (icl (X, Value.slice xa X.d.length xc))[j]? = some u → (es.flatMap icl)[k * 4 + j]? = some u := fun j u hj h => by
                  rw [hgx j hj, show x = (X, Value.slice xa X.d.length xc) from Prod.ext hX.symm hxv]; exact h
                have hcy : ∀ j u, j < 4 → (icl (X, Value.slice ya X.d.length yc))[j]? = some u → (es2.flatMap icl)[k * 4 + j]? = some u := fun j u hj h => by
                  rw [hgy j hj, show y = (X, Value.slice ya X.d.length yc) from Prod.ext hyX hyv]; exact h
                obtain ⟨sb, hsb⟩ : ∃ sb, sb = strB X.d := ⟨_, rfl⟩
                have HDP := hid (show ∀ y : World, Sts w0 (rowP 102 4 (.slice (some ⟨gy, 0, none⟩) n yc0) n (es2.flatMap icl) :: (datL es2 ++ arcP o A :: rowP 102 4 (.slice (some ⟨gx, 0, none⟩) n xc0) n (es.flatMap icl) :: (datL es ++ [arcP aq A]))) y → y.cell? ⟨gx, k * 4 + 1, none⟩ = some (.int .i64 (X.n : Int)) ∧ y.cell? ⟨gy, k * 4 + 1, none⟩ = some (.int .i64 (X.n : Int)) ∧ y.cell? ⟨gx, k * 4 + 2, none⟩ = some (.int .i64 (X.t : Int)) ∧ y.cell? ⟨gy, k * 4 + 2, none⟩ = some (.int .i64 (X.t : Int)) ∧ y.cell? ⟨gx, k * 4 + 3, none⟩ = some (.slice xa X.d.length xc) ∧ y.cell? ⟨gy, k * 4 + 3, none⟩ = some (.slice ya X.d.length yc) ∧ (convert 35 9 (.slice xa X.d.length xc)).run Tryz.prog y = .ok (.string sb) y ∧ (convert 35 9 (.slice ya X.d.length yc)).run Tryz.prog y = .ok (.string sb) y from fun y hy => by
                  refine ⟨mem_cell hy hmx _ _ (hcx 1 _ (by decide) rfl), rowCellC hy _ _ (hcy 1 _ (by decide) rfl), mem_cell hy hmx _ _ (hcx 2 _ (by decide) rfl), rowCellC hy _ _ (hcy 2 _ (by decide) rfl), mem_cell hy hmx _ _ (hcx 3 _ (by decide) rfl), rowCellC hy _ _ (hcy 3 _ (by decide) rfl), ?_, ?_⟩
                  · rw [hsb]; exact RdB.str ⟨Rd.of_own (mem_own hy hdx) (u8s_len _), h8⟩ _ _ _ Tryz.underlying35 Tryz.underlying5 Tryz.underlying9
                  · rw [hsb]; exact RdB.str ⟨Rd.of_own (mem_own hy hdy) (u8s_len _), h8⟩ _ _ _ Tryz.underlying35 Tryz.underlying5 Tryz.underlying9)
                have HST := hid (show ∀ B ∈ rowP 102 4 (.slice (some ⟨gy, 0, none⟩) n yc0) n (es2.flatMap icl) :: (datL es2 ++ arcP o A :: rowP 102 4 (.slice (some ⟨gx, 0, none⟩) n xc0) n (es.flatMap icl) :: (datL es ++ [arcP aq A])), Stable B from stabC (rowP_stable _ _ _ _ _) (datL_stable es2 (stabC (arcP_stable _ _) (stabC (rowP_stable _ _ _ _ _) (datL_stable es (stabC (arcP_stable _ _) (stab0)))))))
                have i0 : (0 : Int) ≤ (k : Int) := Int.natCast_nonneg _
                have i1 : (k : Int) < (n : Int) := by omega
                have HK1 : Hid (k + 1 ≤ n) := hid hlt
                have HE8 : Hid (wrap64 ((k : Int) + 1) = ((k + 1 : Nat) : Int)) := hid (by have := HNS.out; have := H15.out; unfold wrap64; omega)
                have HS := hid hs
                clear hs hk hlt hkE hkE2 hmx hx hy hX hget hxX hyX h8 hdx hdy hxv hyv hgx hgy hcx hcy hsb
                go_wp2_with fail
                refine wp_region_ordQ (.pure 0 (.pure 1 (.pure 2 (.pure 3 (.pure 4 (.pure 5 (.pure 6 (.pure 7 (.pure 8 (.pure 9 (.pure 10 (.pure 11 (.pure 12 (.pure 13 (.pure 14 (.pure 15 (.pure 16 (.pure 17 (.pure 18 (.pure 19 (.pure 20 (.pure 21 (.pure 22 (.pure 23 (.pure 24 (.pure 25 (.pure 26 (.pure 27 (.pure 28 (.pure 29 (.pure 30 (.pure 31 (.pure 32 (.pure 33 (.pure 34 (.pure 35 (.pure 36 (.pure 37 (.pure 38 .nil))))))))))))))))))))))))))))))))))))))) (fun y => y.cell? ⟨gx, k * 4 + 1, none⟩ = some (.int .i64 (X.n : Int)) ∧ y.cell? ⟨gy, k * 4 + 1, none⟩ = some (.int .i64 (X.n : Int)) ∧ y.cell? ⟨gx, k * 4 + 2, none⟩ = some (.int .i64 (X.t : Int)) ∧ y.cell? ⟨gy, k * 4 + 2, none⟩ = some (.int .i64 (X.t : Int)) ∧ y.cell? ⟨gx, k * 4 + 3, none⟩ = some (.slice xa X.d.length xc) ∧ y.cell? ⟨gy, k * 4 + 3, none⟩ = some (.slice ya X.d.length yc) ∧ (convert 35 9 (.slice xa X.d.length xc)).run Tryz.prog y = .ok (.string sb) y ∧ (convert 35 9 (.slice ya X.d.length yc)).run Tryz.prog y = .ok (.string sb) y) (fun y => Sts w0 (rowP 102 4 (.slice (some ⟨gy, 0, none⟩) n yc0) n (es2.flatMap icl) :: (datL es2 ++ arcP o A :: rowP 102 4 (.slice (some ⟨gx, 0, none⟩) n xc0) n (es.flatMap icl) :: (datL es ++ [arcP aq A]))) y) (by kernel_rfl) (by kernel_rfl) (HS.out.drew (HST.out)) (fun y hy => HDP.out y hy) ?_
                iterate 39
                  (apply ordq_pure (ho := rfl)
                   · go_simp
                   · intro x hx; obtain ⟨x1, x2, x3, x4, x5, x6, x7, x8⟩ := hx; go_simp; rfl
                   apply ordq_norm
                   · go_simp; rfl)
                refine ordq_nil fun z hz => ?_
                have HZ := hid hz
                clear hz HS
                go_wp2_with fail
                go_roundw
                case rel => exact ⟨k + 1, HK1.out, congrArg (Value.int .i64) HE8.out, by unfold itmL; rw [← HN.out, HN2.out]; exact HZ.out⟩
                case measure =>
                  rw [HE8.out]
                  have := HK1.out
                  simp [intOf]
                  omega
              · obtain rfl : k = n := by omega
                have dk : decide ((k : Int) < (k : Int)) = false := decide_eq_false (by omega)
                have H13 := hid (show Sts w0 [arcP aq A, arcP o A] wr from by
                  have h1 := hs
                  unfold itmL at h1
                  have h2 := Sts.sub h1 (show List.Sublist [arcP o A, arcP aq A] _ from .cons _ (List.sublist_append_of_sublist_right (.cons_cons _ (.cons _ (List.sublist_append_right _ _)))))
                  exact h2.swap)
                clear hs hk hlt
                go_wp2_with fail
                go_roundw
                case rel => exact ⟨Q + 1, by omega, HQ6.out, congrArg (Value.int .i64) HQW.out, H13.out⟩
                case measure =>
                  rw [HQW.out]
                  have := HQ6.out
                  simp [intOf]
                  omega
          · have dq : decide ((Q : Int) ≤ 5) = false := decide_eq_false (by omega)
            have HZ := hid h
            clear h hQ1 hQ2 hQ
            go_wp2_with fail
            go_ret
            exact ⟨rfl, (Sts.quiet stab0 (Sts.nil_below HB3.out) HZ.out.below).below⟩
end Go.Proofs.YtnklmadmenkdoaaGreat
