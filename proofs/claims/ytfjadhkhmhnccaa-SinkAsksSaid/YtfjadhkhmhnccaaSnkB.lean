/- The receiving end: last, State, unit, report, Missing, Close. -/
import Derived.Test.YtfjadhkhmhnccaaSnkA
import Derived.Test.YtfjadhkhmhnccaaRngH
import Derived.Test.YtfjadhkhmhnccaaSrcUnits
set_option linter.unusedVariables false
set_option linter.unusedSimpArgs false
namespace Fil
open Go
def Snk.unitP (s : Snk) (k : Int) : Pdu := { kind := k, src := s.src, num := s.num }
def Snk.reportP (s : Snk) : Pdu := { kind := 5, src := s.src, num := s.num, code := s.code }
def Snk.missT (s : Snk) : Int := if s.tot.2 = true then s.tot.1 else lastV s.got
def Snk.closeV (s : Snk) (code : Int) (now : Int) : Snk × Int :=
  let s := s.adv now
  if withinB code 0 17 = false then (s, 1) else if s.phase ≠ 1 then (s, 12) else
  if s.cls = 2 then ({ s with phase := 2, code := code, don := true }.prog, 0) else ({ s with phase := 2, code := code, ended := true, susp := false }, 0)
end Fil
namespace Go.Proofs.Ytfjadhkhmhnccaa
open Go.RowKit Go.Proofs.Num
theorem Sts.snkR {W w : World} {l : List HProp} {q : Nat} {s : Fil.Snk} {dv gv : Value} (h : Sts W (blkP q (.cells ((s).cells dv gv) 109 (0, 0)) :: rowP 5 1 dv (s).data.length (u8s (s).data) :: rowP 81 2 gv (s).got.length (Fil.rcells (s).got) :: l) w) : RdR w gv s.got := RdR.of_own (Sts.rowOwnK h.tail.tail) rfl
theorem wpList_ld2 {ops : Array Oper} {rest : List Oper} {o : Oper} {a : Act} {Q : Exit → Act → World → Prop} {w : World} {b j : Nat} (hgd : o.guard = none) (x : Operand) (t : TypeId) (ho : o.op = .load t x) (hx : a.eval x = .pointer (some ⟨b, j, none⟩)) (v : Value)
    (hld : (loadVar t ⟨b, j, none⟩).run Try.prog w = .ok v w) (h : wpList Try.prog ops Q rest (a.put o.dst v) w) : wpList Try.prog ops Q (o :: rest) a w := by
  refine wpList_plain hgd fun K hK => ?_
  have hr : (execOp a.eval o).run Try.prog w = .ok (.value v) w := by
    unfold execOp
    simp only [ho, hx]
    have h1 : (Instr.loadAt t (.pointer (some ⟨b, j, none⟩))).run Try.prog w = .ok v w := by
      simp only [Instr.loadAt, Instr.sureAddr]
      simp [Sem.run_bind, asAddr, hld, Result.andThen]
    simp [Sem.run_bind, h1, Result.andThen]
  unfold Oper.wp
  rw [hr]
  exact hK _ _ h
section
variable {W w : World} {l : List HProp} (hl : ∀ B ∈ l, Stable B) (q : Nat) (s : Fil.Snk) (hs : Sts W (snkP q s :: l) w)
include hl hs
omit hl in
set_option maxRecDepth 100000 in
set_option maxHeartbeats 1000000 in
theorem cLastK (hn : s.got.length < 1000000) : Calls Try.prog 86 #[.pointer (some ⟨q, 0, none⟩)] w fun e w' => e = .returned (.int .i64 (Fil.lastV s.got)) ∧ ∃ m, w' = w.drewN m := by
  obtain ⟨dv, gv, h⟩ := Sts.openSnk hs
  obtain ⟨a, c, hge, hcap, hx⟩ := Sts.snkR h
  have hC := Sts.snkC h
  have k18 := hC.k18
  rw [hge] at k18
  clear h hs hC hge
  rcases List.eq_nil_or_concat s.got with hg | ⟨p, y, hg⟩
  · rw [hg] at k18 hx hcap ⊢
    clear hx hg
    go_enter Try.func86, Try.ntmps86
    go_wp2_with fail
    go_ret
    exact ⟨rfl, 0, rfl⟩
  · rw [List.concat_eq_append] at hg
    have hlast : Fil.lastV s.got = y.2 := by rw [hg]; simp [Fil.lastV]
    obtain ⟨m, hm⟩ : ∃ m, m = p.length := ⟨_, rfl⟩
    have hlen : s.got.length = m + 1 := by rw [hg, hm]; simp
    obtain ⟨b, off, rfl, hb, c0, c1⟩ := hx m (by omega)
    have hgy : s.got[m]'(by omega) = y := by simp only [hg]; subst hm; simp
    rw [hgy] at c1
    rw [hlen] at k18 hn
    rw [hlast]
    have hm2 : m < 1000000 := by omega
    have hwm : IntKind.i64.wrap (m : Int) = m := i64w m (by omega)
    have hmm : (m : Int) < (m : Int) + 1 := by omega
    have hpos : (((m + 1 : Nat) : Int) == 0) = false := by rw [beq_eq_false_iff_ne]; omega
    clear hx hb c0 hgy hlast hg hlen hm hn hcap
    obtain ⟨y1, y2⟩ := y
    simp only [] at c1
    go_enter Try.func86, Try.ntmps86
    go_wp2_with fail
    go_quiet (fail)
    go_wp2_with fail
    go_ret
    exact ⟨rfl, _, rfl⟩
omit hl in
set_option maxRecDepth 100000 in
set_option maxHeartbeats 1000000 in
theorem cStateK  : Calls Try.prog 42 #[.pointer (some ⟨q, 0, none⟩)] w fun e w' => e = .returned (.int .i64 s.stateV) ∧ w = w' := by
  obtain ⟨dv, gv, h⟩ := Sts.openSnk hs
  have hC := Sts.snkC h
  have k0 := hC.k0
  have k8 := hC.k8
  have k9 := hC.k9
  have k10 := hC.k10
  have HOK := hid (cVal w q k0)
  have HV := hid (show s.stateV = if s.susp = true then 3 else if s.phase = 0 then 1 else if s.phase = 3 then 5 else if s.phase = 4 then 6 else if s.phase = 2 ∧ s.ended = true then 4 else 2 from rfl)
  try dsimp only at k8 k9 k10
  clear h hC hs
  generalize s.stateV = sv at *
  generalize s.susp = sp at *
  generalize s.ended = en at *
  generalize s.phase = ph at *
  have hph : sp = true ∨ sp = false ∧ (ph = 0 ∨ ph = 3 ∨ ph = 4 ∨ (ph = 2 ∧ en = true) ∨ (ph = 2 ∧ en = false) ∨ (ph ≠ 0 ∧ ph ≠ 3 ∧ ph ≠ 4 ∧ ph ≠ 2)) := by
    cases sp <;> cases en <;> simp <;> omega
  rcases hph with rfl | ⟨rfl, rfl | rfl | rfl | ⟨rfl, rfl⟩ | ⟨rfl, rfl⟩ | ⟨n0, n3, n4, n2⟩⟩
  iterate 6
    (have HF := hid HV.out
     simp at HF
     clear HV
     go_enter Try.func42, Try.ntmps42
     go_wp2_with fail
     refine HOK.out.mono ?_
     rintro e w' ⟨rfl, rfl⟩
     go_wp2_with fail
     go_ret
     exact ⟨ret_int HF.out.symm, rfl⟩)
  have HF : Hid (sv = 2) := hid (by rw [HV.out, if_neg (by decide), if_neg n0, if_neg n3, if_neg n4, if_neg (fun h => n2 h.1)])
  have b0 : (ph == 0) = false := by simpa using n0
  have b3 : (ph == 3) = false := by simpa using n3
  have b4 : (ph == 4) = false := by simpa using n4
  have b2 : (ph == 2) = false := by simpa using n2
  clear HV n0 n3 n4 n2
  go_enter Try.func42, Try.ntmps42
  go_wp2_with fail
  refine HOK.out.mono ?_
  rintro e w' ⟨rfl, rfl⟩
  go_wp2_with fail
  go_ret
  exact ⟨ret_int HF.out.symm, rfl⟩
set_option maxRecDepth 100000 in
set_option maxHeartbeats 1000000 in
theorem cUnitK (k : Int) : Calls Try.prog 89 #[.pointer (some ⟨q, 0, none⟩), .int .i64 k] w fun e w' => e = .returned (.agg (s.unitP k).cells) ∧ Sts W (snkP q s :: l) w' := by
  obtain ⟨dv, gv, h⟩ := Sts.openSnk hs
  have hl2 : ∀ B ∈ blkP q (.cells ((s).cells dv gv) 109 (0, 0)) :: rowP 5 1 dv (s).data.length (u8s (s).data) :: rowP 81 2 gv (s).got.length (Fil.rcells (s).got) :: l, Stable B := stabC (blkP_stable _ _) (stabC (rowP_stable _ _ _ _ _) (stabC (rowP_stable _ _ _ _ _) hl))
  have hz : Sts W (blkP w.heap.size (.cells zeroPdu 45 (0, 0)) :: blkP q (.cells ((s).cells dv gv) 109 (0, 0)) :: rowP 5 1 dv (s).data.length (u8s (s).data) :: rowP 81 2 gv (s).got.length (Fil.rcells (s).got) :: l) (w.alloc (.cells #[.int .i64 0, .int .i64 0, .int .i64 0, .int .i64 0, .string ⟨#[]⟩, .int .i64 0, .int .i64 0, .slice none 0 0, .int .u32 0, .int .i64 0, .slice none 0 0] 45)) := h.alloc hl2 (.cells zeroPdu 45 (0, 0))
  have hC := Sts.snkC hz.tail
  have k1 := hC.k1; have k2 := hC.k2
  have HZ := hid hz
  have HL2 := hid hl2
  clear h hz hs hl2 hl hC
  go_enter Try.func89, Try.ntmps89
  go_wp2_with (first | (refine wpList_agg HZ.out HL2.out rfl (.tmp 4) (.tmp 10) 45 rfl (s.unitP k).cells rfl rfl sizePdu rfl rfl ?_; intro w5 hz; have HF := hid hz; clear hz))
  exact post_cell1 HF.out Try.results89 rfl rfl (ldPdu rfl HF.out) ⟨rfl, Sts.shutSnk (s := s) HF.out.tail⟩
set_option maxRecDepth 100000 in
set_option maxHeartbeats 1000000 in
theorem cReportK  : Calls Try.prog 119 #[.pointer (some ⟨q, 0, none⟩)] w fun e w' => e = .returned (.agg s.reportP.cells) ∧ Sts W (snkP q s :: l) w' := by
  have hl2 : ∀ B ∈ snkP q s :: l, Stable B := stabC (snkP_stable _ _) hl
  have hz : Sts W (blkP w.heap.size (.cells zeroPdu 45 (0, 0)) :: snkP q s :: l) (w.alloc (.cells #[.int .i64 0, .int .i64 0, .int .i64 0, .int .i64 0, .string ⟨#[]⟩, .int .i64 0, .int .i64 0, .slice none 0 0, .int .u32 0, .int .i64 0, .slice none 0 0] 45)) := hs.alloc hl2 (.cells zeroPdu 45 (0, 0))
  have hl3 : ∀ B ∈ blkP w.heap.size (.cells zeroPdu 45 (0, 0)) :: l, Stable B := stabC (blkP_stable _ _) hl
  have HU := hid (cUnitK hl3 q s hz.swap 5)
  have HL := hid hl
  clear hz hs hl2 hl3 hl
  go_enter Try.func119, Try.ntmps119
  go_wp2_with (first | (go_at_call 89; refine HU.out.mono ?_; rintro e w1 ⟨rfl, h1⟩; have HQ : Hid (Sts W (blkP w1.heap.size (.cells zeroPdu 45 (0, 0)) :: snkP q s :: blkP w.heap.size (.cells zeroPdu 45 (0, 0)) :: l) (w1.alloc (.cells #[.int .i64 0, .int .i64 0, .int .i64 0, .int .i64 0, .string ⟨#[]⟩, .int .i64 0, .int .i64 0, .slice none 0 0, .int .u32 0, .int .i64 0, .slice none 0 0] 45))) := hid (h1.alloc (stabC (snkP_stable _ _) (stabC (blkP_stable _ _) HL.out)) (.cells zeroPdu 45 (0, 0))); clear h1) | (refine wpList_agg HQ.out (stabC (snkP_stable _ _) (stabC (blkP_stable _ _) HL.out)) rfl (.tmp 3) (.tmp 5) 45 rfl (s.unitP 5).cells rfl rfl sizePdu rfl rfl ?_; intro w2 hz; have HR := hid hz; obtain ⟨dv2, gv2, ho⟩ := Sts.openSnk hz.swap; have k24 := (Sts.snkC ho).k24; clear hz ho) | (refine wpList_cell HR.out (stabC (snkP_stable _ _) (stabC (blkP_stable _ _) HL.out)) rfl (.tmp 10) (.tmp 9) 33 rfl 9 (.int .i64 s.code) rfl rfl szErrK (show 9 < 11 by decide) rfl ?_; intro w3 hz; replace hz : Sts W (blkP w1.heap.size (.cells s.reportP.cells 45 (0, 0)) :: snkP q s :: blkP w.heap.size (.cells zeroPdu 45 (0, 0)) :: l) w3 := hz; have HT := hid hz; clear hz) | (refine wpList_ld2 rfl (.tmp 3) 45 rfl rfl (.agg s.reportP.cells) (ldPdu rfl HT.out) ?_) | (refine wpList_agg HT.out.third (stabC (blkP_stable _ _) (stabC (snkP_stable _ _) HL.out)) rfl (.tmp 2) (.tmp 11) 45 rfl s.reportP.cells rfl rfl sizePdu rfl rfl ?_; intro w4 hz; have HV := hid hz; clear hz))
  exact post_cell1 HV.out Try.results119 rfl rfl (ldPdu rfl HV.out) ⟨rfl, HV.out.tail.tail⟩
set_option maxRecDepth 100000 in
set_option maxHeartbeats 1000000 in
theorem cMissK1 (ht : s.tot.2 = true) (t : Nat) (htt : s.tot.1 = (t : Int)) (htb : t ≤ 100000) (hn : s.got.length < 1000000) : Calls Try.prog 41 #[.pointer (some ⟨q, 0, none⟩)] w fun e w' => ∃ r, e = .returned r ∧ NewR w w' r (Rng.missV s.got t) := by
  have hT := cTotal q s hs
  rw [ht, htt] at hT
  have HT := hid hT
  have HST := hid hs
  have hk0 : w.cell? ⟨q, 0, none⟩ = some (.bool true) := by obtain ⟨dv, gv, h⟩ := Sts.openSnk hs; exact (Sts.snkC h).k0
  have HVL := hid (cVal w q hk0)
  have HLT := hid htt
  have HL := hid hl
  clear hk0 hs hl htt hT ht
  go_enter Try.func41, Try.ntmps41
  go_wp2_with (first | (go_at_call 81; refine HVL.out.mono ?_; rintro e w1 ⟨rfl, rfl⟩) | (go_at_call 85; refine HT.out.mono ?_; rintro e w1 ⟨rfl, m, hm⟩; have HB1 : Hid (Below w.heap.size w w1) := hid (by rw [hm]; exact below_drewN (Below.refl _ _) m); clear hm; have HD := hid (HST.out.quiet (stabC (snkP_stable _ _) HL.out) HB1.out); obtain ⟨dv, gv, ho⟩ := Sts.openSnk HD.out; have k18 := (Sts.snkC ho).k18; have HRD := hid (Sts.snkR ho); clear ho) | (go_at_call 87; refine (cMissingR _ _ _ HRD.out hn t htb).mono ?_; rintro e w2 ⟨r, rfl, hN⟩; have HN := hid (hN.of HB1.out); clear hN))
  go_ret
  exact ⟨_, rfl, HN.out⟩
set_option maxRecDepth 100000 in
set_option maxHeartbeats 1000000 in
theorem cMissK2 (ht : s.tot.2 = false) (t : Nat) (htt : Fil.lastV s.got = (t : Int)) (htb : t ≤ 100000) (hn : s.got.length < 1000000) : Calls Try.prog 41 #[.pointer (some ⟨q, 0, none⟩)] w fun e w' => ∃ r, e = .returned r ∧ NewR w w' r (Rng.missV s.got t) := by
  have hT := cTotal q s hs
  rw [ht] at hT
  have HT := hid hT
  have HST := hid hs
  have hk0 : w.cell? ⟨q, 0, none⟩ = some (.bool true) := by obtain ⟨dv, gv, h⟩ := Sts.openSnk hs; exact (Sts.snkC h).k0
  have HVL := hid (cVal w q hk0)
  have HLT := hid htt
  have HL := hid hl
  clear hk0 hs hl htt hT ht
  go_enter Try.func41, Try.ntmps41
  go_wp2_with (first | (go_at_call 81; refine HVL.out.mono ?_; rintro e w1 ⟨rfl, rfl⟩) | (go_at_call 85; refine HT.out.mono ?_; rintro e w1 ⟨rfl, m, hm⟩; have HB1 : Hid (Below w.heap.size w w1) := hid (by rw [hm]; exact below_drewN (Below.refl _ _) m); clear hm; have HD := hid (HST.out.quiet (stabC (snkP_stable _ _) HL.out) HB1.out); have hls := cLastK q s HD.out hn; rw [HLT.out] at hls; have HLS := hid hls; clear hls) | (go_at_call 86; refine HLS.out.mono ?_; rintro e w2 ⟨rfl, m2, hm⟩; have HB2 : Hid (Below w.heap.size w w2) := hid (by rw [hm]; exact below_drewN HB1.out m2); clear hm; have HE := hid (HST.out.quiet (stabC (snkP_stable _ _) HL.out) HB2.out); obtain ⟨dv, gv, ho⟩ := Sts.openSnk HE.out; have k18 := (Sts.snkC ho).k18; have HRD := hid (Sts.snkR ho); clear ho) | (go_at_call 87; refine (cMissingR _ _ _ HRD.out hn t htb).mono ?_; rintro e w2 ⟨r, rfl, hN⟩; have HN := hid (hN.of HB2.out); clear hN))
  go_ret
  exact ⟨_, rfl, HN.out⟩
theorem cMissK (t : Nat) (ht : s.missT = (t : Int)) (htb : t ≤ 100000) (hn : s.got.length < 1000000) : Calls Try.prog 41 #[.pointer (some ⟨q, 0, none⟩)] w fun e w' => ∃ r, e = .returned r ∧ NewR w w' r (Rng.missV s.got t) := by
  unfold Fil.Snk.missT at ht
  cases hb : s.tot.2 with
  | true => rw [if_pos hb] at ht; exact cMissK1 hl q s hs hb t ht htb hn
  | false => rw [if_neg (by rw [hb]; simp)] at ht; exact cMissK2 hl q s hs hb t ht htb hn
set_option maxRecDepth 100000 in
set_option maxHeartbeats 1000000 in
theorem cCloseA (code now : Int) (s1 : Fil.Snk) (hs1 : s.adv now = s1) (hw : Fil.withinB code 0 17 = false) : Calls Try.prog 50 #[.pointer (some ⟨q, 0, none⟩), .int .i64 code, .int .i64 now] w fun e w' => e = .returned (.int .i64 1) ∧ Sts W (snkP q (s1) :: l) w' := by
  have hk0 : w.cell? ⟨q, 0, none⟩ = some (.bool true) := by obtain ⟨dv, gv, h⟩ := Sts.openSnk hs; exact (Sts.snkC h).k0
  have HVL := hid (cVal w q hk0)
  have hA := cAdv hl q s hs now
  rw [hs1] at hA
  have HA := hid hA
  have HL := hid hl
  clear hk0 hs hl hA hs1
  go_enter Try.func50, Try.ntmps50
  go_wp2_with (first | (go_at_call 81; refine HVL.out.mono ?_; rintro e w1 ⟨rfl, rfl⟩) | (go_at_call 82; refine HA.out.mono ?_; rintro e w1 ⟨rfl, h1⟩; have HO := hid h1; obtain ⟨dv, gv, h⟩ := Sts.openSnk h1; have HS := hid h; have k8 := (Sts.snkC h).k8; (try dsimp only at k8); clear h h1) | (go_at_call 80; refine (cKWithin _ code 0 17).mono ?_; rintro e w2 ⟨rfl, rfl⟩; rw [hw]))
  go_ret
  exact ⟨rfl, HO.out⟩
set_option maxRecDepth 100000 in
set_option maxHeartbeats 1000000 in
theorem cCloseB (code now : Int) (s1 : Fil.Snk) (hs1 : s.adv now = s1) (hw : Fil.withinB code 0 17 = true) (hp : (s1.phase != 1) = true) : Calls Try.prog 50 #[.pointer (some ⟨q, 0, none⟩), .int .i64 code, .int .i64 now] w fun e w' => e = .returned (.int .i64 12) ∧ Sts W (snkP q (s1) :: l) w' := by
  have hk0 : w.cell? ⟨q, 0, none⟩ = some (.bool true) := by obtain ⟨dv, gv, h⟩ := Sts.openSnk hs; exact (Sts.snkC h).k0
  have HVL := hid (cVal w q hk0)
  have hA := cAdv hl q s hs now
  rw [hs1] at hA
  have HA := hid hA
  have HL := hid hl
  clear hk0 hs hl hA hs1
  go_enter Try.func50, Try.ntmps50
  go_wp2_with (first | (go_at_call 81; refine HVL.out.mono ?_; rintro e w1 ⟨rfl, rfl⟩) | (go_at_call 82; refine HA.out.mono ?_; rintro e w1 ⟨rfl, h1⟩; have HO := hid h1; obtain ⟨dv, gv, h⟩ := Sts.openSnk h1; have HS := hid h; have k8 := (Sts.snkC h).k8; (try dsimp only at k8); clear h h1) | (go_at_call 80; refine (cKWithin _ code 0 17).mono ?_; rintro e w2 ⟨rfl, rfl⟩; rw [hw]))
  go_ret
  exact ⟨rfl, HO.out⟩
set_option maxRecDepth 100000 in
set_option maxHeartbeats 1000000 in
theorem cCloseC (code now : Int) (s1 : Fil.Snk) (hs1 : s.adv now = s1) (hw : Fil.withinB code 0 17 = true) (hp : s1.phase = 1) (hc : (s1.cls == 2) = true) : Calls Try.prog 50 #[.pointer (some ⟨q, 0, none⟩), .int .i64 code, .int .i64 now] w fun e w' => e = .returned (.int .i64 0) ∧ Sts W (snkP q (({ s1 with phase := 2, code := code, don := true }).prog) :: l) w' := by
  have hk0 : w.cell? ⟨q, 0, none⟩ = some (.bool true) := by obtain ⟨dv, gv, h⟩ := Sts.openSnk hs; exact (Sts.snkC h).k0
  have HVL := hid (cVal w q hk0)
  have hA := cAdv hl q s hs now
  rw [hs1] at hA
  have HA := hid hA
  have HL := hid hl
  clear hk0 hs hl hA hs1
  go_enter Try.func50, Try.ntmps50
  go_wp2_with (first | (go_at_call 81; refine HVL.out.mono ?_; rintro e w1 ⟨rfl, rfl⟩) | (go_at_call 82; refine HA.out.mono ?_; rintro e w1 ⟨rfl, h1⟩; have HO := hid h1; obtain ⟨dv, gv, h⟩ := Sts.openSnk h1; have HS := hid h; have k8 := (Sts.snkC h).k8; (try dsimp only at k8); rw [hp] at k8; clear h h1) | (go_at_call 80; refine (cKWithin _ code 0 17).mono ?_; rintro e w2 ⟨rfl, rfl⟩; rw [hw]) | (refine wpList_cell HS.out (stabC (rowP_stable _ _ _ _ _) (stabC (rowP_stable _ _ _ _ _) HL.out)) rfl (.tmp 23) (.const (.int .i64 2)) 3 rfl 8 (.int .i64 2) rfl rfl szIntK (show 8 < 25 by decide) rfl ?_; intro w3 hz; replace hz : Sts W (blkP q (.cells (({ s1 with phase := 2 }).cells dv gv) 109 (0, 0)) :: rowP 5 1 dv (s1).data.length (u8s (s1).data) :: rowP 81 2 gv (s1).got.length (Fil.rcells (s1).got) :: l) w3 := hz; have H1 := hid hz; clear hz) | (refine wpList_cell H1.out (stabC (rowP_stable _ _ _ _ _) (stabC (rowP_stable _ _ _ _ _) HL.out)) rfl (.tmp 27) (.tmp 25) 33 rfl 24 (.int .i64 code) rfl rfl szErrK (show 24 < 25 by decide) rfl ?_; intro w4 hz; replace hz : Sts W (blkP q (.cells (({ s1 with phase := 2, code := code }).cells dv gv) 109 (0, 0)) :: rowP 5 1 dv (s1).data.length (u8s (s1).data) :: rowP 81 2 gv (s1).got.length (Fil.rcells (s1).got) :: l) w4 := hz; have H2 := hid hz; have HAK := hid (cAckd q { s1 with phase := 2, code := code } (Sts.shutSnk (s := { s1 with phase := 2, code := code }) (dv := dv) (gv := gv) hz)); clear hz) | (go_at_call 91; refine HAK.out.mono ?_; rintro e w5 ⟨rfl, rfl⟩; rw [show ({ s1 with phase := 2, code := code } : Fil.Snk).cls = s1.cls from rfl, hc]) | (refine wpList_cell H2.out (stabC (rowP_stable _ _ _ _ _) (stabC (rowP_stable _ _ _ _ _) HL.out)) rfl (.tmp 32) (.const (.bool true)) 4 rfl 23 (.bool true) rfl rfl szBoolK (show 23 < 25 by decide) rfl ?_; intro w5 hz; replace hz : Sts W (blkP q (.cells (({ s1 with phase := 2, code := code, don := true }).cells dv gv) 109 (0, 0)) :: rowP 5 1 dv (s1).data.length (u8s (s1).data) :: rowP 81 2 gv (s1).got.length (Fil.rcells (s1).got) :: l) w5 := hz; have H3 := hid hz; have HP := hid (cProg HL.out q { s1 with phase := 2, code := code, don := true } (Sts.shutSnk (s := { s1 with phase := 2, code := code, don := true }) (dv := dv) (gv := gv) hz)); clear hz) | (go_at_call 96; refine HP.out.mono ?_; rintro e w6 ⟨rfl, hw⟩; have HF := hid hw; clear hw))
  go_ret
  exact ⟨rfl, HF.out⟩
set_option maxRecDepth 100000 in
set_option maxHeartbeats 1000000 in
theorem cCloseD (code now : Int) (s1 : Fil.Snk) (hs1 : s.adv now = s1) (hw : Fil.withinB code 0 17 = true) (hp : s1.phase = 1) (hc : (s1.cls == 2) = false) : Calls Try.prog 50 #[.pointer (some ⟨q, 0, none⟩), .int .i64 code, .int .i64 now] w fun e w' => e = .returned (.int .i64 0) ∧ Sts W (snkP q ({ s1 with phase := 2, code := code, ended := true, susp := false }) :: l) w' := by
  have hk0 : w.cell? ⟨q, 0, none⟩ = some (.bool true) := by obtain ⟨dv, gv, h⟩ := Sts.openSnk hs; exact (Sts.snkC h).k0
  have HVL := hid (cVal w q hk0)
  have hA := cAdv hl q s hs now
  rw [hs1] at hA
  have HA := hid hA
  have HL := hid hl
  clear hk0 hs hl hA hs1
  go_enter Try.func50, Try.ntmps50
  go_wp2_with (first | (go_at_call 81; refine HVL.out.mono ?_; rintro e w1 ⟨rfl, rfl⟩) | (go_at_call 82; refine HA.out.mono ?_; rintro e w1 ⟨rfl, h1⟩; have HO := hid h1; obtain ⟨dv, gv, h⟩ := Sts.openSnk h1; have HS := hid h; have k8 := (Sts.snkC h).k8; (try dsimp only at k8); rw [hp] at k8; clear h h1) | (go_at_call 80; refine (cKWithin _ code 0 17).mono ?_; rintro e w2 ⟨rfl, rfl⟩; rw [hw]) | (refine wpList_cell HS.out (stabC (rowP_stable _ _ _ _ _) (stabC (rowP_stable _ _ _ _ _) HL.out)) rfl (.tmp 23) (.const (.int .i64 2)) 3 rfl 8 (.int .i64 2) rfl rfl szIntK (show 8 < 25 by decide) rfl ?_; intro w3 hz; replace hz : Sts W (blkP q (.cells (({ s1 with phase := 2 }).cells dv gv) 109 (0, 0)) :: rowP 5 1 dv (s1).data.length (u8s (s1).data) :: rowP 81 2 gv (s1).got.length (Fil.rcells (s1).got) :: l) w3 := hz; have H1 := hid hz; clear hz) | (refine wpList_cell H1.out (stabC (rowP_stable _ _ _ _ _) (stabC (rowP_stable _ _ _ _ _) HL.out)) rfl (.tmp 27) (.tmp 25) 33 rfl 24 (.int .i64 code) rfl rfl szErrK (show 24 < 25 by decide) rfl ?_; intro w4 hz; replace hz : Sts W (blkP q (.cells (({ s1 with phase := 2, code := code }).cells dv gv) 109 (0, 0)) :: rowP 5 1 dv (s1).data.length (u8s (s1).data) :: rowP 81 2 gv (s1).got.length (Fil.rcells (s1).got) :: l) w4 := hz; have H2 := hid hz; have HAK := hid (cAckd q { s1 with phase := 2, code := code } (Sts.shutSnk (s := { s1 with phase := 2, code := code }) (dv := dv) (gv := gv) hz)); clear hz) | (go_at_call 91; refine HAK.out.mono ?_; rintro e w5 ⟨rfl, rfl⟩; rw [show ({ s1 with phase := 2, code := code } : Fil.Snk).cls = s1.cls from rfl, hc]) | (refine wpList_cell H2.out (stabC (rowP_stable _ _ _ _ _) (stabC (rowP_stable _ _ _ _ _) HL.out)) rfl (.tmp 37) (.const (.bool true)) 4 rfl 9 (.bool true) rfl rfl szBoolK (show 9 < 25 by decide) rfl ?_; intro w5 hz; replace hz : Sts W (blkP q (.cells (({ s1 with phase := 2, code := code, ended := true }).cells dv gv) 109 (0, 0)) :: rowP 5 1 dv (s1).data.length (u8s (s1).data) :: rowP 81 2 gv (s1).got.length (Fil.rcells (s1).got) :: l) w5 := hz; have H3 := hid hz; clear hz) | (refine wpList_cell H3.out (stabC (rowP_stable _ _ _ _ _) (stabC (rowP_stable _ _ _ _ _) HL.out)) rfl (.tmp 40) (.const (.bool false)) 4 rfl 10 (.bool false) rfl rfl szBoolK (show 10 < 25 by decide) rfl ?_; intro w6 hz; replace hz : Sts W (blkP q (.cells (({ s1 with phase := 2, code := code, ended := true, susp := false }).cells dv gv) 109 (0, 0)) :: rowP 5 1 dv (s1).data.length (u8s (s1).data) :: rowP 81 2 gv (s1).got.length (Fil.rcells (s1).got) :: l) w6 := hz; have H4 := hid hz; clear hz))
  go_ret
  exact ⟨rfl, Sts.shutSnk (s := { s1 with phase := 2, code := code, ended := true, susp := false }) (dv := dv) (gv := gv) H4.out⟩
theorem cCloseK (code now : Int) : Calls Try.prog 50 #[.pointer (some ⟨q, 0, none⟩), .int .i64 code, .int .i64 now] w fun e w' => e = .returned (.int .i64 (s.closeV code now).2) ∧ Sts W (snkP q (s.closeV code now).1 :: l) w' := by
  unfold Fil.Snk.closeV
  simp only []
  cases hw : Fil.withinB code 0 17 with
  | false => rw [if_pos rfl]; exact cCloseA hl q s hs code now _ rfl hw
  | true =>
    rw [if_neg (by simp)]
    by_cases hp : (s.adv now).phase = 1
    · rw [if_neg (by simp [hp])]
      by_cases hc : (s.adv now).cls = 2
      · rw [if_pos hc]; exact cCloseC hl q s hs code now _ rfl hw hp (by simp [hc])
      · rw [if_neg hc]; exact cCloseD hl q s hs code now _ rfl hw hp (by simp [hc])
    · rw [if_pos hp]; exact cCloseB hl q s hs code now _ rfl hw (by simp [hp])
end
end Go.Proofs.Ytfjadhkhmhnccaa
