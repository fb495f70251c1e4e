/- SourcePlays: every sequence of calls agrees with the specification. -/
import Derived.Test.YtfjadhkhmhnccaaPlyB
import Derived.Test.YtfjadhkhmhnccaaStaC
set_option linter.unusedVariables false
set_option linter.unusedSimpArgs false
namespace Go.Proofs.Ytfjadhkhmhnccaa
open Go.RowKit Go.Proofs.Num
/-- The specification's sending end has no shared row of ranges here. -/
def zn : Value × List Rng.R := (.slice none 0 0, [])
theorem zn_rd (y : World) : RdR y zn.1 zn.2 := RdR.nil y
theorem small_stp {nm dl : Nat} {S : List Fil.Stp} (h : Fil.smallB nm dl S = true) : nm ≤ 300 ∧ dl ≤ 65546 ∧ S.length ≤ 80 ∧ ∀ t ∈ S, t.p.name.size ≤ 300 ∧ t.p.data.length ≤ 1000 ∧ t.p.gaps.length ≤ 40 := by
  unfold Fil.smallB Fil.preB at h
  simp only [Bool.and_eq_true, Bool.not_eq_true', Bool.or_eq_false_iff, decide_eq_false_iff_not, List.all_eq_true] at h
  refine ⟨by omega, by omega, by omega, fun t ht => ?_⟩
  have := h.2 t ht
  unfold Fil.Stp.smallB at this
  simp only [Bool.not_eq_true', Bool.or_eq_false_iff, decide_eq_false_iff_not] at this
  omega
theorem Sts.newRef {W w : World} {l : List HProp} {bx : Nat} {src num cls chunk timeout retries : Int} {name : ByteArray} {da : Option Addr} {dc : Nat} {data : List Nat} (h : Sts W (blkP bx (.cells #[.int .i64 src, .int .i64 num, .int .i64 cls, .string name, .slice da data.length dc, .int .i64 chunk, .int .i64 timeout, .int .i64 retries, .int .i64 1, .int .i64 0, .int .i64 0, .int .i64 0, .int .i64 0, .bool false, .bool false, .bool false, .bool false, .bool false, .slice none 0 0, .int .i64 0] 38 (0, 0)) :: l) w) : Sts W (refP zn bx (newSrc src num cls name data chunk timeout retries) (.slice da data.length dc) :: l) w :=
  Sts.shutRef (s := (newSrc src num cls name data chunk timeout retries)) (wv := .slice none 0 0) ((Sts.rowNilK 81 2 h).weaken (B := ownW zn (.slice none 0 0) []) (fun F h => Or.inr h)).swap
set_option maxRecDepth 100000 in
set_option maxHeartbeats 4000000 in
theorem plays_big (w : World) (src num cls chunk timeout retries : Int) (name : ByteArray) (vd vl : Value) (data : List Nat) (S : List Fil.Stp) (hd : RdB w vd data) (hS : StpsAt w vl S) (hsm : Fil.smallB name.size data.length S = false) : Calls Try.prog 6 #[.agg #[.int .i64 src, .int .i64 num, .int .i64 cls, .string name, vd, .int .i64 chunk, .int .i64 timeout, .int .i64 retries, vl]] w fun e w' => e = .returned (.bool true) ∧ Below w.heap.size w w' := by
  obtain ⟨da, dc, hde⟩ := hd.1.eq
  rw [u8s_len] at hde
  subst hde
  obtain ⟨la, lc, hle, hx⟩ := hS.cells
  subst hle
  have hbw := (Below.refl w.heap.size w).alloc (Nat.le_refl _) (.cells #[.int .i64 src, .int .i64 num, .int .i64 cls, .string name, .slice da data.length dc, .int .i64 chunk, .int .i64 timeout, .int .i64 retries, .slice la S.length lc] 29)
  have hsmall := cSmall (w.alloc (.cells #[.int .i64 src, .int .i64 num, .int .i64 cls, .string name, .slice da data.length dc, .int .i64 chunk, .int .i64 timeout, .int .i64 retries, .slice la S.length lc] 29)) src num cls chunk timeout retries name _ _ data S (hd.below hbw) (hS.below hbw)
  have HSMB := hid hsm
  rw [hsm] at hsmall
  have HSM := hid hsmall
  have H0 := hid ((Sts.nil w).alloc stab0 (.cells #[.int .i64 src, .int .i64 num, .int .i64 cls, .string name, .slice da data.length dc, .int .i64 chunk, .int .i64 timeout, .int .i64 retries, .slice la S.length lc] 29))
  have HD := hid hd
  have HX := hid hx
  clear hsmall hbw hd hS hsm hx
  go_enter Try.func6, Try.ntmps6
  go_wp2_with (first | (go_at_call 13; refine HSM.out.mono ?_; rintro e w1 ⟨rfl, hb1⟩; have H1 := hid (H0.out.quiet (stab1 (blkP_stable _ _)) hb1); clear hb1; have q0 := (Sts.boxCell H1.out 0 _ rfl).1; have q1 := (Sts.boxCell H1.out 1 _ rfl).1; have q2 := (Sts.boxCell H1.out 2 _ rfl).1; have q3 := (Sts.boxCell H1.out 3 _ rfl).1; have q4 := (Sts.boxCell H1.out 4 _ rfl).1; have q5 := (Sts.boxCell H1.out 5 _ rfl).1; have q6 := (Sts.boxCell H1.out 6 _ rfl).1; have q7 := (Sts.boxCell H1.out 7 _ rfl).1; have q8 := (Sts.boxCell H1.out 8 _ rfl).1) | (go_at_call 14; refine (cLives27 _).mono ?_; rintro e w9 ⟨rfl, hb9⟩; have H9 := hid (H1.out.below.trans (hb9.mono H1.out.below.size)); clear hb9))
  go_ret
  exact ⟨rfl, H9.out⟩
set_option maxRecDepth 100000 in
set_option maxHeartbeats 8000000 in
theorem plays_ok (w : World) (src num cls chunk timeout retries : Int) (name : ByteArray) (vd vl : Value) (data : List Nat) (S : List Fil.Stp) (hd : RdB w vd data) (hS : StpsAt w vl S) (hsm : Fil.smallB name.size data.length S = true) (hb : Fil.newB src num cls name data.length chunk timeout retries = true) : Calls Try.prog 6 #[.agg #[.int .i64 src, .int .i64 num, .int .i64 cls, .string name, vd, .int .i64 chunk, .int .i64 timeout, .int .i64 retries, vl]] w fun e w' => e = .returned (.bool true) ∧ Below w.heap.size w w' := by
  obtain ⟨hname, hn, hlen, hall⟩ := small_stp hsm
  replace hname : name.size ≤ 1000000 := by omega
  replace hn : data.length < 100000000 := by omega
  have HALL := hid hall
  clear hall
  have hng := new_good src num cls name data chunk timeout retries hb hd.2
  obtain ⟨da, dc, hde⟩ := hd.1.eq
  rw [u8s_len] at hde
  subst hde
  obtain ⟨la, lc, hle, hx⟩ := hS.cells
  subst hle
  have hbw := (Below.refl w.heap.size w).alloc (Nat.le_refl _) (.cells #[.int .i64 src, .int .i64 num, .int .i64 cls, .string name, .slice da data.length dc, .int .i64 chunk, .int .i64 timeout, .int .i64 retries, .slice la S.length lc] 29)
  have hsmall := cSmall (w.alloc (.cells #[.int .i64 src, .int .i64 num, .int .i64 cls, .string name, .slice da data.length dc, .int .i64 chunk, .int .i64 timeout, .int .i64 retries, .slice la S.length lc] 29)) src num cls chunk timeout retries name _ _ data S (hd.below hbw) (hS.below hbw)
  have HSMB := hid hsm
  rw [hsm] at hsmall
  have HSM := hid hsmall
  have H0 := hid ((Sts.nil w).alloc stab0 (.cells #[.int .i64 src, .int .i64 num, .int .i64 cls, .string name, .slice da data.length dc, .int .i64 chunk, .int .i64 timeout, .int .i64 retries, .slice la S.length lc] 29))
  have HD := hid hd
  have HX := hid hx
  clear hsmall hbw hd hS hsm hx
  have hv : (Fil.headP src num cls name data.length).validB = true ∧ cfgB chunk timeout retries = true := by rw [newB_eq] at hb; simpa using hb
  have HV := hid hv
  have HNB := hid hb
  have HREG : Hid (Fil.Reg (newSrc src num cls name data chunk timeout retries)) := hid ⟨hng.1, hng.2, by show (0 : Int) ≤ 0; omega, by show (0 : Int) = 2 → _; omega⟩
  clear hv hb hng
  go_enter Try.func6, Try.ntmps6
  go_wp2_with (first | (go_at_call 13; refine HSM.out.mono ?_; rintro e w1 ⟨rfl, hb1⟩; have H1 := hid (H0.out.quiet (stab1 (blkP_stable _ _)) hb1); clear hb1; have q0 := (Sts.boxCell H1.out 0 _ rfl).1; have q1 := (Sts.boxCell H1.out 1 _ rfl).1; have q2 := (Sts.boxCell H1.out 2 _ rfl).1; have q3 := (Sts.boxCell H1.out 3 _ rfl).1; have q4 := (Sts.boxCell H1.out 4 _ rfl).1; have q5 := (Sts.boxCell H1.out 5 _ rfl).1; have q6 := (Sts.boxCell H1.out 6 _ rfl).1; have q7 := (Sts.boxCell H1.out 7 _ rfl).1; have q8 := (Sts.boxCell H1.out 8 _ rfl).1))
  clear HSM H0 q0 q1 q2 q3 q4 q5 q6 q7 q8
  refine (cNewOk (stab1 (blkP_stable _ _)) src num cls name _ data chunk timeout retries H1.out (RdsB.arg HD.out) hname hn HNB.out).mono ?_
  rintro e w2 ⟨q1', rfl, h⟩
  have H2 := hid h
  clear h H1
  have q0 := (Sts.boxCell H2.out.swap 0 _ rfl).1; have q1 := (Sts.boxCell H2.out.swap 1 _ rfl).1; have q2 := (Sts.boxCell H2.out.swap 2 _ rfl).1; have q3 := (Sts.boxCell H2.out.swap 3 _ rfl).1; have q4 := (Sts.boxCell H2.out.swap 4 _ rfl).1; have q5 := (Sts.boxCell H2.out.swap 5 _ rfl).1; have q6 := (Sts.boxCell H2.out.swap 6 _ rfl).1; have q7 := (Sts.boxCell H2.out.swap 7 _ rfl).1; have q8 := (Sts.boxCell H2.out.swap 8 _ rfl).1
  go_wp2_with fail
  clear q0 q1 q2 q3 q4 q5 q6 q7 q8
  refine (cRefNewOk w2 src num cls chunk timeout retries name da data.length dc hname HV.out.1 HV.out.2).mono ?_
  rintro e w3 ⟨rfl, hb3⟩
  have HX0 := hid ((H2.out.quiet (stabC (srcP_stable _ _) (stab1 (blkP_stable _ _))) hb3).alloc (stabC (srcP_stable _ _) (stab1 (blkP_stable _ _))) (.cells #[.int .i64 0, .int .i64 0, .int .i64 0, .string ⟨#[]⟩, .slice none 0 0, .int .i64 0, .int .i64 0, .int .i64 0, .int .i64 0, .int .i64 0, .int .i64 0, .int .i64 0, .int .i64 0, .bool false, .bool false, .bool false, .bool false, .bool false, .slice none 0 0, .int .i64 0] 38))
  generalize hbx : w3.heap.size = bx at *
  clear hb3 H2
  go_wp2_with (first | (refine wpList_store_agg HX0.out (stabC (srcP_stable _ _) (stab1 (blkP_stable _ _))) rfl (.tmp 5) (.tmp 38) 38 rfl #[.int .i64 src, .int .i64 num, .int .i64 cls, .string name, .slice da data.length dc, .int .i64 chunk, .int .i64 timeout, .int .i64 retries, .int .i64 1, .int .i64 0, .int .i64 0, .int .i64 0, .int .i64 0, .bool false, .bool false, .bool false, .bool false, .bool false, .slice none 0 0, .int .i64 0] rfl rfl size20 rfl (fun v hv => List.all_eq_true.1 (show (#[.int .i64 src, .int .i64 num, .int .i64 cls, .string name, .slice da data.length dc, .int .i64 chunk, .int .i64 timeout, .int .i64 retries, .int .i64 1, .int .i64 0, .int .i64 0, .int .i64 0, .int .i64 0, .bool false, .bool false, .bool false, .bool false, .bool false, .slice none 0 0, .int .i64 0].toList).all (fun v => v.oneCell') = true from rfl) v hv) (by kernel_rfl) ?_; intro w7 hZ; have HW := hid (Sts.newRef hZ).swap; clear hZ HX0))
  clear hbx
  go_loopw [7] (fun i wr => ∃ (k : Nat) (s : Fil.Src), k ≤ S.length ∧ i = .int .i64 k ∧ Fil.Reg s ∧ s.data = data ∧ Sts w [srcP q1' s, refP zn bx s (.slice da data.length dc), blkP w.heap.size (.cells #[.int .i64 src, .int .i64 num, .int .i64 cls, .string name, .slice da data.length dc, .int .i64 chunk, .int .i64 timeout, .int .i64 retries, .slice la S.length lc] 29 (0, 0))] wr) (fun i _ => S.length - (intOf i).toNat)
  case atStart => exact ⟨0, _, by omega, rfl, HREG.out, rfl, HW.out⟩
  case round =>
    obtain ⟨k, s, hk, rfl, hreg, hdat, hS⟩ := hrel
    have HS := hid hS
    have HRG := hid hreg
    have HDT := hid hdat
    have q8 := (Sts.boxCell hS.tail.tail 8 _ rfl).1
    clear hS hreg hdat HW
    by_cases hlt : k < S.length
    · obtain ⟨b, off, hab, hb, hst, hpr⟩ := HX.out k hlt
      have hsb := HALL.out _ (List.getElem_mem hlt)
      have HPR := hid hpr
      have hst' : ∀ y, Below w.heap.size w y → ∀ j x, (stpC S[k])[j]? = some x → y.cell? ⟨b, off + k * 13 + j, none⟩ = some x := fun y hy j x hx => by
        rw [hy.cell hb]
        refine hst j x ?_
        rw [← hx]
        show _ = (stpC S[k])[j]?
        rw [← Array.getElem?_toList]
        rfl
      generalize S[k] = t at *
      have HST := hid hst'
      have HSB := hid hsb
      subst hab
      clear hst hst' hsb hb hpr
      have hstep := fun y (hy : Sts w [srcP q1' s, refP zn bx s (.slice da data.length dc), blkP w.heap.size (.cells #[.int .i64 src, .int .i64 num, .int .i64 cls, .string name, .slice da data.length dc, .int .i64 chunk, .int .i64 timeout, .int .i64 retries, .slice (some ⟨b, off, none⟩) S.length lc] 29 (0, 0))] y) => cStep (stab1 (blkP_stable _ _)) zn q1' bx s da dc (by rw [HDT.out]; exact hy) HRG.out t (by rw [HDT.out]; exact HD.out) (fun A y _ => zn_rd y) HPR.out (by have := HSB.out.1; omega) (by have := HSB.out.2.1; omega) (by have := HSB.out.2.2; omega)
      obtain ⟨s2, hs2⟩ : ∃ s2, s2 = s.stepV t := ⟨_, rfl⟩
      have hreg2 : Fil.Reg s2 := by rw [hs2]; exact HRG.out.stepV t
      have hdat2 : s2.data = data := by rw [hs2, Fil.stepV_data]; exact HDT.out
      rw [← hs2, HDT.out] at hstep
      have HSTEP := hid hstep
      have HRG2 := hid hreg2
      have HDT2 := hid hdat2
      have hD1 : ∀ y, Sts w [srcP q1' s2, refP zn bx s2 (.slice da data.length dc), blkP w.heap.size (.cells #[.int .i64 src, .int .i64 num, .int .i64 cls, .string name, .slice da data.length dc, .int .i64 chunk, .int .i64 timeout, .int .i64 retries, .slice (some ⟨b, off, none⟩) S.length lc] 29 (0, 0))] y → y.cell? ⟨w.heap.size, 8, none⟩ = some (.slice (some ⟨b, off, none⟩) S.length lc) ∧ (∀ j x, (stpC t)[j]? = some x → y.cell? ⟨b, off + k * 13 + j, none⟩ = some x) ∧ y.cell? ⟨bx, 19, none⟩ = some (.int .i64 s2.code) := fun y hy => by
        obtain ⟨wv, h⟩ := Sts.openRef hy.swap
        exact ⟨(Sts.boxCell hy.tail.tail 8 _ rfl).1, HST.out y hy.below, (Sts.refC h).k19⟩
      have HD1 := hid hD1
      clear hstep hs2 hreg2 hdat2 hD1
      go_wp2_with fail
      have hD1 := HD1.out
      refine wp_region_ord (.pure 0 (.pure 1 (.pure 2 (.pure 3 (.pure 4 (.pure 5 (.eff 6 (.pure 7 (.pure 8 (.pure 9 (.eff 10 (.eff 11 (.pure 12 (.pure 13 (.pure 14 (.pure 15 (.pure 17 (.pure 18 (.eff 16 (.pure 19 (.pure 20 .nil))))))))))))))))))))) (fun y => y.cell? ⟨w.heap.size, 8, none⟩ = some (.slice (some ⟨b, off, none⟩) S.length lc) ∧ (∀ j x, (stpC t)[j]? = some x → y.cell? ⟨b, off + k * 13 + j, none⟩ = some x)) (fun y => Sts w [srcP q1' s, refP zn bx s (.slice da data.length dc), blkP w.heap.size (.cells #[.int .i64 src, .int .i64 num, .int .i64 cls, .string name, .slice da data.length dc, .int .i64 chunk, .int .i64 timeout, .int .i64 retries, .slice (some ⟨b, off, none⟩) S.length lc] 29 (0, 0))] y) (by kernel_rfl) (by kernel_rfl) (HS.out.drew (stabC (srcP_stable _ _) (stabC (refP_stable _ _ _ _) (stab1 (blkP_stable _ _))))) (fun y hy => ⟨(Sts.boxCell hy.tail.tail 8 _ rfl).1, HST.out y hy.below⟩) ?_
      iterate 6
        (apply ord_pure (ho := rfl)
         · go_simp
         · intro x hx; obtain ⟨h8, hst⟩ := hx; have q0 : x.cell? ⟨b, off + k * 13, none⟩ = some (.int .u8 t.kind) := hst 0 _ rfl; have q1 : x.cell? ⟨b, off + k * 13 + 1, none⟩ = some (.int .i64 t.p.kind) := hst 1 _ rfl; have q2 : x.cell? ⟨b, off + k * 13 + 2, none⟩ = some (.int .i64 t.p.src) := hst 2 _ rfl; have q3 : x.cell? ⟨b, off + k * 13 + 3, none⟩ = some (.int .i64 t.p.num) := hst 3 _ rfl; have q4 : x.cell? ⟨b, off + k * 13 + 4, none⟩ = some (.int .i64 t.p.cls) := hst 4 _ rfl; have q5 : x.cell? ⟨b, off + k * 13 + 5, none⟩ = some (.string t.p.name) := hst 5 _ rfl; have q6 : x.cell? ⟨b, off + k * 13 + 6, none⟩ = some (.int .i64 t.p.size) := hst 6 _ rfl; have q7 : x.cell? ⟨b, off + k * 13 + 7, none⟩ = some (.int .i64 t.p.off) := hst 7 _ rfl; have q8 : x.cell? ⟨b, off + k * 13 + 8, none⟩ = some (.slice t.p.da t.p.data.length t.p.dc) := hst 8 _ rfl; have q9 : x.cell? ⟨b, off + k * 13 + 9, none⟩ = some (.int .u32 (t.p.sum : Nat)) := hst 9 _ rfl; have q10 : x.cell? ⟨b, off + k * 13 + 10, none⟩ = some (.int .i64 t.p.code) := hst 10 _ rfl; have q11 : x.cell? ⟨b, off + k * 13 + 11, none⟩ = some (.slice t.p.ga t.p.gaps.length t.p.gc) := hst 11 _ rfl; have q12 : x.cell? ⟨b, off + k * 13 + 12, none⟩ = some (.int .i64 t.now) := hst 12 _ rfl; clear hst; go_simp; rfl
         apply ord_norm
         · go_simp; rfl)
      apply ord_eff (ho := rfl)
      · go_simp
      intro y hy
      refine eff_call (f := 27) (by go_simp; rfl) (HSTEP.out y hy) ?_
      rintro e w7 ⟨rfl, hw⟩
      refine ⟨_, rfl, (fun y => y.cell? ⟨w.heap.size, 8, none⟩ = some (.slice (some ⟨b, off, none⟩) S.length lc) ∧ (∀ j x, (stpC t)[j]? = some x → y.cell? ⟨b, off + k * 13 + j, none⟩ = some x) ∧ y.cell? ⟨bx, 19, none⟩ = some (.int .i64 s2.code)), (fun y => Sts w [srcP q1' s2, refP zn bx s2 (.slice da data.length dc), blkP w.heap.size (.cells #[.int .i64 src, .int .i64 num, .int .i64 cls, .string name, .slice da data.length dc, .int .i64 chunk, .int .i64 timeout, .int .i64 retries, .slice (some ⟨b, off, none⟩) S.length lc] 29 (0, 0))] y), hw, (fun y hy => hD1 y hy), (fun _ h => ⟨h.1, h.2.1⟩), ?_⟩
      clear hw hy y
      apply ord_norm
      · go_simp; rfl
      iterate 3
        (apply ord_pure (ho := rfl)
         · go_simp
         · intro x hx; obtain ⟨h8, hst, h19⟩ := hx; skip; clear hst; go_simp; try rfl
         apply ord_norm
         · go_simp; rfl)
      apply ord_eff (ho := rfl)
      · go_simp
      intro y hy
      refine eff_call (f := 17) (by go_simp; try rfl) (cStateS q1' s2 hy) ?_
      rintro e w7 ⟨rfl, rfl⟩
      refine ⟨_, rfl, (fun y => y.cell? ⟨w.heap.size, 8, none⟩ = some (.slice (some ⟨b, off, none⟩) S.length lc) ∧ (∀ j x, (stpC t)[j]? = some x → y.cell? ⟨b, off + k * 13 + j, none⟩ = some x) ∧ y.cell? ⟨bx, 19, none⟩ = some (.int .i64 s2.code)), (fun y => Sts w [srcP q1' s2, refP zn bx s2 (.slice da data.length dc), blkP w.heap.size (.cells #[.int .i64 src, .int .i64 num, .int .i64 cls, .string name, .slice da data.length dc, .int .i64 chunk, .int .i64 timeout, .int .i64 retries, .slice (some ⟨b, off, none⟩) S.length lc] 29 (0, 0))] y), hy, (fun y hy => hD1 y hy), (fun _ h => h), ?_⟩
      clear hy y
      apply ord_norm
      · go_simp; rfl
      apply ord_eff (ho := rfl)
      · go_simp
      intro y hy
      refine eff_call (f := 18) (by go_simp; try rfl) (cRState zn bx s2 _ hy.swap HRG2.out.ph) ?_
      rintro e w7 ⟨rfl, rfl⟩
      refine ⟨_, rfl, (fun y => y.cell? ⟨w.heap.size, 8, none⟩ = some (.slice (some ⟨b, off, none⟩) S.length lc) ∧ (∀ j x, (stpC t)[j]? = some x → y.cell? ⟨b, off + k * 13 + j, none⟩ = some x) ∧ y.cell? ⟨bx, 19, none⟩ = some (.int .i64 s2.code)), (fun y => Sts w [srcP q1' s2, refP zn bx s2 (.slice da data.length dc), blkP w.heap.size (.cells #[.int .i64 src, .int .i64 num, .int .i64 cls, .string name, .slice da data.length dc, .int .i64 chunk, .int .i64 timeout, .int .i64 retries, .slice (some ⟨b, off, none⟩) S.length lc] 29 (0, 0))] y), hy, (fun y hy => hD1 y hy), (fun _ h => h), ?_⟩
      clear hy y
      apply ord_norm
      · go_simp; rfl
      
      iterate 6
        (apply ord_pure (ho := rfl)
         · go_simp
         · intro x hx; obtain ⟨h8, hst, h19⟩ := hx; skip; clear hst; go_simp; try rfl
         apply ord_norm
         · go_simp; rfl)
      apply ord_eff (ho := rfl)
      · go_simp
      intro y hy
      refine eff_call (f := 19) (by go_simp; try rfl) (cCodeS q1' s2 hy) ?_
      rintro e w7 ⟨rfl, rfl⟩
      refine ⟨_, rfl, (fun y => y.cell? ⟨w.heap.size, 8, none⟩ = some (.slice (some ⟨b, off, none⟩) S.length lc) ∧ (∀ j x, (stpC t)[j]? = some x → y.cell? ⟨b, off + k * 13 + j, none⟩ = some x) ∧ y.cell? ⟨bx, 19, none⟩ = some (.int .i64 s2.code)), (fun y => Sts w [srcP q1' s2, refP zn bx s2 (.slice da data.length dc), blkP w.heap.size (.cells #[.int .i64 src, .int .i64 num, .int .i64 cls, .string name, .slice da data.length dc, .int .i64 chunk, .int .i64 timeout, .int .i64 retries, .slice (some ⟨b, off, none⟩) S.length lc] 29 (0, 0))] y), hy, (fun y hy => hD1 y hy), (fun _ h => h), ?_⟩
      clear hy y
      apply ord_norm
      · go_simp; rfl
      
      iterate 2
        (apply ord_pure (ho := rfl)
         · go_simp
         · intro x hx; obtain ⟨h8, hst, h19⟩ := hx; skip; clear hst; go_simp; try rfl
         apply ord_norm
         · go_simp; rfl)
      refine ord_nil fun z hz => ?_
      have HZ := hid hz
      clear hz HS
      go_wp2_with fail
      go_roundw
      case rel => exact ⟨k + 1, s2, by omega, by go_num, HRG2.out, HDT2.out, HZ.out⟩
      case measure => simp [intOf]; omega
    · obtain rfl : k = S.length := by omega
      go_wp2_with (first | (go_at_call 14; refine (cLives27 _).mono ?_; rintro e w9 ⟨rfl, hb9⟩; have H9 := hid (HS.out.below.trans (hb9.mono HS.out.below.size)); clear hb9))
      go_ret
      exact ⟨rfl, H9.out⟩
set_option maxRecDepth 100000 in
set_option maxHeartbeats 8000000 in
theorem plays_bad (w : World) (src num cls chunk timeout retries : Int) (name : ByteArray) (vd vl : Value) (data : List Nat) (S : List Fil.Stp) (hd : RdB w vd data) (hS : StpsAt w vl S) (hsm : Fil.smallB name.size data.length S = true) (hb : Fil.newB src num cls name data.length chunk timeout retries = false) : Calls Try.prog 6 #[.agg #[.int .i64 src, .int .i64 num, .int .i64 cls, .string name, vd, .int .i64 chunk, .int .i64 timeout, .int .i64 retries, vl]] w fun e w' => e = .returned (.bool true) ∧ Below w.heap.size w w' := by
  obtain ⟨hname, hn, hlen, hall⟩ := small_stp hsm
  replace hname : name.size ≤ 1000000 := by omega
  clear hall hn
  obtain ⟨da, dc, hde⟩ := hd.1.eq
  rw [u8s_len] at hde
  subst hde
  obtain ⟨la, lc, hle, hx⟩ := hS.cells
  subst hle
  have hbw := (Below.refl w.heap.size w).alloc (Nat.le_refl _) (.cells #[.int .i64 src, .int .i64 num, .int .i64 cls, .string name, .slice da data.length dc, .int .i64 chunk, .int .i64 timeout, .int .i64 retries, .slice la S.length lc] 29)
  have hsmall := cSmall (w.alloc (.cells #[.int .i64 src, .int .i64 num, .int .i64 cls, .string name, .slice da data.length dc, .int .i64 chunk, .int .i64 timeout, .int .i64 retries, .slice la S.length lc] 29)) src num cls chunk timeout retries name _ _ data S (hd.below hbw) (hS.below hbw)
  have HSMB := hid hsm
  rw [hsm] at hsmall
  have HSM := hid hsmall
  have H0 := hid ((Sts.nil w).alloc stab0 (.cells #[.int .i64 src, .int .i64 num, .int .i64 cls, .string name, .slice da data.length dc, .int .i64 chunk, .int .i64 timeout, .int .i64 retries, .slice la S.length lc] 29))
  have HD := hid hd
  have HX := hid hx
  clear hsmall hbw hd hS hsm hx
  have hrn : ∀ (y : World) (a : Option Addr) (c : Nat), Calls Try.prog 16 #[.agg #[.int .i64 src, .int .i64 num], .int .i64 cls, .string name, .slice a data.length c, .agg #[.int .i64 chunk, .int .i64 timeout, .int .i64 retries]] y fun e w' => e = .returned (.tuple #[.agg #[.int .i64 0, .int .i64 0, .int .i64 0, .string ⟨#[]⟩, .slice none 0 0, .int .i64 0, .int .i64 0, .int .i64 0, .int .i64 0, .int .i64 0, .int .i64 0, .int .i64 0, .int .i64 0, .bool false, .bool false, .bool false, .bool false, .bool false, .slice none 0 0, .int .i64 0], .int .i64 1]) ∧ Below y.heap.size y w' := fun y a c => by
    cases hv : (Fil.headP src num cls name data.length).validB with
    | false => exact cRefNewBad y src num cls chunk timeout retries name a data.length c hname hv
    | true =>
      have hc : cfgB chunk timeout retries = false := by rw [newB_eq, hv] at hb; simpa using hb
      exact cRefNewCfg y src num cls chunk timeout retries name a data.length c hname hv hc
  have HRN := hid hrn
  have HNB := hid hb
  clear hrn hb
  go_enter Try.func6, Try.ntmps6
  go_wp2_with (first | (go_at_call 13; refine HSM.out.mono ?_; rintro e w1 ⟨rfl, hb1⟩; have H1 := hid (H0.out.quiet (stab1 (blkP_stable _ _)) hb1); clear hb1; have q0 := (Sts.boxCell H1.out 0 _ rfl).1; have q1 := (Sts.boxCell H1.out 1 _ rfl).1; have q2 := (Sts.boxCell H1.out 2 _ rfl).1; have q3 := (Sts.boxCell H1.out 3 _ rfl).1; have q4 := (Sts.boxCell H1.out 4 _ rfl).1; have q5 := (Sts.boxCell H1.out 5 _ rfl).1; have q6 := (Sts.boxCell H1.out 6 _ rfl).1; have q7 := (Sts.boxCell H1.out 7 _ rfl).1; have q8 := (Sts.boxCell H1.out 8 _ rfl).1))
  clear HSM H0 q0 q1 q2 q3 q4 q5 q6 q7 q8
  refine (cNewBad (stab1 (blkP_stable _ _)) src num cls name _ data chunk timeout retries H1.out (RdsB.arg HD.out) hname HNB.out).mono ?_
  rintro e w2 ⟨rfl, h⟩
  have H2 := hid h
  clear h H1
  have q0 := (Sts.boxCell H2.out 0 _ rfl).1; have q1 := (Sts.boxCell H2.out 1 _ rfl).1; have q2 := (Sts.boxCell H2.out 2 _ rfl).1; have q3 := (Sts.boxCell H2.out 3 _ rfl).1; have q4 := (Sts.boxCell H2.out 4 _ rfl).1; have q5 := (Sts.boxCell H2.out 5 _ rfl).1; have q6 := (Sts.boxCell H2.out 6 _ rfl).1; have q7 := (Sts.boxCell H2.out 7 _ rfl).1; have q8 := (Sts.boxCell H2.out 8 _ rfl).1
  go_wp2_with fail
  clear q0 q1 q2 q3 q4 q5 q6 q7 q8
  refine (HRN.out w2 da dc).mono ?_
  rintro e w3 ⟨rfl, hb3⟩
  have HX0 := hid ((H2.out.quiet (stab1 (blkP_stable _ _)) hb3).alloc (stab1 (blkP_stable _ _)) (.cells #[.int .i64 0, .int .i64 0, .int .i64 0, .string ⟨#[]⟩, .slice none 0 0, .int .i64 0, .int .i64 0, .int .i64 0, .int .i64 0, .int .i64 0, .int .i64 0, .int .i64 0, .int .i64 0, .bool false, .bool false, .bool false, .bool false, .bool false, .slice none 0 0, .int .i64 0] 38))
  clear hb3 H2
  go_wp2_with (first | (refine wpList_store_agg HX0.out (stab1 (blkP_stable _ _)) rfl (.tmp 5) (.tmp 38) 38 rfl #[.int .i64 0, .int .i64 0, .int .i64 0, .string ⟨#[]⟩, .slice none 0 0, .int .i64 0, .int .i64 0, .int .i64 0, .int .i64 0, .int .i64 0, .int .i64 0, .int .i64 0, .int .i64 0, .bool false, .bool false, .bool false, .bool false, .bool false, .slice none 0 0, .int .i64 0] rfl rfl size20 rfl (fun v hv => List.all_eq_true.1 (show (#[.int .i64 0, .int .i64 0, .int .i64 0, .string ⟨#[]⟩, .slice none 0 0, .int .i64 0, .int .i64 0, .int .i64 0, .int .i64 0, .int .i64 0, .int .i64 0, .int .i64 0, .int .i64 0, .bool false, .bool false, .bool false, .bool false, .bool false, .slice none 0 0, .int .i64 0].toList).all (fun v => v.oneCell') = true from rfl) v hv) (by kernel_rfl) ?_; intro w7 hZ; have HW := hid hZ; clear hZ HX0))
  have HW2 := hid HW.out.tail
  go_loopw [7] (fun i wr => i = .int .i64 0 ∧ Sts w [blkP w.heap.size (.cells #[.int .i64 src, .int .i64 num, .int .i64 cls, .string name, .slice da data.length dc, .int .i64 chunk, .int .i64 timeout, .int .i64 retries, .slice la S.length lc] 29 (0, 0))] wr) (fun i _ => 0)
  case atStart => exact ⟨rfl, HW2.out⟩
  case round =>
    obtain ⟨rfl, hS⟩ := hrel
    have HS := hid hS
    have q8 := (Sts.boxCell hS 8 _ rfl).1
    clear hS HW HW2
    rcases Nat.eq_zero_or_pos S.length with hz | hz
    all_goals
      have d : decide ((0 : Int) < (S.length : Int)) = decide (0 < S.length) := by simp
      go_wp2_with (first | (go_at_call 14; refine (cLives27 _).mono ?_; rintro e w9 ⟨rfl, hb9⟩; have H9 := hid (HS.out.below.trans (hb9.mono HS.out.below.size)); clear hb9))
      go_ret
      exact ⟨rfl, H9.out⟩
theorem plays_all (w : World) (src num cls chunk timeout retries : Int) (name : ByteArray) (vd vl : Value) (data : List Nat) (S : List Fil.Stp) (hd : RdB w vd data) (hS : StpsAt w vl S) : Calls Try.prog 6 #[.agg #[.int .i64 src, .int .i64 num, .int .i64 cls, .string name, vd, .int .i64 chunk, .int .i64 timeout, .int .i64 retries, vl]] w fun e w' => e = .returned (.bool true) ∧ Below w.heap.size w w' := by
  cases hsm : Fil.smallB name.size data.length S with
  | false => exact plays_big w src num cls chunk timeout retries name vd vl data S hd hS hsm
  | true =>
    cases hb : Fil.newB src num cls name data.length chunk timeout retries with
    | false => exact plays_bad w src num cls chunk timeout retries name vd vl data S hd hS hsm hb
    | true => exact plays_ok w src num cls chunk timeout retries name vd vl data S hd hS hsm hb
end Go.Proofs.Ytfjadhkhmhnccaa
