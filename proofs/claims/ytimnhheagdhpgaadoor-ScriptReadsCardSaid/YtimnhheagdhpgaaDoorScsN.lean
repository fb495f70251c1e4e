/- The specification's act: a file, a fault. -/
import Derived.Test.YtimnhheagdhpgaaDoorScsM
set_option linter.unusedVariables false
set_option linter.unusedSimpArgs false
namespace Go.Proofs.YtimnhheagdhpgaaDoor
open Go.RowKit Go.Proofs.Num
open Scr (Str bs numV numsV small svcV fltV nameV bytesV oneV fileV faultV orderV tailV flts parseL parseV b8 textV textL svcs svcN fltN ixOf valC digR pairR bytesR rnum magR splitW hexC hexB hexV lineV lineL joinW actR argsR at')
theorem exec_cell {W w : World} {l : List HProp} {b : Nat} {c : Array Value} {t0 : TypeId} {o : Oper} {a : Act} (hS : Sts W (blkP b (.cells c t0 (0, 0)) :: l) w) (hl : ∀ B ∈ l, Stable B) (p v : Operand) (t : TypeId) (ho : o.op = .store t p v) (j : Nat) (x : Value)
    (hp : a.eval p = .pointer (some ⟨b, j, none⟩)) (hv : a.eval v = x) (hz : ∀ w, (Go.sizeOf t).run Tryd.prog w = .ok 1 w) (hj : j < c.size) (h1 : cellB x = true) :
    ∃ w', (execOp a.eval o).run Tryd.prog w = .ok .skip w' ∧ Sts W (blkP b (.cells (c.setIfInBounds j x) t0 (0, 0)) :: l) w' := by
  have hb : w.heap[b]? = some (.cells c t0 (0, 0)) := by obtain ⟨F, hF⟩ := hS.head; exact hF.1
  have h3 := cell_blk hb (Array.getElem?_eq_getElem hj)
  have h4 : w.frozen? ⟨b, j, none⟩ = false := free_blk hb
  have hf := Sts.store hl hS (j := j) x
  refine ⟨_, ?_, hf⟩
  unfold execOp
  simp only [ho, hp, hv]
  cases x
  all_goals first
    | (simp [cellB] at h1; done)
    | (simp [go_sem, Instr.storeAt, storeVar, hz, Value.cells, h3, h4, Result.andThen])
/-- The store of the result, the last of a region. -/
theorem effS_act {L : Prop} {o : Oper} {a : Act} {D : WP} {K : Act → WP → WP → Prop} {W y : World} {l : List HProp} {b : Nat} {c vs : Array Value} (hL : L) (hS : Sts W (blkP b (.cells c 29 (0, 0)) :: l) y) (hl : ∀ B ∈ l, Stable B) (p v : Operand) (ho : o.op = .store 29 p v)
    (hp : a.eval p = .pointer (some ⟨b, 0, none⟩)) (hv : a.eval v = .agg vs) (hz : vs.size = 12) (hc : c.size = 12) (h1 : vs.toList.all (fun v => v.oneCell') = true)
    (hk : K (a.put o.dst undef) (fun _ => True) (fun z => Sts W (blkP b (.cells vs 29 (0, 0)) :: l) z)) : effUpon Tryd.prog L o.dst a D K ((execOp a.eval o).run Tryd.prog y) := by
  obtain ⟨w', hr, hf⟩ := exec_agg (o := o) (a := a) hS hl p v 29 ho vs hp hv (by rw [hz]; exact sizeAct) (by rw [hc, hz]) h1
  exact effS_skip _ _ hL hr hf (fun _ _ => trivial) hk
section
variable {w : World}
set_option maxRecDepth 100000 in
set_option maxHeartbeats 16000000 in
theorem cActFile (ad : Addr) (c : Nat) (l : List Str) (h1 : 1 ≤ l.length) (hl : l.length < 1000000) (hw : ∀ x ∈ l, x.length < 1000000) (hr : Rd w (.slice (some ad) (strsV l).length c) (strsV l)) (hnm : at' l 0 = b8 "file") : Calls Tryd.prog 21 #[.slice (some ad) (strsV l).length c] w fun e w' => actD w w' (actR l) e := by
  have HREC := hid (show actR l = { Scr.act0 with kind := 3, num := rnum (at' l 1), name := at' l 2, data := bytesR (at' l 3) } from by unfold actR; simp only [hnm, Scr.ne_fil1, Scr.ne_fil3, if_true, if_false])
  have hz := (Sts.nil w).alloc stab0 (.cells (actC Scr.act0 (.slice none 0 0) (.slice none 0 0) (.slice none 0 0)) 29)
  have HZ := hid hz
  have HR0 := hid (hr.below hz.below)
  have hw0 : ∀ k, (at' l k).length < 1000000 := fun k => by
    unfold at'
    rw [List.getD_eq_getElem?_getD]
    cases h : l[k]? with
    | none => simp
    | some x => exact hw x (List.mem_of_getElem? h)
  have HW0 := hid hw0
  have hlen : (strsV l).length < 1000000 := by rw [strsV_len]; exact hl
  have hlen1 : 1 ≤ (strsV l).length := by rw [strsV_len]; exact h1
  obtain ⟨ys, hys⟩ : ∃ ys, ys = strsV l := ⟨_, rfl⟩
  have HYS := hid hys
  rw [← hys] at HR0 hlen hlen1 ⊢
  clear hys hr hz hw0 hw hl h1
  go_enter Tryd.func21, Tryd.ntmps21
  go_wp2_with fail
  go_loopw [0] (fun v wr => ∃ (xs : List Value) (ad : Addr) (c : Nat), v = .slice (some ad) xs.length c ∧ xs.length < 1000000 ∧ 1 ≤ xs.length ∧ Hid (∃ l', xs = strsV l' ∧ PadOf l l') ∧ Hid (Rd wr (.slice (some ad) xs.length c) xs) ∧ Hid (Sts w [blkP w.heap.size (.cells (actC Scr.act0 (.slice none 0 0) (.slice none 0 0) (.slice none 0 0)) 29 (0, 0))] wr)) (fun v _ => 4 - lenOf v)
  case atStart => exact ⟨ys, ad, c, rfl, hlen, hlen1, hid ⟨l, HYS.out, 0, by simp⟩, HR0, HZ⟩
  case round =>
    obtain ⟨xs, ad', c', rfl, hx6, hx1, HP, HR, HS⟩ := hrel
    by_cases hlt : xs.length < 4
    · have HN := hid (fun x (h : Sts w [blkP w.heap.size (.cells (actC Scr.act0 (.slice none 0 0) (.slice none 0 0) (.slice none 0 0)) 29 (0, 0))] x) => Sts.new (stab1 (blkP_stable _ _)) h (newRow0 (w := x) 9))
      have HX := hid (show ∀ u ∈ xs, u.oneCell' = true from by obtain ⟨l', rfl, -⟩ := HP.out; exact strs_one l')
      have hf1 : ([] : List Value).length + xs.length < 1000000000 := by simp; omega
      have hf2 : ([] ++ xs).length + 1 < 1000000000 := by simp; omega
      have hd : decide ((xs.length : Int) < 4) = true := decide_eq_true (by omega)
      go_wp2_with (first | (at_builtin; refine wpList_app eltStr (xs := []) (ms := xs) rfl (.tmp 10) (.tmp 11) rfl (HN.out _ HS.out) (stab1 (blkP_stable _ _)) rfl ad' c' rfl (rd_news HR.out ((Below.refl _ _).alloc (Nat.le_refl _) _)) HX.out (by decide) hf1 ?_; intro v1 w1 h1; have H1 := hid h1; clear h1) | (at_builtin; refine wpList_app eltStr (ms := [.string ⟨#[]⟩]) rfl (.tmp 12) (.tmp 13) rfl (H1.out.box (stabC (rowP_stable _ _ _ _ _) (stabC (blkP_stable _ _) stab0)) _) (stab1 (blkP_stable _ _)) rfl ⟨w1.heap.size, 0, none⟩ 1 rfl (new_cell _ _ _) (fun u hu => by simp only [List.mem_singleton] at hu; subst hu; rfl) (by decide) hf2 ?_; intro v2 w2 h2; have H2 := hid h2; clear h2))
      all_goals (
        obtain ⟨g, cap, hv⟩ : ∃ g cap, v2 = .slice (some ⟨g, 0, none⟩) ([] ++ xs ++ [.string ⟨#[]⟩] : List Value).length cap := by
          have h := Sts.rowOwn H2.out
          rcases h.2 with ⟨h2, h3⟩ | ⟨g, cap, cur, hv, r⟩
          · exfalso; simp at h3
          · exact ⟨g, cap, hv⟩
        subst hv
        go_roundw
        case rel => exact ⟨[] ++ xs ++ [.string ⟨#[]⟩], _, _, rfl, by simp; omega, by simp, hid (by obtain ⟨l', rfl, hp⟩ := HP.out; exact ⟨l' ++ [[]], by simp [strsV, strV], hp.more⟩), hid (Sts.rd H2.out), hid H2.out.tail⟩
        case measure => simp [lenOf]; omega)
    · have hge : 4 ≤ xs.length := by omega
      have hd : decide ((xs.length : Int) < 4) = false := decide_eq_false (by omega)
      have hd2 : ¬ ((xs.length : Int) < 4) := by omega
      obtain ⟨l', hxl, hp⟩ := HP.out
      have hll : l'.length = xs.length := by rw [hxl, strsV_len]
      have hcell : ∀ k, k < xs.length → ∀ y, Below wr.heap.size wr y → y.cell? (ad'.add k) = some (.string ⟨(at' l k).toArray⟩) := fun k hk y hy => by
        refine rd_news HR.out hy k _ ?_
        rw [hxl, show strsV l' = l'.map strV from rfl, List.getElem?_map, List.getElem?_eq_getElem (show k < l'.length by omega), ← hp.at k, at', List.getD_eq_getElem?_getD, List.getElem?_eq_getElem (show k < l'.length by omega)]
        rfl
      obtain ⟨b, off, rfl⟩ : ∃ b off, ad' = ⟨b, off, none⟩ := by
        obtain ⟨b, off, e, -⟩ : ∃ b off, some ad' = some ⟨b, off, none⟩ ∧ True := by
          obtain ⟨a', c', e', hcap, hx⟩ := HR.out
          injection e' with e1 e2 e3
          obtain ⟨b, off, h1, -⟩ := hx 0 (by omega)
          exact ⟨b, off, by rw [e1, h1], trivial⟩
        injection e with e
        exact ⟨b, off, e⟩
      simp only [add_plain] at hcell
      have HCELL := hid hcell
      have HPAD := hid (show PadOf l l' ∧ l'.length = xs.length ∧ xs = strsV l' from ⟨hp, hll, hxl⟩)
      obtain ⟨K, hK⟩ : ∃ K, K = xs.length := ⟨_, rfl⟩
      rw [← hK] at hge hd hd2 hx6 HPAD HCELL ⊢
      have gk1 : (1 : Int) < (K : Int) := by omega
      have gk2 : (2 : Int) < (K : Int) := by omega
      have gk3 : (3 : Int) < (K : Int) := by omega
      have k0 := HCELL.out 0 (by omega) wr (Below.refl _ _)
      rw [Nat.add_zero] at k0
      clear hcell hp hll hxl HP hx1 hlt HR hK
      obtain ⟨q1, q2, q3, q4, q5⟩ := b8_eq (at' l 0)
      obtain ⟨x0, hx0⟩ : ∃ x0, x0 = at' l 0 := ⟨_, rfl⟩
      rw [decide_eq_false (by rw [hnm]; decide +kernel)] at q1
      rw [decide_eq_false (by rw [hnm]; decide +kernel)] at q3
      rw [decide_eq_true hnm] at q4
      rw [decide_eq_false (by rw [hnm]; decide +kernel)] at q5
      rw [← hx0] at q1 q3 q4 q5 k0
      clear q2 hx0
      have HC1 := hid (HCELL.out 1 (by omega))
      have HC2 := hid (HCELL.out 2 (by omega))
      have HC3 := hid (HCELL.out 3 (by omega))
      have HN1 := hid (fun y : World => cNumberR (w := y) ⟨(at' l 1).toArray⟩ (size_le (HW0.out 1)))
      have HB3 := hid (fun y : World => cBytesR (w := y) ⟨(at' l 3).toArray⟩ (size_le (HW0.out 3)))
      rw [show bs ⟨(at' l 1).toArray⟩ = at' l 1 from rfl] at HN1
      rw [show bs ⟨(at' l 3).toArray⟩ = at' l 3 from rfl] at HB3
      obtain ⟨x1, hx1⟩ : ∃ x1, x1 = at' l 1 := ⟨_, rfl⟩
      have HX1 := hid hx1
      rw [← hx1] at HC1
      obtain ⟨x2, hx2⟩ : ∃ x2, x2 = at' l 2 := ⟨_, rfl⟩
      have HX2 := hid hx2
      rw [← hx2] at HC2
      obtain ⟨x3, hx3⟩ : ∃ x3, x3 = at' l 3 := ⟨_, rfl⟩
      have HX3 := hid hx3
      rw [← hx3] at HC3
      rw [← hx1] at HN1
      rw [← hx3] at HB3
      clear hx1 hx2 hx3
      go_wp2_with fail
      refine wp_region_ordS (fun i => i == 12) (.pure 0 (.pure 1 (.pure 2 (.pure 4 (.pure 5 (.pure 6 (.pure 7 (.pure 8 (.pure 9 (.eff 3 (.eff 10 (.pure 11 (.eff 12 .nil))))))))))))) (fun y => Below wr.heap.size wr y) (fun y => Below wr.heap.size wr y) (by kernel_rfl) (by kernel_rfl) ((Below.refl _ _).drew) (fun _ h => h) ?_
      iterate 9
        (apply ord_pure (ho := rfl)
         · go_simp
         · intro x hx; have d1 := HC1.out x hx; have d2 := HC2.out x hx; have d3 := HC3.out x hx; go_simp; rfl
         apply ord_norm
         · go_simp; rfl)
      apply ord_eff (ho := rfl)
      · go_simp
      intro x hx
      refine eff_same (by go_simp) hx (fun _ h => h) (HN1.out x) ?_
      apply ord_norm
      · go_simp; rfl
      clear hx
      apply ord_eff (ho := rfl)
      · go_simp
      intro x hx
      refine eff_call (by go_simp) (HB3.out x) ?_
      rintro e w4 ⟨v, rfl, hn⟩
      obtain ⟨va, vc, rfl⟩ := hn.rd.eq
      have H4 := hid (Sts.new stab0 (Sts.nil_below hx) hn)
      refine ⟨_, rfl, fun y => Below wr.heap.size wr y, fun y => Sts wr [rowP 5 1 (.slice va (u8v (bytesR x3)).length vc) (u8v (bytesR x3)).length (u8v (bytesR x3))] y, H4.out, fun y hy => hy.below, fun _ h => h, ?_⟩
      apply ord_norm
      · go_simp; rfl
      clear hx hn
      iterate 1
        (apply ord_pure (ho := rfl)
         · go_simp
         · intro x hx; go_simp; rfl
         apply ord_norm
         · go_simp; rfl)
      apply ord_eff (ho := rfl)
      · go_simp
      intro x hx
      have HY := hid ((Sts.cat (stab1 (blkP_stable _ _)) HS.out hx).swap)
      refine effS_act (vs := actC { Scr.act0 with kind := 3, num := rnum x1, name := x2, data := bytesR x3 } (.slice va (u8v (bytesR x3)).length vc) (.slice none 0 0) (.slice none 0 0)) rfl HY.out (stab1 (rowP_stable _ _ _ _ _)) (.tmp 2) (.tmp 91) rfl rfl rfl rfl rfl rfl ?_
      apply ord_norm
      · go_simp; rfl
      apply ord_nil
      intro z hz
      have HF := hid hz
      clear hz hx
      go_wp2_with fail
      refine post_cell1 HF.out Tryd.results21 rfl rfl (ldAct rfl HF.out) ?_
      have hrec : actR l = { Scr.act0 with kind := 3, num := rnum x1, name := x2, data := bytesR x3 } := by rw [HREC.out, HX1.out, HX2.out, HX3.out]
      rw [hrec]
      exact ⟨_, _, _, rfl, ((HF.out.tail.rowNil 5).rowNil 3).third⟩
theorem kind_stepR (x : Str) (i : Nat) (hi : i < 7) : kindAt x (i + 1 + 1) = if fltN ((i : Int) + 1) = x then ((i : Int) + 1) else kindAt x (i + 1) := by
  rw [kind_step x (i + 1) (by omega)]
  have hf : fltAt (i + 1) = fltN ((i : Int) + 1) := by
    have : ∀ i : Fin 7, fltAt (i.val + 1) = fltN ((i.val : Int) + 1) := by decide +kernel
    exact this ⟨i, hi⟩
  rw [hf]
  by_cases h : fltN ((i : Int) + 1) = x
  · rw [if_pos ⟨by omega, h⟩, if_pos h]; omega
  · rw [if_neg (fun e => h e.2), if_neg h]
set_option maxRecDepth 100000 in
set_option maxHeartbeats 16000000 in
theorem cActFault (ad : Addr) (c : Nat) (l : List Str) (h1 : 1 ≤ l.length) (hl : l.length < 1000000) (hw : ∀ x ∈ l, x.length < 1000000) (hr : Rd w (.slice (some ad) (strsV l).length c) (strsV l)) (hnm : at' l 0 = b8 "fault") : Calls Tryd.prog 21 #[.slice (some ad) (strsV l).length c] w fun e w' => actD w w' (actR l) e := by
  have HREC := hid (show actR l = { Scr.act0 with kind := 4, fk := fltV (at' l 1), fat := rnum (at' l 2), fbit := rnum (at' l 3) } from by unfold actR; simp only [hnm, Scr.ne_flt1, Scr.ne_flt3, Scr.ne_flt4, if_true, if_false])
  have hz := (Sts.nil w).alloc stab0 (.cells (actC Scr.act0 (.slice none 0 0) (.slice none 0 0) (.slice none 0 0)) 29)
  have HZ := hid hz
  have HR0 := hid (hr.below hz.below)
  have hw0 : ∀ k, (at' l k).length < 1000000 := fun k => by
    unfold at'
    rw [List.getD_eq_getElem?_getD]
    cases h : l[k]? with
    | none => simp
    | some x => exact hw x (List.mem_of_getElem? h)
  have HW0 := hid hw0
  have hlen : (strsV l).length < 1000000 := by rw [strsV_len]; exact hl
  have hlen1 : 1 ≤ (strsV l).length := by rw [strsV_len]; exact h1
  obtain ⟨ys, hys⟩ : ∃ ys, ys = strsV l := ⟨_, rfl⟩
  have HYS := hid hys
  rw [← hys] at HR0 hlen hlen1 ⊢
  clear hys hr hz hw0 hw hl h1
  go_enter Tryd.func21, Tryd.ntmps21
  go_wp2_with fail
  go_loopw [0] (fun v wr => ∃ (xs : List Value) (ad : Addr) (c : Nat), v = .slice (some ad) xs.length c ∧ xs.length < 1000000 ∧ 1 ≤ xs.length ∧ Hid (∃ l', xs = strsV l' ∧ PadOf l l') ∧ Hid (Rd wr (.slice (some ad) xs.length c) xs) ∧ Hid (Sts w [blkP w.heap.size (.cells (actC Scr.act0 (.slice none 0 0) (.slice none 0 0) (.slice none 0 0)) 29 (0, 0))] wr)) (fun v _ => 4 - lenOf v)
  case atStart => exact ⟨ys, ad, c, rfl, hlen, hlen1, hid ⟨l, HYS.out, 0, by simp⟩, HR0, HZ⟩
  case round =>
    obtain ⟨xs, ad', c', rfl, hx6, hx1, HP, HR, HS⟩ := hrel
    by_cases hlt : xs.length < 4
    · have HN := hid (fun x (h : Sts w [blkP w.heap.size (.cells (actC Scr.act0 (.slice none 0 0) (.slice none 0 0) (.slice none 0 0)) 29 (0, 0))] x) => Sts.new (stab1 (blkP_stable _ _)) h (newRow0 (w := x) 9))
      have HX := hid (show ∀ u ∈ xs, u.oneCell' = true from by obtain ⟨l', rfl, -⟩ := HP.out; exact strs_one l')
      have hf1 : ([] : List Value).length + xs.length < 1000000000 := by simp; omega
      have hf2 : ([] ++ xs).length + 1 < 1000000000 := by simp; omega
      have hd : decide ((xs.length : Int) < 4) = true := decide_eq_true (by omega)
      go_wp2_with (first | (at_builtin; refine wpList_app eltStr (xs := []) (ms := xs) rfl (.tmp 10) (.tmp 11) rfl (HN.out _ HS.out) (stab1 (blkP_stable _ _)) rfl ad' c' rfl (rd_news HR.out ((Below.refl _ _).alloc (Nat.le_refl _) _)) HX.out (by decide) hf1 ?_; intro v1 w1 h1; have H1 := hid h1; clear h1) | (at_builtin; refine wpList_app eltStr (ms := [.string ⟨#[]⟩]) rfl (.tmp 12) (.tmp 13) rfl (H1.out.box (stabC (rowP_stable _ _ _ _ _) (stabC (blkP_stable _ _) stab0)) _) (stab1 (blkP_stable _ _)) rfl ⟨w1.heap.size, 0, none⟩ 1 rfl (new_cell _ _ _) (fun u hu => by simp only [List.mem_singleton] at hu; subst hu; rfl) (by decide) hf2 ?_; intro v2 w2 h2; have H2 := hid h2; clear h2))
      all_goals (
        obtain ⟨g, cap, hv⟩ : ∃ g cap, v2 = .slice (some ⟨g, 0, none⟩) ([] ++ xs ++ [.string ⟨#[]⟩] : List Value).length cap := by
          have h := Sts.rowOwn H2.out
          rcases h.2 with ⟨h2, h3⟩ | ⟨g, cap, cur, hv, r⟩
          · exfalso; simp at h3
          · exact ⟨g, cap, hv⟩
        subst hv
        go_roundw
        case rel => exact ⟨[] ++ xs ++ [.string ⟨#[]⟩], _, _, rfl, by simp; omega, by simp, hid (by obtain ⟨l', rfl, hp⟩ := HP.out; exact ⟨l' ++ [[]], by simp [strsV, strV], hp.more⟩), hid (Sts.rd H2.out), hid H2.out.tail⟩
        case measure => simp [lenOf]; omega)
    · have hge : 4 ≤ xs.length := by omega
      have hd : decide ((xs.length : Int) < 4) = false := decide_eq_false (by omega)
      have hd2 : ¬ ((xs.length : Int) < 4) := by omega
      obtain ⟨l', hxl, hp⟩ := HP.out
      have hll : l'.length = xs.length := by rw [hxl, strsV_len]
      have hcell : ∀ k, k < xs.length → ∀ y, Below wr.heap.size wr y → y.cell? (ad'.add k) = some (.string ⟨(at' l k).toArray⟩) := fun k hk y hy => by
        refine rd_news HR.out hy k _ ?_
        rw [hxl, show strsV l' = l'.map strV from rfl, List.getElem?_map, List.getElem?_eq_getElem (show k < l'.length by omega), ← hp.at k, at', List.getD_eq_getElem?_getD, List.getElem?_eq_getElem (show k < l'.length by omega)]
        rfl
      obtain ⟨b, off, rfl⟩ : ∃ b off, ad' = ⟨b, off, none⟩ := by
        obtain ⟨b, off, e, -⟩ : ∃ b off, some ad' = some ⟨b, off, none⟩ ∧ True := by
          obtain ⟨a', c', e', hcap, hx⟩ := HR.out
          injection e' with e1 e2 e3
          obtain ⟨b, off, h1, -⟩ := hx 0 (by omega)
          exact ⟨b, off, by rw [e1, h1], trivial⟩
        injection e with e
        exact ⟨b, off, e⟩
      simp only [add_plain] at hcell
      have HCELL := hid hcell
      have HPAD := hid (show PadOf l l' ∧ l'.length = xs.length ∧ xs = strsV l' from ⟨hp, hll, hxl⟩)
      obtain ⟨K, hK⟩ : ∃ K, K = xs.length := ⟨_, rfl⟩
      rw [← hK] at hge hd hd2 hx6 HPAD HCELL ⊢
      have gk1 : (1 : Int) < (K : Int) := by omega
      have gk2 : (2 : Int) < (K : Int) := by omega
      have gk3 : (3 : Int) < (K : Int) := by omega
      have k0 := HCELL.out 0 (by omega) wr (Below.refl _ _)
      rw [Nat.add_zero] at k0
      clear hcell hp hll hxl HP hx1 hlt HR hK
      obtain ⟨q1, q2, q3, q4, q5⟩ := b8_eq (at' l 0)
      obtain ⟨x0, hx0⟩ : ∃ x0, x0 = at' l 0 := ⟨_, rfl⟩
      rw [decide_eq_false (by rw [hnm]; decide +kernel)] at q1
      rw [decide_eq_false (by rw [hnm]; decide +kernel)] at q3
      rw [decide_eq_false (by rw [hnm]; decide +kernel)] at q4
      rw [decide_eq_true hnm] at q5
      rw [← hx0] at q1 q3 q4 q5 k0
      clear q2 hx0
      have HC1 := hid (HCELL.out 1 (by omega))
      have HC2 := hid (HCELL.out 2 (by omega))
      have HC3 := hid (HCELL.out 3 (by omega))
      have HN2 := hid (fun y : World => cNumberR (w := y) ⟨(at' l 2).toArray⟩ (size_le (HW0.out 2)))
      have HN3 := hid (fun y : World => cNumberR (w := y) ⟨(at' l 3).toArray⟩ (size_le (HW0.out 3)))
      rw [show bs ⟨(at' l 2).toArray⟩ = at' l 2 from rfl] at HN2
      rw [show bs ⟨(at' l 3).toArray⟩ = at' l 3 from rfl] at HN3
      obtain ⟨x1, hx1⟩ : ∃ x1, x1 = at' l 1 := ⟨_, rfl⟩
      have HX1 := hid hx1
      rw [← hx1] at HC1
      obtain ⟨x2, hx2⟩ : ∃ x2, x2 = at' l 2 := ⟨_, rfl⟩
      have HX2 := hid hx2
      rw [← hx2] at HC2
      obtain ⟨x3, hx3⟩ : ∃ x3, x3 = at' l 3 := ⟨_, rfl⟩
      have HX3 := hid hx3
      rw [← hx3] at HC3
      rw [← hx2] at HN2
      rw [← hx3] at HN3
      obtain ⟨V0, rfl⟩ : ∃ V0, V0 = wr := ⟨_, rfl⟩
      have HWB := hid (Below.refl V0.heap.size V0)
      clear hx1 hx2 hx3
      go_wp2_with fail
      go_loopw [5, 6] (fun kv iv wv => ∃ i : Nat, i ≤ 7 ∧ iv = .int .i64 i ∧ kv = .int .i64 (kindAt x1 (i + 1)) ∧ Hid (Below V0.heap.size V0 wv)) (fun _ iv _ => 7 - (intOf iv).toNat)
      case atStart => exact ⟨0, by omega, rfl, by
        have h0 : kindAt x1 (0 + 1) = 0 := by unfold kindAt; have := Scr.fltV_bound x1; split <;> omega
        rw [h0], HWB⟩
      case round =>
        obtain ⟨i, hi, rfl, rfl, HV⟩ := hrel
        by_cases hlt : i < 7
        · have hst := kind_stepR x1 i hlt
          have HFK := hid (fun y : World => cRFaultsK (w := y) i hlt)
          obtain ⟨nm, hnm2⟩ : ∃ nm, nm = fltN ((i : Int) + 1) := ⟨_, rfl⟩
          rw [← hnm2] at hst HFK
          clear hnm2
          obtain ⟨b9, hb9⟩ : ∃ b9, b9 = decide (nm = x1) := ⟨_, rfl⟩
          have hq : (nm == x1) = b9 := by rw [hb9]; rw [Bool.eq_iff_iff]; simp
          have hst2 : kindAt x1 (i + 1 + 1) = if b9 = true then ((i : Int) + 1) else kindAt x1 (i + 1) := by rw [hst, hb9]; simp
          have HST := hid hst2
          obtain ⟨kk, hkk⟩ : ∃ kk, kk = kindAt x1 (i + 1) := ⟨_, rfl⟩
          rw [← hkk] at HST ⊢
          have f1 : (i : Int) < 7 := by omega
          have f2 : (0 : Int) ≤ (i : Int) := by omega
          clear hst hst2 hb9 hkk
          go_wp2_with fail
          refine wp_region_ord (.pure 1 (.pure 4 (.pure 5 (.pure 6 (.eff 0 (.pure 2 (.pure 3 (.pure 7 .nil)))))))) (fun y => Below V0.heap.size V0 y) (fun y => Below V0.heap.size V0 y) (by kernel_rfl) (by kernel_rfl) (HV.out.drew) (fun _ h => h) ?_
          iterate 4
            (apply ord_pure (ho := rfl)
             · go_simp
             · intro x hx; have d1 := HC1.out x hx; go_simp; rfl
             apply ord_norm
             · go_simp; rfl)
          apply ord_eff (ho := rfl)
          · go_simp
          intro x hx
          refine eff_call (by go_simp) (HFK.out x) ?_
          rintro e w4 ⟨g, F, rfl, ⟨hF, -⟩, hb, hcF⟩
          obtain rfl : F = ⟨nm.toArray⟩ := by rw [← Scr.mk_bs F, hF]
          have HCF := hid hcF
          refine ⟨_, rfl, Up w4, Up w4, Below.refl _ _, fun _ h => h, fun y hy => below_step (below_step hx hb) hy, ?_⟩
          have H4 := hid (below_step hx hb)
          apply ord_norm
          · go_simp; rfl
          clear hx hb hcF hF
          iterate 1
            (apply ord_pure (ho := rfl)
             · go_simp
             · intro x hx; go_simp; rfl
             apply ord_norm
             · go_simp; rfl)
          iterate 1
            (apply ord_pure (ho := rfl)
             · go_simp
             · intro x hx; have d4 := HCF.out x hx; go_simp; rfl
             apply ord_norm
             · go_simp; rfl)
          iterate 1
            (apply ord_pure (ho := rfl)
             · go_simp
             · intro x hx; go_simp; rfl
             apply ord_norm
             · go_simp; rfl)
          apply ord_nil
          intro z hz
          have H5 := hid (below_step H4.out hz)
          clear hz
          cases b9 with
          | true =>
            have HS2 := hid (show kindAt x1 (i + 1 + 1) = (i : Int) + 1 from HST.out)
            go_wp2_with fail
            go_roundw
            case rel => exact ⟨i + 1, by omega, by simp, by rw [HS2.out], H5⟩
            case measure => first | (simp [intOf]; done) | (simp [intOf]; omega)
          | false =>
            have HS2 := hid (show kindAt x1 (i + 1 + 1) = kk from HST.out)
            go_wp2_with fail
            go_roundw
            case rel => exact ⟨i + 1, by omega, by simp, by rw [HS2.out], H5⟩
            case measure => first | (simp [intOf]; done) | (simp [intOf]; omega)
        · have hkd : kindAt x1 (i + 1) = fltV x1 := by unfold kindAt; have := Scr.fltV_bound x1; rw [if_pos (by omega)]
          rw [hkd]
          obtain ⟨fv, hfv⟩ : ∃ fv, fv = fltV x1 := ⟨_, rfl⟩
          rw [← hfv]
          have HFV := hid hfv
          clear hkd hfv
          go_wp2_with fail
          refine wp_region_ordS (fun i => i == 11) (.pure 0 (.pure 1 (.pure 2 (.pure 3 (.pure 5 (.pure 6 (.pure 7 (.eff 4 (.eff 8 (.pure 9 (.pure 10 (.eff 11 .nil)))))))))))) (fun y => Below V0.heap.size V0 y) (fun y => Below V0.heap.size V0 y) (by kernel_rfl) (by kernel_rfl) (HV.out.drew) (fun _ h => h) ?_
          iterate 7
            (apply ord_pure (ho := rfl)
             · go_simp
             · intro x hx; have d2 := HC2.out x hx; have d3 := HC3.out x hx; go_simp; rfl
             apply ord_norm
             · go_simp; rfl)
          apply ord_eff (ho := rfl)
          · go_simp
          intro x hx
          refine eff_same (by go_simp) hx (fun _ h => h) (HN2.out x) ?_
          apply ord_norm
          · go_simp; rfl
          clear hx
          apply ord_eff (ho := rfl)
          · go_simp
          intro x hx
          refine eff_same (by go_simp) hx (fun _ h => h) (HN3.out x) ?_
          apply ord_norm
          · go_simp; rfl
          clear hx
          iterate 2
            (apply ord_pure (ho := rfl)
             · go_simp
             · intro x hx; go_simp; rfl
             apply ord_norm
             · go_simp; rfl)
          apply ord_eff (ho := rfl)
          · go_simp
          intro x hx
          have HY := hid (Sts.cat (stab1 (blkP_stable _ _)) HS.out (Sts.nil_below hx))
          refine effS_act (vs := actC { Scr.act0 with kind := 4, fk := fv, fat := rnum x2, fbit := rnum x3 } (.slice none 0 0) (.slice none 0 0) (.slice none 0 0)) rfl HY.out stab0 (.tmp 2) (.tmp 118) rfl rfl rfl rfl rfl rfl ?_
          apply ord_norm
          · go_simp; rfl
          apply ord_nil
          intro z hz
          have HF := hid hz
          clear hz hx
          go_wp2_with fail
          refine post_cell1 HF.out Tryd.results21 rfl rfl (ldAct rfl HF.out) ?_
          have hrec : actR l = { Scr.act0 with kind := 4, fk := fv, fat := rnum x2, fbit := rnum x3 } := by rw [HREC.out, HX2.out, HX3.out, HFV.out, HX1.out]
          rw [hrec]
          exact ⟨_, _, _, rfl, ((HF.out.tail.rowNil 5).rowNil 3).rowNil 5⟩
end
end Go.Proofs.YtimnhheagdhpgaaDoor
