/- The specification's act: the words padded; tick, hold. -/
import Derived.Test.YtimnhheagdhpgaaDoorScsL
set_option linter.unusedVariables false
set_option linter.unusedSimpArgs false
namespace Go.Proofs.YtimnhheagdhpgaaDoor
open Go.RowKit Go.Proofs.Num
open Scr (Str bs numV numsV small svcV fltV nameV bytesV oneV fileV faultV orderV tailV flts parseL parseV b8 textV textL svcs svcN fltN ixOf valC digR pairR bytesR rnum magR splitW hexC hexB hexV lineV lineL joinW actR argsR at')
/-- Words with empty ones behind them. -/
def PadOf (l l' : List Str) : Prop := ∃ j, l' = l ++ List.replicate j []
theorem PadOf.at {l l' : List Str} (h : PadOf l l') (k : Nat) : at' l' k = at' l k := by
  obtain ⟨j, rfl⟩ := h
  unfold at'
  simp only [List.getD_eq_getElem?_getD, List.getElem?_append]
  split
  · rfl
  · rename_i hk
    rw [List.getElem?_eq_none (show l.length ≤ k by omega), List.getElem?_replicate]
    split <;> rfl
theorem argsR_pad : ∀ (l : List Str) (j : Nat) (a : Scr.Act), argsR (l ++ List.replicate j []) a = argsR l a
  | [], 0, a => rfl
  | [], j + 1, a => by
    have := argsR_pad [] j a
    simp only [List.nil_append] at this ⊢
    rw [List.replicate_succ]
    simp only [argsR, if_true]
    exact this
  | w :: l, j, a => by simp only [List.cons_append, argsR]; exact argsR_pad l j _
theorem PadOf.args {l l' : List Str} (h : PadOf l l') (a : Scr.Act) : argsR ((l'.drop 2).take 10) a = argsR ((l.drop 2).take 10) a := by
  obtain ⟨j, rfl⟩ := h
  rw [List.drop_append, List.take_append, List.drop_replicate, List.take_replicate, argsR_pad]
theorem PadOf.act {l l' : List Str} (h : PadOf l l') : actR l' = actR l := by
  unfold actR
  simp only [h.at, h.args]
theorem PadOf.more {l l' : List Str} (h : PadOf l l') : PadOf l (l' ++ [[]]) := by
  obtain ⟨j, rfl⟩ := h
  exact ⟨j + 1, by rw [List.append_assoc, List.replicate_succ']⟩
theorem add_plain (b off j : Nat) : ((⟨b, off, none⟩ : Addr).add j) = ⟨b, off + j, none⟩ := by
  cases j with
  | zero => rfl
  | succ j => simp [Addr.add]
theorem rd_news {w y : World} {ad : Addr} {n c : Nat} {xs : List Value} (h : Rd w (.slice (some ad) n c) xs) (hy : Below w.heap.size w y) : ∀ j u, xs[j]? = some u → y.cell? (ad.add j) = some u := by
  intro j u hj
  obtain ⟨a', c', e', hcap, hx⟩ := h
  injection e' with e1 e2 e3
  have hjl : j < xs.length := by
    rcases Nat.lt_or_ge j xs.length with h | h
    · exact h
    · rw [List.getElem?_eq_none h] at hj; cases hj
  obtain ⟨b, off, h1, h2, h3⟩ := hx j hjl
  rw [← e1] at h1
  injection h1 with h1
  subst h1
  rw [add_plain, hy.cell h2, h3]
  rw [List.getElem?_eq_getElem hjl] at hj; exact hj
theorem strs_one (l : List Str) : ∀ u ∈ strsV l, u.oneCell' = true := by
  intro u hu
  obtain ⟨x, _, rfl⟩ := List.mem_map.1 hu
  rfl
def lenOf : Value → Nat
  | .slice _ n _ => n
  | _ => 0
def actD (w w' : World) (a : Scr.Act) (e : Ending) : Prop := ∃ dv av cv, e = .returned (.agg (actC a dv av cv)) ∧ Sts w (rowsA a dv av cv) w'
theorem newRow0 {w : World} (t : TypeId) : New w (w.alloc (.cells #[] t)) t (.slice (some ⟨w.heap.size, 0, none⟩) 0 0) [] :=
  ⟨⟨rfl, Or.inr ⟨_, _, _, rfl, Nat.le_refl _, heap_new w _ rfl, Nat.le_refl _, by decide, rfl, rfl⟩⟩, (Below.refl _ _).alloc (Nat.le_refl _) _⟩
section
variable {w : World}
set_option maxRecDepth 100000 in
set_option maxHeartbeats 16000000 in
theorem cActTick (ad : Addr) (c : Nat) (l : List Str) (h1 : 1 ≤ l.length) (hl : l.length < 1000000) (hw : ∀ x ∈ l, x.length < 1000000) (hr : Rd w (.slice (some ad) (strsV l).length c) (strsV l)) (hnm : at' l 0 = b8 "tick") : Calls Tryd.prog 21 #[.slice (some ad) (strsV l).length c] w fun e w' => actD w w' (actR l) e := by
  have HREC := hid (show actR l = { Scr.act0 with kind := 1, num := rnum (at' l 1) } from by unfold actR; simp only [hnm, if_true])
  have hz := (Sts.nil w).alloc stab0 (.cells (actC Scr.act0 (.slice none 0 0) (.slice none 0 0) (.slice none 0 0)) 29)
  have HZ := hid hz
  have HR0 := hid (hr.below hz.below)
  have hw0 : ∀ k, (at' l k).length < 1000000 := fun k => by
    unfold at'
    rw [List.getD_eq_getElem?_getD]
    cases h : l[k]? with
    | none => simp
    | some x => exact hw x (List.mem_of_getElem? h)
  have HW0 := hid hw0
  have hlen : (strsV l).length < 1000000 := by rw [strsV_len]; exact hl
  have hlen1 : 1 ≤ (strsV l).length := by rw [strsV_len]; exact h1
  obtain ⟨ys, hys⟩ : ∃ ys, ys = strsV l := ⟨_, rfl⟩
  have HYS := hid hys
  rw [← hys] at HR0 hlen hlen1 ⊢
  clear hys hr hz hw0 hw hl h1
  go_enter Tryd.func21, Tryd.ntmps21
  go_wp2_with fail
  go_loopw [0] (fun v wr => ∃ (xs : List Value) (ad : Addr) (c : Nat), v = .slice (some ad) xs.length c ∧ xs.length < 1000000 ∧ 1 ≤ xs.length ∧ Hid (∃ l', xs = strsV l' ∧ PadOf l l') ∧ Hid (Rd wr (.slice (some ad) xs.length c) xs) ∧ Hid (Sts w [blkP w.heap.size (.cells (actC Scr.act0 (.slice none 0 0) (.slice none 0 0) (.slice none 0 0)) 29 (0, 0))] wr)) (fun v _ => 4 - lenOf v)
  case atStart => exact ⟨ys, ad, c, rfl, hlen, hlen1, hid ⟨l, HYS.out, 0, by simp⟩, HR0, HZ⟩
  case round =>
    obtain ⟨xs, ad', c', rfl, hx6, hx1, HP, HR, HS⟩ := hrel
    by_cases hlt : xs.length < 4
    · have HN := hid (fun x (h : Sts w [blkP w.heap.size (.cells (actC Scr.act0 (.slice none 0 0) (.slice none 0 0) (.slice none 0 0)) 29 (0, 0))] x) => Sts.new (stab1 (blkP_stable _ _)) h (newRow0 (w := x) 9))
      have HX := hid (show ∀ u ∈ xs, u.oneCell' = true from by obtain ⟨l', rfl, -⟩ := HP.out; exact strs_one l')
      have hf1 : ([] : List Value).length + xs.length < 1000000000 := by simp; omega
      have hf2 : ([] ++ xs).length + 1 < 1000000000 := by simp; omega
      have hd : decide ((xs.length : Int) < 4) = true := decide_eq_true (by omega)
      go_wp2_with (first | (at_builtin; refine wpList_app eltStr (xs := []) (ms := xs) rfl (.tmp 10) (.tmp 11) rfl (HN.out _ HS.out) (stab1 (blkP_stable _ _)) rfl ad' c' rfl (rd_news HR.out ((Below.refl _ _).alloc (Nat.le_refl _) _)) HX.out (by decide) hf1 ?_; intro v1 w1 h1; have H1 := hid h1; clear h1) | (at_builtin; refine wpList_app eltStr (ms := [.string ⟨#[]⟩]) rfl (.tmp 12) (.tmp 13) rfl (H1.out.box (stabC (rowP_stable _ _ _ _ _) (stabC (blkP_stable _ _) stab0)) _) (stab1 (blkP_stable _ _)) rfl ⟨w1.heap.size, 0, none⟩ 1 rfl (new_cell _ _ _) (fun u hu => by simp only [List.mem_singleton] at hu; subst hu; rfl) (by decide) hf2 ?_; intro v2 w2 h2; have H2 := hid h2; clear h2))
      all_goals (
        obtain ⟨g, cap, hv⟩ : ∃ g cap, v2 = .slice (some ⟨g, 0, none⟩) ([] ++ xs ++ [.string ⟨#[]⟩] : List Value).length cap := by
          have h := Sts.rowOwn H2.out
          rcases h.2 with ⟨h2, h3⟩ | ⟨g, cap, cur, hv, r⟩
          · exfalso; simp at h3
          · exact ⟨g, cap, hv⟩
        subst hv
        go_roundw
        case rel => exact ⟨[] ++ xs ++ [.string ⟨#[]⟩], _, _, rfl, by simp; omega, by simp, hid (by obtain ⟨l', rfl, hp⟩ := HP.out; exact ⟨l' ++ [[]], by simp [strsV, strV], hp.more⟩), hid (Sts.rd H2.out), hid H2.out.tail⟩
        case measure => simp [lenOf]; omega)
    · have hge : 4 ≤ xs.length := by omega
      have hd : decide ((xs.length : Int) < 4) = false := decide_eq_false (by omega)
      have hd2 : ¬ ((xs.length : Int) < 4) := by omega
      obtain ⟨l', hxl, hp⟩ := HP.out
      have hll : l'.length = xs.length := by rw [hxl, strsV_len]
      have hcell : ∀ k, k < xs.length → ∀ y, Below wr.heap.size wr y → y.cell? (ad'.add k) = some (.string ⟨(at' l k).toArray⟩) := fun k hk y hy => by
        refine rd_news HR.out hy k _ ?_
        rw [hxl, show strsV l' = l'.map strV from rfl, List.getElem?_map, List.getElem?_eq_getElem (show k < l'.length by omega), ← hp.at k, at', List.getD_eq_getElem?_getD, List.getElem?_eq_getElem (show k < l'.length by omega)]
        rfl
      obtain ⟨b, off, rfl⟩ : ∃ b off, ad' = ⟨b, off, none⟩ := by
        obtain ⟨b, off, e, -⟩ : ∃ b off, some ad' = some ⟨b, off, none⟩ ∧ True := by
          obtain ⟨a', c', e', hcap, hx⟩ := HR.out
          injection e' with e1 e2 e3
          obtain ⟨b, off, h1, -⟩ := hx 0 (by omega)
          exact ⟨b, off, by rw [e1, h1], trivial⟩
        injection e with e
        exact ⟨b, off, e⟩
      simp only [add_plain] at hcell
      have HCELL := hid hcell
      have HPAD := hid (show PadOf l l' ∧ l'.length = xs.length ∧ xs = strsV l' from ⟨hp, hll, hxl⟩)
      obtain ⟨K, hK⟩ : ∃ K, K = xs.length := ⟨_, rfl⟩
      rw [← hK] at hge hd hd2 hx6 HPAD HCELL ⊢
      have gk1 : (1 : Int) < (K : Int) := by omega
      have gk2 : (2 : Int) < (K : Int) := by omega
      have gk3 : (3 : Int) < (K : Int) := by omega
      have k0 := HCELL.out 0 (by omega) wr (Below.refl _ _)
      rw [Nat.add_zero] at k0
      clear hcell hp hll hxl HP hx1 hlt HR hK
      obtain ⟨q1, q2, q3, q4, q5⟩ := b8_eq (at' l 0)
      obtain ⟨x0, hx0⟩ : ∃ x0, x0 = at' l 0 := ⟨_, rfl⟩
      rw [decide_eq_true hnm] at q1
      rw [decide_eq_false (by rw [hnm]; decide +kernel)] at q3
      rw [decide_eq_false (by rw [hnm]; decide +kernel)] at q4
      rw [decide_eq_false (by rw [hnm]; decide +kernel)] at q5
      rw [← hx0] at q1 q3 q4 q5 k0
      clear q2 hx0
      have k1 := HCELL.out 1 (by omega) wr (Below.refl _ _)
      have HNR := hid (cNumberR (w := wr) ⟨(at' l 1).toArray⟩ (size_le (HW0.out 1)))
      rw [show bs ⟨(at' l 1).toArray⟩ = at' l 1 from rfl] at HNR
      obtain ⟨x1, hx1⟩ : ∃ x1, x1 = at' l 1 := ⟨_, rfl⟩
      rw [← hx1] at k1 HNR
      have HX1 := hid hx1
      clear hx1
      go_wp2_with (first | (go_at_call 39; refine HNR.out.mono ?_; rintro e w2 ⟨rfl, hw2⟩; rw [hw2]) | (refine wpList_agg HS.out stab0 rfl (.tmp 2) (.tmp 24) 29 rfl (actC { Scr.act0 with kind := 1, num := rnum x1 } (.slice none 0 0) (.slice none 0 0) (.slice none 0 0)) rfl rfl sizeAct rfl rfl ?_; intro w3 h3; have HF := hid h3; clear h3))
      refine post_cell1 HF.out Tryd.results21 rfl rfl (ldAct rfl HF.out) ?_
      exact ⟨_, _, _, by rw [HREC.out, ← HX1.out], by rw [HREC.out, ← HX1.out]; exact ((HF.out.tail.rowNil 5).rowNil 3).rowNil 5⟩
set_option maxRecDepth 100000 in
set_option maxHeartbeats 16000000 in
theorem cActElse (ad : Addr) (c : Nat) (l : List Str) (h1 : 1 ≤ l.length) (hl : l.length < 1000000) (hw : ∀ x ∈ l, x.length < 1000000) (hr : Rd w (.slice (some ad) (strsV l).length c) (strsV l)) (n1 : at' l 0 ≠ b8 "tick") (n3 : at' l 0 ≠ b8 "command") (n4 : at' l 0 ≠ b8 "file") (n5 : at' l 0 ≠ b8 "fault") : Calls Tryd.prog 21 #[.slice (some ad) (strsV l).length c] w fun e w' => actD w w' (actR l) e := by
  have HREC := hid (show actR l = { Scr.act0 with kind := 5, num := rnum (at' l 1) } from by unfold actR; simp only [n1, n3, n4, n5, if_false])
  have hz := (Sts.nil w).alloc stab0 (.cells (actC Scr.act0 (.slice none 0 0) (.slice none 0 0) (.slice none 0 0)) 29)
  have HZ := hid hz
  have HR0 := hid (hr.below hz.below)
  have hw0 : ∀ k, (at' l k).length < 1000000 := fun k => by
    unfold at'
    rw [List.getD_eq_getElem?_getD]
    cases h : l[k]? with
    | none => simp
    | some x => exact hw x (List.mem_of_getElem? h)
  have HW0 := hid hw0
  have hlen : (strsV l).length < 1000000 := by rw [strsV_len]; exact hl
  have hlen1 : 1 ≤ (strsV l).length := by rw [strsV_len]; exact h1
  obtain ⟨ys, hys⟩ : ∃ ys, ys = strsV l := ⟨_, rfl⟩
  have HYS := hid hys
  rw [← hys] at HR0 hlen hlen1 ⊢
  clear hys hr hz hw0 hw hl h1
  go_enter Tryd.func21, Tryd.ntmps21
  go_wp2_with fail
  go_loopw [0] (fun v wr => ∃ (xs : List Value) (ad : Addr) (c : Nat), v = .slice (some ad) xs.length c ∧ xs.length < 1000000 ∧ 1 ≤ xs.length ∧ Hid (∃ l', xs = strsV l' ∧ PadOf l l') ∧ Hid (Rd wr (.slice (some ad) xs.length c) xs) ∧ Hid (Sts w [blkP w.heap.size (.cells (actC Scr.act0 (.slice none 0 0) (.slice none 0 0) (.slice none 0 0)) 29 (0, 0))] wr)) (fun v _ => 4 - lenOf v)
  case atStart => exact ⟨ys, ad, c, rfl, hlen, hlen1, hid ⟨l, HYS.out, 0, by simp⟩, HR0, HZ⟩
  case round =>
    obtain ⟨xs, ad', c', rfl, hx6, hx1, HP, HR, HS⟩ := hrel
    by_cases hlt : xs.length < 4
    · have HN := hid (fun x (h : Sts w [blkP w.heap.size (.cells (actC Scr.act0 (.slice none 0 0) (.slice none 0 0) (.slice none 0 0)) 29 (0, 0))] x) => Sts.new (stab1 (blkP_stable _ _)) h (newRow0 (w := x) 9))
      have HX := hid (show ∀ u ∈ xs, u.oneCell' = true from by obtain ⟨l', rfl, -⟩ := HP.out; exact strs_one l')
      have hf1 : ([] : List Value).length + xs.length < 1000000000 := by simp; omega
      have hf2 : ([] ++ xs).length + 1 < 1000000000 := by simp; omega
      have hd : decide ((xs.length : Int) < 4) = true := decide_eq_true (by omega)
      go_wp2_with (first | (at_builtin; refine wpList_app eltStr (xs := []) (ms := xs) rfl (.tmp 10) (.tmp 11) rfl (HN.out _ HS.out) (stab1 (blkP_stable _ _)) rfl ad' c' rfl (rd_news HR.out ((Below.refl _ _).alloc (Nat.le_refl _) _)) HX.out (by decide) hf1 ?_; intro v1 w1 h1; have H1 := hid h1; clear h1) | (at_builtin; refine wpList_app eltStr (ms := [.string ⟨#[]⟩]) rfl (.tmp 12) (.tmp 13) rfl (H1.out.box (stabC (rowP_stable _ _ _ _ _) (stabC (blkP_stable _ _) stab0)) _) (stab1 (blkP_stable _ _)) rfl ⟨w1.heap.size, 0, none⟩ 1 rfl (new_cell _ _ _) (fun u hu => by simp only [List.mem_singleton] at hu; subst hu; rfl) (by decide) hf2 ?_; intro v2 w2 h2; have H2 := hid h2; clear h2))
      all_goals (
        obtain ⟨g, cap, hv⟩ : ∃ g cap, v2 = .slice (some ⟨g, 0, none⟩) ([] ++ xs ++ [.string ⟨#[]⟩] : List Value).length cap := by
          have h := Sts.rowOwn H2.out
          rcases h.2 with ⟨h2, h3⟩ | ⟨g, cap, cur, hv, r⟩
          · exfalso; simp at h3
          · exact ⟨g, cap, hv⟩
        subst hv
        go_roundw
        case rel => exact ⟨[] ++ xs ++ [.string ⟨#[]⟩], _, _, rfl, by simp; omega, by simp, hid (by obtain ⟨l', rfl, hp⟩ := HP.out; exact ⟨l' ++ [[]], by simp [strsV, strV], hp.more⟩), hid (Sts.rd H2.out), hid H2.out.tail⟩
        case measure => simp [lenOf]; omega)
    · have hge : 4 ≤ xs.length := by omega
      have hd : decide ((xs.length : Int) < 4) = false := decide_eq_false (by omega)
      have hd2 : ¬ ((xs.length : Int) < 4) := by omega
      obtain ⟨l', hxl, hp⟩ := HP.out
      have hll : l'.length = xs.length := by rw [hxl, strsV_len]
      have hcell : ∀ k, k < xs.length → ∀ y, Below wr.heap.size wr y → y.cell? (ad'.add k) = some (.string ⟨(at' l k).toArray⟩) := fun k hk y hy => by
        refine rd_news HR.out hy k _ ?_
        rw [hxl, show strsV l' = l'.map strV from rfl, List.getElem?_map, List.getElem?_eq_getElem (show k < l'.length by omega), ← hp.at k, at', List.getD_eq_getElem?_getD, List.getElem?_eq_getElem (show k < l'.length by omega)]
        rfl
      obtain ⟨b, off, rfl⟩ : ∃ b off, ad' = ⟨b, off, none⟩ := by
        obtain ⟨b, off, e, -⟩ : ∃ b off, some ad' = some ⟨b, off, none⟩ ∧ True := by
          obtain ⟨a', c', e', hcap, hx⟩ := HR.out
          injection e' with e1 e2 e3
          obtain ⟨b, off, h1, -⟩ := hx 0 (by omega)
          exact ⟨b, off, by rw [e1, h1], trivial⟩
        injection e with e
        exact ⟨b, off, e⟩
      simp only [add_plain] at hcell
      have HCELL := hid hcell
      have HPAD := hid (show PadOf l l' ∧ l'.length = xs.length ∧ xs = strsV l' from ⟨hp, hll, hxl⟩)
      obtain ⟨K, hK⟩ : ∃ K, K = xs.length := ⟨_, rfl⟩
      rw [← hK] at hge hd hd2 hx6 HPAD HCELL ⊢
      have gk1 : (1 : Int) < (K : Int) := by omega
      have gk2 : (2 : Int) < (K : Int) := by omega
      have gk3 : (3 : Int) < (K : Int) := by omega
      have k0 := HCELL.out 0 (by omega) wr (Below.refl _ _)
      rw [Nat.add_zero] at k0
      clear hcell hp hll hxl HP hx1 hlt HR hK
      obtain ⟨q1, q2, q3, q4, q5⟩ := b8_eq (at' l 0)
      obtain ⟨x0, hx0⟩ : ∃ x0, x0 = at' l 0 := ⟨_, rfl⟩
      rw [decide_eq_false n1] at q1
      rw [decide_eq_false n3] at q3
      rw [decide_eq_false n4] at q4
      rw [decide_eq_false n5] at q5
      rw [← hx0] at q1 q3 q4 q5 k0
      clear q2 hx0
      have k1 := HCELL.out 1 (by omega) wr (Below.refl _ _)
      have HNR := hid (cNumberR (w := wr) ⟨(at' l 1).toArray⟩ (size_le (HW0.out 1)))
      rw [show bs ⟨(at' l 1).toArray⟩ = at' l 1 from rfl] at HNR
      obtain ⟨x1, hx1⟩ : ∃ x1, x1 = at' l 1 := ⟨_, rfl⟩
      rw [← hx1] at k1 HNR
      have HX1 := hid hx1
      clear hx1
      go_wp2_with (first | (go_at_call 39; refine HNR.out.mono ?_; rintro e w2 ⟨rfl, hw2⟩; rw [hw2]) | (refine wpList_agg HS.out stab0 rfl (.tmp 2) (.tmp 123) 29 rfl (actC { Scr.act0 with kind := 5, num := rnum x1 } (.slice none 0 0) (.slice none 0 0) (.slice none 0 0)) rfl rfl sizeAct rfl rfl ?_; intro w3 h3; have HF := hid h3; clear h3))
      refine post_cell1 HF.out Tryd.results21 rfl rfl (ldAct rfl HF.out) ?_
      exact ⟨_, _, _, by rw [HREC.out, ← HX1.out], by rw [HREC.out, ← HX1.out]; exact ((HF.out.tail.rowNil 5).rowNil 3).rowNil 5⟩
end
end Go.Proofs.YtimnhheagdhpgaaDoor
