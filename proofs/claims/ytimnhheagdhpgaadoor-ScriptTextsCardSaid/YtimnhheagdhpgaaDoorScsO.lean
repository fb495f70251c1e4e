/- The specification's act: a command; whole. -/
import Derived.Test.YtimnhheagdhpgaaDoorScsN
set_option linter.unusedVariables false
set_option linter.unusedSimpArgs false
namespace Go.Proofs.YtimnhheagdhpgaaDoor
open Go.RowKit Go.Proofs.Num
open Scr (Str bs numV numsV small svcV fltV nameV bytesV oneV fileV faultV orderV tailV flts parseL parseV b8 textV textL svcs svcN fltN ixOf valC digR pairR bytesR rnum magR splitW hexC hexB hexV lineV lineL joinW actR argsR at')
/-- One word of a command. -/
def stepR (w : Str) (a : Scr.Act) : Scr.Act := if w = [] then a else if w.head? = some 120 then { a with cdata := bytesR w } else { a with args := a.args ++ [rnum w] }
theorem argsR_app : ∀ (l : List Str) (w : Str) (a : Scr.Act), argsR (l ++ [w]) a = stepR w (argsR l a)
  | [], w, a => rfl
  | x :: l, w, a => by simp only [List.cons_append, argsR]; exact argsR_app l w _
theorem argsR_at (l : List Str) (i : Nat) (h : i + 2 < l.length) (a : Scr.Act) : argsR ((l.drop 2).take (i + 1)) a = stepR (at' l (i + 2)) (argsR ((l.drop 2).take i) a) := by
  have h2 : i < (l.drop 2).length := by rw [List.length_drop]; omega
  have e : l[2 + i]'(by omega) = at' l (i + 2) := by
    unfold at'
    rw [List.getD_eq_getElem?_getD, show i + 2 = 2 + i by omega, List.getElem?_eq_getElem (by omega)]; rfl
  rw [List.take_succ_eq_append_getElem h2, argsR_app, List.getElem_drop, e]
/-- A command under way. -/
def cmdP (q : Nat) (sv : Int) (av dv : Value) (a : Scr.Act) : List HProp := [blkP q (.cells #[.int .i64 0, .int .i64 0, .int .i64 sv, av, dv] 25 (0, 0)), rowP 3 1 av (intsV a.args).length (intsV a.args), rowP 5 1 dv (u8v a.cdata).length (u8v a.cdata)]
theorem rowP_slice {W w : World} {e : TypeId} {v : Value} {n : Nat} {xs : List Value} {l : List HProp} (h : Sts W (rowP e 1 v n xs :: l) w) : ∃ a k c, v = .slice a k c := by
  rcases (Sts.rowOwn h).2 with ⟨h2, h3⟩ | ⟨g, cap, cur, hv, r⟩
  · exact ⟨_, _, _, h2⟩
  · exact ⟨_, _, _, hv⟩
theorem effS_cell {L : Prop} {o : Oper} {a : Act} {D : WP} {K : Act → WP → WP → Prop} {W y : World} {l : List HProp} {b : Nat} {c : Array Value} {t0 : TypeId} (hL : L) (hS : Sts W (blkP b (.cells c t0 (0, 0)) :: l) y) (hl : ∀ B ∈ l, Stable B) (p v : Operand) (t : TypeId) (ho : o.op = .store t p v) (j : Nat) (x : Value)
    (hp : a.eval p = .pointer (some ⟨b, j, none⟩)) (hv : a.eval v = x) (hz : ∀ w, (Go.sizeOf t).run Tryd.prog w = .ok 1 w) (hj : j < c.size) (h1 : cellB x = true)
    (hk : K (a.put o.dst undef) (fun _ => True) (fun z => Sts W (blkP b (.cells (c.setIfInBounds j x) t0 (0, 0)) :: l) z)) : effUpon Tryd.prog L o.dst a D K ((execOp a.eval o).run Tryd.prog y) := by
  obtain ⟨w', hr, hf⟩ := exec_cell (o := o) (a := a) hS hl p v t ho j x hp hv hz hj h1
  exact effS_skip _ _ hL hr hf (fun _ _ => trivial) hk
theorem dropLast4 {W w : World} {A B C D : HProp} (h : Sts W [A, B, C, D] w) : Sts W [A, B, C] w := (h.perm (show [A, B, C, D].Perm (D :: [A, B, C]) from List.perm_middle (l₁ := [A, B, C]) (l₂ := []))).tail
/-- What argsR leaves. -/
def Rest (sv : Int) (a : Scr.Act) : Prop := a.kind = 2 ∧ a.num = 0 ∧ a.name = [] ∧ a.data = [] ∧ a.src = 0 ∧ a.cnum = 0 ∧ a.svc = sv ∧ a.fk = 0 ∧ a.fat = 0 ∧ a.fbit = 0
theorem argsR_rest {sv : Int} : ∀ (l : List Str) (a : Scr.Act), Rest sv a → Rest sv (argsR l a)
  | [], a, h => h
  | w :: l, a, h => by
    simp only [argsR]
    apply argsR_rest l
    split
    · exact h
    · split <;> exact h
section
variable {w : World}
set_option maxRecDepth 100000 in
set_option maxHeartbeats 16000000 in
theorem cActCmd (ad : Addr) (c : Nat) (l : List Str) (h1 : 1 ≤ l.length) (hl : l.length < 1000000) (hw : ∀ x ∈ l, x.length < 1000000) (hr : Rd w (.slice (some ad) (strsV l).length c) (strsV l)) (hnm : at' l 0 = b8 "command") : Calls Tryd.prog 21 #[.slice (some ad) (strsV l).length c] w fun e w' => actD w w' (actR l) e := by
  have HREC := hid (show actR l = argsR ((l.drop 2).take 10) { Scr.act0 with kind := 2, svc := svcV (at' l 1) } from by unfold actR; simp only [hnm, Scr.ne_com1, if_true, if_false])
  have hz := (Sts.nil w).alloc stab0 (.cells (actC Scr.act0 (.slice none 0 0) (.slice none 0 0) (.slice none 0 0)) 29)
  have HZ := hid hz
  have HR0 := hid (hr.below hz.below)
  have hw0 : ∀ k, (at' l k).length < 1000000 := fun k => by
    unfold at'
    rw [List.getD_eq_getElem?_getD]
    cases h : l[k]? with
    | none => simp
    | some x => exact hw x (List.mem_of_getElem? h)
  have HW0 := hid hw0
  have hlen : (strsV l).length < 1000000 := by rw [strsV_len]; exact hl
  have hlen1 : 1 ≤ (strsV l).length := by rw [strsV_len]; exact h1
  obtain ⟨ys, hys⟩ : ∃ ys, ys = strsV l := ⟨_, rfl⟩
  have HYS := hid hys
  rw [← hys] at HR0 hlen hlen1 ⊢
  clear hys hr hz hw0 hw hl h1
  go_enter Tryd.func21, Tryd.ntmps21
  go_wp2_with fail
  go_loopw [0] (fun v wr => ∃ (xs : List Value) (ad : Addr) (c : Nat), v = .slice (some ad) xs.length c ∧ xs.length < 1000000 ∧ 1 ≤ xs.length ∧ Hid (∃ l', xs = strsV l' ∧ PadOf l l') ∧ Hid (Rd wr (.slice (some ad) xs.length c) xs) ∧ Hid (Sts w [blkP w.heap.size (.cells (actC Scr.act0 (.slice none 0 0) (.slice none 0 0) (.slice none 0 0)) 29 (0, 0))] wr)) (fun v _ => 4 - lenOf v)
  case atStart => exact ⟨ys, ad, c, rfl, hlen, hlen1, hid ⟨l, HYS.out, 0, by simp⟩, HR0, HZ⟩
  case round =>
    obtain ⟨xs, ad', c', rfl, hx6, hx1, HP, HR, HS⟩ := hrel
    by_cases hlt : xs.length < 4
    · have HN := hid (fun x (h : Sts w [blkP w.heap.size (.cells (actC Scr.act0 (.slice none 0 0) (.slice none 0 0) (.slice none 0 0)) 29 (0, 0))] x) => Sts.new (stab1 (blkP_stable _ _)) h (newRow0 (w := x) 9))
      have HX := hid (show ∀ u ∈ xs, u.oneCell' = true from by obtain ⟨l', rfl, -⟩ := HP.out; exact strs_one l')
      have hf1 : ([] : List Value).length + xs.length < 1000000000 := by simp; omega
      have hf2 : ([] ++ xs).length + 1 < 1000000000 := by simp; omega
      have hd : decide ((xs.length : Int) < 4) = true := decide_eq_true (by omega)
      go_wp2_with (first | (at_builtin; refine wpList_app eltStr (xs := []) (ms := xs) rfl (.tmp 10) (.tmp 11) rfl (HN.out _ HS.out) (stab1 (blkP_stable _ _)) rfl ad' c' rfl (rd_news HR.out ((Below.refl _ _).alloc (Nat.le_refl _) _)) HX.out (by decide) hf1 ?_; intro v1 w1 h1; have H1 := hid h1; clear h1) | (at_builtin; refine wpList_app eltStr (ms := [.string ⟨#[]⟩]) rfl (.tmp 12) (.tmp 13) rfl (H1.out.box (stabC (rowP_stable _ _ _ _ _) (stabC (blkP_stable _ _) stab0)) _) (stab1 (blkP_stable _ _)) rfl ⟨w1.heap.size, 0, none⟩ 1 rfl (new_cell _ _ _) (fun u hu => by simp only [List.mem_singleton] at hu; subst hu; rfl) (by decide) hf2 ?_; intro v2 w2 h2; have H2 := hid h2; clear h2))
      all_goals (
        obtain ⟨g, cap, hv⟩ : ∃ g cap, v2 = .slice (some ⟨g, 0, none⟩) ([] ++ xs ++ [.string ⟨#[]⟩] : List Value).length cap := by
          have h := Sts.rowOwn H2.out
          rcases h.2 with ⟨h2, h3⟩ | ⟨g, cap, cur, hv, r⟩
          · exfalso; simp at h3
          · exact ⟨g, cap, hv⟩
        subst hv
        go_roundw
        case rel => exact ⟨[] ++ xs ++ [.string ⟨#[]⟩], _, _, rfl, by simp; omega, by simp, hid (by obtain ⟨l', rfl, hp⟩ := HP.out; exact ⟨l' ++ [[]], by simp [strsV, strV], hp.more⟩), hid (Sts.rd H2.out), hid H2.out.tail⟩
        case measure => simp [lenOf]; omega)
    · have hge : 4 ≤ xs.length := by omega
      have hd : decide ((xs.length : Int) < 4) = false := decide_eq_false (by omega)
      have hd2 : ¬ ((xs.length : Int) < 4) := by omega
      obtain ⟨l', hxl, hp⟩ := HP.out
      have hll : l'.length = xs.length := by rw [hxl, strsV_len]
      have hcell : ∀ k, k < xs.length → ∀ y, Below wr.heap.size wr y → y.cell? (ad'.add k) = some (.string ⟨(at' l k).toArray⟩) := fun k hk y hy => by
        refine rd_news HR.out hy k _ ?_
        rw [hxl, show strsV l' = l'.map strV from rfl, List.getElem?_map, List.getElem?_eq_getElem (show k < l'.length by omega), ← hp.at k, at', List.getD_eq_getElem?_getD, List.getElem?_eq_getElem (show k < l'.length by omega)]
        rfl
      obtain ⟨b, off, rfl⟩ : ∃ b off, ad' = ⟨b, off, none⟩ := by
        obtain ⟨b, off, e, -⟩ : ∃ b off, some ad' = some ⟨b, off, none⟩ ∧ True := by
          obtain ⟨a', c', e', hcap, hx⟩ := HR.out
          injection e' with e1 e2 e3
          obtain ⟨b, off, h1, -⟩ := hx 0 (by omega)
          exact ⟨b, off, by rw [e1, h1], trivial⟩
        injection e with e
        exact ⟨b, off, e⟩
      simp only [add_plain] at hcell
      have HCELL := hid hcell
      have HPAD := hid (show PadOf l l' ∧ l'.length = xs.length ∧ xs = strsV l' from ⟨hp, hll, hxl⟩)
      obtain ⟨K, hK⟩ : ∃ K, K = xs.length := ⟨_, rfl⟩
      rw [← hK] at hge hd hd2 hx6 HPAD HCELL ⊢
      have gk1 : (1 : Int) < (K : Int) := by omega
      have gk2 : (2 : Int) < (K : Int) := by omega
      have gk3 : (3 : Int) < (K : Int) := by omega
      have k0 := HCELL.out 0 (by omega) wr (Below.refl _ _)
      rw [Nat.add_zero] at k0
      clear hcell hp hll hxl HP hx1 hlt HR hK
      obtain ⟨q1, q2, q3, q4, q5⟩ := b8_eq (at' l 0)
      obtain ⟨x0, hx0⟩ : ∃ x0, x0 = at' l 0 := ⟨_, rfl⟩
      rw [decide_eq_false (by rw [hnm]; decide +kernel)] at q1
      rw [decide_eq_true hnm] at q3
      rw [decide_eq_false (by rw [hnm]; decide +kernel)] at q4
      rw [decide_eq_false (by rw [hnm]; decide +kernel)] at q5
      rw [← hx0] at q1 q3 q4 q5 k0
      clear q2 hx0
      have HC1 := hid (HCELL.out 1 (by omega))
      have HSV := hid (fun y : World => cRService (w := y) ⟨(at' l 1).toArray⟩)
      rw [show bs ⟨(at' l 1).toArray⟩ = at' l 1 from rfl] at HSV
      obtain ⟨x1, hx1⟩ : ∃ x1, x1 = at' l 1 := ⟨_, rfl⟩
      have HX1 := hid hx1
      rw [← hx1] at HC1
      rw [← hx1] at HSV
      obtain ⟨sv, hsv⟩ : ∃ sv, sv = svcV x1 := ⟨_, rfl⟩
      rw [← hsv] at HSV
      have HSVE := hid (show svcV (at' l 1) = sv by rw [← hx1, hsv])
      clear hx1 hsv
      obtain ⟨V0, rfl⟩ : ∃ V0, V0 = wr := ⟨_, rfl⟩
      have HV0 := hid (Sts.nil_below (Below.refl V0.heap.size V0))
      have c1 := HC1.out V0 (Below.refl _ _)
      go_wp2_with (first | (go_at_call 40; refine (HSV.out _).mono ?_; rintro e w2 ⟨rfl, hb⟩; have H2 := hid (HV0.out.quiet stab0 hb); have HA := hid (fun cs => H2.out.alloc stab0 (.cells cs 25)); clear hb) | (refine wpList_agg (HA.out _) stab0 rfl (.tmp 3) (.tmp 31) 25 rfl #[.int .i64 0, .int .i64 0, .int .i64 sv, .slice none 0 0, .slice none 0 0] rfl rfl sizeCmd rfl rfl ?_; intro w3 h3; have H3 := hid h3; clear h3 HA))
      obtain ⟨q, hq⟩ : ∃ q, q = w2.heap.size := ⟨_, rfl⟩
      rw [← hq] at H3 ⊢
      clear hq
      have H4 := hid (show Sts V0 (cmdP q sv (.slice none 0 0) (.slice none 0 0) { Scr.act0 with kind := 2, svc := sv }) w3 from ((H3.out.rowNil 5).rowNil 3).third)
      clear H3
      have HAT := hid (show ∀ i, i < K → at' l' i = at' l i from fun i hi => HPAD.out.1.at i)
      have HST := hid (show ∀ i a, i + 2 < K → argsR ((l'.drop 2).take (i + 1)) a = stepR (at' l (i + 2)) (argsR ((l'.drop 2).take i) a) from fun i a hi => by rw [← HPAD.out.1.at]; exact argsR_at l' i (by rw [HPAD.out.2.1]; exact hi) a)
      go_loopw [4] (fun iv wv => ∃ (i : Nat) (a : Scr.Act) (av dv : Value), i + 2 ≤ K ∧ i ≤ 10 ∧ a.args.length ≤ i ∧ iv = .int .i64 ((i + 2 : Nat) : Int) ∧ Hid (a = argsR ((l'.drop 2).take i) { Scr.act0 with kind := 2, svc := sv }) ∧ Hid (Sts V0 (cmdP q sv av dv a) wv)) (fun iv _ => 12 - (intOf iv).toNat)
      case atStart => exact ⟨0, { Scr.act0 with kind := 2, svc := sv }, (.slice none 0 0), (.slice none 0 0), by omega, by omega, Nat.le_refl 0, rfl, hid rfl, H4⟩
      case round =>
        obtain ⟨i, a, av, dv, hiK, hi, hal, rfl, HA, HV⟩ := hrel
        obtain ⟨aa, an, ac, rfl⟩ := rowP_slice HV.out.tail
        obtain ⟨da, dn, dc, rfl⟩ := rowP_slice HV.out.tail.tail
        have j3 := (Sts.boxCell HV.out 3 _ rfl).1
        have j4 := (Sts.boxCell HV.out 4 _ rfl).1
        obtain ⟨m, hm⟩ : ∃ m : Nat, m = i + 2 := ⟨_, rfl⟩
        rw [← hm]
        by_cases hlt : m < K ∧ m < 12
        · obtain ⟨hmK, hm12⟩ := hlt
          have hst := HST.out i { Scr.act0 with kind := 2, svc := sv } (by omega)
          rw [← HA.out, ← hm] at hst
          have HCM := hid (HCELL.out m hmK)
          have d1 := HCM.out wr HV.out.below
          have HNR := hid (fun y : World => cNumberR (w := y) ⟨(at' l m).toArray⟩ (size_le (HW0.out m)))
          have HBR := hid (fun y : World => cBytesR (w := y) ⟨(at' l m).toArray⟩ (size_le (HW0.out m)))
          rw [show bs ⟨(at' l m).toArray⟩ = at' l m from rfl] at HNR HBR
          obtain ⟨x, hx⟩ : ∃ x, x = at' l m := ⟨_, rfl⟩
          rw [← hx] at hst d1 HNR HBR HCM
          have hmi : (m : Int) < 12 := by omega
          have hmk : (m : Int) < (K : Int) := by omega
          have hm0 : (0 : Int) ≤ (m : Int) := by omega
          have HM := hid hm
          have hmm : (((m + 1 : Nat)) : Int) = (m : Int) + 1 := by omega
          clear hx hm
          by_cases hx0 : x = []
          · have hst2 : argsR ((l'.drop 2).take (i + 1)) { Scr.act0 with kind := 2, svc := sv } = a := by rw [hst, stepR, if_pos hx0]
            have HS2 := hid hst2
            subst hx0
            clear hst hst2 hmm
            go_wp2_with fail
            all_goals (go_roundw
                       case rel => exact ⟨i + 1, a, _, _, by have := HM.out; omega, by have := HM.out; omega, by omega, by have := HM.out; simp; omega, hid HS2.out.symm, HV⟩
                       case measure => first | (simp [intOf]; done) | (simp [intOf]; omega))
          · obtain ⟨y0, yr, rfl⟩ : ∃ y0 yr, x = y0 :: yr := by
              cases x with
              | nil => exact absurd rfl hx0
              | cons y0 yr => exact ⟨y0, yr, rfl⟩
            have hne : ((y0 :: yr) == ([] : List UInt8)) = false := rfl
            have hix : ∀ z : World, (Instr.index 9 (.string ⟨(y0 :: yr).toArray⟩) (.int .i64 0)).run Tryd.prog z = .ok (.int .u8 (y0.toNat : Int)) z := fun z => run_byte ⟨(y0 :: yr).toArray⟩ 0 (by show 0 < (y0 :: yr).length; simp) z
            by_cases h120 : y0 = 120
            · have hst2 : argsR ((l'.drop 2).take (i + 1)) { Scr.act0 with kind := 2, svc := sv } = { a with cdata := bytesR (y0 :: yr) } := by rw [hst, stepR, if_neg (by simp), if_pos (by rw [h120]; rfl)]
              have HS2 := hid hst2
              have e120 : (y0.toNat : Int) = 120 := by rw [h120]; rfl
              rw [e120] at hix
              obtain ⟨S, hS⟩ : ∃ S : ByteArray, S = ⟨(y0 :: yr).toArray⟩ := ⟨_, rfl⟩
              have hne2 : (S.toList == ([] : List UInt8)) = false := by rw [hS, ByteArray.toList_mk]; rfl
              rw [← hS] at d1 HNR HBR HCM hix
              obtain ⟨ob, hob⟩ : ∃ ob, ob = bytesR (y0 :: yr) := ⟨_, rfl⟩
              rw [← hob] at HBR HS2
              clear hst hst2 hne h120 e120 hS hob hx0
              go_wp2_with (first | (go_at_call 41; refine (HBR.out _).mono ?_; rintro e w5 ⟨v, rfl, hn⟩; obtain ⟨va, vc, rfl⟩ := hn.rd.eq; have H5 := hid (Sts.new (stabC (blkP_stable _ _) (stabC (rowP_stable _ _ _ _ _) (stabC (rowP_stable _ _ _ _ _) stab0))) HV.out hn); clear hn) | (refine wpList_cell H5.out.swap (stabC (rowP_stable _ _ _ _ _) (stabC (rowP_stable _ _ _ _ _) (stabC (rowP_stable _ _ _ _ _) stab0))) rfl (.tmp 60) (.tmp 59) 22 rfl 4 (.slice va (u8v ob).length vc) rfl rfl sizeBys (show 4 < 5 by decide) rfl ?_; intro w6 h6; have H6 := hid (show Sts V0 (cmdP q sv (.slice aa an ac) (.slice va (u8v ob).length vc) { a with cdata := ob }) w6 from dropLast4 (Sts.perm h6 ((List.Perm.swap _ _ _).cons _))); clear h6))
              all_goals (go_roundw
                         case rel => exact ⟨i + 1, _, _, _, by have := HM.out; omega, by have := HM.out; omega, by show a.args.length ≤ _; omega, by have := HM.out; simp; omega, hid HS2.out.symm, H6⟩
                         case measure => first | (simp [intOf]; done) | (simp [intOf]; omega))
            · have hst2 : argsR ((l'.drop 2).take (i + 1)) { Scr.act0 with kind := 2, svc := sv } = { a with args := a.args ++ [rnum (y0 :: yr)] } := by rw [hst, stepR, if_neg (by simp), if_neg (by simp only [List.head?_cons, Option.some.injEq]; exact h120)]
              have HS2 := hid hst2
              obtain ⟨cn, hcn⟩ : ∃ cn : Nat, cn = y0.toNat := ⟨_, rfl⟩
              have hcn2 : cn ≠ 120 := fun e => h120 (UInt8.toNat_inj.1 (by rw [← hcn, e]; rfl))
              rw [← hcn] at hix
              have e120 : ((cn : Int) == 120) = false := by simp; omega
              have e121 : ¬ (cn : Int) = 120 := by omega
              obtain ⟨S, hS⟩ : ∃ S : ByteArray, S = ⟨(y0 :: yr).toArray⟩ := ⟨_, rfl⟩
              have hne2 : (S.toList == ([] : List UInt8)) = false := by rw [hS, ByteArray.toList_mk]; rfl
              rw [← hS] at d1 HNR HBR HCM hix
              obtain ⟨rn, hrn⟩ : ∃ rn, rn = rnum (y0 :: yr) := ⟨_, rfl⟩
              rw [← hrn] at HNR HS2
              clear hst hst2 hne h120 hS hrn hcn hcn2 hx0
              have hf2 : (intsV a.args).length + 1 < 1000000000 := by rw [intsV_len]; omega
              have HDD := hid (show ∀ v y, Sts V0 (rowP 3 1 v (intsV a.args).length (intsV a.args) :: blkP q (.cells #[.int .i64 0, .int .i64 0, .int .i64 sv, .slice aa an ac, .slice da dn dc] 25 (0, 0)) :: [rowP 5 1 (.slice da dn dc) (u8v a.cdata).length (u8v a.cdata)]) y → y.cell? ⟨q, 3, none⟩ = some (.slice aa an ac) ∧ y.cell? ⟨b, off + m, none⟩ = some (.string S) from fun v y h => ⟨(Sts.boxCell h.swap 3 _ rfl).1, HCM.out y h.below⟩)
              have hS0 := hid (show Sts V0 (rowP 3 1 (.slice aa an ac) (intsV a.args).length (intsV a.args) :: blkP q (.cells #[.int .i64 0, .int .i64 0, .int .i64 sv, .slice aa an ac, .slice da dn dc] 25 (0, 0)) :: [rowP 5 1 (.slice da dn dc) (u8v a.cdata).length (u8v a.cdata)]) wr.drew from (HV.out.swap).drew (stabC (rowP_stable _ _ _ _ _) (stabC (blkP_stable _ _) (stabC (rowP_stable _ _ _ _ _) stab0))))
              go_wp2_with fail
              refine wp_region_ordS (fun i => i == 10) (.pure 0 (.pure 1 (.pure 2 (.pure 3 (.pure 4 (.pure 5 (.eff 6 (.eff 7 (.eff 8 (.pure 9 (.eff 10 .nil))))))))))) (fun y => y.cell? ⟨q, 3, none⟩ = some (.slice aa an ac) ∧ y.cell? ⟨b, off + m, none⟩ = some (.string S)) (fun y => Sts V0 (rowP 3 1 (.slice aa an ac) (intsV a.args).length (intsV a.args) :: blkP q (.cells #[.int .i64 0, .int .i64 0, .int .i64 sv, .slice aa an ac, .slice da dn dc] 25 (0, 0)) :: [rowP 5 1 (.slice da dn dc) (u8v a.cdata).length (u8v a.cdata)]) y) (by kernel_rfl) (by kernel_rfl) hS0.out (fun y h => HDD.out _ y h) ?_
              iterate 6
                (apply ord_pure (ho := rfl)
                 · go_simp
                 · intro x hx; obtain ⟨t1, t2⟩ := hx; go_simp; rfl
                 apply ord_norm
                 · go_simp; rfl)
              apply ord_eff (ho := rfl)
              · go_simp
              intro x hx
              refine eff_same (by go_simp) hx (fun y h => HDD.out _ y h) (HNR.out x) ?_
              apply ord_norm
              · go_simp; rfl
              clear hx
              apply ord_eff (ho := rfl)
              · go_simp
              intro x hx
              have HX := hid hx
              clear hx
              refine eff_value (v := .slice (some ⟨x.heap.size, 0, none⟩) 1 1) (w := x.alloc (.cells #[.int .i64 rn] 3)) (fun y => y.cell? ⟨q, 3, none⟩ = some (.slice aa an ac) ∧ y.cell? ⟨b, off + m, none⟩ = some (.string S)) (fun y => Sts V0 (rowP 3 1 (.slice aa an ac) (intsV a.args).length (intsV a.args) :: blkP q (.cells #[.int .i64 0, .int .i64 0, .int .i64 sv, .slice aa an ac, .slice da dn dc] 25 (0, 0)) :: [rowP 5 1 (.slice da dn dc) (u8v a.cdata).length (u8v a.cdata)]) y ∧ y.cell? ⟨x.heap.size, 0, none⟩ = some (.int .i64 rn)) (by go_simp) ⟨HX.out.box (stabC (rowP_stable _ _ _ _ _) (stabC (blkP_stable _ _) (stabC (rowP_stable _ _ _ _ _) stab0))) _, cell_blk (heap_new x _ rfl) rfl⟩ (fun y h => HDD.out _ y h.1) (fun _ h => h) ?_
              apply ord_norm
              · go_simp; rfl
              apply ord_eff (ho := rfl)
              · go_simp
              intro y hy
              refine eff_app eltInt (ms := [.int .i64 rn]) (fun y => y.cell? ⟨q, 3, none⟩ = some (.slice aa an ac) ∧ y.cell? ⟨b, off + m, none⟩ = some (.string S)) (.tmp 67) (.tmp 73) rfl hy.1 (stabC (blkP_stable _ _) (stabC (rowP_stable _ _ _ _ _) stab0)) rfl ⟨x.heap.size, 0, none⟩ 1 rfl (fun j u hj => by
                cases j with
                | zero => simp only [List.getElem?_cons_zero, Option.some.injEq] at hj; subst hj; exact hy.2
                | succ j => simp at hj) (fun u hu => by simp only [List.mem_singleton] at hu; subst hu; rfl) (by decide) hf2 (fun v' y h => ⟨(Sts.boxCell h.swap 3 _ rfl).1, HCM.out y h.below⟩) ?_
              intro v'
              apply ord_norm
              · go_simp; rfl
              clear hy
              iterate 1
                (apply ord_pure (ho := rfl)
                 · go_simp
                 · intro x hx; go_simp; rfl
                 apply ord_norm
                 · go_simp; rfl)
              apply ord_eff (ho := rfl)
              · go_simp
              intro z hz
              obtain ⟨va, vn, vc, rfl⟩ := rowP_slice hz
              have HZ9 := hid hz
              clear hz
              refine effS_cell rfl HZ9.out.swap (stabC (rowP_stable _ _ _ _ _) (stabC (rowP_stable _ _ _ _ _) stab0)) (.tmp 75) (.tmp 74) 23 rfl 3 (.slice va vn vc) rfl rfl sizeInts (show 3 < 5 by decide) rfl ?_
              apply ord_norm
              · go_simp; rfl
              apply ord_nil
              intro z hz
              have H6 := hid (show Sts V0 (cmdP q sv (.slice va vn vc) (.slice da dn dc) { a with args := a.args ++ [rn] }) z from by
                have e : intsV (a.args ++ [rn]) = intsV a.args ++ [.int .i64 rn] := by simp [intsV]
                show Sts V0 [_, rowP 3 1 _ (intsV (a.args ++ [rn])).length (intsV (a.args ++ [rn])), _] z
                rw [e]
                exact hz)
              clear hz
              go_wp2_with fail
              go_roundw
              case rel => exact ⟨i + 1, _, _, _, by have := HM.out; omega, by have := HM.out; omega, by show (a.args ++ [rn]).length ≤ _; simp; omega, by have := HM.out; simp; omega, hid HS2.out.symm, H6⟩
              case measure => first | (simp [intOf]; done) | (simp [intOf]; omega)
        · have hfin : a = actR l := by
            have hR : argsR ((l'.drop 2).take i) { Scr.act0 with kind := 2, svc := sv } = argsR ((l'.drop 2).take 10) { Scr.act0 with kind := 2, svc := sv } := by
              by_cases h10 : i = 10
              · rw [h10]
              · have : (l'.drop 2).length ≤ i := by rw [List.length_drop, HPAD.out.2.1]; omega
                rw [List.take_of_length_le this, List.take_of_length_le (by omega)]
            rw [HA.out, hR, HPAD.out.1.args, HREC.out, HSVE.out]
          have HFIN := hid hfin
          have HK2 := hid (show a.kind = 2 ∧ a.num = 0 ∧ a.name = [] ∧ a.data = [] ∧ a.src = 0 ∧ a.cnum = 0 ∧ a.svc = sv ∧ a.fk = 0 ∧ a.fat = 0 ∧ a.fbit = 0 from by rw [HA.out]; exact argsR_rest _ _ ⟨rfl, rfl, rfl, rfl, rfl, rfl, rfl, rfl, rfl, rfl⟩)
          have key : (i + 2 = K ∧ i ≤ 10) ∨ (i + 2 < K ∧ i = 10) := by omega
          clear hlt hfin
          subst hm
          have HY := hid (show Sts w (blkP w.heap.size (.cells (actC Scr.act0 (.slice none 0 0) (.slice none 0 0) (.slice none 0 0)) 29 (0, 0)) :: cmdP q sv (.slice aa an ac) (.slice da dn dc) a) wr from (Sts.cat (stab1 (blkP_stable _ _)) HS.out HV.out).perm List.perm_append_comm)
          have hcm := hid (ldCmd rfl HV.out)
          have gk12 : i = 10 → (12 : Int) < (K : Int) ∨ ((K : Int) = 12) := fun h => by omega
          have GK := hid gk12
          clear gk12
          rcases key with ⟨rfl, hm12⟩ | ⟨hmK, rfl⟩
          case' inr => have gk9 : (12 : Int) < (K : Int) := by omega
          all_goals (
            go_wp2_with (first | (refine wpList_ld rfl (.tmp 3) 25 rfl rfl (.agg #[.int .i64 0, .int .i64 0, .int .i64 sv, .slice aa an ac, .slice da dn dc]) hcm.out ?_) | (refine wpList_agg HY.out (stabC (blkP_stable _ _) (stabC (rowP_stable _ _ _ _ _) (stabC (rowP_stable _ _ _ _ _) stab0))) rfl (.tmp 2) (.tmp 77) 29 rfl (actC { Scr.act0 with kind := 2, svc := sv } (.slice none 0 0) (.slice aa an ac) (.slice da dn dc)) rfl rfl sizeAct rfl rfl ?_; intro w8 h8; have HF := hid h8; clear h8))
            refine post_cell1 HF.out Tryd.results21 rfl rfl (ldAct rfl HF.out) ?_
            rw [← HFIN.out]
            obtain ⟨p1, p2, p3, p4, p5, p6, p7, p8, p9, p10⟩ := HK2.out
            refine ⟨(.slice none 0 0), (.slice aa an ac), (.slice da dn dc), ?_, by unfold rowsA; rw [p4]; exact HF.out.tail.tail.rowNil 5⟩
            unfold actC
            rw [p1, p2, p3, p5, p6, p7, p8, p9, p10]
            rfl)
theorem cActR (ad : Addr) (c : Nat) (l : List Str) (h1 : 1 ≤ l.length) (hl : l.length < 1000000) (hw : ∀ x ∈ l, x.length < 1000000) (hr : Rd w (.slice (some ad) (strsV l).length c) (strsV l)) : Calls Tryd.prog 21 #[.slice (some ad) (strsV l).length c] w fun e w' => actD w w' (actR l) e := by
  by_cases n1 : at' l 0 = b8 "tick"
  · exact cActTick ad c l h1 hl hw hr n1
  by_cases n3 : at' l 0 = b8 "command"
  · exact cActCmd ad c l h1 hl hw hr n3
  by_cases n4 : at' l 0 = b8 "file"
  · exact cActFile ad c l h1 hl hw hr n4
  by_cases n5 : at' l 0 = b8 "fault"
  · exact cActFault ad c l h1 hl hw hr n5
  · exact cActElse ad c l h1 hl hw hr n1 n3 n4 n5
end
end Go.Proofs.YtimnhheagdhpgaaDoor
