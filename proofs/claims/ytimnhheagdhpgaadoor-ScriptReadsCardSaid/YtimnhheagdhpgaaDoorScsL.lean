/- The specification's Line: a command; whole. -/
import Derived.Test.YtimnhheagdhpgaaDoorScsI
import Derived.Test.YtimnhheagdhpgaaDoorScsJ
import Derived.Test.YtimnhheagdhpgaaDoorScsK
set_option linter.unusedVariables false
set_option linter.unusedSimpArgs false
namespace Go.Proofs.YtimnhheagdhpgaaDoor
open Go.RowKit Go.Proofs.Num
open Scr (Str bs numV numsV small svcV fltV nameV bytesV oneV fileV faultV orderV tailV flts parseL parseV b8 textV textL svcs svcN fltN ixOf valC digR pairR bytesR rnum magR splitW hexC hexB hexV lineV lineL joinW)
theorem wpList_ldG {ops : Array Oper} {rest : List Oper} {o : Oper} {a : Act} {Q : Exit → Act → World → Prop} {w : World} {b j : Nat} (hw : Region.wanted o (yielded ops a.tmps) = true) (x : Operand) (t : TypeId) (ho : o.op = .load t x) (hx : a.eval x = .pointer (some ⟨b, j, none⟩)) (v : Value)
    (hld : (loadVar t ⟨b, j, none⟩).run Tryd.prog w = .ok v w) (h : wpList Tryd.prog ops Q rest (a.put o.dst v) w) : wpList Tryd.prog ops Q (o :: rest) a w := by
  unfold wpList
  rw [if_pos hw]
  refine Or.inl ?_
  unfold Oper.wp
  rw [exec_ld x t ho hx hld]
  exact h
theorem line2 (a : Scr.Act) (h : a.kind = 2) : lineV a = if a = { Scr.act0 with kind := 2, svc := a.svc, args := a.args, cdata := a.cdata } then cmdV a.svc a.args a.cdata else none := by
  unfold lineV lineL cmdV
  rw [h, if_neg (by decide), if_pos rfl]
  by_cases h1 : a = { Scr.act0 with kind := 2, svc := a.svc, args := a.args, cdata := a.cdata }
  · rw [if_pos h1]
    by_cases h2 : (∀ n ∈ a.args, small n = true) ∧ a.args.length ≤ 8 ∧ a.cdata.length ≤ 512 ∧ svcN a.svc ≠ []
    · rw [if_pos h2, if_pos ⟨h2.1, h2.2.1, h2.2.2.1, h2.2.2.2, h1⟩]; rfl
    · rw [if_neg h2, if_neg (fun h => h2 ⟨h.1, h.2.1, h.2.2.1, h.2.2.2.1⟩)]; rfl
  · rw [if_neg h1, if_neg (fun h => h1 h.2.2.2.2)]; rfl
section
variable {w : World}
set_option maxRecDepth 100000 in
set_option maxHeartbeats 16000000 in
theorem cLine2 (a : Scr.Act) (dv av cv : Value) (hk : a.kind = 2) (hO : LineOk a) (hV : ActV w a dv av cv) : Calls Tryd.prog 16 #[.agg (actC a dv av cv)] w fun e w' => lineE w w' (lineV a) e := by
  rw [line2 a hk]
  obtain ⟨aa, ca, hav⟩ := hV.args.eq
  obtain ⟨ba, bc, hcv⟩ := hV.cdata.eq
  rw [intsV_len] at hav
  rw [u8v_len] at hcv
  subst hav hcv
  have hz := (Sts.nil w).alloc stab0 (.cells (actC a dv (.slice aa a.args.length ca) (.slice ba a.cdata.length bc)) 29)
  have hz2 := fun cs => hz.alloc (stab1 (blkP_stable _ _)) (.cells cs 25)
  rw [size_alloc] at hz2
  have k0 := (Sts.actM hz).c0
  have k6 := (Sts.actM hz).c6
  have k7 := (Sts.actM hz).c7
  have k8 := (Sts.actM hz).c8
  rw [hk] at k0
  have HS2 := hid hz2
  have HCM := hid (show ∀ x, Below w.heap.size w x → Calls Tryd.prog 29 #[.agg #[.int .i64 0, .int .i64 0, .int .i64 a.svc, (.slice aa a.args.length ca), (.slice ba a.cdata.length bc)]] x fun e w' => lineE x w' (cmdV a.svc a.args a.cdata) e from fun x hx => cCommandR (w := x) 0 0 a.svc aa ba ca bc a.args a.cdata hO.few hO.cdata hO.args (hV.args.below hx) (hV.cdata.below hx))
  have HSAME := hid (show ∀ x, Below w.heap.size w x → Calls Tryd.prog 23 #[.agg (actC a dv (.slice aa a.args.length ca) (.slice ba a.cdata.length bc)), .agg #[.int .i64 2, .int .i64 0, .string ⟨#[]⟩, (.slice none 0 0), .int .i64 0, .int .i64 0, .int .i64 a.svc, (.slice aa a.args.length ca), (.slice ba a.cdata.length bc), .int .i64 0, .int .i64 0, .int .i64 0]] x fun e w' => e = .returned (.bool (decide (a = ({ Scr.act0 with kind := 2, svc := a.svc, args := a.args, cdata := a.cdata } : Scr.Act)))) ∧ Below x.heap.size x w' from fun x hx => cSame58 (w := x) a ({ Scr.act0 with kind := 2, svc := a.svc, args := a.args, cdata := a.cdata } : Scr.Act) dv (.slice aa a.args.length ca) (.slice ba a.cdata.length bc) (.slice none 0 0) (.slice aa a.args.length ca) (.slice ba a.cdata.length bc) (hV.below hx) ⟨rd_nil x, hV.args.below hx, hV.cdata.below hx⟩ hO.few hO.few)
  obtain ⟨T, hT⟩ : ∃ T, T = a.args.length := ⟨_, rfl⟩
  obtain ⟨N, hN⟩ : ∃ N, N = a.cdata.length := ⟨_, rfl⟩
  rw [← hT, ← hN] at k0 k6 k7 k8 HS2 HCM HSAME ⊢
  obtain ⟨cs, hcs⟩ : ∃ cs, cs = actC a dv (.slice aa T ca) (.slice ba N bc) := ⟨_, rfl⟩
  have hz12 : cs.size = 12 := by rw [hcs]; rfl
  rw [← hcs] at k0 k6 k7 k8 HS2 HSAME ⊢
  obtain ⟨q, hq⟩ : ∃ q, q = decide (a = ({ Scr.act0 with kind := 2, svc := a.svc, args := a.args, cdata := a.cdata } : Scr.Act)) := ⟨_, rfl⟩
  rw [← hq] at HSAME
  obtain ⟨o, ho⟩ : ∃ o, o = cmdV a.svc a.args a.cdata := ⟨_, rfl⟩
  rw [← ho] at HCM ⊢
  obtain ⟨res, hres⟩ : ∃ res, res = (if a = ({ Scr.act0 with kind := 2, svc := a.svc, args := a.args, cdata := a.cdata } : Scr.Act) then o else none : Option Str) := ⟨_, rfl⟩
  rw [← hres]
  have HRES := hid (show res = if q = true then o else none by rw [hres, hq]; simp)
  obtain ⟨sv, hsv⟩ : ∃ sv, sv = a.svc := ⟨_, rfl⟩
  rw [← hsv] at k6 HCM HSAME
  have HZ := hid hz12
  clear hcs hq hres ho hk hO hV hz hz2 hT hN hsv hz12
  obtain ⟨b, hb⟩ : ∃ b, b = o.isSome := ⟨_, rfl⟩
  have HBE := hid hb
  unfold lineE at HCM
  rw [← hb] at HCM
  clear hb
  cases b with
  | false =>
    go_enter Tryd.func16, Tryd.ntmps16
    go_wp2_with (first | (refine wpList_agg (HS2.out _) (stab1 (blkP_stable _ _)) rfl (.tmp 4) (.tmp 37) 25 rfl #[.int .i64 0, .int .i64 0, .int .i64 sv, .slice aa T ca, .slice ba N bc] rfl rfl sizeCmd rfl rfl ?_; intro w4 h4; have H4 := hid h4; clear h4) | (refine wpList_ld rfl (.tmp 4) 25 rfl rfl (.agg #[.int .i64 0, .int .i64 0, .int .i64 sv, .slice aa T ca, .slice ba N bc]) (ldCmd rfl H4.out) ?_) | (go_at_call 29; refine (HCM.out _ H4.out.below).mono ?_; rintro e w5 ⟨⟨X, rfl, hX⟩, hb⟩; have HXT := hid hX; have H5 := hid (H4.out.quiet (stabC (blkP_stable _ _) (stab1 (blkP_stable _ _))) hb); clear hb hX))
    go_ret2
    have hon : o = none := by have := HBE.out; cases o with
      | none => rfl
      | some t => cases this
    have hr : res = none := by rw [HRES.out, hon]; split <;> rfl
    exact ⟨⟨_, by rw [hr]; rfl, fun t ht => by rw [hr] at ht; cases ht⟩, H5.out.below⟩
  | true =>
    go_enter Tryd.func16, Tryd.ntmps16
    go_wp2_with (first | (refine wpList_agg (HS2.out _) (stab1 (blkP_stable _ _)) rfl (.tmp 4) (.tmp 37) 25 rfl #[.int .i64 0, .int .i64 0, .int .i64 sv, .slice aa T ca, .slice ba N bc] rfl rfl sizeCmd rfl rfl ?_; intro w4 h4; have H4 := hid h4; clear h4) | (refine wpList_ld rfl (.tmp 4) 25 rfl rfl (.agg #[.int .i64 0, .int .i64 0, .int .i64 sv, .slice aa T ca, .slice ba N bc]) (ldCmd rfl H4.out) ?_) | (go_at_call 29; refine (HCM.out _ H4.out.below).mono ?_; rintro e w5 ⟨⟨X, rfl, hX⟩, hb⟩; have HXT := hid hX; have H5 := hid (H4.out.quiet (stabC (blkP_stable _ _) (stab1 (blkP_stable _ _))) hb); clear hb hX) | (refine wpList_ldG (by go_simp) (.tmp 1) 29 rfl rfl (.agg cs) (ldAct HZ.out H5.out.swap) ?_) | (refine wpList_ldG (by go_simp) (.tmp 4) 25 rfl rfl (.agg #[.int .i64 0, .int .i64 0, .int .i64 sv, .slice aa T ca, .slice ba N bc]) (ldCmd rfl H5.out) ?_) | (go_at_call 23; refine (HSAME.out _ H5.out.below).mono ?_; rintro e w6 ⟨rfl, hw⟩; have H6 := hid (H5.out.quiet (stabC (blkP_stable _ _) (stab1 (blkP_stable _ _))) hw); clear hw))
    go_ret2
    obtain ⟨t, hot⟩ : ∃ t, o = some t := by have := HBE.out; cases o with
      | none => cases this
      | some t => exact ⟨t, rfl⟩
    have hr : res.isSome = q := by rw [HRES.out, hot]; cases q <;> rfl
    refine ⟨⟨_, by rw [hr]; rfl, fun t' ht => ?_⟩, H6.out.below⟩
    rw [HRES.out, hot] at ht
    cases q with
    | false => cases ht
    | true => injection ht with ht; rw [← ht]; exact HXT.out t hot
theorem cLineR (a : Scr.Act) (dv av cv : Value) (hO : LineOk a) (hV : ActV w a dv av cv) : Calls Tryd.prog 16 #[.agg (actC a dv av cv)] w fun e w' => lineE w w' (lineV a) e := by
  by_cases h1 : a.kind = 1
  · exact cLine1 a dv av cv h1 hO hV
  by_cases h2 : a.kind = 2
  · exact cLine2 a dv av cv h2 hO hV
  by_cases h3 : a.kind = 3
  · exact cLine3 a dv av cv h3 hO hV
  by_cases h4 : a.kind = 4
  · by_cases hf : 1 ≤ a.fk ∧ a.fk ≤ 7
    · exact cLine4 a dv av cv h4 hf hO hV
    · exact cLine4a a dv av cv h4 hf
  by_cases h5 : a.kind = 5
  · exact cLine5 a dv av cv h5 hO hV
  · exact cLine0 a dv av cv h1 h2 h3 h4 h5
end
end Go.Proofs.YtimnhheagdhpgaaDoor
