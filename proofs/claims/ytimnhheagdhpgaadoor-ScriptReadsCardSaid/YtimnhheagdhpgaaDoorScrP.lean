/- Reading a line: the walks. -/
import Derived.Test.YtimnhheagdhpgaaDoorScrO
import Derived.Test.YtimnhheagdhpgaaDoorScrZc
set_option linter.unusedVariables false
set_option linter.unusedSimpArgs false
namespace Go.Proofs.YtimnhheagdhpgaaDoor
open Go.RowKit Go.Proofs.Num
open Scr (Str bs numV numsV small svcV fltV nameV bytesV oneV fileV faultV orderV tailV flts parseL parseV b8)
theorem oneC_slices {a : Scr.Act} {dv av cv : Value} {w : World} (h : ActV w a dv av cv) : (actC a dv av cv).size = 12 ∧ (actC a dv av cv).toList.all (fun v => v.oneCell') = true := by
  obtain ⟨a1, c1, rfl⟩ := h.data.eq
  obtain ⟨a2, c2, rfl⟩ := h.args.eq
  obtain ⟨a3, c3, rfl⟩ := h.cdata.eq
  exact ⟨rfl, rfl⟩
def isAct (o : Option Scr.Act) (cs : Array Value) (L : List HProp) : Prop := ∀ a, o = some a → ∃ dv av cv, cs = actC a dv av cv ∧ L = rowsA a dv av cv
theorem actE.uni {w w' : World} {o : Option Scr.Act} {e : Ending} (h : actE w w' o e) : ∃ (cs : Array Value) (L : List HProp), e = .returned (.tuple #[.agg cs, .bool o.isSome]) ∧ (cs.size = 12 ∧ cs.toList.all (fun v => v.oneCell') = true) ∧ (∀ A ∈ L, Stable A) ∧ Sts w L w' ∧ isAct o cs L := by
  obtain ⟨hb, h⟩ := h
  cases o with
  | none =>
    obtain ⟨cs, hc, rfl⟩ := h
    exact ⟨cs, [], rfl, hc, stab0, Sts.nil_below hb, fun a h => by cases h⟩
  | some a =>
    obtain ⟨dv, av, cv, rfl, hv⟩ := h
    refine ⟨_, _, rfl, oneC_slices (Sts.actV (l := []) (by rw [List.append_nil]; exact hv)), rowsA_stable _ _ _ _, hv, fun a' h => ?_⟩
    injection h with h; subst h; exact ⟨_, _, _, rfl, rfl⟩
theorem actE.of {w w' : World} {o : Option Scr.Act} {e : Ending} {cs : Array Value} {L : List HProp} (he : e = .returned (.tuple #[.agg cs, .bool o.isSome])) (hc : cs.size = 12 ∧ cs.toList.all (fun v => v.oneCell') = true) (hb : Sts w L w') (h : isAct o cs L) : actE w w' o e := by
  refine ⟨hb.below, ?_⟩
  cases o with
  | none => exact ⟨cs, hc, he⟩
  | some a =>
    obtain ⟨dv, av, cv, rfl, rfl⟩ := h a rfl
    exact ⟨dv, av, cv, he, hb⟩
theorem b8_eq (x : Str) : (x == [116, 105, 99, 107]) = decide (x = b8 "tick") ∧ (x == [104, 111, 108, 100]) = decide (x = b8 "hold") ∧ (x == [99, 111, 109, 109, 97, 110, 100]) = decide (x = b8 "command") ∧ (x == [102, 105, 108, 101]) = decide (x = b8 "file") ∧ (x == [102, 97, 117, 108, 116]) = decide (x = b8 "fault") := by
  have e1 : b8 "tick" = [116, 105, 99, 107] := by decide +kernel
  have e2 : b8 "hold" = [104, 111, 108, 100] := by decide +kernel
  have e3 : b8 "command" = [99, 111, 109, 109, 97, 110, 100] := by decide +kernel
  have e4 : b8 "file" = [102, 105, 108, 101] := by decide +kernel
  have e5 : b8 "fault" = [102, 97, 117, 108, 116] := by decide +kernel
  rw [e1, e2, e3, e4, e5]
  refine ⟨?_, ?_, ?_, ?_, ?_⟩ <;> (rw [Bool.eq_iff_iff]; simp)
section
variable {w : World}
set_option maxHeartbeats 8000000 in
theorem cParseL (a : Option Addr) (c : Nat) (x : Str) (r : List Str) (K : Nat) (hK : (x :: r).length = K + 1) (hw : ∀ s ∈ x :: r, s.length < 1000000) (hl : K + 1 < 1000000) (hr : Rd w (.slice a (K + 1) c) (strsV (x :: r))) (hE : Env w) :
    Calls Tryd.prog 20 #[.slice a (K + 1) c] w fun e w' => actE w w' (parseL (x :: r)) e := by
  have hz := hid (show ∀ cs, Sts w [blkP w.heap.size (.cells cs 29 (0, 0))] (w.alloc (.cells cs 29)) from fun cs => (Sts.nil w).alloc stab0 _)
  have HB0 := hid (fun o => (Below.refl w.heap.size w).alloc (Nat.le_refl _) o)
  obtain ⟨a2, hsl, hrd2⟩ := run_tail2 hK hr
  have hrK : r.length = K := by simpa using hK
  rw [show (x :: r).drop 1 = r from rfl] at hrd2
  obtain ⟨b, off, rfl, -⟩ := str_cell (k := 0) hr (Below.refl _ _) (by simp)
  have HC0 := hid (show ∀ v, Below w.heap.size w v → v.cell? ⟨b, off, none⟩ = some (.string ⟨x.toArray⟩) from fun v hv => by
    obtain ⟨b', off', e, h⟩ := str_cell (k := 0) hr hv (by simp)
    cases e
    exact h)
  have k0 := fun o => HC0.out (w.alloc o) (HB0.out o)
  have hwr : ∀ s ∈ r, s.length < 1000000 := fun s hs => hw s (List.mem_cons_of_mem _ hs)
  have H1 := hid (show ∀ (kind : Int) v, Below w.heap.size w v → Calls Tryd.prog 35 #[.int .i64 kind, .slice a2 K (c - 1)] v fun e w' => actE v w' (oneV kind r) e from fun kind v hv => by
    have := cOne (w := v) kind a2 (c - 1) r (fun s hs => by have := hwr s hs; omega) (by omega) (by rw [hrK]; exact hrd2.below hv) (hE.below hv)
    rwa [hrK] at this)
  have H2 := hid (show ∀ v, Below w.heap.size w v → Calls Tryd.prog 36 #[.slice a2 K (c - 1)] v fun e w' => actE v w' (orderV r) e from fun v hv => by
    have := cOrder (w := v) a2 (c - 1) r hwr (by omega) (by rw [hrK]; exact hrd2.below hv) (hE.below hv)
    rwa [hrK] at this)
  have H3 := hid (show ∀ v, Below w.heap.size w v → Calls Tryd.prog 37 #[.slice a2 K (c - 1)] v fun e w' => actE v w' (fileV r) e from fun v hv => by
    have := cFile (w := v) a2 (c - 1) r hwr (by omega) (by rw [hrK]; exact hrd2.below hv) (hE.below hv)
    rwa [hrK] at this)
  have H4 := hid (show ∀ v, Below w.heap.size w v → Calls Tryd.prog 38 #[.slice a2 K (c - 1)] v fun e w' => actE v w' (faultV r) e from fun v hv => by
    have := cFault (w := v) a2 (c - 1) r hwr (by omega) (by rw [hrK]; exact hrd2.below hv) (hE.below hv)
    rwa [hrK] at this)
  obtain ⟨res, hres⟩ : ∃ res, res = parseL (x :: r) := ⟨_, rfl⟩
  rw [← hres]
  obtain ⟨q1, q2, q3, q4, q5⟩ := b8_eq x
  obtain ⟨v1, hv1⟩ : ∃ v1, v1 = oneV 1 r := ⟨_, rfl⟩
  obtain ⟨v5, hv5⟩ : ∃ v5, v5 = oneV 5 r := ⟨_, rfl⟩
  obtain ⟨v2, hv2⟩ : ∃ v2, v2 = orderV r := ⟨_, rfl⟩
  obtain ⟨v3, hv3⟩ : ∃ v3, v3 = fileV r := ⟨_, rfl⟩
  obtain ⟨v4, hv4⟩ : ∃ v4, v4 = faultV r := ⟨_, rfl⟩
  rw [parseL, ← hv1, ← hv5, ← hv2, ← hv3, ← hv4] at hres
  have H11 := hid (H1.out 1)
  have H15 := hid (H1.out 5)
  rw [← hv1] at H11
  rw [← hv5] at H15
  rw [← hv2] at H2
  rw [← hv3] at H3
  rw [← hv4] at H4
  clear hv1 hv2 hv3 hv4 hv5 H1 hwr hrd2 hE hr hw hl hK hrK
  by_cases e1 : x = b8 "tick"
  · have hrs : res = v1 := by rw [hres, if_pos e1]
    rw [decide_eq_true e1] at q1
    subst hrs
    clear q2
    clear q3
    clear q4
    clear q5
    clear hres e1
    go_enter Tryd.func20, Tryd.ntmps20
    go_wp2_with (first | (go_at_call 35; refine (H11.out _ (HB0.out _)).mono ?_; intro e w1 he; obtain ⟨cs, L, rfl, hcs, hL, hS, hact⟩ := he.uni; have HCS := hid hcs; have HL := hid hL; have HACT := hid hact; have HQ := hid ((Sts.cat (stab1 (blkP_stable _ _)) (hz.out _) hS).perm List.perm_append_comm); clear he hcs hS hL hact) | (refine wpList_agg HQ.out HL.out rfl (.tmp 2) (.tmp 12) 29 rfl cs rfl rfl (by rw [HCS.out.1]; exact sizeAct) (by rw [HCS.out.1]; rfl) HCS.out.2 ?_; intro w2 hw2; have HF := hid hw2; clear hw2))
    refine post_cell2 HF.out Tryd.results20 rfl rfl (ldAct HCS.out.1 HF.out) _ rfl ?_
    exact actE.of rfl HCS.out HF.out.tail HACT.out
  · skip
    by_cases e2 : x = b8 "hold"
    · have hrs : res = v5 := by rw [hres, if_neg e1, if_pos e2]
      rw [decide_eq_false e1] at q1
      rw [decide_eq_true e2] at q2
      subst hrs
      clear q3
      clear q4
      clear q5
      clear hres e1 e2
      go_enter Tryd.func20, Tryd.ntmps20
      go_wp2_with (first | (go_at_call 35; refine (H15.out _ (HB0.out _)).mono ?_; intro e w1 he; obtain ⟨cs, L, rfl, hcs, hL, hS, hact⟩ := he.uni; have HCS := hid hcs; have HL := hid hL; have HACT := hid hact; have HQ := hid ((Sts.cat (stab1 (blkP_stable _ _)) (hz.out _) hS).perm List.perm_append_comm); clear he hcs hS hL hact) | (refine wpList_agg HQ.out HL.out rfl (.tmp 2) (.tmp 19) 29 rfl cs rfl rfl (by rw [HCS.out.1]; exact sizeAct) (by rw [HCS.out.1]; rfl) HCS.out.2 ?_; intro w2 hw2; have HF := hid hw2; clear hw2))
      refine post_cell2 HF.out Tryd.results20 rfl rfl (ldAct HCS.out.1 HF.out) _ rfl ?_
      exact actE.of rfl HCS.out HF.out.tail HACT.out
    · skip
      by_cases e3 : x = b8 "command"
      · have hrs : res = v2 := by rw [hres, if_neg e1, if_neg e2, if_pos e3]
        rw [decide_eq_false e1] at q1
        rw [decide_eq_false e2] at q2
        rw [decide_eq_true e3] at q3
        subst hrs
        clear q4
        clear q5
        clear hres e1 e2 e3
        go_enter Tryd.func20, Tryd.ntmps20
        go_wp2_with (first | (go_at_call 36; refine (H2.out _ (HB0.out _)).mono ?_; intro e w1 he; obtain ⟨cs, L, rfl, hcs, hL, hS, hact⟩ := he.uni; have HCS := hid hcs; have HL := hid hL; have HACT := hid hact; have HQ := hid ((Sts.cat (stab1 (blkP_stable _ _)) (hz.out _) hS).perm List.perm_append_comm); clear he hcs hS hL hact) | (refine wpList_agg HQ.out HL.out rfl (.tmp 2) (.tmp 26) 29 rfl cs rfl rfl (by rw [HCS.out.1]; exact sizeAct) (by rw [HCS.out.1]; rfl) HCS.out.2 ?_; intro w2 hw2; have HF := hid hw2; clear hw2))
        refine post_cell2 HF.out Tryd.results20 rfl rfl (ldAct HCS.out.1 HF.out) _ rfl ?_
        exact actE.of rfl HCS.out HF.out.tail HACT.out
      · skip
        by_cases e4 : x = b8 "file"
        · have hrs : res = v3 := by rw [hres, if_neg e1, if_neg e2, if_neg e3, if_pos e4]
          rw [decide_eq_false e1] at q1
          rw [decide_eq_false e2] at q2
          rw [decide_eq_false e3] at q3
          rw [decide_eq_true e4] at q4
          subst hrs
          clear q5
          clear hres e1 e2 e3 e4
          go_enter Tryd.func20, Tryd.ntmps20
          go_wp2_with (first | (go_at_call 37; refine (H3.out _ (HB0.out _)).mono ?_; intro e w1 he; obtain ⟨cs, L, rfl, hcs, hL, hS, hact⟩ := he.uni; have HCS := hid hcs; have HL := hid hL; have HACT := hid hact; have HQ := hid ((Sts.cat (stab1 (blkP_stable _ _)) (hz.out _) hS).perm List.perm_append_comm); clear he hcs hS hL hact) | (refine wpList_agg HQ.out HL.out rfl (.tmp 2) (.tmp 33) 29 rfl cs rfl rfl (by rw [HCS.out.1]; exact sizeAct) (by rw [HCS.out.1]; rfl) HCS.out.2 ?_; intro w2 hw2; have HF := hid hw2; clear hw2))
          refine post_cell2 HF.out Tryd.results20 rfl rfl (ldAct HCS.out.1 HF.out) _ rfl ?_
          exact actE.of rfl HCS.out HF.out.tail HACT.out
        · skip
          by_cases e5 : x = b8 "fault"
          · have hrs : res = v4 := by rw [hres, if_neg e1, if_neg e2, if_neg e3, if_neg e4, if_pos e5]
            rw [decide_eq_false e1] at q1
            rw [decide_eq_false e2] at q2
            rw [decide_eq_false e3] at q3
            rw [decide_eq_false e4] at q4
            rw [decide_eq_true e5] at q5
            subst hrs
            clear hres e1 e2 e3 e4 e5
            go_enter Tryd.func20, Tryd.ntmps20
            go_wp2_with (first | (go_at_call 38; refine (H4.out _ (HB0.out _)).mono ?_; intro e w1 he; obtain ⟨cs, L, rfl, hcs, hL, hS, hact⟩ := he.uni; have HCS := hid hcs; have HL := hid hL; have HACT := hid hact; have HQ := hid ((Sts.cat (stab1 (blkP_stable _ _)) (hz.out _) hS).perm List.perm_append_comm); clear he hcs hS hL hact) | (refine wpList_agg HQ.out HL.out rfl (.tmp 2) (.tmp 40) 29 rfl cs rfl rfl (by rw [HCS.out.1]; exact sizeAct) (by rw [HCS.out.1]; rfl) HCS.out.2 ?_; intro w2 hw2; have HF := hid hw2; clear hw2))
            refine post_cell2 HF.out Tryd.results20 rfl rfl (ldAct HCS.out.1 HF.out) _ rfl ?_
            exact actE.of rfl HCS.out HF.out.tail HACT.out
          · skip
            have hrs : res = none := by rw [hres, if_neg e1, if_neg e2, if_neg e3, if_neg e4, if_neg e5]
            rw [decide_eq_false e1] at q1
            rw [decide_eq_false e2] at q2
            rw [decide_eq_false e3] at q3
            rw [decide_eq_false e4] at q4
            rw [decide_eq_false e5] at q5
            subst hrs
            clear hres e1 e2 e3 e4 e5
            go_enter Tryd.func20, Tryd.ntmps20
            go_wp2_with (refine wpList_agg (hz.out _) stab0 rfl (.tmp 2) (.tmp 42) 29 rfl (actC Scr.act0 (.slice none 0 0) (.slice none 0 0) (.slice none 0 0)) rfl rfl sizeAct rfl rfl ?_; intro w2 hw2; have HF := hid hw2; clear hw2)
            refine post_cell2 HF.out Tryd.results20 rfl rfl (ldAct rfl HF.out) _ rfl ⟨HF.out.below, _, ?_, rfl⟩
            exact ⟨rfl, rfl⟩
end
end Go.Proofs.YtimnhheagdhpgaaDoor
