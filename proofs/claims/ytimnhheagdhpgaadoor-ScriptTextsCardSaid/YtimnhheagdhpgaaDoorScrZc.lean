/- Reading a fault: the walk. -/
import Derived.Test.YtimnhheagdhpgaaDoorScrZb
set_option linter.unusedVariables false
set_option linter.unusedSimpArgs false
namespace Go.Proofs.YtimnhheagdhpgaaDoor
open Go.RowKit Go.Proofs.Num
open Scr (Str bs numV numsV small svcV fltV nameV bytesV oneV fileV faultV orderV tailV flts)
section
variable {w : World}
set_option maxHeartbeats 8000000 in
theorem cFault (a : Option Addr) (c : Nat) (l : List Str) (hw : ∀ s ∈ l, s.length < 1000000) (hl : l.length < 1000000) (hr : Rd w (.slice a l.length c) (strsV l)) (hE : Env w) :
    Calls Tryd.prog 38 #[.slice a l.length c] w fun e w' => actE w w' (faultV l) e := by
  have hz : ∀ cs, Sts w [blkP w.heap.size (.cells cs 29 (0, 0))] (w.alloc (.cells cs 29)) := fun cs => (Sts.nil w).alloc stab0 _
  by_cases h1 : l.length = 3
  · obtain ⟨x, y, z, rfl⟩ : ∃ x y z, l = [x, y, z] := by
      match l, h1 with
      | [x, y, z], _ => exact ⟨x, y, z, rfl⟩
    obtain ⟨a2, hsl, hrd2⟩ := run_tail (l := [x, y, z]) (by simp) hr
    obtain ⟨b, off, rfl, -⟩ := str_cell (k := 0) hr (Below.refl _ _) (by simp)
    have HC0 := hid (show ∀ v, Below w.heap.size w v → v.cell? ⟨b, off, none⟩ = some (.string ⟨x.toArray⟩) from fun v hv => by
      obtain ⟨b', off', e, h⟩ := str_cell (k := 0) hr hv (by simp)
      cases e
      exact h)
    have HNS := hid (show ∀ v, Below w.heap.size w v → Calls Tryd.prog 55 #[.slice a2 2 (c - 1)] v fun e w' => numsE v w' (numsV [y, z]) e from fun v hv => cNumbers (w := v) a2 (c - 1) [y, z] (by simp) (fun s hs => by have := hw s (List.mem_cons_of_mem _ hs); omega) (hrd2.below hv) (hE.below hv))
    have hz3 : ∀ cs ds, Sts w [blkP (w.heap.size + 1) (.cells ds 27 (0, 0)), blkP w.heap.size (.cells cs 29 (0, 0))] ((w.alloc (.cells cs 29)).alloc (.cells ds 27)) := fun cs ds => by
      have := (hz cs).alloc (stab1 (blkP_stable _ _)) (.cells ds 27)
      rwa [size_alloc] at this
    have HZ3 := hid hz3
    obtain ⟨r, hrr⟩ : ∃ r, r = faultV [x, y, z] := ⟨_, rfl⟩
    have HR := hid hrr
    rw [← hrr]
    clear hrr hz3 hr hrd2 hE hw hl h1 hz
    go_enter Tryd.func38, Tryd.ntmps38
    go_wp2_with (first | (go_at_call 48; refine (cFaults).mono ?_; rintro e w1 ⟨rfl, hnew⟩; have HS := hid (Sts.new (stabC (blkP_stable _ _) (stab1 (blkP_stable _ _))) (HZ3.out _ _) hnew); clear hnew))
    have HS2 := hid (show Sts w [blkP (w.heap.size + 1) (.cells #[.int .i64 (kindAt x 0), .int .i64 0, .int .i64 0] 27 (0, 0)), blkP w.heap.size (.cells (actC Scr.act0 (.slice none 0 0) (.slice none 0 0) (.slice none 0 0)) 29 (0, 0)), rowP 9 1 (.slice (some ⟨w.heap.size + 1 + 1, 0, none⟩) 8 8) 8 (strsV ([] :: flts))] w1 from by
      have h0 : kindAt x 0 = 0 := by unfold kindAt; have := Scr.fltV_bound x; split <;> omega
      have e : ((w.alloc (.cells (actC Scr.act0 (.slice none 0 0) (.slice none 0 0) (.slice none 0 0)) 29)).alloc (.cells #[.int .i64 0, .int .i64 0, .int .i64 0] 27)).heap.size = w.heap.size + 1 + 1 := by simp
      rw [h0, ← e]
      exact Sts.third' HS.out)
    clear HS
    obtain ⟨q, hq⟩ : ∃ q, q = w.heap.size + 1 := ⟨_, rfl⟩
    rw [← hq] at HS2 ⊢
    obtain ⟨g, hg⟩ : ∃ g, g = q + 1 := ⟨_, rfl⟩
    rw [← hg] at HS2 ⊢
    have HQ := hid (show q = w.heap.size + 1 ∧ g = q + 1 from ⟨hq, hg⟩)
    clear hq hg
    go_loopw [16] (fun i wr => ∃ k : Nat, k ≤ 8 ∧ i = .int .i64 k ∧ Hid (Sts w [blkP q (.cells #[.int .i64 (kindAt x k), .int .i64 0, .int .i64 0] 27 (0, 0)), blkP w.heap.size (.cells (actC Scr.act0 (.slice none 0 0) (.slice none 0 0) (.slice none 0 0)) 29 (0, 0)), rowP 9 1 (.slice (some ⟨g, 0, none⟩) 8 8) 8 (strsV ([] :: flts))] wr)) (fun i _ => 8 - (intOf i).toNat)
    case atStart => exact ⟨0, by omega, rfl, HS2⟩
    case round =>
      obtain ⟨k, hk, rfl, HS⟩ := hrel
      have hx0 := HC0.out wr HS.out.below
      by_cases hlt : k < 8
      · obtain ⟨nm, hnm⟩ : ∃ nm, nm = fltAt k := ⟨_, rfl⟩
        have hcell : wr.cell? ⟨g, k, none⟩ = some (.string ⟨nm.toArray⟩) := by
          refine Sts.rowCell HS.out.third k hlt _ ?_
          rw [hnm]
          have hl8 : k < (([] : Str) :: flts).length := hlt
          rw [strsV, List.getElem?_map, List.getElem?_eq_getElem hl8, fltAt, List.getD_eq_getElem?_getD, List.getElem?_eq_getElem hl8]
          rfl
        have hks := kind_step x k hlt
        rw [← hnm] at hks
        have heq := str_eq nm ⟨x.toArray⟩
        rw [ByteArray.toList_mk, ByteArray.toList_mk, show bs ⟨x.toArray⟩ = x from rfl] at heq
        have hst : ∀ B ∈ [blkP w.heap.size (.cells (actC Scr.act0 (.slice none 0 0) (.slice none 0 0) (.slice none 0 0)) 29 (0, 0)), rowP 9 1 (.slice (some ⟨g, 0, none⟩) 8 8) 8 (strsV ([] :: flts))], Stable B := stabC (blkP_stable _ _) (stab1 (rowP_stable _ _ _ _ _))
        have HST := hid hst
        clear hst hnm
        by_cases hgo : 0 < k ∧ nm = x
        · rw [if_pos hgo] at hks
          obtain ⟨hkp, rfl⟩ := hgo
          have hk0 : (0 : Int) < (k : Int) := by omega
          have HKS := hid hks
          clear hks heq
          have hfz := (Sts.boxCell HS.out 0 _ rfl).2
          have hcl := (Sts.boxCell HS.out 0 _ rfl).1
          have HF := hid (Sts.store (j := 0) HST.out HS.out (.int .i64 (k : Int)))
          go_wp2_with fail
          all_goals (go_roundw
                     case rel => exact ⟨k + 1, by omega, by simp, hid (by rw [HKS.out]; exact HF.out)⟩
                     case measure => simp [intOf]; omega)
        · rw [if_neg hgo] at hks
          have HKS := hid hks
          have HS3 := hid (show Sts w [blkP q (.cells #[.int .i64 (kindAt x (k + 1)), .int .i64 0, .int .i64 0] 27 (0, 0)), blkP w.heap.size (.cells (actC Scr.act0 (.slice none 0 0) (.slice none 0 0) (.slice none 0 0)) 29 (0, 0)), rowP 9 1 (.slice (some ⟨g, 0, none⟩) 8 8) 8 (strsV ([] :: flts))] wr from by rw [hks]; exact HS.out)
          clear hks
          by_cases hk0 : k = 0
          · have g1 : decide ((0 : Int) < (k : Int)) = false := by simp; omega
            have g2 : ¬ ((0 : Int) < (k : Int)) := by omega
            have g3 : ¬ (0 < k) := by omega
            clear heq hgo hk0
            go_wp2_with fail
            all_goals (go_roundw
                       case rel => exact ⟨k + 1, by omega, by simp, HS3⟩
                       case measure => simp [intOf]; omega)
          · have hne : ¬ (nm = x) := fun e => hgo ⟨by omega, e⟩
            have g1 : (0 : Int) < (k : Int) := by omega
            have g4 : (nm == x) = false := by simp [hne]
            clear heq hgo hk0
            go_wp2_with fail
            all_goals (go_roundw
                       case rel => exact ⟨k + 1, by omega, by simp, HS3⟩
                       case measure => simp [intOf]; omega)
      · have hk8 : k = 8 := by omega
        have hkd : kindAt x k = fltV x := by unfold kindAt; have := Scr.fltV_bound x; rw [if_pos (by omega)]
        obtain ⟨fv, hfv⟩ : ∃ fv, fv = fltV x := ⟨_, rfl⟩
        rw [hkd, ← hfv] at HS
        have HFV := hid hfv
        clear hkd hfv
        have hcl := (Sts.boxCell HS.out 0 _ rfl).1
        subst hk8
        have hsl2 : ∀ v : World, (Instr.slice 47 (.slice (some ⟨b, off, none⟩) 3 c) (some (.int .i64 1)) none none).run Tryd.prog v = .ok (.slice a2 2 (c - 1)) v := hsl
        clear hsl
        have HSTB := hid (show ∀ B ∈ [blkP q (.cells #[.int .i64 fv, .int .i64 0, .int .i64 0] 27 (0, 0)), blkP w.heap.size (.cells (actC Scr.act0 (.slice none 0 0) (.slice none 0 0) (.slice none 0 0)) 29 (0, 0)), rowP 9 1 (.slice (some ⟨g, 0, none⟩) 8 8) 8 (strsV ([] :: flts))], Stable B from stabC (blkP_stable _ _) (stabC (blkP_stable _ _) (stab1 (rowP_stable _ _ _ _ _))))
        obtain ⟨on, hon⟩ : ∃ on, on = numsV [y, z] := ⟨_, rfl⟩
        rw [← hon] at HNS
        have HON := hid hon
        clear hon
        by_cases hf0 : fv = 0
        · subst hf0
          have hrn : r = none := by
            rw [HR.out, faultV]
            cases numV y <;> cases numV z <;> simp [← HFV.out]
          go_wp2_with (first | (go_at_call 55; refine (HNS.out _ HS.out.below).mono ?_; intro e w2 hne; obtain ⟨va, vn, vc, rfl, hnew⟩ := hne.uni; have HN := hid (Sts.new HSTB.out HS.out hnew); clear hne hnew; have hc2 := (Sts.boxCell HN.out.swap 0 _ rfl).1) | (refine wpList_agg HN.out.third (stabC (rowP_stable _ _ _ _ _) (stabC (blkP_stable _ _) (stab1 (rowP_stable _ _ _ _ _)))) rfl (.tmp 2) (.tmp 46) 29 rfl (actC Scr.act0 (.slice none 0 0) (.slice none 0 0) (.slice none 0 0)) rfl rfl sizeAct rfl rfl ?_; intro w3 hw3; have HF := hid hw3; clear hw3))
          refine post_cell2 HF.out Tryd.results38 rfl rfl (ldAct rfl HF.out) _ rfl ⟨HF.out.below, ?_⟩
          rw [hrn]
          exact ⟨_, ⟨rfl, rfl⟩, rfl⟩
        · cases on with
          | none =>
            have hrn : r = none := by
              have h := HON.out
              rw [HR.out, faultV]
              simp only [numsV] at h
              cases h1 : numV y with
              | none => rfl
              | some n1 => cases h2 : numV z with
                | none => rfl
                | some n2 => rw [h1, h2] at h; cases h
            have hf1 : (fv == 0) = false := by simp; exact hf0
            go_wp2_with (first | (go_at_call 55; refine (HNS.out _ HS.out.below).mono ?_; intro e w2 hne; obtain ⟨va, vn, vc, rfl, hnew⟩ := hne.uni; have HN := hid (Sts.new HSTB.out HS.out hnew); clear hne hnew; have hc2 := (Sts.boxCell HN.out.swap 0 _ rfl).1) | (refine wpList_agg HN.out.third (stabC (rowP_stable _ _ _ _ _) (stabC (blkP_stable _ _) (stab1 (rowP_stable _ _ _ _ _)))) rfl (.tmp 2) (.tmp 46) 29 rfl (actC Scr.act0 (.slice none 0 0) (.slice none 0 0) (.slice none 0 0)) rfl rfl sizeAct rfl rfl ?_; intro w3 hw3; have HF := hid hw3; clear hw3))
            refine post_cell2 HF.out Tryd.results38 rfl rfl (ldAct rfl HF.out) _ rfl ⟨HF.out.below, ?_⟩
            rw [hrn]
            exact ⟨_, ⟨rfl, rfl⟩, rfl⟩
          | some t =>
            obtain ⟨n1, n2, h1, h2, rfl⟩ : ∃ n1 n2, numV y = some n1 ∧ numV z = some n2 ∧ t = [n1, n2] := by
              have h := HON.out
              simp only [numsV] at h
              cases h1 : numV y with
              | none => rw [h1] at h; cases h
              | some n1 => cases h2 : numV z with
                | none => rw [h1, h2] at h; cases h
                | some n2 => rw [h1, h2] at h; injection h with h; exact ⟨n1, n2, rfl, rfl, h⟩
            have hrn : r = some { Scr.act0 with kind := 4, fk := fv, fat := n1, fbit := n2 } := by
              rw [HR.out, faultV, h1, h2, ← HFV.out]; simp [hf0]
            have HRN := hid hrn
            clear hrn h1 h2 HON HR
            have hf1 : (fv == 0) = false := by simp; exact hf0
            go_wp2_with (first | (go_at_call 55; refine (HNS.out _ HS.out.below).mono ?_; rintro e w2 ⟨v, rfl, hnew⟩; obtain ⟨g2, c2, hv2⟩ := newOpenR hnew (by simp [intsV]); rw [show (intsV [n1, n2]).length = 2 from rfl] at hv2; subst hv2; have HN := hid (show Sts w [rowP 3 1 (.slice (some ⟨g2, 0, none⟩) 2 c2) 2 [.int .i64 n1, .int .i64 n2], _, _, _] w2 from Sts.new HSTB.out HS.out hnew); clear hnew; have hc2 := (Sts.boxCell HN.out.swap 0 _ rfl).1; have hr0 := Sts.rowCell HN.out 0 (show 0 < 2 by decide) (.int .i64 n1) rfl; clear HNS) | (refine wpList_cell HN.out.swap (stabC (rowP_stable _ _ _ _ _) (stabC (blkP_stable _ _) (stab1 (rowP_stable _ _ _ _ _)))) rfl (.tmp 50) (.tmp 49) 3 rfl 1 (.int .i64 n1) rfl rfl sizeInt (show 1 < 3 by decide) rfl ?_; intro w3 h3; have H3 := hid h3; clear h3; have hr1 := Sts.rowCell H3.out.swap 1 (show 1 < 2 by decide) (.int .i64 n2) rfl) | (refine wpList_cell H3.out (stabC (rowP_stable _ _ _ _ _) (stabC (blkP_stable _ _) (stab1 (rowP_stable _ _ _ _ _)))) rfl (.tmp 54) (.tmp 53) 3 rfl 2 (.int .i64 n2) rfl rfl sizeInt (show 2 < 3 by decide) rfl ?_; intro w4 h4; have H4 := hid (show Sts w [blkP q (.cells #[.int .i64 fv, .int .i64 n1, .int .i64 n2] 27 (0, 0)), _, _, _] w4 from h4); clear h4) | (refine wpList_ld rfl (.tmp 4) 27 rfl rfl (.agg #[.int .i64 fv, .int .i64 n1, .int .i64 n2]) (ldFlt rfl H4.out) ?_) | (refine wpList_agg H4.out.third (stabC (blkP_stable _ _) (stabC (rowP_stable _ _ _ _ _) (stab1 (rowP_stable _ _ _ _ _)))) rfl (.tmp 2) (.tmp 56) 29 rfl (actC { Scr.act0 with kind := 4, fk := fv, fat := n1, fbit := n2 } (.slice none 0 0) (.slice none 0 0) (.slice none 0 0)) rfl rfl sizeAct rfl rfl ?_; intro w5 hw5; have HF := hid hw5; clear hw5))
            refine post_cell2 HF.out Tryd.results38 rfl rfl (ldAct rfl HF.out) _ rfl ⟨HF.out.below, ?_⟩
            rw [HRN.out]
            exact ⟨_, _, _, rfl, ((HF.out.tail.tail.tail.tail.rowNil 5).rowNil 3).rowNil 5⟩
  · obtain ⟨N, hN⟩ : ∃ N, N = l.length := ⟨_, rfl⟩
    have ho : faultV l = none := by
      match l, h1 with
      | [], _ => rfl
      | [x], _ => rfl
      | [x, y], _ => rfl
      | [x, y, z], h => simp at h
      | x :: y :: z :: t :: r, _ => rfl
    rw [ho, ← hN]
    rw [← hN] at h1
    have h2 : ((N : Int) == 3) = false := by simp; omega
    clear ho hr hN
    go_enter Tryd.func38, Tryd.ntmps38
    go_wp2_with (refine wpList_agg (hz _) stab0 rfl (.tmp 2) (.tmp 12) 29 rfl (actC Scr.act0 (.slice none 0 0) (.slice none 0 0) (.slice none 0 0)) rfl rfl sizeAct rfl rfl ?_; intro w2 hw2; have HF := hid hw2; clear hw2)
    refine post_cell2 HF.out Tryd.results38 rfl rfl (ldAct rfl HF.out) _ rfl ⟨HF.out.below, _, ?_, rfl⟩
    exact ⟨rfl, rfl⟩
end
end Go.Proofs.YtimnhheagdhpgaaDoor
