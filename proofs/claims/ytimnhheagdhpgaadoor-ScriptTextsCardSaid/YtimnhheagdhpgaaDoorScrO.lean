/- Reading a command: the walk. -/
import Derived.Test.YtimnhheagdhpgaaDoorScrZb
set_option linter.unusedVariables false
set_option linter.unusedSimpArgs false
namespace Go.Proofs.YtimnhheagdhpgaaDoor
open Go.RowKit Go.Proofs.Num
open Scr (Str bs numV numsV small svcV fltV nameV bytesV oneV fileV faultV orderV tailV flts)
def ordO (sv : Int) (b : List UInt8) : Option (List Int) → Option Scr.Act
  | none => none
  | some t => if sv ≠ 0 ∧ t.length ≤ 8 then some { Scr.act0 with kind := 2, svc := sv, args := t, cdata := b } else none
theorem orderV_tail {x : Str} {l r : List Str} {b : List UInt8} (h : tailV l = some (r, b)) : orderV (x :: l) = ordO (svcV x) b (numsV r) := by
  simp only [orderV, h]
  cases numsV r <;> rfl
theorem orderV_no {x : Str} {l : List Str} (h : tailV l = none) : orderV (x :: l) = none := by
  simp only [orderV, h]
theorem hasX (z : Str) : Lib.hasPrefix z [120] = decide (z.head? = some 120) := by
  cases z with
  | nil => rfl
  | cons c r => by_cases h : c = 120 <;> simp [Lib.hasPrefix, List.isPrefixOf, h] <;> (intro e; exact h e.symm)
set_option maxRecDepth 100000 in
theorem sizeCmd : ∀ w, (Go.sizeOf 25).run Tryd.prog w = .ok 5 w := fun w => by first | rfl | simp [go_sem] | kernel_rfl
set_option maxRecDepth 100000 in
theorem sizeInts : ∀ w, (Go.sizeOf 23).run Tryd.prog w = .ok 1 w := fun w => by first | rfl | simp [go_sem] | kernel_rfl
set_option maxRecDepth 100000 in
theorem sizeBys : ∀ w, (Go.sizeOf 22).run Tryd.prog w = .ok 1 w := fun w => by first | rfl | simp [go_sem] | kernel_rfl
set_option maxRecDepth 100000 in
theorem infoCmd : (Tryd.prog.info? 25).map (·.size) = some 5 := by kernel_rfl
theorem ldCmd {W w : World} {l : List HProp} {b : Nat} {cs : Array Value} (hs : cs.size = 5) (h : Sts W (blkP b (.cells cs 25 (0, 0)) :: l) w) : (loadVar 25 ⟨b, 0, none⟩).run Tryd.prog w = .ok (.agg cs) w := by
  have hb : w.heap[b]? = some (.cells cs 25 (0, 0)) := by obtain ⟨F, hF⟩ := h.head; exact hF.1
  exact run_loadVar_row (P := Tryd.prog) w b 25 25 cs (0, 0) _ hb Tryd.underlying25 rfl (by rw [infoCmd, hs])
section
variable {w : World}
theorem run_tail2 {a : Option Addr} {c n : Nat} {l : List Str} (hn : l.length = n + 1) (hr : Rd w (.slice a (n + 1) c) (strsV l)) :
    ∃ a', (∀ v : World, (Instr.slice 47 (.slice a (n + 1) c) (some (.int .i64 1)) none none).run Tryd.prog v = .ok (.slice a' n (c - 1)) v) ∧ Rd w (.slice a' n (c - 1)) (strsV (l.drop 1)) := by
  rw [← hn] at hr ⊢
  obtain ⟨a', h1, h2⟩ := run_tail (by omega) hr
  rw [show l.length - 1 = n by omega] at h1 h2
  exact ⟨a', h1, h2⟩
/-- All words but the last. -/
theorem run_init {b off c n : Nat} {l : List Str} (hn : l.length = n + 1) (hr : Rd w (.slice (some ⟨b, off, none⟩) (n + 1) c) (strsV l)) :
    (∀ v : World, (Instr.slice 47 (.slice (some ⟨b, off, none⟩) (n + 1) c) none (some (.int .i64 (n : Int))) none).run Tryd.prog v = .ok (.slice (some ⟨b, off, none⟩) n c) v) ∧ Rd w (.slice (some ⟨b, off, none⟩) n c) (strsV (l.take n)) := by
  obtain ⟨-, hc1, hc2⟩ := hr.cap
  have ht' : Tryd.prog.underlying 47 = some (.slice (Tryd.prog.elem 47)) := by simp [Program.elem, Tryd.underlying47]
  have he : Tryd.prog.elem 47 = 9 := by simp [Program.elem, Tryd.underlying47]
  constructor
  · intro v
    rw [run_slice_h v 47 _ _ _ ht' .i64 (n : Int) (by omega) (by omega), he, sizeStr]
    have e : sliced (some ⟨b, off, none⟩) 0 n c 1 = .slice (some ⟨b, off, none⟩) n c := by
      unfold sliced; simp [Addr.add]
    rw [← e]
    rfl
  · have := hr.take n (by rw [strsV_len]; omega) c ⟨by omega, hc2⟩
    simpa [strsV] using this
theorem numsV_len : ∀ (l : List Str) (t : List Int), numsV l = some t → t.length = l.length := by
  intro l t h
  have := congrArg List.length (Scr.numsV_some l t h).1
  simpa using this.symm
set_option maxHeartbeats 16000000 in
theorem cOrder (a : Option Addr) (c : Nat) (l : List Str) (hw : ∀ s ∈ l, s.length < 1000000) (hl : l.length < 1000000) (hr : Rd w (.slice a l.length c) (strsV l)) (hE : Env w) :
    Calls Tryd.prog 36 #[.slice a l.length c] w fun e w' => actE w w' (orderV l) e := by
  have hz := hid (show ∀ cs, Sts w [blkP w.heap.size (.cells cs 29 (0, 0))] (w.alloc (.cells cs 29)) from fun cs => (Sts.nil w).alloc stab0 _)
  rcases l with _ | ⟨x, r⟩
  · rw [show orderV [] = none from rfl]
    clear hr
    go_enter Tryd.func36, Tryd.ntmps36
    go_wp2_with (refine wpList_agg (hz.out _) stab0 rfl (.tmp 2) (.tmp 13) 29 rfl (actC Scr.act0 (.slice none 0 0) (.slice none 0 0) (.slice none 0 0)) rfl rfl sizeAct rfl rfl ?_; intro w2 hw2; have HF := hid hw2; clear hw2)
    refine post_cell2 HF.out Tryd.results36 rfl rfl (ldAct rfl HF.out) _ rfl ⟨HF.out.below, _, ?_, rfl⟩
    exact ⟨rfl, rfl⟩
  · obtain ⟨K, hK⟩ : ∃ K, K = r.length := ⟨_, rfl⟩
    have hlen : (x :: r).length = K + 1 := by rw [hK]; rfl
    rw [hlen] at hr hl ⊢
    obtain ⟨a2, hsl, hrd2⟩ := run_tail2 hlen hr
    rw [show (x :: r).drop 1 = r from rfl] at hrd2
    have hx := size_le (hw x (by simp))
    have hc0 : ∃ b off, a = some ⟨b, off, none⟩ ∧ ∀ v, Below w.heap.size w v → v.cell? ⟨b, off, none⟩ = some (.string ⟨x.toArray⟩) := by
      obtain ⟨b, off, rfl, -⟩ := str_cell (k := 0) hr (Below.refl _ _) (by simp)
      refine ⟨b, off, rfl, fun v hv => ?_⟩
      obtain ⟨b', off', e, h⟩ := str_cell (k := 0) hr hv (by simp)
      cases e
      exact h
    obtain ⟨b, off, rfl, hc0⟩ := hc0
    have HC0 := hid hc0
    have HB0 := hid (fun o => (Below.refl w.heap.size w).alloc (Nat.le_refl _) o)
    have k0 := fun o => HC0.out (w.alloc o) (HB0.out o)
    obtain ⟨sv, hsv⟩ : ∃ sv, sv = svcV x := ⟨_, rfl⟩
    have HSV := hid (show ∀ v : World, Calls Tryd.prog 52 #[.string ⟨x.toArray⟩] v fun e w' => e = .returned (.int .i64 sv) ∧ Below v.heap.size v w' from fun v => by rw [hsv]; exact cService (w := v) ⟨x.toArray⟩)
    obtain ⟨res, hres⟩ : ∃ res, res = orderV (x :: r) := ⟨_, rfl⟩
    rw [← hres]
    rcases (show r = [] ∨ ∃ r' z, r = r' ++ [z] from by rcases r.eq_nil_or_concat with h | ⟨r', z, h⟩; exact Or.inl h; exact Or.inr ⟨r', z, by rw [h, List.concat_eq_append]⟩) with rfl | ⟨r', z, rfl⟩
    · obtain rfl : K = 0 := hK
      have ht : tailV ([] : List Str) = some ([], []) := rfl
      rw [orderV_tail ht, ← hsv] at hres
      have HNS := hid (show ∀ v, Below w.heap.size w v → Calls Tryd.prog 55 #[.slice a2 0 (c - 1)] v fun e w' => numsE v w' (numsV []) e from fun v hv => cNumbers (w := v) a2 (c - 1) [] (by simp) (fun s hs => by simp at hs) (hrd2.below hv) (hE.below hv))
      obtain ⟨on, hon⟩ : ∃ on, on = numsV [] := ⟨_, rfl⟩
      have HON := hid (show ∀ t, on = some t → t.length < 1000000 from fun t h => by rw [numsV_len _ t (hon ▸ h)]; simp)
      rw [← hon] at HNS hres
      have HRES := hid hres
      clear hres hon hsv ht hrd2 hr hE hw hc0 hlen hx
      go_enter Tryd.func36, Tryd.ntmps36
      go_wp2_with (first | (go_at_call 52; refine (HSV.out _).mono ?_; rintro e w1 ⟨rfl, hb1⟩; have HQ := hid ((hz.out _).quiet (stab1 (blkP_stable _ _)) hb1); have HA := hid (fun cs => HQ.out.alloc (stab1 (blkP_stable _ _)) (.cells cs 25)); clear hb1) | (refine wpList_agg (HA.out _) (stab1 (blkP_stable _ _)) rfl (.tmp 4) (.tmp 18) 25 rfl #[.int .i64 0, .int .i64 0, .int .i64 sv, (.slice none 0 0), (.slice none 0 0)] rfl rfl sizeCmd rfl rfl ?_; intro w3 h3; have H3 := hid h3; clear h3 HA HQ))
      have HX := H3
      have HSTB := hid (show ∀ B ∈ [blkP w1.heap.size (.cells #[.int .i64 0, .int .i64 0, .int .i64 sv, (.slice none 0 0), (.slice none 0 0)] 25 (0, 0)), blkP w.heap.size (.cells (actC Scr.act0 (.slice none 0 0) (.slice none 0 0) (.slice none 0 0)) 29 (0, 0))], Stable B from (stabC (blkP_stable _ _) (stabC (blkP_stable _ _) stab0)))
      rcases (show on = none ∨ (∃ (t : List Int) (T : Nat), on = some t ∧ T < 1000000 ∧ t.length = T ∧ sv = 0) ∨ (∃ (t : List Int) (T : Nat), on = some t ∧ T < 1000000 ∧ t.length = T ∧ ¬ sv = 0 ∧ T ≤ 8) ∨ (∃ (t : List Int) (T : Nat), on = some t ∧ T < 1000000 ∧ t.length = T ∧ ¬ sv = 0 ∧ 9 ≤ T) from by
        have hon := HON.out
        clear HRES HNS
        cases on with
        | none => exact Or.inl rfl
        | some t =>
          have hlt : t.length < 1000000 := hon t rfl
          by_cases h0 : sv = 0
          · exact Or.inr (Or.inl ⟨t, _, rfl, hlt, rfl, h0⟩)
          · by_cases h8 : t.length ≤ 8
            · exact Or.inr (Or.inr (Or.inl ⟨t, _, rfl, hlt, rfl, h0, h8⟩))
            · exact Or.inr (Or.inr (Or.inr ⟨t, _, rfl, hlt, rfl, h0, by omega⟩))) with hcase | hcase | hcase | hcase
      · obtain rfl : on = none := hcase
        have HRN := hid (show res = none from HRES.out)
        clear HRES
        refine (HNS.out _ HX.out.below).mono ?_
        intro e w6 hne
        obtain ⟨va, vn, vc, rfl, hnew⟩ := hne.uni
        have HN := hid (Sts.new HSTB.out HX.out hnew)
        clear hne hnew HNS
        simp only [Option.isSome_none, Option.isSome_some]
        go_wp2_with (first | (refine wpList_cell HN.out.swap (stabC (rowP_stable _ _ _ _ _) (stabC (blkP_stable _ _) stab0)) rfl (.tmp 62) (.tmp 61) 23 rfl 3 (.slice va vn vc) rfl rfl sizeInts (show 3 < 5 by decide) rfl ?_; intro w7 h7; have H7 := hid (show Sts w (blkP w1.heap.size (.cells #[.int .i64 0, .int .i64 0, .int .i64 sv, (.slice va vn vc), (.slice none 0 0)] 25 (0, 0)) :: _) w7 from h7); clear h7; have hc2 := (Sts.boxCell H7.out 2 (.int .i64 sv) rfl).1) | (refine wpList_ld rfl (.tmp 4) 25 rfl rfl (.agg #[.int .i64 0, .int .i64 0, .int .i64 sv, (.slice va vn vc), (.slice none 0 0)]) (ldCmd rfl H7.out) ?_) | (refine wpList_agg H7.out.third (stabC (blkP_stable _ _) (stabC (rowP_stable _ _ _ _ _) stab0)) rfl (.tmp 2) (.tmp 64) 29 rfl (actC { Scr.act0 with kind := 2, svc := sv, args := [], cdata := [] } (.slice none 0 0) (.slice va vn vc) (.slice none 0 0)) rfl rfl sizeAct rfl rfl ?_; intro w8 h8; have HF := hid h8; clear h8))
        refine post_cell2 HF.out Tryd.results36 rfl rfl (ldAct rfl HF.out) _ rfl ⟨HF.out.below, ?_⟩
        rw [HRN.out]
        exact ⟨_, ⟨rfl, rfl⟩, rfl⟩
      · obtain ⟨t, T, rfl, hT, hTe, rfl⟩ := hcase
        have HRN := hid (show res = none from by rw [HRES.out, ordO, if_neg (fun h => h.1 rfl)])
        have HTE := hid hTe
        clear hTe
        clear HRES
        refine (HNS.out _ HX.out.below).mono ?_
        intro e w6 hne
        obtain ⟨va, vn, vc, rfl, hnew⟩ := hne.uni
        obtain rfl : vn = T := by rw [hnew.rd.cap.1, intsV_len]; exact HTE.out
        have HN := hid (Sts.new HSTB.out HX.out hnew)
        clear hne hnew HNS
        simp only [Option.isSome_none, Option.isSome_some]
        go_wp2_with (first | (refine wpList_cell HN.out.swap (stabC (rowP_stable _ _ _ _ _) (stabC (blkP_stable _ _) stab0)) rfl (.tmp 62) (.tmp 61) 23 rfl 3 (.slice va vn vc) rfl rfl sizeInts (show 3 < 5 by decide) rfl ?_; intro w7 h7; have H7 := hid (show Sts w (blkP w1.heap.size (.cells #[.int .i64 0, .int .i64 0, .int .i64 0, (.slice va vn vc), (.slice none 0 0)] 25 (0, 0)) :: _) w7 from h7); clear h7; have hc2 := (Sts.boxCell H7.out 2 (.int .i64 0) rfl).1) | (refine wpList_ld rfl (.tmp 4) 25 rfl rfl (.agg #[.int .i64 0, .int .i64 0, .int .i64 0, (.slice va vn vc), (.slice none 0 0)]) (ldCmd rfl H7.out) ?_) | (refine wpList_agg H7.out.third (stabC (blkP_stable _ _) (stabC (rowP_stable _ _ _ _ _) stab0)) rfl (.tmp 2) (.tmp 64) 29 rfl (actC { Scr.act0 with kind := 2, svc := 0, args := t, cdata := [] } (.slice none 0 0) (.slice va vn vc) (.slice none 0 0)) rfl rfl sizeAct rfl rfl ?_; intro w8 h8; have HF := hid h8; clear h8))
        refine post_cell2 HF.out Tryd.results36 rfl rfl (ldAct rfl HF.out) _ rfl ⟨HF.out.below, ?_⟩
        rw [HRN.out]
        exact ⟨_, ⟨rfl, rfl⟩, rfl⟩
      · obtain ⟨t, T, rfl, hT, hTe, hsv, hT8⟩ := hcase
        have HRN := hid (show res = some { Scr.act0 with kind := 2, svc := sv, args := t, cdata := [] } from by rw [HRES.out, ordO, if_pos ⟨hsv, by omega⟩])
        have hs1 : (sv == 0) = false := by simp; exact hsv
        have hs2 : (sv != 0) = true := by simp; exact hsv
        have hd : decide ((T : Int) ≤ 8) = true := by simp; omega
        have hd2 : (T : Int) ≤ 8 := by omega
        have HTE := hid hTe
        clear hTe
        clear HRES
        refine (HNS.out _ HX.out.below).mono ?_
        intro e w6 hne
        obtain ⟨va, vn, vc, rfl, hnew⟩ := hne.uni
        obtain rfl : vn = T := by rw [hnew.rd.cap.1, intsV_len]; exact HTE.out
        have HN := hid (Sts.new HSTB.out HX.out hnew)
        clear hne hnew HNS
        simp only [Option.isSome_none, Option.isSome_some]
        go_wp2_with (first | (refine wpList_cell HN.out.swap (stabC (rowP_stable _ _ _ _ _) (stabC (blkP_stable _ _) stab0)) rfl (.tmp 62) (.tmp 61) 23 rfl 3 (.slice va vn vc) rfl rfl sizeInts (show 3 < 5 by decide) rfl ?_; intro w7 h7; have H7 := hid (show Sts w (blkP w1.heap.size (.cells #[.int .i64 0, .int .i64 0, .int .i64 sv, (.slice va vn vc), (.slice none 0 0)] 25 (0, 0)) :: _) w7 from h7); clear h7; have hc2 := (Sts.boxCell H7.out 2 (.int .i64 sv) rfl).1) | (refine wpList_ld rfl (.tmp 4) 25 rfl rfl (.agg #[.int .i64 0, .int .i64 0, .int .i64 sv, (.slice va vn vc), (.slice none 0 0)]) (ldCmd rfl H7.out) ?_) | (refine wpList_agg H7.out.third (stabC (blkP_stable _ _) (stabC (rowP_stable _ _ _ _ _) stab0)) rfl (.tmp 2) (.tmp 64) 29 rfl (actC { Scr.act0 with kind := 2, svc := sv, args := t, cdata := [] } (.slice none 0 0) (.slice va vn vc) (.slice none 0 0)) rfl rfl sizeAct rfl rfl ?_; intro w8 h8; have HF := hid h8; clear h8))
        refine post_cell2 HF.out Tryd.results36 rfl rfl (ldAct rfl HF.out) _ rfl ⟨HF.out.below, ?_⟩
        rw [HRN.out]
        exact ⟨_, _, _, rfl, ((HF.out.tail.tail.rowNil 5).rowNil 5).third'⟩
      · obtain ⟨t, T, rfl, hT, hTe, hsv, hT8⟩ := hcase
        have HRN := hid (show res = none from by rw [HRES.out, ordO, if_neg (fun h => by omega)])
        have hs1 : (sv == 0) = false := by simp; exact hsv
        have hs2 : (sv != 0) = true := by simp; exact hsv
        have hd : decide ((T : Int) ≤ 8) = false := by simp; omega
        have hd2 : ¬ ((T : Int) ≤ 8) := by omega
        have HTE := hid hTe
        clear hTe
        clear HRES
        refine (HNS.out _ HX.out.below).mono ?_
        intro e w6 hne
        obtain ⟨va, vn, vc, rfl, hnew⟩ := hne.uni
        obtain rfl : vn = T := by rw [hnew.rd.cap.1, intsV_len]; exact HTE.out
        have HN := hid (Sts.new HSTB.out HX.out hnew)
        clear hne hnew HNS
        simp only [Option.isSome_none, Option.isSome_some]
        go_wp2_with (first | (refine wpList_cell HN.out.swap (stabC (rowP_stable _ _ _ _ _) (stabC (blkP_stable _ _) stab0)) rfl (.tmp 62) (.tmp 61) 23 rfl 3 (.slice va vn vc) rfl rfl sizeInts (show 3 < 5 by decide) rfl ?_; intro w7 h7; have H7 := hid (show Sts w (blkP w1.heap.size (.cells #[.int .i64 0, .int .i64 0, .int .i64 sv, (.slice va vn vc), (.slice none 0 0)] 25 (0, 0)) :: _) w7 from h7); clear h7; have hc2 := (Sts.boxCell H7.out 2 (.int .i64 sv) rfl).1) | (refine wpList_ld rfl (.tmp 4) 25 rfl rfl (.agg #[.int .i64 0, .int .i64 0, .int .i64 sv, (.slice va vn vc), (.slice none 0 0)]) (ldCmd rfl H7.out) ?_) | (refine wpList_agg H7.out.third (stabC (blkP_stable _ _) (stabC (rowP_stable _ _ _ _ _) stab0)) rfl (.tmp 2) (.tmp 64) 29 rfl (actC { Scr.act0 with kind := 2, svc := sv, args := t, cdata := [] } (.slice none 0 0) (.slice va vn vc) (.slice none 0 0)) rfl rfl sizeAct rfl rfl ?_; intro w8 h8; have HF := hid h8; clear h8))
        refine post_cell2 HF.out Tryd.results36 rfl rfl (ldAct rfl HF.out) _ rfl ⟨HF.out.below, ?_⟩
        rw [HRN.out]
        exact ⟨_, ⟨rfl, rfl⟩, rfl⟩
    · obtain ⟨M, hM⟩ : ∃ M, M = r'.length := ⟨_, rfl⟩
      obtain rfl : K = M + 1 := by rw [hK, hM]; simp
      have hlen2 : (r' ++ [z]).length = M + 1 := by rw [hM]; simp
      obtain ⟨b2, off2, rfl, -⟩ := str_cell (k := M) hrd2 (Below.refl _ _) (by rw [hlen2]; omega)
      have hcz : ∀ v, Below w.heap.size w v → v.cell? ⟨b2, off2 + M, none⟩ = some (.string ⟨z.toArray⟩) := fun v hv => by
        obtain ⟨b', off', e, h⟩ := str_cell (k := M) hrd2 hv (by rw [hlen2]; omega)
        cases e
        rw [h]
        simp [hM]
      have HCZ := hid hcz
      obtain ⟨hini, hrd3⟩ := run_init hlen2 hrd2
      rw [show (r' ++ [z]).take M = r' by rw [hM]; simp] at hrd3
      have hzz := size_le (hw z (by simp))
      have hpre := fun v : World => Tryd.strings_HasPrefix ⟨z.toArray⟩ ⟨#[120]⟩ v
      rw [show (⟨z.toArray⟩ : ByteArray).data.toList = z from rfl, show (⟨#[120]⟩ : ByteArray).data.toList = [120] from rfl, hasX] at hpre
      have hM0 : decide ((0 : Int) < (M : Int) + 1) = true := decide_eq_true (by omega)
      have hM1 : (0 : Int) < (M : Int) + 1 := by omega
      by_cases hp : z.head? = some 120
      · rw [decide_eq_true hp] at hpre
        have HPRE := hid hpre
        obtain ⟨ob, hob⟩ : ∃ ob, ob = bytesV z 512 := ⟨_, rfl⟩
        have HBY := hid (fun v : World => cBytes (w := v) ⟨z.toArray⟩ (by omega) 512 (by decide))
        rw [show bs ⟨z.toArray⟩ = z from rfl, ← hob] at HBY
        have hgl : (r' ++ [z]).getLast? = some z := by simp
        rcases (show ob = none ∨ ob = some [] ∨ ∃ b0 bl, ob = some (b0 :: bl) from by
          match ob with
          | none => exact Or.inl rfl
          | some [] => exact Or.inr (Or.inl rfl)
          | some (b0 :: bl) => exact Or.inr (Or.inr ⟨b0, bl, rfl⟩)) with rfl | rfl | ⟨b0, bl, rfl⟩
        · have ht : tailV (r' ++ [z]) = none := by unfold tailV; rw [hgl]; simp only [hp, if_true, ← hob]
          rw [orderV_no ht] at hres
          have HRES := hid hres
          clear hres ht hgl hob hpre hp hini hrd3 hcz hsv hrd2 hr hE hw hK hc0 hlen hlen2 hx hzz hM
          go_enter Tryd.func36, Tryd.ntmps36
          go_wp2_with (first | (go_at_call 52; refine (HSV.out _).mono ?_; rintro e w1 ⟨rfl, hb1⟩; have HQ := hid ((hz.out _).quiet (stab1 (blkP_stable _ _)) hb1); have HA := hid (fun cs => HQ.out.alloc (stab1 (blkP_stable _ _)) (.cells cs 25)); clear hb1) | (refine wpList_agg (HA.out _) (stab1 (blkP_stable _ _)) rfl (.tmp 4) (.tmp 18) 25 rfl #[.int .i64 0, .int .i64 0, .int .i64 sv, (.slice none 0 0), (.slice none 0 0)] rfl rfl sizeCmd rfl rfl ?_; intro w3 h3; have H3 := hid h3; clear h3 HA HQ; have hz3 := HCZ.out w3 H3.out.below) | (go_at_call 53; refine (HPRE.out _).mono ?_; rintro e w4 ⟨rfl, hw4⟩; rw [hw4]) | (go_at_call 54; refine (HBY.out _).mono ?_; intro e w5 hbe; obtain ⟨da, dn, dc, rfl, hnew⟩ := hbe.uni; have H5 := hid (Sts.new (stabC (blkP_stable _ _) (stabC (blkP_stable _ _) stab0)) H3.out hnew); clear hbe hnew) | (refine wpList_agg H5.out.third (stabC (rowP_stable _ _ _ _ _) (stabC (blkP_stable _ _) stab0)) rfl (.tmp 2) (.tmp 49) 29 rfl (actC Scr.act0 (.slice none 0 0) (.slice none 0 0) (.slice none 0 0)) rfl rfl sizeAct rfl rfl ?_; intro w6 h6; have HF := hid h6; clear h6))
          refine post_cell2 HF.out Tryd.results36 rfl rfl (ldAct rfl HF.out) _ rfl ⟨HF.out.below, ?_⟩
          rw [HRES.out]
          exact ⟨_, ⟨rfl, rfl⟩, rfl⟩
        · have ht : tailV (r' ++ [z]) = none := by unfold tailV; rw [hgl]; simp only [hp, if_true, ← hob]
          rw [orderV_no ht] at hres
          have HRES := hid hres
          clear hres ht hgl hob hpre hp hini hrd3 hcz hsv hrd2 hr hE hw hK hc0 hlen hlen2 hx hzz hM
          go_enter Tryd.func36, Tryd.ntmps36
          go_wp2_with (first | (go_at_call 52; refine (HSV.out _).mono ?_; rintro e w1 ⟨rfl, hb1⟩; have HQ := hid ((hz.out _).quiet (stab1 (blkP_stable _ _)) hb1); have HA := hid (fun cs => HQ.out.alloc (stab1 (blkP_stable _ _)) (.cells cs 25)); clear hb1) | (refine wpList_agg (HA.out _) (stab1 (blkP_stable _ _)) rfl (.tmp 4) (.tmp 18) 25 rfl #[.int .i64 0, .int .i64 0, .int .i64 sv, (.slice none 0 0), (.slice none 0 0)] rfl rfl sizeCmd rfl rfl ?_; intro w3 h3; have H3 := hid h3; clear h3 HA HQ; have hz3 := HCZ.out w3 H3.out.below) | (go_at_call 53; refine (HPRE.out _).mono ?_; rintro e w4 ⟨rfl, hw4⟩; rw [hw4]) | (go_at_call 54; refine (HBY.out _).mono ?_; intro e w5 hbe; obtain ⟨da, dn, dc, rfl, hnew⟩ := hbe.uni; obtain rfl : dn = 0 := hnew.rd.cap.1; have H5 := hid (Sts.new (stabC (blkP_stable _ _) (stabC (blkP_stable _ _) stab0)) H3.out hnew); clear hbe hnew) | (refine wpList_agg H5.out.third (stabC (rowP_stable _ _ _ _ _) (stabC (blkP_stable _ _) stab0)) rfl (.tmp 2) (.tmp 49) 29 rfl (actC Scr.act0 (.slice none 0 0) (.slice none 0 0) (.slice none 0 0)) rfl rfl sizeAct rfl rfl ?_; intro w6 h6; have HF := hid h6; clear h6))
          refine post_cell2 HF.out Tryd.results36 rfl rfl (ldAct rfl HF.out) _ rfl ⟨HF.out.below, ?_⟩
          rw [HRES.out]
          exact ⟨_, ⟨rfl, rfl⟩, rfl⟩
        · obtain ⟨bb, hbb⟩ : ∃ bb, bb = b0 :: bl := ⟨_, rfl⟩
          have hbne : bb ≠ [] := by rw [hbb]; simp
          rw [← hbb] at hob HBY
          clear hbb
          have ht : tailV (r' ++ [z]) = some (r', bb) := by unfold tailV; rw [hgl]; simp only [hp, if_true, ← hob, hbne, if_false]; simp
          rw [orderV_tail ht, ← hsv] at hres
          have HNS := hid (show ∀ v, Below w.heap.size w v → Calls Tryd.prog 55 #[.slice (some ⟨b2, off2, none⟩) M (c - 1)] v fun e w' => numsE v w' (numsV r') e from fun v hv => by
            have := cNumbers (w := v) (some ⟨b2, off2, none⟩) (c - 1) r' (by omega) (fun s hs => by have := hw s (List.mem_cons_of_mem _ (List.mem_append_left _ hs)); omega) (by rw [← hM]; exact hrd3.below hv) (hE.below hv)
            rwa [← hM] at this)
          obtain ⟨on, hon⟩ : ∃ on, on = numsV r' := ⟨_, rfl⟩
          have HON := hid (show ∀ t, on = some t → t.length < 1000000 from fun t h => by rw [numsV_len _ t (hon ▸ h)]; omega)
          rw [← hon] at HNS hres
          have HRES := hid hres
          obtain ⟨BL, hBL⟩ : ∃ BL, BL = bb.length := ⟨_, rfl⟩
          have hB0 : 0 < BL := by rw [hBL]; exact List.length_pos_iff.2 hbne
          have hB1 : ((BL : Int) == 0) = false := by simp; omega
          have hB2 : ¬ ((BL : Int) = 0) := by omega
          have hB3 : ¬ (BL = 0) := by omega
          have HBL := hid hBL
          clear hbne hBL
          clear hres ht hgl hob hon hpre hp hrd3 hcz hsv hrd2 hr hE hw hK hc0 hlen hlen2 hx hzz hM
          go_enter Tryd.func36, Tryd.ntmps36
          go_wp2_with (first | (go_at_call 52; refine (HSV.out _).mono ?_; rintro e w1 ⟨rfl, hb1⟩; have HQ := hid ((hz.out _).quiet (stab1 (blkP_stable _ _)) hb1); have HA := hid (fun cs => HQ.out.alloc (stab1 (blkP_stable _ _)) (.cells cs 25)); clear hb1) | (refine wpList_agg (HA.out _) (stab1 (blkP_stable _ _)) rfl (.tmp 4) (.tmp 18) 25 rfl #[.int .i64 0, .int .i64 0, .int .i64 sv, (.slice none 0 0), (.slice none 0 0)] rfl rfl sizeCmd rfl rfl ?_; intro w3 h3; have H3 := hid h3; clear h3 HA HQ; have hz3 := HCZ.out w3 H3.out.below) | (go_at_call 53; refine (HPRE.out _).mono ?_; rintro e w4 ⟨rfl, hw4⟩; rw [hw4]) | (go_at_call 54; refine (HBY.out _).mono ?_; intro e w5 hbe; obtain ⟨da, dn, dc, rfl, hnew⟩ := hbe.uni; obtain rfl : BL = dn := (by rw [hnew.rd.cap.1, u8v_len]; exact HBL.out); have H5 := hid (Sts.new (stabC (blkP_stable _ _) (stabC (blkP_stable _ _) stab0)) H3.out hnew); clear hbe hnew) | (refine wpList_cell H5.out.swap (stabC (rowP_stable _ _ _ _ _) (stabC (blkP_stable _ _) stab0)) rfl (.tmp 51) (.tmp 50) 22 rfl 4 (.slice da BL dc) rfl rfl sizeBys (show 4 < 5 by decide) rfl ?_; intro w9 h9; replace h9 : Sts w (blkP w1.heap.size (.cells #[.int .i64 0, .int .i64 0, .int .i64 sv, (.slice none 0 0), .slice da BL dc] 25 (0, 0)) :: _) w9 := h9; replace H5 := hid h9.swap; clear h9))
          have HX := hid H5.out.third'
          have HSTB := hid (show ∀ B ∈ [blkP w1.heap.size (.cells #[.int .i64 0, .int .i64 0, .int .i64 sv, (.slice none 0 0), .slice da BL dc] 25 (0, 0)), blkP w.heap.size (.cells (actC Scr.act0 (.slice none 0 0) (.slice none 0 0) (.slice none 0 0)) 29 (0, 0)), rowP 5 1 (.slice da BL dc) (u8v bb).length (u8v bb)], Stable B from (stabC (blkP_stable _ _) (stabC (blkP_stable _ _) (stabC (rowP_stable _ _ _ _ _) stab0))))
          rcases (show on = none ∨ (∃ (t : List Int) (T : Nat), on = some t ∧ T < 1000000 ∧ t.length = T ∧ sv = 0) ∨ (∃ (t : List Int) (T : Nat), on = some t ∧ T < 1000000 ∧ t.length = T ∧ ¬ sv = 0 ∧ T ≤ 8) ∨ (∃ (t : List Int) (T : Nat), on = some t ∧ T < 1000000 ∧ t.length = T ∧ ¬ sv = 0 ∧ 9 ≤ T) from by
            have hon := HON.out
            clear HRES HNS
            cases on with
            | none => exact Or.inl rfl
            | some t =>
              have hlt : t.length < 1000000 := hon t rfl
              by_cases h0 : sv = 0
              · exact Or.inr (Or.inl ⟨t, _, rfl, hlt, rfl, h0⟩)
              · by_cases h8 : t.length ≤ 8
                · exact Or.inr (Or.inr (Or.inl ⟨t, _, rfl, hlt, rfl, h0, h8⟩))
                · exact Or.inr (Or.inr (Or.inr ⟨t, _, rfl, hlt, rfl, h0, by omega⟩))) with hcase | hcase | hcase | hcase
          · obtain rfl : on = none := hcase
            have HRN := hid (show res = none from HRES.out)
            clear HRES
            refine (HNS.out _ HX.out.below).mono ?_
            intro e w6 hne
            obtain ⟨va, vn, vc, rfl, hnew⟩ := hne.uni
            have HN := hid (Sts.new HSTB.out HX.out hnew)
            clear hne hnew HNS
            simp only [Option.isSome_none, Option.isSome_some]
            go_wp2_with (first | (refine wpList_cell HN.out.swap (stabC (rowP_stable _ _ _ _ _) (stabC (blkP_stable _ _) (stabC (rowP_stable _ _ _ _ _) stab0))) rfl (.tmp 62) (.tmp 61) 23 rfl 3 (.slice va vn vc) rfl rfl sizeInts (show 3 < 5 by decide) rfl ?_; intro w7 h7; have H7 := hid (show Sts w (blkP w1.heap.size (.cells #[.int .i64 0, .int .i64 0, .int .i64 sv, (.slice va vn vc), (.slice da BL dc)] 25 (0, 0)) :: _) w7 from h7); clear h7; have hc2 := (Sts.boxCell H7.out 2 (.int .i64 sv) rfl).1) | (refine wpList_ld rfl (.tmp 4) 25 rfl rfl (.agg #[.int .i64 0, .int .i64 0, .int .i64 sv, (.slice va vn vc), (.slice da BL dc)]) (ldCmd rfl H7.out) ?_) | (refine wpList_agg H7.out.third (stabC (blkP_stable _ _) (stabC (rowP_stable _ _ _ _ _) (stabC (rowP_stable _ _ _ _ _) stab0))) rfl (.tmp 2) (.tmp 64) 29 rfl (actC { Scr.act0 with kind := 2, svc := sv, args := [], cdata := bb } (.slice none 0 0) (.slice va vn vc) (.slice da BL dc)) rfl rfl sizeAct rfl rfl ?_; intro w8 h8; have HF := hid h8; clear h8))
            refine post_cell2 HF.out Tryd.results36 rfl rfl (ldAct rfl HF.out) _ rfl ⟨HF.out.below, ?_⟩
            rw [HRN.out]
            exact ⟨_, ⟨rfl, rfl⟩, rfl⟩
          · obtain ⟨t, T, rfl, hT, hTe, rfl⟩ := hcase
            have HRN := hid (show res = none from by rw [HRES.out, ordO, if_neg (fun h => h.1 rfl)])
            have HTE := hid hTe
            clear hTe
            clear HRES
            refine (HNS.out _ HX.out.below).mono ?_
            intro e w6 hne
            obtain ⟨va, vn, vc, rfl, hnew⟩ := hne.uni
            obtain rfl : vn = T := by rw [hnew.rd.cap.1, intsV_len]; exact HTE.out
            have HN := hid (Sts.new HSTB.out HX.out hnew)
            clear hne hnew HNS
            simp only [Option.isSome_none, Option.isSome_some]
            go_wp2_with (first | (refine wpList_cell HN.out.swap (stabC (rowP_stable _ _ _ _ _) (stabC (blkP_stable _ _) (stabC (rowP_stable _ _ _ _ _) stab0))) rfl (.tmp 62) (.tmp 61) 23 rfl 3 (.slice va vn vc) rfl rfl sizeInts (show 3 < 5 by decide) rfl ?_; intro w7 h7; have H7 := hid (show Sts w (blkP w1.heap.size (.cells #[.int .i64 0, .int .i64 0, .int .i64 0, (.slice va vn vc), (.slice da BL dc)] 25 (0, 0)) :: _) w7 from h7); clear h7; have hc2 := (Sts.boxCell H7.out 2 (.int .i64 0) rfl).1) | (refine wpList_ld rfl (.tmp 4) 25 rfl rfl (.agg #[.int .i64 0, .int .i64 0, .int .i64 0, (.slice va vn vc), (.slice da BL dc)]) (ldCmd rfl H7.out) ?_) | (refine wpList_agg H7.out.third (stabC (blkP_stable _ _) (stabC (rowP_stable _ _ _ _ _) (stabC (rowP_stable _ _ _ _ _) stab0))) rfl (.tmp 2) (.tmp 64) 29 rfl (actC { Scr.act0 with kind := 2, svc := 0, args := t, cdata := bb } (.slice none 0 0) (.slice va vn vc) (.slice da BL dc)) rfl rfl sizeAct rfl rfl ?_; intro w8 h8; have HF := hid h8; clear h8))
            refine post_cell2 HF.out Tryd.results36 rfl rfl (ldAct rfl HF.out) _ rfl ⟨HF.out.below, ?_⟩
            rw [HRN.out]
            exact ⟨_, ⟨rfl, rfl⟩, rfl⟩
          · obtain ⟨t, T, rfl, hT, hTe, hsv, hT8⟩ := hcase
            have HRN := hid (show res = some { Scr.act0 with kind := 2, svc := sv, args := t, cdata := bb } from by rw [HRES.out, ordO, if_pos ⟨hsv, by omega⟩])
            have hs1 : (sv == 0) = false := by simp; exact hsv
            have hs2 : (sv != 0) = true := by simp; exact hsv
            have hd : decide ((T : Int) ≤ 8) = true := by simp; omega
            have hd2 : (T : Int) ≤ 8 := by omega
            have HTE := hid hTe
            clear hTe
            clear HRES
            refine (HNS.out _ HX.out.below).mono ?_
            intro e w6 hne
            obtain ⟨va, vn, vc, rfl, hnew⟩ := hne.uni
            obtain rfl : vn = T := by rw [hnew.rd.cap.1, intsV_len]; exact HTE.out
            have HN := hid (Sts.new HSTB.out HX.out hnew)
            clear hne hnew HNS
            simp only [Option.isSome_none, Option.isSome_some]
            go_wp2_with (first | (refine wpList_cell HN.out.swap (stabC (rowP_stable _ _ _ _ _) (stabC (blkP_stable _ _) (stabC (rowP_stable _ _ _ _ _) stab0))) rfl (.tmp 62) (.tmp 61) 23 rfl 3 (.slice va vn vc) rfl rfl sizeInts (show 3 < 5 by decide) rfl ?_; intro w7 h7; have H7 := hid (show Sts w (blkP w1.heap.size (.cells #[.int .i64 0, .int .i64 0, .int .i64 sv, (.slice va vn vc), (.slice da BL dc)] 25 (0, 0)) :: _) w7 from h7); clear h7; have hc2 := (Sts.boxCell H7.out 2 (.int .i64 sv) rfl).1) | (refine wpList_ld rfl (.tmp 4) 25 rfl rfl (.agg #[.int .i64 0, .int .i64 0, .int .i64 sv, (.slice va vn vc), (.slice da BL dc)]) (ldCmd rfl H7.out) ?_) | (refine wpList_agg H7.out.third (stabC (blkP_stable _ _) (stabC (rowP_stable _ _ _ _ _) (stabC (rowP_stable _ _ _ _ _) stab0))) rfl (.tmp 2) (.tmp 64) 29 rfl (actC { Scr.act0 with kind := 2, svc := sv, args := t, cdata := bb } (.slice none 0 0) (.slice va vn vc) (.slice da BL dc)) rfl rfl sizeAct rfl rfl ?_; intro w8 h8; have HF := hid h8; clear h8))
            refine post_cell2 HF.out Tryd.results36 rfl rfl (ldAct rfl HF.out) _ rfl ⟨HF.out.below, ?_⟩
            rw [HRN.out]
            exact ⟨_, _, _, rfl, HF.out.tail.tail.rowNil 5⟩
          · obtain ⟨t, T, rfl, hT, hTe, hsv, hT8⟩ := hcase
            have HRN := hid (show res = none from by rw [HRES.out, ordO, if_neg (fun h => by omega)])
            have hs1 : (sv == 0) = false := by simp; exact hsv
            have hs2 : (sv != 0) = true := by simp; exact hsv
            have hd : decide ((T : Int) ≤ 8) = false := by simp; omega
            have hd2 : ¬ ((T : Int) ≤ 8) := by omega
            have HTE := hid hTe
            clear hTe
            clear HRES
            refine (HNS.out _ HX.out.below).mono ?_
            intro e w6 hne
            obtain ⟨va, vn, vc, rfl, hnew⟩ := hne.uni
            obtain rfl : vn = T := by rw [hnew.rd.cap.1, intsV_len]; exact HTE.out
            have HN := hid (Sts.new HSTB.out HX.out hnew)
            clear hne hnew HNS
            simp only [Option.isSome_none, Option.isSome_some]
            go_wp2_with (first | (refine wpList_cell HN.out.swap (stabC (rowP_stable _ _ _ _ _) (stabC (blkP_stable _ _) (stabC (rowP_stable _ _ _ _ _) stab0))) rfl (.tmp 62) (.tmp 61) 23 rfl 3 (.slice va vn vc) rfl rfl sizeInts (show 3 < 5 by decide) rfl ?_; intro w7 h7; have H7 := hid (show Sts w (blkP w1.heap.size (.cells #[.int .i64 0, .int .i64 0, .int .i64 sv, (.slice va vn vc), (.slice da BL dc)] 25 (0, 0)) :: _) w7 from h7); clear h7; have hc2 := (Sts.boxCell H7.out 2 (.int .i64 sv) rfl).1) | (refine wpList_ld rfl (.tmp 4) 25 rfl rfl (.agg #[.int .i64 0, .int .i64 0, .int .i64 sv, (.slice va vn vc), (.slice da BL dc)]) (ldCmd rfl H7.out) ?_) | (refine wpList_agg H7.out.third (stabC (blkP_stable _ _) (stabC (rowP_stable _ _ _ _ _) (stabC (rowP_stable _ _ _ _ _) stab0))) rfl (.tmp 2) (.tmp 64) 29 rfl (actC { Scr.act0 with kind := 2, svc := sv, args := t, cdata := bb } (.slice none 0 0) (.slice va vn vc) (.slice da BL dc)) rfl rfl sizeAct rfl rfl ?_; intro w8 h8; have HF := hid h8; clear h8))
            refine post_cell2 HF.out Tryd.results36 rfl rfl (ldAct rfl HF.out) _ rfl ⟨HF.out.below, ?_⟩
            rw [HRN.out]
            exact ⟨_, ⟨rfl, rfl⟩, rfl⟩
      · rw [decide_eq_false hp] at hpre
        have HPRE := hid hpre
        have ht : tailV (r' ++ [z]) = some (r' ++ [z], []) := by unfold tailV; simp [hp]
        rw [orderV_tail ht, ← hsv] at hres
        have HNS := hid (show ∀ v, Below w.heap.size w v → Calls Tryd.prog 55 #[.slice (some ⟨b2, off2, none⟩) (M + 1) (c - 1)] v fun e w' => numsE v w' (numsV (r' ++ [z])) e from fun v hv => by
          have := cNumbers (w := v) (some ⟨b2, off2, none⟩) (c - 1) (r' ++ [z]) (by omega) (fun s hs => by have := hw s (List.mem_cons_of_mem _ hs); omega) (by rw [hlen2]; exact hrd2.below hv) (hE.below hv)
          rwa [hlen2] at this)
        obtain ⟨on, hon⟩ : ∃ on, on = numsV (r' ++ [z]) := ⟨_, rfl⟩
        have HON := hid (show ∀ t, on = some t → t.length < 1000000 from fun t h => by rw [numsV_len _ t (hon ▸ h)]; omega)
        rw [← hon] at HNS hres
        have HRES := hid hres
        clear hres hon ht hpre hp hini hrd3 hcz hsv hrd2 hr hE hw hK hc0 hlen hlen2 hx hzz hM
        go_enter Tryd.func36, Tryd.ntmps36
        go_wp2_with (first | (go_at_call 52; refine (HSV.out _).mono ?_; rintro e w1 ⟨rfl, hb1⟩; have HQ := hid ((hz.out _).quiet (stab1 (blkP_stable _ _)) hb1); have HA := hid (fun cs => HQ.out.alloc (stab1 (blkP_stable _ _)) (.cells cs 25)); clear hb1) | (refine wpList_agg (HA.out _) (stab1 (blkP_stable _ _)) rfl (.tmp 4) (.tmp 18) 25 rfl #[.int .i64 0, .int .i64 0, .int .i64 sv, (.slice none 0 0), (.slice none 0 0)] rfl rfl sizeCmd rfl rfl ?_; intro w3 h3; have H3 := hid h3; clear h3 HA HQ; have hz3 := HCZ.out w3 H3.out.below) | (go_at_call 53; refine (HPRE.out _).mono ?_; rintro e w4 ⟨rfl, hw4⟩; rw [hw4]))
        have HX := H3
        have HSTB := hid (show ∀ B ∈ [blkP w1.heap.size (.cells #[.int .i64 0, .int .i64 0, .int .i64 sv, (.slice none 0 0), (.slice none 0 0)] 25 (0, 0)), blkP w.heap.size (.cells (actC Scr.act0 (.slice none 0 0) (.slice none 0 0) (.slice none 0 0)) 29 (0, 0))], Stable B from (stabC (blkP_stable _ _) (stabC (blkP_stable _ _) stab0)))
        rcases (show on = none ∨ (∃ (t : List Int) (T : Nat), on = some t ∧ T < 1000000 ∧ t.length = T ∧ sv = 0) ∨ (∃ (t : List Int) (T : Nat), on = some t ∧ T < 1000000 ∧ t.length = T ∧ ¬ sv = 0 ∧ T ≤ 8) ∨ (∃ (t : List Int) (T : Nat), on = some t ∧ T < 1000000 ∧ t.length = T ∧ ¬ sv = 0 ∧ 9 ≤ T) from by
          have hon := HON.out
          clear HRES HNS
          cases on with
          | none => exact Or.inl rfl
          | some t =>
            have hlt : t.length < 1000000 := hon t rfl
            by_cases h0 : sv = 0
            · exact Or.inr (Or.inl ⟨t, _, rfl, hlt, rfl, h0⟩)
            · by_cases h8 : t.length ≤ 8
              · exact Or.inr (Or.inr (Or.inl ⟨t, _, rfl, hlt, rfl, h0, h8⟩))
              · exact Or.inr (Or.inr (Or.inr ⟨t, _, rfl, hlt, rfl, h0, by omega⟩))) with hcase | hcase | hcase | hcase
        · obtain rfl : on = none := hcase
          have HRN := hid (show res = none from HRES.out)
          clear HRES
          refine (HNS.out _ HX.out.below).mono ?_
          intro e w6 hne
          obtain ⟨va, vn, vc, rfl, hnew⟩ := hne.uni
          have HN := hid (Sts.new HSTB.out HX.out hnew)
          clear hne hnew HNS
          simp only [Option.isSome_none, Option.isSome_some]
          go_wp2_with (first | (refine wpList_cell HN.out.swap (stabC (rowP_stable _ _ _ _ _) (stabC (blkP_stable _ _) stab0)) rfl (.tmp 62) (.tmp 61) 23 rfl 3 (.slice va vn vc) rfl rfl sizeInts (show 3 < 5 by decide) rfl ?_; intro w7 h7; have H7 := hid (show Sts w (blkP w1.heap.size (.cells #[.int .i64 0, .int .i64 0, .int .i64 sv, (.slice va vn vc), (.slice none 0 0)] 25 (0, 0)) :: _) w7 from h7); clear h7; have hc2 := (Sts.boxCell H7.out 2 (.int .i64 sv) rfl).1) | (refine wpList_ld rfl (.tmp 4) 25 rfl rfl (.agg #[.int .i64 0, .int .i64 0, .int .i64 sv, (.slice va vn vc), (.slice none 0 0)]) (ldCmd rfl H7.out) ?_) | (refine wpList_agg H7.out.third (stabC (blkP_stable _ _) (stabC (rowP_stable _ _ _ _ _) stab0)) rfl (.tmp 2) (.tmp 64) 29 rfl (actC { Scr.act0 with kind := 2, svc := sv, args := [], cdata := [] } (.slice none 0 0) (.slice va vn vc) (.slice none 0 0)) rfl rfl sizeAct rfl rfl ?_; intro w8 h8; have HF := hid h8; clear h8))
          refine post_cell2 HF.out Tryd.results36 rfl rfl (ldAct rfl HF.out) _ rfl ⟨HF.out.below, ?_⟩
          rw [HRN.out]
          exact ⟨_, ⟨rfl, rfl⟩, rfl⟩
        · obtain ⟨t, T, rfl, hT, hTe, rfl⟩ := hcase
          have HRN := hid (show res = none from by rw [HRES.out, ordO, if_neg (fun h => h.1 rfl)])
          have HTE := hid hTe
          clear hTe
          clear HRES
          refine (HNS.out _ HX.out.below).mono ?_
          intro e w6 hne
          obtain ⟨va, vn, vc, rfl, hnew⟩ := hne.uni
          obtain rfl : vn = T := by rw [hnew.rd.cap.1, intsV_len]; exact HTE.out
          have HN := hid (Sts.new HSTB.out HX.out hnew)
          clear hne hnew HNS
          simp only [Option.isSome_none, Option.isSome_some]
          go_wp2_with (first | (refine wpList_cell HN.out.swap (stabC (rowP_stable _ _ _ _ _) (stabC (blkP_stable _ _) stab0)) rfl (.tmp 62) (.tmp 61) 23 rfl 3 (.slice va vn vc) rfl rfl sizeInts (show 3 < 5 by decide) rfl ?_; intro w7 h7; have H7 := hid (show Sts w (blkP w1.heap.size (.cells #[.int .i64 0, .int .i64 0, .int .i64 0, (.slice va vn vc), (.slice none 0 0)] 25 (0, 0)) :: _) w7 from h7); clear h7; have hc2 := (Sts.boxCell H7.out 2 (.int .i64 0) rfl).1) | (refine wpList_ld rfl (.tmp 4) 25 rfl rfl (.agg #[.int .i64 0, .int .i64 0, .int .i64 0, (.slice va vn vc), (.slice none 0 0)]) (ldCmd rfl H7.out) ?_) | (refine wpList_agg H7.out.third (stabC (blkP_stable _ _) (stabC (rowP_stable _ _ _ _ _) stab0)) rfl (.tmp 2) (.tmp 64) 29 rfl (actC { Scr.act0 with kind := 2, svc := 0, args := t, cdata := [] } (.slice none 0 0) (.slice va vn vc) (.slice none 0 0)) rfl rfl sizeAct rfl rfl ?_; intro w8 h8; have HF := hid h8; clear h8))
          refine post_cell2 HF.out Tryd.results36 rfl rfl (ldAct rfl HF.out) _ rfl ⟨HF.out.below, ?_⟩
          rw [HRN.out]
          exact ⟨_, ⟨rfl, rfl⟩, rfl⟩
        · obtain ⟨t, T, rfl, hT, hTe, hsv, hT8⟩ := hcase
          have HRN := hid (show res = some { Scr.act0 with kind := 2, svc := sv, args := t, cdata := [] } from by rw [HRES.out, ordO, if_pos ⟨hsv, by omega⟩])
          have hs1 : (sv == 0) = false := by simp; exact hsv
          have hs2 : (sv != 0) = true := by simp; exact hsv
          have hd : decide ((T : Int) ≤ 8) = true := by simp; omega
          have hd2 : (T : Int) ≤ 8 := by omega
          have HTE := hid hTe
          clear hTe
          clear HRES
          refine (HNS.out _ HX.out.below).mono ?_
          intro e w6 hne
          obtain ⟨va, vn, vc, rfl, hnew⟩ := hne.uni
          obtain rfl : vn = T := by rw [hnew.rd.cap.1, intsV_len]; exact HTE.out
          have HN := hid (Sts.new HSTB.out HX.out hnew)
          clear hne hnew HNS
          simp only [Option.isSome_none, Option.isSome_some]
          go_wp2_with (first | (refine wpList_cell HN.out.swap (stabC (rowP_stable _ _ _ _ _) (stabC (blkP_stable _ _) stab0)) rfl (.tmp 62) (.tmp 61) 23 rfl 3 (.slice va vn vc) rfl rfl sizeInts (show 3 < 5 by decide) rfl ?_; intro w7 h7; have H7 := hid (show Sts w (blkP w1.heap.size (.cells #[.int .i64 0, .int .i64 0, .int .i64 sv, (.slice va vn vc), (.slice none 0 0)] 25 (0, 0)) :: _) w7 from h7); clear h7; have hc2 := (Sts.boxCell H7.out 2 (.int .i64 sv) rfl).1) | (refine wpList_ld rfl (.tmp 4) 25 rfl rfl (.agg #[.int .i64 0, .int .i64 0, .int .i64 sv, (.slice va vn vc), (.slice none 0 0)]) (ldCmd rfl H7.out) ?_) | (refine wpList_agg H7.out.third (stabC (blkP_stable _ _) (stabC (rowP_stable _ _ _ _ _) stab0)) rfl (.tmp 2) (.tmp 64) 29 rfl (actC { Scr.act0 with kind := 2, svc := sv, args := t, cdata := [] } (.slice none 0 0) (.slice va vn vc) (.slice none 0 0)) rfl rfl sizeAct rfl rfl ?_; intro w8 h8; have HF := hid h8; clear h8))
          refine post_cell2 HF.out Tryd.results36 rfl rfl (ldAct rfl HF.out) _ rfl ⟨HF.out.below, ?_⟩
          rw [HRN.out]
          exact ⟨_, _, _, rfl, ((HF.out.tail.tail.rowNil 5).rowNil 5).third'⟩
        · obtain ⟨t, T, rfl, hT, hTe, hsv, hT8⟩ := hcase
          have HRN := hid (show res = none from by rw [HRES.out, ordO, if_neg (fun h => by omega)])
          have hs1 : (sv == 0) = false := by simp; exact hsv
          have hs2 : (sv != 0) = true := by simp; exact hsv
          have hd : decide ((T : Int) ≤ 8) = false := by simp; omega
          have hd2 : ¬ ((T : Int) ≤ 8) := by omega
          have HTE := hid hTe
          clear hTe
          clear HRES
          refine (HNS.out _ HX.out.below).mono ?_
          intro e w6 hne
          obtain ⟨va, vn, vc, rfl, hnew⟩ := hne.uni
          obtain rfl : vn = T := by rw [hnew.rd.cap.1, intsV_len]; exact HTE.out
          have HN := hid (Sts.new HSTB.out HX.out hnew)
          clear hne hnew HNS
          simp only [Option.isSome_none, Option.isSome_some]
          go_wp2_with (first | (refine wpList_cell HN.out.swap (stabC (rowP_stable _ _ _ _ _) (stabC (blkP_stable _ _) stab0)) rfl (.tmp 62) (.tmp 61) 23 rfl 3 (.slice va vn vc) rfl rfl sizeInts (show 3 < 5 by decide) rfl ?_; intro w7 h7; have H7 := hid (show Sts w (blkP w1.heap.size (.cells #[.int .i64 0, .int .i64 0, .int .i64 sv, (.slice va vn vc), (.slice none 0 0)] 25 (0, 0)) :: _) w7 from h7); clear h7; have hc2 := (Sts.boxCell H7.out 2 (.int .i64 sv) rfl).1) | (refine wpList_ld rfl (.tmp 4) 25 rfl rfl (.agg #[.int .i64 0, .int .i64 0, .int .i64 sv, (.slice va vn vc), (.slice none 0 0)]) (ldCmd rfl H7.out) ?_) | (refine wpList_agg H7.out.third (stabC (blkP_stable _ _) (stabC (rowP_stable _ _ _ _ _) stab0)) rfl (.tmp 2) (.tmp 64) 29 rfl (actC { Scr.act0 with kind := 2, svc := sv, args := t, cdata := [] } (.slice none 0 0) (.slice va vn vc) (.slice none 0 0)) rfl rfl sizeAct rfl rfl ?_; intro w8 h8; have HF := hid h8; clear h8))
          refine post_cell2 HF.out Tryd.results36 rfl rfl (ldAct rfl HF.out) _ rfl ⟨HF.out.below, ?_⟩
          rw [HRN.out]
          exact ⟨_, ⟨rfl, rfl⟩, rfl⟩
end
end Go.Proofs.YtimnhheagdhpgaaDoor
