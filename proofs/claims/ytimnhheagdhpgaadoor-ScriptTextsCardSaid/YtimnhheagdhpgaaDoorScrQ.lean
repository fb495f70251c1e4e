/- Parse: the walk. -/
import Derived.Test.YtimnhheagdhpgaaDoorScrP
set_option linter.unusedVariables false
set_option linter.unusedSimpArgs false
namespace Go.Proofs.YtimnhheagdhpgaaDoor
open Go.RowKit Go.Proofs.Num
open Scr (Str bs numV numsV small svcV fltV nameV bytesV oneV fileV faultV orderV tailV flts parseL parseV b8 splitW okW)
section
variable {w : World}
def nilA : Value := .slice none 0 0
def parseE (w w' : World) (o : Option Scr.Act) (e : Ending) : Prop := match o with
  | some a => ∃ dv av cv, e = .returned (.tuple #[.agg (actC a dv av cv), .int .i64 0]) ∧ Sts w (rowsA a dv av cv) w'
  | none => e = .returned (.tuple #[.agg (actC Scr.act0 (.slice none 0 0) (.slice none 0 0) (.slice none 0 0)), .int .i64 4]) ∧ Below w.heap.size w w'
theorem words_len : ∀ s : Str, (splitW s).length ≤ s.length + 1 ∧ ∀ x ∈ splitW s, x.length ≤ s.length
  | [] => by simp [splitW]
  | c :: r => by
    obtain ⟨h1, h2⟩ := words_len r
    simp only [splitW]
    split
    · refine ⟨by simp; omega, ?_⟩
      intro x hx
      rcases List.mem_cons.1 hx with rfl | hx
      · simp
      · have := h2 x hx; simp; omega
    · split
      · rename_i q l e
        rw [e] at h1 h2
        refine ⟨by simp at h1 ⊢; omega, ?_⟩
        intro x hx
        rcases List.mem_cons.1 hx with rfl | hx
        · have := h2 q (by simp); simp; omega
        · have := h2 x (by simp [hx]); simp; omega
      · simp
set_option maxHeartbeats 4000000 in
theorem cParse (S : ByteArray) (hs : S.size < 900000) (hE : Env w) : Calls Tryd.prog 8 #[.string S] w fun e w' => parseE w w' (parseV (bs S)) e := by
  have hz := hid (show ∀ cs, Sts w [blkP w.heap.size (.cells cs 29 (0, 0))] (w.alloc (.cells cs 29)) from fun cs => (Sts.nil w).alloc stab0 _)
  obtain ⟨h1, h2⟩ := words_len (bs S)
  rw [← Scr.bs_size] at h1 h2
  have HW := hid (fun v : World => cWords (w := v) S (by omega))
  obtain ⟨res, hres⟩ : ∃ res, res = parseV (bs S) := ⟨_, rfl⟩
  rw [← hres]
  obtain ⟨ok, hok⟩ : ∃ ok, ok = okW (bs S) := ⟨_, rfl⟩
  unfold wordsE at HW
  rw [← hok] at HW
  have hE0 := hid hE
  cases ok with
  | false =>
    have hrn : res = none := by
      rw [hres, parseV, if_neg]
      intro h
      have : okW (bs S) = true := h
      rw [← hok] at this
      cases this
    subst hrn
    clear hres hok h1 h2 hs hE
    go_enter Tryd.func8, Tryd.ntmps8
    go_wp2_with (first | (go_at_call 19; refine (HW.out _).mono ?_; rintro e w1 ⟨v, rfl, hb, -⟩; have HQ := hid ((hz.out _).quiet (stab1 (blkP_stable _ _)) hb); clear hb) | (refine wpList_agg HQ.out stab0 rfl (.tmp 2) (.tmp 21) 29 rfl (actC Scr.act0 (.slice none 0 0) (.slice none 0 0) (.slice none 0 0)) rfl rfl sizeAct rfl rfl ?_; intro w2 hw2; have HF := hid hw2; clear hw2))
    refine post_cell2 HF.out Tryd.results8 rfl rfl (ldAct rfl HF.out) _ rfl ⟨rfl, HF.out.below⟩
  | true =>
    have hrp : res = parseL (splitW (bs S)) := by rw [hres]; unfold parseV; exact if_pos (show okW (bs S) = true from hok.symm)
    obtain ⟨x, r, hxr⟩ : ∃ x r, splitW (bs S) = x :: r := by
      match hsp : splitW (bs S), Scr.splitW_ne (bs S) with
      | x :: r, _ => exact ⟨x, r, rfl⟩
    rw [hxr] at hrp h1 h2 HW
    obtain ⟨K, hK⟩ : ∃ K, (x :: r).length = K + 1 := ⟨_, rfl⟩
    have hK1 : K + 1 < 1000000 := by rw [hK] at h1; omega
    have HP := hid (show ∀ a c v, Below w.heap.size w v → Rd v (.slice a (K + 1) c) (strsV (x :: r)) → Calls Tryd.prog 20 #[.slice a (K + 1) c] v fun e w' => actE v w' res e from fun a c v hv hr => by
      rw [hrp]
      exact cParseL (w := v) a c x r K hK (fun s hsm => by have := h2 s hsm; omega) hK1 hr (hE.below hv))
    have HK := hid (show (strsV (x :: r)).length = K + 1 by rw [strsV_len, hK])
    clear hres hrp hok h1 h2 hs hE hxr hK
    obtain ⟨xs, hxs⟩ : ∃ xs, xs = strsV (x :: r) := ⟨_, rfl⟩
    rw [← hxs] at HP HK HW
    clear hxs
    cases res with
    | none =>
      go_enter Tryd.func8, Tryd.ntmps8
      go_wp2_with (first | (go_at_call 19; refine (HW.out _).mono ?_; rintro e w1 ⟨v, rfl, hb, hnew⟩; replace hnew := hnew rfl; obtain ⟨wa, wc, rfl⟩ := hnew.rd.eq; have HQ := hid (Sts.new (stab1 (blkP_stable _ _)) (hz.out _) hnew); clear hb hnew; rw [HK.out] at HQ ⊢) | (go_at_call 20; refine (HP.out wa wc _ HQ.out.below (Rd.of_own (Sts.rowOwn HQ.out) HK.out)).mono ?_; intro e w2 he; obtain ⟨cs, L, rfl, hcs, hL, hS, hact⟩ := he.uni; have HCS := hid hcs; have HL := hid hL; have HACT := hid hact; have HQ2 := hid ((Sts.cat (stabC (rowP_stable _ _ _ _ _) (stab1 (blkP_stable _ _))) HQ.out hS).perm List.perm_append_comm).tail; have HA := hid (fun cs => HQ2.out.alloc (stabC (blkP_stable _ _) HL.out) (.cells cs 29)); clear he hcs hL hS hact) | (refine wpList_agg (HA.out _) (stabC (blkP_stable _ _) HL.out) rfl (.tmp 6) (.tmp 17) 29 rfl cs rfl rfl (by rw [HCS.out.1]; exact sizeAct) (by rw [HCS.out.1]; rfl) HCS.out.2 ?_; intro w3 h3; have H3 := hid h3; clear h3 HA) | (refine wpList_agg H3.out.swap (stabC (blkP_stable _ _) HL.out) rfl (.tmp 2) (.tmp 21) 29 rfl (actC Scr.act0 (.slice none 0 0) (.slice none 0 0) (.slice none 0 0)) rfl rfl sizeAct rfl rfl ?_; intro w4 h4; have HF := hid h4; clear h4))
      refine post_cell2 HF.out Tryd.results8 rfl rfl (ldAct rfl HF.out) _ rfl ⟨rfl, HF.out.below⟩
    | some a =>
      go_enter Tryd.func8, Tryd.ntmps8
      go_wp2_with (first | (go_at_call 19; refine (HW.out _).mono ?_; rintro e w1 ⟨v, rfl, hb, hnew⟩; replace hnew := hnew rfl; obtain ⟨wa, wc, rfl⟩ := hnew.rd.eq; have HQ := hid (Sts.new (stab1 (blkP_stable _ _)) (hz.out _) hnew); clear hb hnew; rw [HK.out] at HQ ⊢) | (go_at_call 20; refine (HP.out wa wc _ HQ.out.below (Rd.of_own (Sts.rowOwn HQ.out) HK.out)).mono ?_; intro e w2 he; obtain ⟨cs, L, rfl, hcs, hL, hS, hact⟩ := he.uni; have HCS := hid hcs; have HL := hid hL; have HACT := hid hact; have HQ2 := hid ((Sts.cat (stabC (rowP_stable _ _ _ _ _) (stab1 (blkP_stable _ _))) HQ.out hS).perm List.perm_append_comm).tail; have HA := hid (fun cs => HQ2.out.alloc (stabC (blkP_stable _ _) HL.out) (.cells cs 29)); clear he hcs hL hS hact) | (refine wpList_agg (HA.out _) (stabC (blkP_stable _ _) HL.out) rfl (.tmp 6) (.tmp 17) 29 rfl cs rfl rfl (by rw [HCS.out.1]; exact sizeAct) (by rw [HCS.out.1]; rfl) HCS.out.2 ?_; intro w3 h3; have H3 := hid h3; clear h3 HA) | (refine wpList_ld rfl (.tmp 6) 29 rfl rfl (.agg cs) (ldAct HCS.out.1 H3.out) ?_) | (refine wpList_agg H3.out.swap (stabC (blkP_stable _ _) HL.out) rfl (.tmp 2) (.tmp 20) 29 rfl cs rfl rfl (by rw [HCS.out.1]; exact sizeAct) (by rw [HCS.out.1]; rfl) HCS.out.2 ?_; intro w4 h4; have HF := hid h4; clear h4))
      refine post_cell2 HF.out Tryd.results8 rfl rfl (ldAct HCS.out.1 HF.out) _ rfl ?_
      obtain ⟨dv, av, cv, h1, h2⟩ := HACT.out a rfl
      subst h1 h2
      exact ⟨dv, av, cv, rfl, HF.out.tail.tail⟩
end
end Go.Proofs.YtimnhheagdhpgaaDoor
