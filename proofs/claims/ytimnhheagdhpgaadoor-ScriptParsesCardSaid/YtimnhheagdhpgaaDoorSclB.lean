/- ScriptParses: the walk. -/
import Derived.Test.YtimnhheagdhpgaaDoorSclA
set_option linter.unusedVariables false
set_option linter.unusedSimpArgs false
namespace Go.Proofs.YtimnhheagdhpgaaDoor
open Go.RowKit Go.Proofs.Num
open Scr (Str bs parseV)
theorem stabApp {l m : List HProp} (hl : ∀ A ∈ l, Stable A) (hm : ∀ A ∈ m, Stable A) : ∀ A ∈ l ++ m, Stable A := fun A hA => (List.mem_append.1 hA).elim (hl A) (hm A)
theorem permAB (A B : HProp) (l m : List HProp) : (A :: (l ++ (B :: m))).Perm (B :: (m ++ (A :: l))) := by
  have h1 : (A :: (l ++ (B :: m))).Perm ((A :: l) ++ (B :: m)) := List.Perm.refl _
  have h2 : ((A :: l) ++ (B :: m)).Perm ((B :: m) ++ (A :: l)) := List.perm_append_comm
  exact h1.trans h2
section
variable {w : World}
set_option maxRecDepth 100000 in
set_option maxHeartbeats 16000000 in
theorem parsesLaw (S : ByteArray) (hE : Env w) : Calls Tryd.prog 3 #[.string S] w fun e w' => e = .returned (.bool true) ∧ Below w.heap.size w w' := by
  obtain ⟨N, hN⟩ : ∃ N, N = S.size := ⟨_, rfl⟩
  by_cases hb : 2000 < N
  · have d1 : decide (2000 < (N : Int)) = true := decide_eq_true (by omega)
    have hz : S.size = N := hN.symm
    clear hE hN
    go_enter Tryd.func3, Tryd.ntmps3
    go_wp2_with fail
    all_goals (go_ret; exact ⟨rfl, Below.refl _ _⟩)
  · have d1 : decide (2000 < (N : Int)) = false := decide_eq_false (by omega)
    have d2 : ¬ 2000 < (N : Int) := by omega
    have hz : S.size = N := hN.symm
    have HP := hid (cParse (w := w) S (by omega) hE)
    have HR := hid (fun x : World => cParseR (w := x) S (by omega))
    have HAW := hid (fun x (hx : Below w.heap.size w x) => cAwake (w := x) (hE.below hx))
    have hfew : ∀ a, parseV (bs S) = some a → a.args.length < 1000000 := fun a ha => by
      have h1 := Scr.parseR_eq (bs S)
      rw [ha] at h1
      unfold Scr.parseR at h1
      split at h1
      · injection h1 with h1
        rw [← h1]
        obtain ⟨g1, g2⟩ := words_len (bs S)
        rw [← Scr.bs_size] at g2
        exact (actR_ok (Scr.splitW (bs S)) (fun x hx => by have := g2 x hx; omega)).few
      · cases h1
    have HFEW := hid hfew
    obtain ⟨o, ho⟩ : ∃ o, o = parseV (bs S) := ⟨_, rfl⟩
    rw [← ho] at HP HR HFEW
    clear ho hE hN hfew
    cases o with
    | none =>
      have HSM := hid (fun x : World => cSameR (w := x) Scr.act0 Scr.act0 (.slice none 0 0) (.slice none 0 0) (.slice none 0 0) (.slice none 0 0) (.slice none 0 0) (.slice none 0 0) (act_nil _ rfl rfl rfl x) (act_nil _ rfl rfl rfl x) (by decide) (by decide))
      rw [decide_eq_true rfl] at HSM
      go_enter Tryd.func3, Tryd.ntmps3
      go_wp2_with (first | (go_at_call 8; refine HP.out.mono ?_; rintro e w1 ⟨rfl, hb⟩; have HA := hid (fun cs => (Sts.nil_below hb).alloc stab0 (.cells cs 29)); clear hb) | (refine wpList_agg (HA.out _) stab0 rfl (.tmp 3) (.tmp 13) 29 rfl (actC Scr.act0 (.slice none 0 0) (.slice none 0 0) (.slice none 0 0)) rfl rfl sizeAct rfl rfl ?_; intro w2 h2; have H2 := hid h2; clear h2 HA) | (go_at_call 9; refine (HR.out _).mono ?_; rintro e w3 ⟨rfl, hb⟩; have HA2 := hid (fun cs => (H2.out.quiet (stab1 (blkP_stable _ _)) hb).alloc (stab1 (blkP_stable _ _)) (.cells cs 29)); clear hb) | (refine wpList_agg (HA2.out _) (stab1 (blkP_stable _ _)) rfl (.tmp 5) (.tmp 18) 29 rfl (actC Scr.act0 (.slice none 0 0) (.slice none 0 0) (.slice none 0 0)) rfl rfl sizeAct rfl rfl ?_; intro w4 h4; have H4 := hid h4; clear h4 HA2) | (refine wpList_ld rfl (.tmp 3) 29 rfl rfl (.agg (actC Scr.act0 (.slice none 0 0) (.slice none 0 0) (.slice none 0 0))) (ldAct rfl H4.out.swap) ?_) | (refine wpList_ld rfl (.tmp 5) 29 rfl rfl (.agg (actC Scr.act0 (.slice none 0 0) (.slice none 0 0) (.slice none 0 0))) (ldAct rfl H4.out) ?_) | (go_at_call 10; refine (HSM.out _).mono ?_; rintro e w5 ⟨rfl, hb⟩; have H5 := hid (below_step H4.out.below hb); clear hb) | (go_at_call 11; refine (HAW.out _ H5.out).mono ?_; rintro e w6 ⟨rfl, hb⟩; have H6 := hid (below_step H5.out hb); clear hb))
      all_goals (go_ret; exact ⟨rfl, H6.out⟩)
    | some a =>
      have hfw := HFEW.out a rfl
      have HSM := hid (fun (x : World) dv av cv dv' av' cv' (h1 : ActV x a dv av cv) (h2 : ActV x a dv' av' cv') => cSameR (w := x) a a dv av cv dv' av' cv' h1 h2 hfw hfw)
      rw [decide_eq_true rfl] at HSM
      clear HFEW
      go_enter Tryd.func3, Tryd.ntmps3
      go_wp2_with (first | (go_at_call 8; refine HP.out.mono ?_; rintro e w1 ⟨dv, av, cv, rfl, hS⟩; obtain ⟨-, q2⟩ := oneC_slices (Sts.actV (l := []) (by rw [List.append_nil]; exact hS)); have HONE := hid q2; have HA := hid (fun cs => hS.alloc (rowsA_stable _ _ _ _) (.cells cs 29)); clear hS q2) | (refine wpList_agg (HA.out _) (rowsA_stable _ _ _ _) rfl (.tmp 3) (.tmp 13) 29 rfl (actC a dv av cv) rfl rfl sizeAct rfl HONE.out ?_; intro w2 h2; have H2 := hid h2; clear h2 HA) | (go_at_call 9; refine (HR.out _).mono ?_; rintro e w3 ⟨dv2, av2, cv2, rfl, hS⟩; obtain ⟨-, q2⟩ := oneC_slices (Sts.actV (l := []) (by rw [List.append_nil]; exact hS)); have HONE2 := hid q2; have HC := hid (Sts.cat (stabC (blkP_stable _ _) (rowsA_stable _ _ _ _)) H2.out hS); have HA2 := hid (fun cs => HC.out.alloc (stabApp (rowsA_stable _ _ _ _) (stabC (blkP_stable _ _) (rowsA_stable _ _ _ _))) (.cells cs 29)); clear hS q2) | (refine wpList_agg (HA2.out _) (stabApp (rowsA_stable _ _ _ _) (stabC (blkP_stable _ _) (rowsA_stable _ _ _ _))) rfl (.tmp 5) (.tmp 18) 29 rfl (actC a dv2 av2 cv2) rfl rfl sizeAct rfl HONE2.out ?_; intro w4 h4; have H4 := hid h4; have H4b := hid (show Sts w (blkP w1.heap.size (.cells (actC a dv av cv) 29 (0, 0)) :: (rowsA a dv av cv ++ (blkP w3.heap.size (.cells (actC a dv2 av2 cv2) 29 (0, 0)) :: rowsA a dv2 av2 cv2))) w4 from h4.perm (permAB _ _ _ _)); clear h4 HA2) | (refine wpList_ld rfl (.tmp 3) 29 rfl rfl (.agg (actC a dv av cv)) (ldAct rfl H4b.out) ?_) | (refine wpList_ld rfl (.tmp 5) 29 rfl rfl (.agg (actC a dv2 av2 cv2)) (ldAct rfl H4.out) ?_) | (go_at_call 10; refine (HSM.out _ dv av cv dv2 av2 cv2 (Sts.actV H4b.out.tail) (Sts.actV H4.out.tail)).mono ?_; rintro e w5 ⟨rfl, hb⟩; have H5 := hid (below_step H4.out.below hb); clear hb) | (go_at_call 11; refine (HAW.out _ H5.out).mono ?_; rintro e w6 ⟨rfl, hb⟩; have H6 := hid (below_step H5.out hb); clear hb))
      all_goals (go_ret; exact ⟨rfl, H6.out⟩)
end
end Go.Proofs.YtimnhheagdhpgaaDoor
