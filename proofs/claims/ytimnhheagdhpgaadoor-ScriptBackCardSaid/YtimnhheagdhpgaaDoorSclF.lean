/- ScriptBack: the walk. -/
import Derived.Test.YtimnhheagdhpgaaDoorSclE
set_option linter.unusedVariables false
set_option linter.unusedSimpArgs false
namespace Go.Proofs.YtimnhheagdhpgaaDoor
open Go.RowKit Go.Proofs.Num
open Scr (Str bs parseV textV textL lineV lineL lineS joinW hexV hexB svcN fltN b8 small)
theorem small_i64 {n : Int} (h : small n = true) : i64 n := by
  simp only [small, decide_eq_true_eq] at h
  unfold i64; omega
theorem nameV_len {s : Str} (h : Scr.nameV s = true) : s.length ≤ 64 := by
  simp only [Scr.nameV, Bool.and_eq_true, decide_eq_true_eq] at h
  exact h.2.2
theorem line_ok {c : Scr.Act} {s : Str} (h : lineV c = some s) (hs : s.length < 900000) : TextOk c := by
  have ht : textV c = s := by
    unfold lineV at h
    cases hl : lineL c with
    | none => rw [hl] at h; cases h
    | some l => rw [hl] at h; injection h with h; unfold textV; rw [Scr.line_text hl, h]
  have hne : lineL c ≠ none := by
    intro e
    unfold lineV at h
    rw [e] at h; cases h
  have nil : ∀ n ∈ ([] : List Int), i64 n := by simp
  have key : i64 c.num ∧ i64 c.fat ∧ i64 c.fbit ∧ (∀ n ∈ c.args, i64 n) ∧ c.args.length ≤ 8 ∧ c.name.length ≤ 64 ∧ c.data.length ≤ 65536 ∧ c.cdata.length ≤ 512 := by
    unfold lineL at hne
    split at hne
    · split at hne
      · rename_i hh
        have e := hh.2
        refine ⟨small_i64 hh.1, ?_, ?_, ?_, ?_, ?_, ?_, ?_⟩ <;> rw [e]
        · exact i64_0
        · exact i64_0
        · exact nil
        all_goals exact Nat.zero_le _
      · exact absurd rfl hne
    split at hne
    · split at hne
      · rename_i hh
        obtain ⟨h1, h2, h3, h4, e⟩ := hh
        refine ⟨?_, ?_, ?_, fun n hn => small_i64 (h1 n hn), h2, ?_, ?_, h3⟩ <;> rw [e]
        · exact i64_0
        · exact i64_0
        · exact i64_0
        all_goals exact Nat.zero_le _
      · exact absurd rfl hne
    split at hne
    · split at hne
      · rename_i hh
        obtain ⟨h1, h2, h3, e⟩ := hh
        refine ⟨small_i64 h1, ?_, ?_, ?_, ?_, nameV_len h2, h3, ?_⟩ <;> rw [e]
        · exact i64_0
        · exact i64_0
        · exact nil
        all_goals exact Nat.zero_le _
      · exact absurd rfl hne
    split at hne
    · split at hne
      · rename_i hh
        obtain ⟨h1, h2, h3, e⟩ := hh
        refine ⟨?_, small_i64 h2, small_i64 h3, ?_, ?_, ?_, ?_, ?_⟩ <;> rw [e]
        · exact i64_0
        · exact nil
        all_goals exact Nat.zero_le _
      · exact absurd rfl hne
    split at hne
    · split at hne
      · rename_i hh
        have e := hh.2
        refine ⟨small_i64 hh.1, ?_, ?_, ?_, ?_, ?_, ?_, ?_⟩ <;> rw [e]
        · exact i64_0
        · exact i64_0
        · exact nil
        all_goals exact Nat.zero_le _
      · exact absurd rfl hne
    · exact absurd rfl hne
  obtain ⟨k1, k2, k3, k4, k5, k6, k7, k8⟩ := key
  exact ⟨k1, k2, k3, k4, by omega, by omega, by omega, by omega, by rw [ht]; exact hs⟩
theorem parse_nil : parseV [] = none := rfl
theorem undef_guard : @Go.yielded.match_1 (fun _ => Option Bool) (some undef) (fun b => some b) (fun _ => none) = none := rfl
section
variable {w : World}
set_option maxRecDepth 100000 in
set_option maxHeartbeats 16000000 in
theorem backLaw (a : Scr.Act) (dv av cv : Value) (S : ByteArray) (hV : ActV w a dv av cv) (hI : ActI a) (hE : Env w) : Calls Tryd.prog 6 #[.agg (actC a dv av cv), .string S] w fun e w' => e = .returned (.bool true) ∧ Below w.heap.size w w' := by
  have HBX := hid ((Sts.nil w).alloc stab0 (.cells (actC a dv av cv) 29))
  have HLI := hid (show ∀ x, Below w.heap.size w x → Calls Tryd.prog 14 #[.agg (actC a dv av cv)] x fun e w' => e = .returned (.bool (lightV a)) ∧ Below x.heap.size x w' from fun x hx => cLight (w := x) a dv av cv (hV.below hx))
  have HAW := hid (fun x (hx : Below w.heap.size w x) => cAwake (w := x) (hE.below hx))
  obtain ⟨lt, hlt⟩ : ∃ lt, lt = lightV a := ⟨_, rfl⟩
  rw [← hlt] at HLI
  obtain ⟨N, hN⟩ : ∃ N, N = S.size := ⟨_, rfl⟩
  have hz : S.size = N := hN.symm
  have HZ := hid (show (actC a dv av cv).size = 12 from rfl)
  by_cases hskip : lt = false ∨ 2000 < N
  · have HN := hid hN
    clear hN
    rcases (show lt = false ∨ (lt = true ∧ 2000 < N) from by cases lt; exact Or.inl rfl; exact Or.inr ⟨rfl, hskip.resolve_left (by simp)⟩) with rfl | ⟨rfl, hN2⟩
    · clear hlt hV hI hE hskip
      obtain ⟨cs, hcs⟩ : ∃ cs, cs = actC a dv av cv := ⟨_, rfl⟩
      rw [← hcs] at HBX HLI HZ ⊢
      clear hcs
      go_enter Tryd.func6, Tryd.ntmps6
      go_wp2_with (first | (go_at_call 11; refine (HAW.out _ HBX.out.below).mono ?_; rintro e w1 ⟨rfl, hb⟩; have H1 := hid (HBX.out.quiet (stab1 (blkP_stable _ _)) hb); clear hb) | (refine wpList_ld rfl (.tmp 2) 29 rfl rfl (.agg cs) (ldAct HZ.out H1.out) ?_) | (go_at_call 14; refine (HLI.out _ H1.out.below).mono ?_; rintro e w2 ⟨rfl, hb⟩; have H2 := hid (below_step H1.out.below hb); clear hb))
      all_goals (go_ret; exact ⟨rfl, H2.out⟩)
    · have d1 : decide (2000 < (N : Int)) = true := decide_eq_true (by omega)
      clear hlt hV hI hE hskip
      obtain ⟨cs, hcs⟩ : ∃ cs, cs = actC a dv av cv := ⟨_, rfl⟩
      rw [← hcs] at HBX HLI HZ ⊢
      clear hcs
      go_enter Tryd.func6, Tryd.ntmps6
      go_wp2_with (first | (go_at_call 11; refine (HAW.out _ HBX.out.below).mono ?_; rintro e w1 ⟨rfl, hb⟩; have H1 := hid (HBX.out.quiet (stab1 (blkP_stable _ _)) hb); clear hb) | (refine wpList_ld rfl (.tmp 2) 29 rfl rfl (.agg cs) (ldAct HZ.out H1.out) ?_) | (go_at_call 14; refine (HLI.out _ H1.out.below).mono ?_; rintro e w2 ⟨rfl, hb⟩; have H2 := hid (below_step H1.out.below hb); clear hb))
      all_goals (go_ret; exact ⟨rfl, H2.out⟩)
  · obtain rfl : lt = true := by cases lt; exact absurd (Or.inl rfl) hskip; rfl
    have hN2 : ¬ 2000 < N := fun h => hskip (Or.inr h)
    have d1 : decide (2000 < (N : Int)) = false := decide_eq_false (by omega)
    have d2 : ¬ 2000 < (N : Int) := by omega
    obtain ⟨hO, hO2⟩ := light_ok hI hlt.symm
    have HP := hid (show ∀ x, Below w.heap.size w x → Calls Tryd.prog 15 #[.agg (actC a dv av cv)] x fun e w' => e = .returned (.tuple #[.string ⟨((lineV a).getD []).toArray⟩, .bool (lineV a).isSome]) ∧ Below x.heap.size x w' from fun x hx => by
      rw [← Scr.lineS_eq]; exact cLineP (w := x) a dv av cv hO (hV.below hx) (hE.below hx))
    have hlen : ((lineV a).getD []).length < 900000 := by
      cases h : lineV a with
      | none => show (0 : Nat) < _; decide
      | some t =>
        have ht := hO.text
        unfold lineV at h
        cases hl : lineL a with
        | none => rw [hl] at h; cases h
        | some l => rw [hl] at h; injection h with h; unfold textV at ht; rw [Scr.line_text hl, h] at ht; exact ht
    have HP1 := hid (show ∀ x, Below w.heap.size w x → Calls Tryd.prog 8 #[.string ⟨((lineV a).getD []).toArray⟩] x fun e w' => parseE x w' (if (lineV a).isSome then some a else none) e from fun x hx => by
      have := cParse (w := x) ⟨((lineV a).getD []).toArray⟩ (by show ((lineV a).getD []).toArray.size < _; simpa using hlen) (hE.below hx)
      rw [show bs ⟨((lineV a).getD []).toArray⟩ = (lineV a).getD [] from rfl] at this
      cases h : lineV a with
      | none => rw [h] at this; exact this
      | some t =>
        rw [h] at this
        simp only [Option.getD_some] at this
        rw [Scr.parse_of_line h] at this
        exact this)
    have HSM := hid (fun (x : World) dv' av' cv' (hx : Below w.heap.size w x) (h2 : ActV x a dv' av' cv') => cSameR (w := x) a a dv av cv dv' av' cv' (hV.below hx) h2 hO2.few hO2.few)
    rw [decide_eq_true rfl] at HSM
    have HP2 := hid (show ∀ x, Below w.heap.size w x → Calls Tryd.prog 8 #[.string S] x fun e w' => parseE x w' (parseV (bs S)) e from fun x hx => cParse (w := x) S (by omega) (hE.below hx))
    have hsl : (bs S).length < 900000 := by rw [← Scr.bs_size]; omega
    have HL2 := hid (show ∀ x c dv' av' cv', parseV (bs S) = some c → Below w.heap.size w x → ActV x c dv' av' cv' → Calls Tryd.prog 15 #[.agg (actC c dv' av' cv')] x fun e w' => e = .returned (.tuple #[.string S, .bool true]) ∧ Below x.heap.size x w' from fun x c dv' av' cv' hc hx hv => by
      have hlc := Scr.line_of_parse hc
      have := cLineP (w := x) c dv' av' cv' (line_ok hlc hsl) hv (hE.below hx)
      rw [Scr.lineS_eq, hlc] at this
      simp only [Option.getD_some, Option.isSome_some, Scr.mk_bs] at this
      exact this)
    have hone := hid (oneC_slices hV).2
    obtain ⟨o2, ho2⟩ : ∃ o2, o2 = parseV (bs S) := ⟨_, rfl⟩
    rw [← ho2] at HP2 HL2
    obtain ⟨X, hX⟩ : ∃ X : ByteArray, X = ⟨((lineV a).getD []).toArray⟩ := ⟨_, rfl⟩
    rw [← hX] at HP HP1
    obtain ⟨ok, hok⟩ : ∃ ok, ok = (lineV a).isSome := ⟨_, rfl⟩
    rw [← hok] at HP HP1
    clear hlt hV hI hE hO hO2 hlen hN hX hok hsl ho2 hskip
    obtain ⟨cs, hcs⟩ : ∃ cs, cs = actC a dv av cv := ⟨_, rfl⟩
    rw [← hcs] at HBX HLI HZ HP HSM hone ⊢
    clear hcs
    cases ok with
    | true =>
      cases o2 with
      | none => 
        go_enter Tryd.func6, Tryd.ntmps6
        go_wp2_with (first | (go_at_call 11; refine (HAW.out _ HBX.out.below).mono ?_; rintro e w1 ⟨rfl, hb⟩; have H1 := hid (HBX.out.quiet (stab1 (blkP_stable _ _)) hb); clear hb) | (refine wpList_ld rfl (.tmp 2) 29 rfl rfl (.agg cs) (ldAct HZ.out H1.out) ?_) | (go_at_call 14; refine (HLI.out _ H1.out.below).mono ?_; rintro e w2 ⟨rfl, hb⟩; have H2 := hid (H1.out.quiet (stab1 (blkP_stable _ _)) hb); clear hb) | (refine wpList_ld rfl (.tmp 2) 29 rfl rfl (.agg cs) (ldAct HZ.out H2.out) ?_) | (go_at_call 15; refine (HP.out _ H2.out.below).mono ?_; rintro e w3 ⟨rfl, hb⟩; have H3 := hid (H2.out.quiet (stab1 (blkP_stable _ _)) hb); clear hb H2) | (go_at_call 8; refine (HP1.out _ H3.out.below).mono ?_; rintro e w4 ⟨dv2, av2, cv2, rfl, hS⟩; obtain ⟨-, q2⟩ := oneC_slices (Sts.actV (l := []) (by rw [List.append_nil]; exact hS)); have HONE2 := hid q2; have HC := hid (Sts.cat (stab1 (blkP_stable _ _)) H3.out hS); have HA2 := hid (fun cs => HC.out.alloc (stabApp2 (rowsA_stable _ _ _ _) (stab1 (blkP_stable _ _))) (.cells cs 29)); clear H3 hS q2) | (refine wpList_agg (HA2.out _) (stabApp2 (rowsA_stable _ _ _ _) (stab1 (blkP_stable _ _))) rfl (.tmp 7) (.tmp 31) 29 rfl (actC a dv2 av2 cv2) rfl rfl sizeAct rfl HONE2.out ?_; intro w5 h5; have H5 := hid h5; have H5b := hid (show Sts w (blkP w.heap.size (.cells cs 29 (0, 0)) :: (blkP w4.heap.size (.cells (actC a dv2 av2 cv2) 29 (0, 0)) :: rowsA a dv2 av2 cv2)) w5 from h5.perm (List.perm_append_comm (l₁ := blkP w4.heap.size (.cells (actC a dv2 av2 cv2) 29 (0, 0)) :: rowsA a dv2 av2 cv2))); clear h5 HA2) | (refine wpList_ldG (by go_simp) (.tmp 2) 29 rfl rfl (.agg cs) (ldAct HZ.out H5b.out) ?_) | (refine wpList_ldG (by go_simp) (.tmp 7) 29 rfl rfl (.agg (actC a dv2 av2 cv2)) (ldAct rfl H5.out) ?_) | (go_at_call 10; refine (HSM.out _ dv2 av2 cv2 H5.out.below (Sts.actV H5.out.tail)).mono ?_; rintro e w6 ⟨rfl, hb⟩; have H6 := hid (below_step H5.out.below hb); clear hb) | (go_at_call 8; refine (HP2.out _ H6.out).mono ?_; rintro e w7 ⟨rfl, hb⟩; have HA3 := hid (fun cs => (Sts.nil_below (below_step H6.out hb)).alloc stab0 (.cells cs 29)); clear H6 hb) | (refine wpList_agg (HA3.out _) stab0 rfl (.tmp 9) (.tmp 47) 29 rfl (actC Scr.act0 (.slice none 0 0) (.slice none 0 0) (.slice none 0 0)) rfl rfl sizeAct rfl rfl ?_; intro w8 h8; have H8 := hid h8; clear h8 HA3))
        all_goals (go_ret; exact ⟨rfl, H8.out.below⟩)
      | some c => 
        go_enter Tryd.func6, Tryd.ntmps6
        go_wp2_with (first | (go_at_call 11; refine (HAW.out _ HBX.out.below).mono ?_; rintro e w1 ⟨rfl, hb⟩; have H1 := hid (HBX.out.quiet (stab1 (blkP_stable _ _)) hb); clear hb) | (refine wpList_ld rfl (.tmp 2) 29 rfl rfl (.agg cs) (ldAct HZ.out H1.out) ?_) | (go_at_call 14; refine (HLI.out _ H1.out.below).mono ?_; rintro e w2 ⟨rfl, hb⟩; have H2 := hid (H1.out.quiet (stab1 (blkP_stable _ _)) hb); clear hb) | (refine wpList_ld rfl (.tmp 2) 29 rfl rfl (.agg cs) (ldAct HZ.out H2.out) ?_) | (go_at_call 15; refine (HP.out _ H2.out.below).mono ?_; rintro e w3 ⟨rfl, hb⟩; have H3 := hid (H2.out.quiet (stab1 (blkP_stable _ _)) hb); clear hb H2) | (go_at_call 8; refine (HP1.out _ H3.out.below).mono ?_; rintro e w4 ⟨dv2, av2, cv2, rfl, hS⟩; obtain ⟨-, q2⟩ := oneC_slices (Sts.actV (l := []) (by rw [List.append_nil]; exact hS)); have HONE2 := hid q2; have HC := hid (Sts.cat (stab1 (blkP_stable _ _)) H3.out hS); have HA2 := hid (fun cs => HC.out.alloc (stabApp2 (rowsA_stable _ _ _ _) (stab1 (blkP_stable _ _))) (.cells cs 29)); clear H3 hS q2) | (refine wpList_agg (HA2.out _) (stabApp2 (rowsA_stable _ _ _ _) (stab1 (blkP_stable _ _))) rfl (.tmp 7) (.tmp 31) 29 rfl (actC a dv2 av2 cv2) rfl rfl sizeAct rfl HONE2.out ?_; intro w5 h5; have H5 := hid h5; have H5b := hid (show Sts w (blkP w.heap.size (.cells cs 29 (0, 0)) :: (blkP w4.heap.size (.cells (actC a dv2 av2 cv2) 29 (0, 0)) :: rowsA a dv2 av2 cv2)) w5 from h5.perm (List.perm_append_comm (l₁ := blkP w4.heap.size (.cells (actC a dv2 av2 cv2) 29 (0, 0)) :: rowsA a dv2 av2 cv2))); clear h5 HA2) | (refine wpList_ldG (by go_simp) (.tmp 2) 29 rfl rfl (.agg cs) (ldAct HZ.out H5b.out) ?_) | (refine wpList_ldG (by go_simp) (.tmp 7) 29 rfl rfl (.agg (actC a dv2 av2 cv2)) (ldAct rfl H5.out) ?_) | (go_at_call 10; refine (HSM.out _ dv2 av2 cv2 H5.out.below (Sts.actV H5.out.tail)).mono ?_; rintro e w6 ⟨rfl, hb⟩; have H6 := hid (below_step H5.out.below hb); clear hb) | (go_at_call 8; refine (HP2.out _ H6.out).mono ?_; rintro e w7 ⟨dv3, av3, cv3, rfl, hS⟩; obtain ⟨-, q2⟩ := oneC_slices (Sts.actV (l := []) (by rw [List.append_nil]; exact hS)); have HONE3 := hid q2; have HC3 := hid (Sts.cat stab0 (Sts.nil_below H6.out) hS); have HA3 := hid (fun cs => HC3.out.alloc (stabApp2 (rowsA_stable _ _ _ _) stab0) (.cells cs 29)); clear H6 hS q2) | (refine wpList_agg (HA3.out _) (stabApp2 (rowsA_stable _ _ _ _) stab0) rfl (.tmp 9) (.tmp 47) 29 rfl (actC c dv3 av3 cv3) rfl rfl sizeAct rfl HONE3.out ?_; intro w8 h8; have H8 := hid h8; clear h8 HA3) | (refine wpList_ld rfl (.tmp 9) 29 rfl rfl (.agg (actC c dv3 av3 cv3)) (ldAct rfl H8.out) ?_) | (go_at_call 15; refine (HL2.out _ c dv3 av3 cv3 rfl H8.out.below (Sts.actV H8.out.tail)).mono ?_; rintro e w9 ⟨rfl, hb⟩; have H9 := hid (below_step H8.out.below hb); clear hb))
        all_goals (go_ret; exact ⟨rfl, H9.out⟩)
    | false =>
      have hu := undef_guard
      cases o2 with
      | none => 
        go_enter Tryd.func6, Tryd.ntmps6
        go_wp2_with (first | (go_at_call 11; refine (HAW.out _ HBX.out.below).mono ?_; rintro e w1 ⟨rfl, hb⟩; have H1 := hid (HBX.out.quiet (stab1 (blkP_stable _ _)) hb); clear hb) | (refine wpList_ld rfl (.tmp 2) 29 rfl rfl (.agg cs) (ldAct HZ.out H1.out) ?_) | (go_at_call 14; refine (HLI.out _ H1.out.below).mono ?_; rintro e w2 ⟨rfl, hb⟩; have H2 := hid (H1.out.quiet (stab1 (blkP_stable _ _)) hb); clear hb) | (refine wpList_ld rfl (.tmp 2) 29 rfl rfl (.agg cs) (ldAct HZ.out H2.out) ?_) | (go_at_call 15; refine (HP.out _ H2.out.below).mono ?_; rintro e w3 ⟨rfl, hb⟩; have H3 := hid (H2.out.quiet (stab1 (blkP_stable _ _)) hb); clear hb H2) | (go_at_call 8; refine (HP1.out _ H3.out.below).mono ?_; rintro e w4 ⟨rfl, hb⟩; have HC := hid (H3.out.quiet (stab1 (blkP_stable _ _)) hb); have HA2 := hid (fun cs => HC.out.alloc (stab1 (blkP_stable _ _)) (.cells cs 29)); clear H3 hb) | (refine wpList_agg (HA2.out _) (stab1 (blkP_stable _ _)) rfl (.tmp 7) (.tmp 31) 29 rfl (actC Scr.act0 (.slice none 0 0) (.slice none 0 0) (.slice none 0 0)) rfl rfl sizeAct rfl rfl ?_; intro w5 h5; have H6 := hid h5.below; clear h5 HA2) | (go_at_call 8; refine (HP2.out _ H6.out).mono ?_; rintro e w7 ⟨rfl, hb⟩; have HA3 := hid (fun cs => (Sts.nil_below (below_step H6.out hb)).alloc stab0 (.cells cs 29)); clear H6 hb) | (refine wpList_agg (HA3.out _) stab0 rfl (.tmp 9) (.tmp 47) 29 rfl (actC Scr.act0 (.slice none 0 0) (.slice none 0 0) (.slice none 0 0)) rfl rfl sizeAct rfl rfl ?_; intro w8 h8; have H8 := hid h8; clear h8 HA3))
        all_goals (go_ret; exact ⟨rfl, H8.out.below⟩)
      | some c => 
        go_enter Tryd.func6, Tryd.ntmps6
        go_wp2_with (first | (go_at_call 11; refine (HAW.out _ HBX.out.below).mono ?_; rintro e w1 ⟨rfl, hb⟩; have H1 := hid (HBX.out.quiet (stab1 (blkP_stable _ _)) hb); clear hb) | (refine wpList_ld rfl (.tmp 2) 29 rfl rfl (.agg cs) (ldAct HZ.out H1.out) ?_) | (go_at_call 14; refine (HLI.out _ H1.out.below).mono ?_; rintro e w2 ⟨rfl, hb⟩; have H2 := hid (H1.out.quiet (stab1 (blkP_stable _ _)) hb); clear hb) | (refine wpList_ld rfl (.tmp 2) 29 rfl rfl (.agg cs) (ldAct HZ.out H2.out) ?_) | (go_at_call 15; refine (HP.out _ H2.out.below).mono ?_; rintro e w3 ⟨rfl, hb⟩; have H3 := hid (H2.out.quiet (stab1 (blkP_stable _ _)) hb); clear hb H2) | (go_at_call 8; refine (HP1.out _ H3.out.below).mono ?_; rintro e w4 ⟨rfl, hb⟩; have HC := hid (H3.out.quiet (stab1 (blkP_stable _ _)) hb); have HA2 := hid (fun cs => HC.out.alloc (stab1 (blkP_stable _ _)) (.cells cs 29)); clear H3 hb) | (refine wpList_agg (HA2.out _) (stab1 (blkP_stable _ _)) rfl (.tmp 7) (.tmp 31) 29 rfl (actC Scr.act0 (.slice none 0 0) (.slice none 0 0) (.slice none 0 0)) rfl rfl sizeAct rfl rfl ?_; intro w5 h5; have H6 := hid h5.below; clear h5 HA2) | (go_at_call 8; refine (HP2.out _ H6.out).mono ?_; rintro e w7 ⟨dv3, av3, cv3, rfl, hS⟩; obtain ⟨-, q2⟩ := oneC_slices (Sts.actV (l := []) (by rw [List.append_nil]; exact hS)); have HONE3 := hid q2; have HC3 := hid (Sts.cat stab0 (Sts.nil_below H6.out) hS); have HA3 := hid (fun cs => HC3.out.alloc (stabApp2 (rowsA_stable _ _ _ _) stab0) (.cells cs 29)); clear H6 hS q2) | (refine wpList_agg (HA3.out _) (stabApp2 (rowsA_stable _ _ _ _) stab0) rfl (.tmp 9) (.tmp 47) 29 rfl (actC c dv3 av3 cv3) rfl rfl sizeAct rfl HONE3.out ?_; intro w8 h8; have H8 := hid h8; clear h8 HA3) | (refine wpList_ld rfl (.tmp 9) 29 rfl rfl (.agg (actC c dv3 av3 cv3)) (ldAct rfl H8.out) ?_) | (go_at_call 15; refine (HL2.out _ c dv3 av3 cv3 rfl H8.out.below (Sts.actV H8.out.tail)).mono ?_; rintro e w9 ⟨rfl, hb⟩; have H9 := hid (below_step H8.out.below hb); clear hb))
        all_goals (go_ret; exact ⟨rfl, H9.out⟩)
end
end Go.Proofs.YtimnhheagdhpgaaDoor
