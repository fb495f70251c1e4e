/- script.Line; light; ScriptLines: the walk. -/
import Derived.Test.YtimnhheagdhpgaaDoorSclC
set_option linter.unusedVariables false
set_option linter.unusedSimpArgs false
namespace Go.Proofs.YtimnhheagdhpgaaDoor
open Go.RowKit Go.Proofs.Num
open Scr (Str bs parseV textV textL lineV lineS joinW hexV hexB svcN fltN b8)
theorem stabApp2 {l m : List HProp} (hl : ∀ A ∈ l, Stable A) (hm : ∀ A ∈ m, Stable A) : ∀ A ∈ l ++ m, Stable A := fun A hA => (List.mem_append.1 hA).elim (hl A) (hm A)
theorem parse_few {s : Str} (h : s.length < 900000) {b : Scr.Act} (hb : parseV s = some b) : LineOk b := by
  have h1 := Scr.parseR_eq s
  rw [hb] at h1
  unfold Scr.parseR at h1
  split at h1
  · injection h1 with h1
    rw [← h1]
    obtain ⟨g1, g2⟩ := words_len s
    exact actR_ok (Scr.splitW s) (fun x hx => by have := g2 x hx; omega)
  · cases h1
section
variable {w : World}
set_option maxRecDepth 100000 in
set_option maxHeartbeats 16000000 in
theorem cLineP (a : Scr.Act) (dv av cv : Value) (hO : TextOk a) (hV : ActV w a dv av cv) (hE : Env w) : Calls Tryd.prog 15 #[.agg (actC a dv av cv)] w fun e w' => e = .returned (.tuple #[.string ⟨((lineS a).getD []).toArray⟩, .bool (lineS a).isSome]) ∧ Below w.heap.size w w' := by
  have hbx := (Sts.nil w).alloc stab0 (.cells (actC a dv av cv) 29)
  have HBX := hid hbx
  have HT := hid (show ∀ x, Below w.heap.size w x → Calls Tryd.prog 25 #[.agg (actC a dv av cv)] x fun e w' => e = .returned (.string ⟨(textV a).toArray⟩) ∧ Below x.heap.size x w' from fun x hx => cText (w := x) a dv av cv hO (hV.below hx) (hE.below hx))
  have htl : (⟨(textV a).toArray⟩ : ByteArray).size < 900000 := by show (textV a).toArray.size < _; simpa using hO.text
  have HP := hid (show ∀ x, Below w.heap.size w x → Calls Tryd.prog 8 #[.string ⟨(textV a).toArray⟩] x fun e w' => parseE x w' (parseV (textV a)) e from fun x hx => cParse (w := x) ⟨(textV a).toArray⟩ htl (hE.below hx))
  have hfw : ∀ b, parseV (textV a) = some b → b.args.length < 1000000 := fun b hb => (parse_few hO.text hb).few
  have HSA := hid (show ∀ x b dv' av' cv', Below w.heap.size w x → parseV (textV a) = some b → ActV x b dv' av' cv' → Calls Tryd.prog 26 #[.agg (actC a dv av cv), .agg (actC b dv' av' cv')] x fun e w' => e = .returned (.bool (decide (a = b))) ∧ Below x.heap.size x w' from fun x b dv' av' cv' hx hb hv => cSameP (w := x) a b dv av cv dv' av' cv' (hV.below hx) hv (by have := hO.few; omega) (hfw b hb))
  have hls : lineS a = if parseV (textV a) = some a then some (textV a) else none := rfl
  have hone := (oneC_slices hV).2
  obtain ⟨T, hT⟩ : ∃ T : ByteArray, T = ⟨(textV a).toArray⟩ := ⟨_, rfl⟩
  rw [← hT] at HT HP
  have HTE := hid hT
  obtain ⟨o, ho⟩ : ∃ o, o = parseV (textV a) := ⟨_, rfl⟩
  rw [← ho] at HP HSA hls
  obtain ⟨ls, hlse⟩ : ∃ ls, ls = lineS a := ⟨_, rfl⟩
  rw [← hlse] at hls ⊢
  obtain ⟨cs, hcs⟩ : ∃ cs, cs = actC a dv av cv := ⟨_, rfl⟩
  have hz12 : cs.size = 12 := by rw [hcs]; rfl
  rw [← hcs] at HBX HT HSA hone ⊢
  have HZ := hid hz12
  have HLS := hid hls
  clear hcs hz12 hlse ho hT htl hfw hO hV hE hls hbx hone
  cases o with
  | none =>
    have hl0 : ls = none := by rw [HLS.out, if_neg (by simp)]
    subst hl0
    go_enter Tryd.func15, Tryd.ntmps15
    go_wp2_with (first | (refine wpList_ld rfl (.tmp 1) 29 rfl rfl (.agg cs) (ldAct HZ.out HBX.out) ?_) | (go_at_call 25; refine (HT.out _ HBX.out.below).mono ?_; rintro e w1 ⟨rfl, hb⟩; have H1 := hid (HBX.out.quiet (stab1 (blkP_stable _ _)) hb); clear hb) | (go_at_call 8; refine (HP.out _ H1.out.below).mono ?_; rintro e w2 ⟨rfl, hb⟩; have HA := hid (fun cs => (H1.out.quiet (stab1 (blkP_stable _ _)) hb).alloc (stab1 (blkP_stable _ _)) (.cells cs 29)); clear hb) | (refine wpList_agg (HA.out _) (stab1 (blkP_stable _ _)) rfl (.tmp 5) (.tmp 12) 29 rfl (actC Scr.act0 (.slice none 0 0) (.slice none 0 0) (.slice none 0 0)) rfl rfl sizeAct rfl rfl ?_; intro w3 h3; have H3 := hid h3; clear h3 HA))
    all_goals (go_ret2; exact ⟨rfl, H3.out.below⟩)
  | some b =>
    obtain ⟨q, hq⟩ : ∃ q, q = decide (a = b) := ⟨_, rfl⟩
    have hl1 : ls = if q = true then some (textV a) else none := by
      rw [HLS.out, hq]
      by_cases h : a = b
      · subst h; simp
      · rw [if_neg (by intro e; injection e with e; exact h e.symm)]; simp [h]
    replace HSA := hid (show ∀ x dv' av' cv', Below w.heap.size w x → ActV x b dv' av' cv' → Calls Tryd.prog 26 #[.agg cs, .agg (actC b dv' av' cv')] x fun e w' => e = .returned (.bool q) ∧ Below x.heap.size x w' from fun x dv' av' cv' hx hv => by rw [hq]; exact HSA.out x b dv' av' cv' hx rfl hv)
    have HL := hid hl1
    clear hq hl1
    go_enter Tryd.func15, Tryd.ntmps15
    go_wp2_with (first | (refine wpList_ld rfl (.tmp 1) 29 rfl rfl (.agg cs) (ldAct HZ.out HBX.out) ?_) | (go_at_call 25; refine (HT.out _ HBX.out.below).mono ?_; rintro e w1 ⟨rfl, hb⟩; have H1 := hid (HBX.out.quiet (stab1 (blkP_stable _ _)) hb); clear hb) | (go_at_call 8; refine (HP.out _ H1.out.below).mono ?_; rintro e w2 ⟨dv2, av2, cv2, rfl, hS⟩; obtain ⟨-, q2⟩ := oneC_slices (Sts.actV (l := []) (by rw [List.append_nil]; exact hS)); have HONE2 := hid q2; have HC := hid (Sts.cat (stab1 (blkP_stable _ _)) H1.out hS); have HA2 := hid (fun cs => HC.out.alloc (stabApp2 (rowsA_stable _ _ _ _) (stab1 (blkP_stable _ _))) (.cells cs 29)); clear hS q2) | (refine wpList_agg (HA2.out _) (stabApp2 (rowsA_stable _ _ _ _) (stab1 (blkP_stable _ _))) rfl (.tmp 5) (.tmp 12) 29 rfl (actC b dv2 av2 cv2) rfl rfl sizeAct rfl HONE2.out ?_; intro w3 h3; have H3 := hid h3; have H3b := hid (show Sts w (blkP w.heap.size (.cells cs 29 (0, 0)) :: (blkP w2.heap.size (.cells (actC b dv2 av2 cv2) 29 (0, 0)) :: rowsA b dv2 av2 cv2)) w3 from h3.perm (List.perm_append_comm (l₁ := blkP w2.heap.size (.cells (actC b dv2 av2 cv2) 29 (0, 0)) :: rowsA b dv2 av2 cv2))); clear h3 HA2) | (refine wpList_ldG (by go_simp) (.tmp 1) 29 rfl rfl (.agg cs) (ldAct HZ.out H3b.out) ?_) | (refine wpList_ldG (by go_simp) (.tmp 5) 29 rfl rfl (.agg (actC b dv2 av2 cv2)) (ldAct rfl H3.out) ?_) | (go_at_call 26; refine (HSA.out _ dv2 av2 cv2 H3.out.below (Sts.actV H3.out.tail)).mono ?_; rintro e w4 ⟨rfl, hb⟩; have H4 := hid (below_step H3.out.below hb); clear hb; cases q))
    all_goals (go_ret2; exact ⟨by rw [HL.out]; first | rfl | (rw [HTE.out]; rfl), H4.out⟩)
/-- light. -/
def lightV (a : Scr.Act) : Bool := decide (a.name.length ≤ 100 ∧ a.data.length ≤ 600 ∧ a.cdata.length ≤ 600 ∧ a.args.length ≤ 12)
set_option maxRecDepth 100000 in
set_option maxHeartbeats 8000000 in
theorem cLight (a : Scr.Act) (dv av cv : Value) (hV : ActV w a dv av cv) : Calls Tryd.prog 14 #[.agg (actC a dv av cv)] w fun e w' => e = .returned (.bool (lightV a)) ∧ Below w.heap.size w w' := by
  obtain ⟨da, dc, rfl⟩ := hV.data.eq
  obtain ⟨aa, ac, rfl⟩ := hV.args.eq
  obtain ⟨qa, qc, rfl⟩ := hV.cdata.eq
  rw [u8v_len, intsV_len, u8v_len]
  have HB := hid ((Sts.nil w).alloc stab0 (.cells (actC a (.slice da a.data.length dc) (.slice aa a.args.length ac) (.slice qa a.cdata.length qc)) 29))
  have m := Sts.actM HB.out
  have c2 := m.c2
  have c3 := m.c3
  have c7 := m.c7
  have c8 := m.c8
  clear m
  obtain ⟨r, hr⟩ : ∃ r, r = lightV a := ⟨_, rfl⟩
  rw [← hr]
  unfold lightV at hr
  obtain ⟨M, hM⟩ : ∃ M : ByteArray, M = ⟨a.name.toArray⟩ := ⟨_, rfl⟩
  have hM2 : M.size = a.name.length := by rw [hM]; show a.name.toArray.size = _; simp
  rw [← hM] at c2
  rw [← hM2] at hr
  obtain ⟨X, hX⟩ : ∃ X, X = M.size := ⟨_, rfl⟩
  have hX2 := hX.symm
  rw [← hX] at hr
  obtain ⟨D, hD⟩ : ∃ D, D = a.data.length := ⟨_, rfl⟩
  obtain ⟨A, hA⟩ : ∃ A, A = a.args.length := ⟨_, rfl⟩
  obtain ⟨Q, hQ⟩ : ∃ Q, Q = a.cdata.length := ⟨_, rfl⟩
  rw [← hD, ← hA, ← hQ] at hr
  rw [← hD, ← hA, ← hQ] at HB c2 c3 c7 c8 ⊢
  obtain ⟨cs, hcs⟩ : ∃ cs, cs = actC a (.slice da D dc) (.slice aa A ac) (.slice qa Q qc) := ⟨_, rfl⟩
  rw [← hcs] at HB c2 c3 c7 c8 ⊢
  clear hcs hD hA hQ hM hM2 hX hV
  by_cases h1 : X ≤ 100
  case neg =>
    have hr0 : r = false := by rw [hr]; simp; omega
    have d1 : decide ((X : Int) ≤ 100) = false := decide_eq_false (by omega)
    subst hr0
    clear hr
    go_enter Tryd.func14, Tryd.ntmps14
    go_wp2_with fail
    all_goals (go_ret; exact ⟨rfl, HB.out.below⟩)
  have d1 : decide ((X : Int) ≤ 100) = true := decide_eq_true (by omega)
  by_cases h2 : D ≤ 600
  case neg =>
    have hr0 : r = false := by rw [hr]; simp; omega
    have e2 : decide ((D : Int) ≤ 600) = false := decide_eq_false (by omega)
    subst hr0
    clear hr
    go_enter Tryd.func14, Tryd.ntmps14
    go_wp2_with fail
    all_goals (go_ret; exact ⟨rfl, HB.out.below⟩)
  have e2 : decide ((D : Int) ≤ 600) = true := decide_eq_true (by omega)
  by_cases h3 : Q ≤ 600
  case neg =>
    have hr0 : r = false := by rw [hr]; simp; omega
    have e3 : decide ((Q : Int) ≤ 600) = false := decide_eq_false (by omega)
    subst hr0
    clear hr
    go_enter Tryd.func14, Tryd.ntmps14
    go_wp2_with fail
    all_goals (go_ret; exact ⟨rfl, HB.out.below⟩)
  have e3 : decide ((Q : Int) ≤ 600) = true := decide_eq_true (by omega)
  by_cases h4 : A ≤ 12
  case neg =>
    have hr0 : r = false := by rw [hr]; simp; omega
    have e4 : decide ((A : Int) ≤ 12) = false := decide_eq_false (by omega)
    subst hr0
    clear hr
    go_enter Tryd.func14, Tryd.ntmps14
    go_wp2_with fail
    all_goals (go_ret; exact ⟨rfl, HB.out.below⟩)
  have e4 : decide ((A : Int) ≤ 12) = true := decide_eq_true (by omega)
  have hr0 : r = true := by rw [hr]; simp; omega
  subst hr0
  clear hr
  go_enter Tryd.func14, Tryd.ntmps14
  go_wp2_with fail
  all_goals (go_ret; exact ⟨rfl, HB.out.below⟩)
theorem joinW_len : ∀ (l : List Str) (B : Nat), (∀ x ∈ l, x.length ≤ B) → (joinW l).length ≤ l.length * (B + 1)
  | [], B, _ => by simp [joinW]
  | [x], B, h => by have := h x (by simp); simp [joinW]; omega
  | x :: y :: r, B, h => by
    have h1 := h x (by simp)
    have h2 := joinW_len (y :: r) B (fun z hz => h z (List.mem_cons_of_mem _ hz))
    rw [Scr.joinW_cons x (by simp), List.length_append, List.length_cons, List.length_cons, Nat.succ_mul]
    omega
theorem svcN_len (k : Int) : (svcN k).length ≤ 20 := by
  by_cases h : 1 ≤ k ∧ k ≤ 28
  · have : ∀ i : Fin 28, (svcN ((i.val : Int) + 1)).length ≤ 20 := by decide +kernel
    have e := this ⟨(k - 1).toNat, by omega⟩
    simp only at e
    rw [show (((k - 1).toNat : Nat) : Int) + 1 = k by omega] at e
    exact e
  · have hl : (Scr.svcs.length : Int) = 28 := rfl
    have : svcN k = [] := by unfold svcN Scr.nth; rw [if_neg (by omega)]
    rw [this]; simp
theorem fltN_len (k : Int) : (fltN k).length ≤ 20 := by
  by_cases h : 1 ≤ k ∧ k ≤ 7
  · have : ∀ i : Fin 7, (fltN ((i.val : Int) + 1)).length ≤ 20 := by decide +kernel
    have e := this ⟨(k - 1).toNat, by omega⟩
    simp only at e
    rw [show (((k - 1).toNat : Nat) : Int) + 1 = k by omega] at e
    exact e
  · have hl : (Scr.flts.length : Int) = 7 := rfl
    have : fltN k = [] := by unfold fltN Scr.nth; rw [if_neg (by omega)]
    rw [this]; simp
/-- An act's integers. -/
structure ActI (a : Scr.Act) : Prop where
  num : i64 a.num
  fat : i64 a.fat
  fbit : i64 a.fbit
  args : ∀ n ∈ a.args, i64 n
theorem b8_len : (b8 "tick").length ≤ 20 ∧ (b8 "hold").length ≤ 20 ∧ (b8 "command").length ≤ 20 ∧ (b8 "file").length ≤ 20 ∧ (b8 "fault").length ≤ 20 := by decide +kernel
theorem text_len {a : Scr.Act} (hI : ActI a) {n d q t : Nat} (h1 : a.name.length ≤ n) (h2 : a.data.length ≤ d) (h3 : a.cdata.length ≤ q) (h4 : a.args.length ≤ t) : (textV a).length ≤ (t + 5) * (22 + n + 2 * d + 2 * q + 1) := by
  obtain ⟨t1, t2, t3, t4, t5⟩ := b8_len
  have hx : ∀ b : List UInt8, (hexV b).length = 1 + 2 * b.length := fun b => by simp [hexV, Scr.hexB_len]; omega
  have hb : ∀ x ∈ textL a, x.length ≤ 22 + n + 2 * d + 2 * q := by
    intro x hx0
    have in1 := itoa_len hI.num
    have in2 := itoa_len hI.fat
    have in3 := itoa_len hI.fbit
    have in4 := svcN_len a.svc
    have in5 := fltN_len a.fk
    have in6 := hx a.data
    have in7 := hx a.cdata
    unfold textL at hx0
    split at hx0
    · simp only [List.mem_cons, List.not_mem_nil, or_false] at hx0
      rcases hx0 with rfl | rfl <;> omega
    split at hx0
    · simp only [List.mem_cons, List.not_mem_nil, or_false] at hx0
      rcases hx0 with rfl | rfl <;> omega
    split at hx0
    · simp only [List.mem_cons, List.mem_append, List.mem_map] at hx0
      rcases hx0 with rfl | rfl | ⟨m, hm, rfl⟩ | h
      · omega
      · omega
      · have := itoa_len (hI.args m hm); omega
      · split at h
        · cases h
        · rw [List.mem_singleton] at h; subst h; omega
    split at hx0
    · simp only [List.mem_cons, List.not_mem_nil, or_false] at hx0
      rcases hx0 with rfl | rfl | rfl | rfl <;> omega
    split at hx0
    · split at hx0
      · simp only [List.mem_cons, List.not_mem_nil, or_false] at hx0
        rcases hx0 with rfl | rfl | rfl | rfl <;> omega
      · cases hx0
    · cases hx0
  have hl : (textL a).length ≤ t + 5 := by
    unfold textL
    split
    · simp
    split
    · simp
    split
    · split <;> simp <;> omega
    split
    · simp
    split
    · split <;> simp
    · simp
  exact Nat.le_trans (joinW_len _ _ hb) (Nat.mul_le_mul_right _ hl)
theorem light_ok {a : Scr.Act} (hI : ActI a) (hl : lightV a = true) : TextOk a ∧ LineOk a := by
  simp only [lightV, decide_eq_true_eq] at hl
  obtain ⟨h1, h2, h3, h4⟩ := hl
  have ht := text_len hI h1 h2 h3 h4
  exact ⟨⟨hI.num, hI.fat, hI.fbit, hI.args, by omega, by omega, by omega, by omega, by omega⟩, ⟨hI.num, hI.fat, hI.fbit, hI.args, by omega, by omega, by omega, by omega⟩⟩
set_option maxRecDepth 100000 in
set_option maxHeartbeats 16000000 in
theorem linesLaw (a : Scr.Act) (dv av cv : Value) (hV : ActV w a dv av cv) (hI : ActI a) (hE : Env w) : Calls Tryd.prog 5 #[.agg (actC a dv av cv)] w fun e w' => e = .returned (.bool true) ∧ Below w.heap.size w w' := by
  have HBX := hid ((Sts.nil w).alloc stab0 (.cells (actC a dv av cv) 29))
  have HLI := hid (show ∀ x, Below w.heap.size w x → Calls Tryd.prog 14 #[.agg (actC a dv av cv)] x fun e w' => e = .returned (.bool (lightV a)) ∧ Below x.heap.size x w' from fun x hx => cLight (w := x) a dv av cv (hV.below hx))
  obtain ⟨lt, hlt⟩ : ∃ lt, lt = lightV a := ⟨_, rfl⟩
  rw [← hlt] at HLI
  cases lt with
  | false =>
    clear hlt hV hI hE
    obtain ⟨cs, hcs⟩ : ∃ cs, cs = actC a dv av cv := ⟨_, rfl⟩
    have HZ := hid (show cs.size = 12 from by rw [hcs]; rfl)
    rw [← hcs] at HBX HLI ⊢
    clear hcs
    go_enter Tryd.func5, Tryd.ntmps5
    go_wp2_with (first | (refine wpList_ld rfl (.tmp 1) 29 rfl rfl (.agg cs) (ldAct HZ.out HBX.out) ?_) | (go_at_call 14; refine (HLI.out _ HBX.out.below).mono ?_; rintro e w1 ⟨rfl, hb⟩; have H1 := hid (below_step HBX.out.below hb); clear hb))
    all_goals (go_ret; exact ⟨rfl, H1.out⟩)
  | true =>
    obtain ⟨hO, hO2⟩ := light_ok hI hlt.symm
    have HP := hid (show ∀ x, Below w.heap.size w x → Calls Tryd.prog 15 #[.agg (actC a dv av cv)] x fun e w' => e = .returned (.tuple #[.string ⟨((lineV a).getD []).toArray⟩, .bool (lineV a).isSome]) ∧ Below x.heap.size x w' from fun x hx => by
      rw [← Scr.lineS_eq]; exact cLineP (w := x) a dv av cv hO (hV.below hx) (hE.below hx))
    have HR := hid (show ∀ x, Below w.heap.size w x → Calls Tryd.prog 16 #[.agg (actC a dv av cv)] x fun e w' => lineE x w' (lineV a) e from fun x hx => cLineR (w := x) a dv av cv hO2 (hV.below hx))
    have HAW := hid (fun x (hx : Below w.heap.size w x) => cAwake (w := x) (hE.below hx))
    obtain ⟨cs, hcs⟩ : ∃ cs, cs = actC a dv av cv := ⟨_, rfl⟩
    have HZ := hid (show cs.size = 12 from by rw [hcs]; rfl)
    rw [← hcs] at HBX HLI HP HR ⊢
    obtain ⟨o, ho⟩ : ∃ o, o = lineV a := ⟨_, rfl⟩
    rw [← ho] at HP HR
    unfold lineE at HR
    clear hcs hlt hV hI hE hO hO2 ho
    cases o with
    | none =>
      go_enter Tryd.func5, Tryd.ntmps5
      go_wp2_with (first | (refine wpList_ld rfl (.tmp 1) 29 rfl rfl (.agg cs) (ldAct HZ.out HBX.out) ?_) | (go_at_call 14; refine (HLI.out _ HBX.out.below).mono ?_; rintro e w1 ⟨rfl, hb⟩; have H1 := hid (HBX.out.quiet (stab1 (blkP_stable _ _)) hb); clear hb) | (refine wpList_ld rfl (.tmp 1) 29 rfl rfl (.agg cs) (ldAct HZ.out H1.out) ?_) | (go_at_call 15; refine (HP.out _ H1.out.below).mono ?_; rintro e w2 ⟨rfl, hb⟩; have H2 := hid (H1.out.quiet (stab1 (blkP_stable _ _)) hb); clear hb) | (refine wpList_ld rfl (.tmp 1) 29 rfl rfl (.agg cs) (ldAct HZ.out H2.out) ?_) | (go_at_call 16; refine (HR.out _ H2.out.below).mono ?_; rintro e w3 ⟨⟨X, rfl, hX⟩, hb⟩; have H3 := hid (below_step H2.out.below hb); clear hb hX) | (go_at_call 11; refine (HAW.out _ H3.out).mono ?_; rintro e w6 ⟨rfl, hb⟩; have H6 := hid (below_step H3.out hb); clear hb))
      all_goals (go_ret; exact ⟨rfl, H6.out⟩)
    | some t =>
      go_enter Tryd.func5, Tryd.ntmps5
      go_wp2_with (first | (refine wpList_ld rfl (.tmp 1) 29 rfl rfl (.agg cs) (ldAct HZ.out HBX.out) ?_) | (go_at_call 14; refine (HLI.out _ HBX.out.below).mono ?_; rintro e w1 ⟨rfl, hb⟩; have H1 := hid (HBX.out.quiet (stab1 (blkP_stable _ _)) hb); clear hb) | (refine wpList_ld rfl (.tmp 1) 29 rfl rfl (.agg cs) (ldAct HZ.out H1.out) ?_) | (go_at_call 15; refine (HP.out _ H1.out.below).mono ?_; rintro e w2 ⟨rfl, hb⟩; have H2 := hid (H1.out.quiet (stab1 (blkP_stable _ _)) hb); clear hb) | (refine wpList_ld rfl (.tmp 1) 29 rfl rfl (.agg cs) (ldAct HZ.out H2.out) ?_) | (go_at_call 16; refine (HR.out _ H2.out.below).mono ?_; rintro e w3 ⟨⟨X, rfl, hX⟩, hb⟩; have H3 := hid (below_step H2.out.below hb); obtain rfl : X = ⟨t.toArray⟩ := (by rw [← Scr.mk_bs X, hX t rfl]); clear hb hX) | (go_at_call 11; refine (HAW.out _ H3.out).mono ?_; rintro e w6 ⟨rfl, hb⟩; have H6 := hid (below_step H3.out hb); clear hb))
      all_goals (go_ret; exact ⟨rfl, H6.out⟩)
end
end Go.Proofs.YtimnhheagdhpgaaDoor
