/- The specification's Parse. -/
import Derived.Test.YtimnhheagdhpgaaDoorScsO
set_option linter.unusedVariables false
set_option linter.unusedSimpArgs false
namespace Go.Proofs.YtimnhheagdhpgaaDoor
open Go.RowKit Go.Proofs.Num
open Scr (Str bs numV numsV small svcV fltV nameV bytesV oneV fileV faultV orderV tailV flts parseL parseV b8 textV textL svcs svcN fltN ixOf valC digR pairR bytesR rnum magR splitW hexC hexB hexV lineV lineL joinW actR argsR at' parseR)
theorem pairR_len : ∀ l : Str, (pairR l).length ≤ l.length
  | [] => by simp [pairR]
  | [x] => by simp [pairR]
  | x :: y :: r => by have := pairR_len r; simp only [pairR, List.length_cons]; omega
theorem bytesR_len (l : Str) : (bytesR l).length ≤ l.length := by
  unfold bytesR
  have := pairR_len (l.drop 1)
  rw [List.length_drop] at this
  omega
theorem rnum_i64 (l : Str) : i64 (rnum l) := by
  obtain ⟨h0, h1⟩ := magR_bound l 15
  have e : (10 : Int) ^ 15 = 1000000000000000 := by decide
  rw [e] at h1
  unfold rnum i64
  split <;> omega
structure ArgOk (B k : Nat) (a : Scr.Act) : Prop where
  args : ∀ n ∈ a.args, i64 n
  few : a.args.length ≤ k
  cdata : a.cdata.length ≤ B
theorem argsR_ok {B : Nat} : ∀ (l : List Str) (k : Nat) (a : Scr.Act), (∀ w ∈ l, w.length ≤ B) → ArgOk B k a → ArgOk B (k + l.length) (argsR l a)
  | [], k, a, _, h => h
  | w :: l, k, a, hw, h => by
    simp only [argsR, List.length_cons]
    rw [show k + (l.length + 1) = (k + 1) + l.length by omega]
    apply argsR_ok l (k + 1) _ (fun x hx => hw x (List.mem_cons_of_mem _ hx))
    split
    · exact ⟨h.args, Nat.le_succ_of_le h.few, h.cdata⟩
    · split
      · exact ⟨h.args, Nat.le_succ_of_le h.few, Nat.le_trans (bytesR_len w) (hw w (List.mem_cons_self ..))⟩
      · refine ⟨?_, by simp; exact h.few, h.cdata⟩
        intro n hn
        simp only at hn
        rcases List.mem_append.1 hn with hn | hn
        · exact h.args n hn
        · rw [List.mem_singleton] at hn; subst hn; exact rnum_i64 w
theorem i64_0 : i64 0 := by unfold i64; omega
theorem argsR_num : ∀ (l : List Str) (a : Scr.Act), (argsR l a).num = a.num ∧ (argsR l a).fat = a.fat ∧ (argsR l a).fbit = a.fbit ∧ (argsR l a).name = a.name ∧ (argsR l a).data = a.data
  | [], a => ⟨rfl, rfl, rfl, rfl, rfl⟩
  | w :: l, a => by
    simp only [argsR]
    obtain ⟨h1, h2, h3, h4, h5⟩ := argsR_num l (if w = [] then a else if w.head? = some 120 then { a with cdata := bytesR w } else { a with args := a.args ++ [rnum w] })
    rw [h1, h2, h3, h4, h5]
    split
    · exact ⟨rfl, rfl, rfl, rfl, rfl⟩
    · split <;> exact ⟨rfl, rfl, rfl, rfl, rfl⟩
theorem z6 : (0 : Nat) < 1000000 := by decide
theorem z8 : (0 : Nat) < 100000000 := by decide
theorem actR_ok (l : List Str) (hw : ∀ w ∈ l, w.length < 1000000) : LineOk (actR l) := by
  have ha : ∀ k, (at' l k).length < 1000000 := fun k => by
    unfold at'
    rw [List.getD_eq_getElem?_getD]
    cases h : l[k]? with
    | none => simp
    | some x => exact hw x (List.mem_of_getElem? h)
  have hb : ∀ k, (bytesR (at' l k)).length < 100000000 := fun k => by have := bytesR_len (at' l k); have := ha k; omega
  have nil : ∀ n ∈ ([] : List Int), i64 n := by simp
  unfold actR
  simp only
  split
  · exact ⟨rnum_i64 _, i64_0, i64_0, nil, z6, z6, z8, z8⟩
  split
  · obtain ⟨h1, h2, h3, h4, h5⟩ := argsR_num ((l.drop 2).take 10) { Scr.act0 with kind := 2, svc := svcV (at' l 1) }
    have h := argsR_ok (B := 1000000) ((l.drop 2).take 10) 0 { Scr.act0 with kind := 2, svc := svcV (at' l 1) } (fun w hm => by have := hw w (List.mem_of_mem_drop (List.mem_of_mem_take hm)); omega) ⟨nil, Nat.le_refl 0, Nat.zero_le _⟩
    have hl : ((l.drop 2).take 10).length ≤ 10 := by rw [List.length_take]; omega
    exact ⟨by rw [h1]; exact i64_0, by rw [h2]; exact i64_0, by rw [h3]; exact i64_0, h.args, Nat.lt_of_le_of_lt h.few (by omega), by rw [h4]; exact z6, by rw [h5]; exact z8, Nat.lt_of_le_of_lt h.cdata (by decide)⟩
  split
  · exact ⟨rnum_i64 _, i64_0, i64_0, nil, z6, ha 2, hb 3, z8⟩
  split
  · exact ⟨i64_0, rnum_i64 _, rnum_i64 _, nil, z6, z6, z8, z8⟩
  · exact ⟨rnum_i64 _, i64_0, i64_0, nil, z6, z6, z8, z8⟩
def parseRE (w w' : World) (o : Option Scr.Act) (e : Ending) : Prop := match o with
  | some a => ∃ dv av cv, e = .returned (.tuple #[.agg (actC a dv av cv), .bool true]) ∧ Sts w (rowsA a dv av cv) w'
  | none => e = .returned (.tuple #[.agg (actC Scr.act0 (.slice none 0 0) (.slice none 0 0) (.slice none 0 0)), .bool false]) ∧ Below w.heap.size w w'
section
variable {w : World}
set_option maxRecDepth 100000 in
set_option maxHeartbeats 16000000 in
theorem cParseR (S : ByteArray) (hs : S.size < 900000) : Calls Tryd.prog 9 #[.string S] w fun e w' => parseRE w w' (parseV (bs S)) e := by
  rw [← Scr.parseR_eq]
  have hz := hid (show ∀ cs, Sts w [blkP w.heap.size (.cells cs 29 (0, 0))] (w.alloc (.cells cs 29)) from fun cs => (Sts.nil w).alloc stab0 _)
  obtain ⟨g1, g2⟩ := words_len (bs S)
  rw [← Scr.bs_size] at g1 g2
  have HW := hid (fun v : World => cWordsR (w := v) S (by omega))
  have hne := Scr.splitW_ne (bs S)
  obtain ⟨res, hres⟩ : ∃ res, res = parseR (bs S) := ⟨_, rfl⟩
  rw [← hres]
  unfold parseR at hres
  have HAC := hid (show ∀ ad c v, Rd v (.slice (some ad) (strsV (splitW (bs S))).length c) (strsV (splitW (bs S))) → Calls Tryd.prog 21 #[.slice (some ad) (strsV (splitW (bs S))).length c] v fun e w' => actD v w' (actR (splitW (bs S))) e from fun ad c v hr => cActR (w := v) ad c (splitW (bs S)) (by cases h : splitW (bs S) with
    | nil => exact absurd h hne
    | cons x r => simp) (by omega) (fun x hx => by have := g2 x hx; omega) hr)
  have hok := actR_ok (splitW (bs S)) (fun x hx => by have := g2 x hx; omega)
  obtain ⟨a, ha⟩ : ∃ a, a = actR (splitW (bs S)) := ⟨_, rfl⟩
  have hlen : 0 < (strsV (splitW (bs S))).length := by
    rw [strsV_len]
    cases h : splitW (bs S) with
    | nil => exact absurd h hne
    | cons x r => simp
  rw [← ha] at HAC hok hres
  obtain ⟨xs, hxs⟩ : ∃ xs, xs = strsV (splitW (bs S)) := ⟨_, rfl⟩
  rw [← hxs] at HW HAC hlen
  have HLI := hid (show ∀ dv av cv v, ActV v a dv av cv → Calls Tryd.prog 16 #[.agg (actC a dv av cv)] v fun e w' => lineE v w' (lineV a) e from fun dv av cv v hv => cLineR (w := v) a dv av cv hok hv)
  have HLEN := hid hlen
  clear hxs ha hok hlen hne g1 g2 hs
  obtain ⟨o, ho⟩ : ∃ o, o = lineV a := ⟨_, rfl⟩
  rw [← ho] at HLI hres
  clear ho
  obtain ⟨t, ht⟩ : ∃ t, t = bs S := ⟨_, rfl⟩
  have HT := hid ht
  rw [← ht] at hres
  clear ht
  have HRES := hid hres
  clear hres
  unfold actD at HAC
  unfold lineE at HLI
  rcases (show o = none ∨ (∃ u, o = some u ∧ u ≠ t) ∨ o = some t from by
    cases o with
    | none => exact Or.inl rfl
    | some u => by_cases h : u = t
                · exact Or.inr (Or.inr (by rw [h]))
                · exact Or.inr (Or.inl ⟨u, rfl, h⟩)) with rfl | ⟨u, rfl, hu⟩ | rfl
  · have HR := hid (show res = none from by rw [HRES.out, if_neg (by simp)])
    go_enter Tryd.func9, Tryd.ntmps9
    go_wp2_with (first | (go_at_call 22; refine (HW.out _).mono ?_; rintro e w1 ⟨v, rfl, hn⟩; obtain ⟨g, cap, hv⟩ := newOpenR hn HLEN.out; subst hv; have HQ := hid (Sts.new (stab1 (blkP_stable _ _)) (hz.out _) hn); have HRW := hid hn.rd; clear hn) | (go_at_call 21; refine (HAC.out _ _ _ HRW.out).mono ?_; rintro e w2 ⟨dv, av, cv, rfl, hS⟩; obtain ⟨q1, q2⟩ := oneC_slices (Sts.actV (l := []) (by rw [List.append_nil]; exact hS)); have HONE := hid q2; have HQ2 := hid ((Sts.cat (stab1 (blkP_stable _ _)) HQ.out.tail hS).perm List.perm_append_comm); have HA := hid (fun cs => HQ2.out.alloc (stabC (blkP_stable _ _) (rowsA_stable _ _ _ _)) (.cells cs 29)); clear hS q1 q2) | (refine wpList_agg (HA.out _) (stabC (blkP_stable _ _) (rowsA_stable _ _ _ _)) rfl (.tmp 4) (.tmp 9) 29 rfl (actC a dv av cv) rfl rfl sizeAct rfl HONE.out ?_; intro w3 h3; have H3 := hid h3; have HAV := hid (Sts.actV (Sts.tail (Sts.tail h3) |> (fun h => (show Sts w (rowsA a dv av cv ++ []) w3 from by rw [List.append_nil]; exact h)))); clear h3 HA) | (refine wpList_ld rfl (.tmp 4) 29 rfl rfl (.agg (actC a dv av cv)) (ldAct rfl H3.out) ?_) | (go_at_call 16; refine (HLI.out dv av cv _ HAV.out).mono ?_; rintro e w4 ⟨⟨X, rfl, hX⟩, hb⟩; have H4 := hid (H3.out.quiet (stabC (blkP_stable _ _) (stabC (blkP_stable _ _) (rowsA_stable _ _ _ _))) hb); clear hb hX) | (refine wpList_agg H4.out.swap (stabC (blkP_stable _ _) (rowsA_stable _ _ _ _)) rfl (.tmp 2) (.tmp 22) 29 rfl (actC Scr.act0 (.slice none 0 0) (.slice none 0 0) (.slice none 0 0)) rfl rfl sizeAct rfl rfl ?_; intro w5 h5; have HF := hid h5; clear h5))
    refine post_cell2 HF.out Tryd.results9 rfl rfl (ldAct rfl HF.out) _ rfl ?_
    rw [HR.out]
    exact ⟨rfl, HF.out.below⟩
  · have HR := hid (show res = none from by rw [HRES.out, if_neg (by intro e; injection e with e; exact hu e)])
    have HU := hid hu
    clear hu
    go_enter Tryd.func9, Tryd.ntmps9
    go_wp2_with (first | (go_at_call 22; refine (HW.out _).mono ?_; rintro e w1 ⟨v, rfl, hn⟩; obtain ⟨g, cap, hv⟩ := newOpenR hn HLEN.out; subst hv; have HQ := hid (Sts.new (stab1 (blkP_stable _ _)) (hz.out _) hn); have HRW := hid hn.rd; clear hn) | (go_at_call 21; refine (HAC.out _ _ _ HRW.out).mono ?_; rintro e w2 ⟨dv, av, cv, rfl, hS⟩; obtain ⟨q1, q2⟩ := oneC_slices (Sts.actV (l := []) (by rw [List.append_nil]; exact hS)); have HONE := hid q2; have HQ2 := hid ((Sts.cat (stab1 (blkP_stable _ _)) HQ.out.tail hS).perm List.perm_append_comm); have HA := hid (fun cs => HQ2.out.alloc (stabC (blkP_stable _ _) (rowsA_stable _ _ _ _)) (.cells cs 29)); clear hS q1 q2) | (refine wpList_agg (HA.out _) (stabC (blkP_stable _ _) (rowsA_stable _ _ _ _)) rfl (.tmp 4) (.tmp 9) 29 rfl (actC a dv av cv) rfl rfl sizeAct rfl HONE.out ?_; intro w3 h3; have H3 := hid h3; have HAV := hid (Sts.actV (Sts.tail (Sts.tail h3) |> (fun h => (show Sts w (rowsA a dv av cv ++ []) w3 from by rw [List.append_nil]; exact h)))); clear h3 HA) | (refine wpList_ld rfl (.tmp 4) 29 rfl rfl (.agg (actC a dv av cv)) (ldAct rfl H3.out) ?_) | (go_at_call 16; refine (HLI.out dv av cv _ HAV.out).mono ?_; rintro e w4 ⟨⟨X, rfl, hX⟩, hb⟩; have H4 := hid (H3.out.quiet (stabC (blkP_stable _ _) (stabC (blkP_stable _ _) (rowsA_stable _ _ _ _))) hb); have hq : (X.toList == S.toList) = false := (by rw [ByteArray.toList_eq, ByteArray.toList_eq]; simp only [beq_eq_false_iff_ne]; intro e; exact HU.out (by rw [HT.out, ← hX u rfl]; exact e)); clear hb hX) | (refine wpList_agg H4.out.swap (stabC (blkP_stable _ _) (rowsA_stable _ _ _ _)) rfl (.tmp 2) (.tmp 22) 29 rfl (actC Scr.act0 (.slice none 0 0) (.slice none 0 0) (.slice none 0 0)) rfl rfl sizeAct rfl rfl ?_; intro w5 h5; have HF := hid h5; clear h5))
    refine post_cell2 HF.out Tryd.results9 rfl rfl (ldAct rfl HF.out) _ rfl ?_
    rw [HR.out]
    exact ⟨rfl, HF.out.below⟩
  · have HR := hid (show res = some a from by rw [HRES.out, if_pos rfl])
    go_enter Tryd.func9, Tryd.ntmps9
    go_wp2_with (first | (go_at_call 22; refine (HW.out _).mono ?_; rintro e w1 ⟨v, rfl, hn⟩; obtain ⟨g, cap, hv⟩ := newOpenR hn HLEN.out; subst hv; have HQ := hid (Sts.new (stab1 (blkP_stable _ _)) (hz.out _) hn); have HRW := hid hn.rd; clear hn) | (go_at_call 21; refine (HAC.out _ _ _ HRW.out).mono ?_; rintro e w2 ⟨dv, av, cv, rfl, hS⟩; obtain ⟨q1, q2⟩ := oneC_slices (Sts.actV (l := []) (by rw [List.append_nil]; exact hS)); have HONE := hid q2; have HQ2 := hid ((Sts.cat (stab1 (blkP_stable _ _)) HQ.out.tail hS).perm List.perm_append_comm); have HA := hid (fun cs => HQ2.out.alloc (stabC (blkP_stable _ _) (rowsA_stable _ _ _ _)) (.cells cs 29)); clear hS q1 q2) | (refine wpList_agg (HA.out _) (stabC (blkP_stable _ _) (rowsA_stable _ _ _ _)) rfl (.tmp 4) (.tmp 9) 29 rfl (actC a dv av cv) rfl rfl sizeAct rfl HONE.out ?_; intro w3 h3; have H3 := hid h3; have HAV := hid (Sts.actV (Sts.tail (Sts.tail h3) |> (fun h => (show Sts w (rowsA a dv av cv ++ []) w3 from by rw [List.append_nil]; exact h)))); clear h3 HA) | (refine wpList_ld rfl (.tmp 4) 29 rfl rfl (.agg (actC a dv av cv)) (ldAct rfl H3.out) ?_) | (go_at_call 16; refine (HLI.out dv av cv _ HAV.out).mono ?_; rintro e w4 ⟨⟨X, rfl, hX⟩, hb⟩; have H4 := hid (H3.out.quiet (stabC (blkP_stable _ _) (stabC (blkP_stable _ _) (rowsA_stable _ _ _ _))) hb); have hq : (X.toList == S.toList) = true := (by rw [ByteArray.toList_eq, ByteArray.toList_eq]; simp only [beq_iff_eq]; have e := hX t rfl; rw [HT.out] at e; exact e); clear hb hX) | (refine wpList_ld rfl (.tmp 4) 29 rfl rfl (.agg (actC a dv av cv)) (ldAct rfl H4.out) ?_) | (refine wpList_agg H4.out.swap (stabC (blkP_stable _ _) (rowsA_stable _ _ _ _)) rfl (.tmp 2) (.tmp 23) 29 rfl (actC a dv av cv) rfl rfl sizeAct rfl HONE.out ?_; intro w5 h5; have HF := hid h5; clear h5))
    refine post_cell2 HF.out Tryd.results9 rfl rfl (ldAct rfl HF.out) _ rfl ?_
    rw [HR.out]
    exact ⟨_, _, _, rfl, HF.out.tail.tail⟩
end
end Go.Proofs.YtimnhheagdhpgaaDoor
