/- script.Lines: the walk. -/
import Derived.Test.YtimnhheagdhpgaaDoorScsR
set_option linter.unusedVariables false
set_option linter.unusedSimpArgs false
namespace Go.Proofs.YtimnhheagdhpgaaDoor
open Go.RowKit Go.Proofs.Num
open Scr (Str bs parseV cutN linesF linesV)
theorem fold12 (x : Scr.Act) (d a c : Value) : Array.foldl (fun (cs : Array Value) (x : Value × Nat) => cs.setIfInBounds x.snd x.fst) #[Value.int IntKind.i64 0, Value.int IntKind.i64 0, Value.string { data := #[] }, Value.slice none 0 0, Value.int IntKind.i64 0, Value.int IntKind.i64 0, Value.int IntKind.i64 0, Value.slice none 0 0, Value.slice none 0 0, Value.int IntKind.i64 0, Value.int IntKind.i64 0, Value.int IntKind.i64 0] (actC x d a c).zipIdx 0 (actC x d a c).size = actC x d a c := by
  simp [actC, List.zipIdx, List.set]
section
variable {w : World}
set_option maxRecDepth 100000 in
set_option maxHeartbeats 300000 in
theorem cLines (s : Str) (hs : s.length < 900000) (hE : Env w) : Calls Tryd.prog 12 #[.string ⟨s.toArray⟩] w fun e w' => linesE w w' (linesV s) e := by
  obtain ⟨res, hres⟩ : ∃ res, res = linesV s := ⟨_, rfl⟩
  rw [← hres]
  have HI0 := hid (show LInv s 1 [] res from hres.symm)
  have HE := hid hE
  obtain ⟨M, hM⟩ : ∃ M, M = s.length := ⟨_, rfl⟩
  have HM := hid (show s.length + 1 ≤ M + 1 by omega)
  rw [← hM] at hs
  have HP := hid (fun (x : World) (hx : Env x) (r : Str) (hr : r.length < 900000) => cParse (w := x) ⟨r.toArray⟩ (by show r.toArray.size < _; simpa using hr) hx)
  have HS0 := hid (Sts.rowNilQ 29 12 (Sts.nil w))
  clear hres hE hM
  go_enter Tryd.func12, Tryd.ntmps12
  go_wp2_with fail
  go_loopw [0, 4, 5] (fun sv v i wr => ∃ (r : Str) (k : Nat) (l : List A4), sv = .string ⟨r.toArray⟩ ∧ i = .int .i64 k ∧ k ≤ M + 1 ∧ l.length < 900000 ∧ Hid (r.length + k ≤ M + 1 ∧ l.length + 1 = k) ∧ Hid (LInv r k l res) ∧ Hid (Sts w (rowP 29 12 v l.length (cellsL l) :: rowsLs l) wr)) (fun _ _ i _ => M + 2 - (intOf i).toNat)
  case atStart => exact ⟨s, 1, [], rfl, rfl, by omega, by simp, hid ⟨HM.out, rfl⟩, hid HI0.out, hid HS0.out⟩
  case round =>
    obtain ⟨r, k, l, rfl, rfl, hk, hl, HK, HI, HS⟩ := hrel
    cases r with
    | nil =>
      have hd := HI.out.done
      clear HI HI0
      subst hd
      go_wp2_with fail
      all_goals (go_ret2; exact ⟨u4, l, rfl, rfl, HS.out⟩)
    | cons c t =>
      have hne : c :: t ≠ [] := List.cons_ne_nil _ _
      have hrl : (c :: t).length < 900000 := by have := HK.out.1; have := HK.out.2; omega
      have hEr := HE.out.below HS.out.below
      have HC := hid (cCut (c :: t) (by omega) hEr)
      rw [cut_nl] at HC
      have hst := stabC (rowP_stable 29 12 u4 l.length (cellsL l)) (rowsLs_stable l)
      have HST := hid hst
      clear hst
      cases hc : cutN (c :: t) with
      | none =>
        rw [hc] at HC
        have hres := HI.out.none hne hc
        have hpp := HP.out
        cases hp : parseV (c :: t) with
        | none =>
          have HPB := hid (fun x hx => HP.out x hx (c :: t) hrl)
          rw [show bs ⟨(c :: t).toArray⟩ = c :: t from rfl, hp] at HPB
          clear HP hp hc hpp
          subst hres
          clear HI HI0
          go_wp2_with (first | (go_at_call 24; refine HC.out.mono ?_; rintro e w1 ⟨rfl, hb⟩; have HS1 := hid (HS.out.quiet HST.out hb); clear hb HC) | (go_at_call 8; refine (HPB.out _ (HE.out.below HS1.out.below)).mono ?_; rintro e w2 ⟨rfl, hb⟩; have HA := hid (fun cs => (HS1.out.quiet HST.out hb).alloc HST.out (.cells cs 29)); have HN := hid (HS1.out.below.trans (hb.mono HS1.out.below.size)); clear hb HPB) | (refine wpList_agg (HA.out _) HST.out rfl (.tmp 9) (.tmp 24) 29 rfl (actC Scr.act0 (.slice none 0 0) (.slice none 0 0) (.slice none 0 0)) rfl rfl sizeAct rfl rfl ?_; intro w3 h3; have H3 := hid h3; clear h3 HA))
          all_goals (go_ret2; exact ⟨_, [], rfl, rfl, Sts.rowNilQ _ _ (Sts.nil_below H3.out.below)⟩)
        | some x =>
          have HPG := hid (fun x hx => HP.out x hx (c :: t) hrl)
          rw [show bs ⟨(c :: t).toArray⟩ = c :: t from rfl, hp] at HPG
          clear HP hp hc hpp
          subst hres
          clear HI HI0
          go_wp2_with (first | (go_at_call 24; refine HC.out.mono ?_; rintro e w1 ⟨rfl, hb⟩; have HS1 := hid (HS.out.quiet HST.out hb); clear hb HC) | (go_at_call 8; (refine (HPG.out _ (HE.out.below HS1.out.below)).mono ?_; rintro e w2 ⟨dv, av, cv, rfl, hS⟩; obtain ⟨⟨a1, n1, c1, rfl⟩, ⟨a2, n2, c2, rfl⟩, ⟨a3, n3, c3, rfl⟩⟩ := rowsA_slices hS; have HP2 := hid (Sts.parsed HS1.out hS); have HT2 := hid (stabC (rowP_stable 29 12 u4 l.length (cellsL l)) (rowsLs_stable (l ++ [(x, .slice a1 n1 c1, .slice a2 n2 c2, .slice a3 n3 c3)]))); have HA := hid (fun cs => HP2.out.alloc HT2.out (.cells cs 29)); clear hS HPG)) | (refine wpList_agg (HA.out _) HT2.out rfl (.tmp 9) (.tmp 24) 29 rfl (actC x (.slice a1 n1 c1) (.slice a2 n2 c2) (.slice a3 n3 c3)) rfl rfl sizeAct rfl rfl ?_; intro w3 h3; have H3 := hid h3; clear h3 HA))
          all_goals (go_ret2; exact ⟨_, [], rfl, rfl, Sts.rowNilQ _ _ (Sts.nil_below H3.out.below)⟩)
      | some p =>
        obtain ⟨a, b⟩ := p
        rw [hc] at HC
        have hal : a.length < 900000 := by
          have h1 := (Scr.cutN_some hc).1
          have h2 := congrArg List.length h1
          simp only [List.length_append, List.length_cons] at h2 hrl
          omega
        have hbl := Scr.cutN_len hc
        cases hp : parseV a with
        | none =>
          have hres := HI.out.bad hne hc hp
          have HPB := hid (fun x hx => HP.out x hx a hal)
          rw [show bs ⟨a.toArray⟩ = a from rfl, hp] at HPB
          clear HP hp hc hbl hal
          subst hres
          clear HI HI0
          go_wp2_with (first | (go_at_call 24; refine HC.out.mono ?_; rintro e w1 ⟨rfl, hb⟩; have HS1 := hid (HS.out.quiet HST.out hb); clear hb HC) | (go_at_call 8; refine (HPB.out _ (HE.out.below HS1.out.below)).mono ?_; rintro e w2 ⟨rfl, hb⟩; have HA := hid (fun cs => (HS1.out.quiet HST.out hb).alloc HST.out (.cells cs 29)); have HN := hid (HS1.out.below.trans (hb.mono HS1.out.below.size)); clear hb HPB) | (refine wpList_agg (HA.out _) HST.out rfl (.tmp 9) (.tmp 24) 29 rfl (actC Scr.act0 (.slice none 0 0) (.slice none 0 0) (.slice none 0 0)) rfl rfl sizeAct rfl rfl ?_; intro w3 h3; have H3 := hid h3; clear h3 HA))
          all_goals (go_ret2; exact ⟨_, [], rfl, rfl, Sts.rowNilQ _ _ (Sts.nil_below H3.out.below)⟩)
        | some x =>
          have HNX := hid (fun y : A4 => fun hy : y.1 = x => HI.out.step hne hc y (hy ▸ hp))
          have HPG := hid (fun x hx => HP.out x hx a hal)
          have hl3 : l.length < 1000000 := by omega
          have HCELL := hid (fun (a1 a2 a3 : Option Addr) (n1 c1 n2 c2 n3 c3 : Nat) (y : World) => show ∀ j u, (cellA (x, .slice a1 n1 c1, .slice a2 n2 c2, .slice a3 n3 c3))[j]? = some u → (y.alloc (.cells (actC x (.slice a1 n1 c1) (.slice a2 n2 c2) (.slice a3 n3 c3)) 29)).cell? ((⟨y.heap.size, 0, none⟩ : Addr).add j) = some u from new_cells y (actC x (.slice a1 n1 c1) (.slice a2 n2 c2) (.slice a3 n3 c3)) 29)
          have HONE := hid (fun (a1 a2 a3 : Option Addr) (n1 c1 n2 c2 n3 c3 : Nat) => cellA_one (x := (x, .slice a1 n1 c1, .slice a2 n2 c2, .slice a3 n3 c3)) ⟨_, _, _, rfl⟩ ⟨_, _, _, rfl⟩ ⟨_, _, _, rfl⟩)
          rw [show bs ⟨a.toArray⟩ = a from rfl, hp] at HPG
          have hk2 : k + 1 ≤ M + 1 := by have := HK.out.1; simp only [List.length_cons] at this hbl; omega
          have hl2 : l.length + 1 < 900000 := by have := HK.out.1; have := HK.out.2; simp only [List.length_cons] at *; omega
          have HK2 := hid (show b.length + (k + 1) ≤ M + 1 ∧ l.length + 1 + 1 = k + 1 from ⟨by have := HK.out.1; omega, by have := HK.out.2; omega⟩)
          clear HP hp hc hbl hal HI HI0 HK hrl hne HM
          go_wp2_with (first | (go_at_call 24; refine HC.out.mono ?_; rintro e w1 ⟨rfl, hb⟩; have HS1 := hid (HS.out.quiet HST.out hb); clear hb HC) | (go_at_call 8; (refine (HPG.out _ (HE.out.below HS1.out.below)).mono ?_; rintro e w2 ⟨dv, av, cv, rfl, hS⟩; obtain ⟨⟨a1, n1, c1, rfl⟩, ⟨a2, n2, c2, rfl⟩, ⟨a3, n3, c3, rfl⟩⟩ := rowsA_slices hS; have HP2 := hid (Sts.parsed HS1.out hS); have HT2 := hid (stabC (rowP_stable 29 12 u4 l.length (cellsL l)) (rowsLs_stable (l ++ [(x, .slice a1 n1 c1, .slice a2 n2 c2, .slice a3 n3 c3)]))); have HA := hid (fun cs => HP2.out.alloc HT2.out (.cells cs 29)); clear hS HPG)) | (refine wpList_agg (HA.out _) HT2.out rfl (.tmp 9) (.tmp 24) 29 rfl (actC x (.slice a1 n1 c1) (.slice a2 n2 c2) (.slice a3 n3 c3)) rfl rfl sizeAct rfl rfl ?_; intro w3 h3; have H3 := hid h3; clear h3 HA) | (refine wpList_ld rfl (.tmp 9) 29 rfl rfl (.agg (actC x (.slice a1 n1 c1) (.slice a2 n2 c2) (.slice a3 n3 c3))) (ldAct rfl H3.out) ?_) | (at_builtin; rw [fold12]; refine wpList_appendA (x, .slice a1 n1 c1, .slice a2 n2 c2, .slice a3 n3 c3) rfl (.tmp 33) (.tmp 35) rfl (Sts.box HT2.out H3.out.tail (.cells (actC x (.slice a1 n1 c1) (.slice a2 n2 c2) (.slice a3 n3 c3)) 29)) (rowsLs_stable _) rfl ⟨w3.heap.size, 0, none⟩ 1 rfl (HCELL.out a1 a2 a3 n1 c1 n2 c2 n3 c3 w3) (HONE.out a1 a2 a3 n1 c1 n2 c2 n3 c3) hl3 ?_; intro v' w5 hz; have HZ := hid hz; clear hz))
          all_goals (first | (rcases h with h | h; (exact absurd (of_decide_eq_true h) (fun n => n rfl)); (exact absurd h (Nat.lt_irrefl 12))) | (rename_i h; rcases h with h | h; (exact absurd (of_decide_eq_true h) (fun n => n rfl)); (exact absurd h (Nat.lt_irrefl 12))) | skip)
          all_goals (go_roundw
                     case rel => exact ⟨b, k + 1, l ++ [(x, .slice a1 n1 c1, .slice a2 n2 c2,   .slice a3 n3 c3)], rfl, rfl, by omega, by simpa using hl2, hid ⟨HK2.out.1, by simpa using HK2.out.2⟩, hid (HNX.out _ rfl), hid HZ.out⟩
                     case measure => simp [intOf]; omega)
end
end Go.Proofs.YtimnhheagdhpgaaDoor
