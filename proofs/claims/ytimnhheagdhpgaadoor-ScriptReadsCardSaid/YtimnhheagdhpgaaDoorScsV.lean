/- The lines of a text, by place: what the specification's loop knows. The specification's Lines: the walk. -/
import Derived.Test.YtimnhheagdhpgaaDoorScsT
set_option linter.unusedVariables false
set_option linter.unusedSimpArgs false
namespace Go.Proofs.YtimnhheagdhpgaaDoor
open Go.RowKit Go.Proofs.Num
open Scr (Str bs parseV cutN linesF linesV)
theorem cutN_no : ∀ {s : Str}, 10 ∉ s → cutN s = none
  | [], _ => rfl
  | c :: r, h => by
    simp only [List.mem_cons, not_or] at h
    simp only [cutN, if_neg (fun e : c = 10 => h.1 e.symm), cutN_no h.2]
    rfl
/-- No newline in s from place f up to place i. -/
def NoNl (s : Str) (f i : Nat) : Prop := ∀ j, (h : j < s.length) → f ≤ j → j < i → s[j] ≠ 10
theorem NoNl.zero (s : Str) (f : Nat) : NoNl s f f := fun j _ h1 h2 => absurd h2 (by omega)
theorem NoNl.more {s : Str} {f i : Nat} (h : NoNl s f i) (hi : i < s.length) (hc : s[i] ≠ 10) : NoNl s f (i + 1) := by
  intro j hj h1 h2
  by_cases e : j = i
  · subst e; exact hc
  · exact h j hj h1 (by omega)
/-- A newline at place i: the line and the rest. -/
theorem NoNl.cut {s : Str} {f i : Nat} (h : NoNl s f i) (hf : f ≤ i) (hi : i < s.length) (hc : s[i] = 10) : cutN (s.drop f) = some ((s.drop f).take (i - f), s.drop (i + 1)) := by
  have e : s.drop f = (s.drop f).take (i - f) ++ 10 :: s.drop (i + 1) := by
    conv => lhs; rw [← List.take_append_drop (i - f) (s.drop f)]
    rw [List.drop_drop, show f + (i - f) = i by omega, List.drop_eq_getElem_cons hi, hc]
  have hn : 10 ∉ (s.drop f).take (i - f) := by
    intro hm
    obtain ⟨j, hj, hj2⟩ := List.getElem_of_mem hm
    rw [List.getElem_take, List.getElem_drop] at hj2
    simp only [List.length_take, List.length_drop] at hj
    exact h (f + j) (by omega) (by omega) (by omega) hj2
  conv => lhs; rw [e]
  exact Scr.cutN_app _ _ hn
theorem NoNl.stop {s : Str} {f : Nat} (h : NoNl s f s.length) : cutN (s.drop f) = none := by
  apply cutN_no
  intro hm
  obtain ⟨j, hj, hj2⟩ := List.getElem_of_mem hm
  rw [List.getElem_drop] at hj2
  simp only [List.length_drop] at hj
  exact h (f + j) (by omega) (by omega) (by omega) hj2
end Go.Proofs.YtimnhheagdhpgaaDoor
namespace Go.Proofs.YtimnhheagdhpgaaDoor
open Go.RowKit Go.Proofs.Num
open Scr (Str bs parseV cutN linesF linesV)
section
variable {w : World}
set_option maxRecDepth 100000 in
set_option maxHeartbeats 300000 in
theorem cLinesR (S : ByteArray) (hs : S.size < 900000) : Calls Tryd.prog 13 #[.string S] w fun e w' => linesE w w' (linesV (bs S)) e := by
  obtain ⟨N, hN⟩ : ∃ N, N = (bs S).length := ⟨_, rfl⟩
  have hz : S.size = N := by rw [Scr.bs_size, hN]
  have hix := hid (run_byte S)
  have hpc := hid (run_piece S)
  rw [← hN] at hix hpc
  obtain ⟨res, hres⟩ : ∃ res, res = linesV (bs S) := ⟨_, rfl⟩
  rw [← hres]
  obtain ⟨s, hsd⟩ : ∃ s, s = bs S := ⟨_, rfl⟩
  rw [← hsd] at hN hres hix hpc
  have HI0 := hid (show LInv (s.drop 0) 1 [] res from hres.symm)
  have HN := hid hN
  have hN2 : N < 900000 := by omega
  have HP := hid (fun (x : World) (r : Str) (hr : r.length < 900000) => cParseR (w := x) ⟨r.toArray⟩ (by show r.toArray.size < _; simpa using hr))
  have HS0 := hid (Sts.rowNilQ 29 12 (Sts.nil w))
  clear hres hN hs hsd
  go_enter Tryd.func13, Tryd.ntmps13
  go_wp2_with fail
  go_loopw [4, 5, 6, 7] (fun v f k i wr => ∃ (F K I : Nat) (l : List A4), f = .int .i64 F ∧ k = .int .i64 K ∧ i = .int .i64 I ∧ F ≤ I ∧ I ≤ N ∧ K ≤ N + 1 ∧ l.length < 900000 ∧ Hid (l.length + 1 = K ∧ K ≤ F + 1) ∧ Hid (NoNl s F I) ∧ Hid (LInv (s.drop F) K l res) ∧ Hid (Sts w (rowP 29 12 v l.length (cellsL l) :: rowsLs l) wr)) (fun _ _ _ i _ => N - (intOf i).toNat)
  case atStart => exact ⟨0, 1, 0, [], rfl, rfl, rfl, by omega, by omega, by omega, by simp, hid ⟨rfl, by omega⟩, hid (NoNl.zero s 0), hid HI0.out, hid HS0.out⟩
  case round =>
    obtain ⟨F, K, I, l, rfl, rfl, rfl, hFI, hIN, hK, hl, HK, HNL, HI, HS⟩ := hrel
    by_cases hlt : I < N
    · have hIs : I < s.length := by rw [← HN.out]; exact hlt
      obtain ⟨c, hc⟩ : ∃ c : Nat, c = (s.getD I 0).toNat := ⟨_, rfl⟩
      have hx := fun x => hix.out I hlt x
      rw [← hc] at hx
      have hcI : s.getD I 0 = s[I] := by rw [List.getD_eq_getElem?_getD, List.getElem?_eq_getElem hIs]; rfl
      by_cases h10 : c = 10
      · subst h10
        have hc10 : s[I] = 10 := by rw [← hcI]; exact UInt8.toNat_inj.1 hc.symm
        have hcut := HNL.out.cut hFI hIs hc10
        have hne : s.drop F ≠ [] := by
          intro e
          have := congrArg List.length e
          simp at this
          omega
        have hpx := fun x => hpc.out F I hFI (by omega) x
        obtain ⟨a, ha⟩ : ∃ a, a = (s.drop F).take (I - F) := ⟨_, rfl⟩
        rw [← ha] at hcut hpx
        have hal : a.length < 900000 := by rw [ha, List.length_take, List.length_drop]; have := HN.out; omega
        have HST := hid (stabC (rowP_stable 29 12 u4 l.length (cellsL l)) (rowsLs_stable l))
        clear hc hcI ha hc10 HNL hIs
        cases hp : parseV a with
        | none =>
          have hres := HI.out.bad hne hcut hp
          have HPB := hid (fun x => HP.out x a hal)
          rw [show bs ⟨a.toArray⟩ = a from rfl, hp] at HPB
          clear HP hp hcut hal hne
          subst hres
          clear HI HI0
          go_wp2_with (first | (go_at_call 9; refine (HPB.out _).mono ?_; rintro e w2 ⟨rfl, hb⟩; have HA := hid (fun cs => (HS.out.quiet HST.out hb).alloc HST.out (.cells cs 29)); clear hb HPB) | (refine wpList_agg (HA.out _) HST.out rfl (.tmp 8) (.tmp 26) 29 rfl (actC Scr.act0 (.slice none 0 0) (.slice none 0 0) (.slice none 0 0)) rfl rfl sizeAct rfl rfl ?_; intro w3 h3; have H3 := hid h3; clear h3 HA))
          all_goals (go_ret2; exact ⟨_, [], rfl, rfl, Sts.rowNilQ _ _ (Sts.nil_below H3.out.below)⟩)
        | some x =>
          have HNX := hid (fun y : A4 => fun hy : y.1 = x => HI.out.step hne hcut y (hy ▸ hp))
          have HPG := hid (fun x => HP.out x a hal)
          have hl3 : l.length < 1000000 := by omega
          have HCELL := hid (fun (a1 a2 a3 : Option Addr) (n1 c1 n2 c2 n3 c3 : Nat) (y : World) => show ∀ j u, (cellA (x, .slice a1 n1 c1, .slice a2 n2 c2, .slice a3 n3 c3))[j]? = some u → (y.alloc (.cells (actC x (.slice a1 n1 c1) (.slice a2 n2 c2) (.slice a3 n3 c3)) 29)).cell? ((⟨y.heap.size, 0, none⟩ : Addr).add j) = some u from new_cells y (actC x (.slice a1 n1 c1) (.slice a2 n2 c2) (.slice a3 n3 c3)) 29)
          have HONE := hid (fun (a1 a2 a3 : Option Addr) (n1 c1 n2 c2 n3 c3 : Nat) => cellA_one (x := (x, .slice a1 n1 c1, .slice a2 n2 c2, .slice a3 n3 c3)) ⟨_, _, _, rfl⟩ ⟨_, _, _, rfl⟩ ⟨_, _, _, rfl⟩)
          rw [show bs ⟨a.toArray⟩ = a from rfl, hp] at HPG
          have hk2 : K + 1 ≤ N + 1 := by have := HK.out.2; omega
          have hl2 : l.length + 1 < 900000 := by have := HK.out.1; have := HK.out.2; omega
          have HK2 := hid (show l.length + 1 + 1 = K + 1 ∧ K + 1 ≤ (I + 1) + 1 from ⟨by have := HK.out.1; omega, by have := HK.out.2; omega⟩)
          clear HP hp hcut hal HI HI0 HK hne
          go_wp2_with (first | (go_at_call 9; (refine (HPG.out _).mono ?_; rintro e w2 ⟨dv, av, cv, rfl, hS⟩; obtain ⟨⟨a1, n1, c1, rfl⟩, ⟨a2, n2, c2, rfl⟩, ⟨a3, n3, c3, rfl⟩⟩ := rowsA_slices hS; have HP2 := hid (Sts.parsed HS.out hS); have HT2 := hid (stabC (rowP_stable 29 12 u4 l.length (cellsL l)) (rowsLs_stable (l ++ [(x, .slice a1 n1 c1, .slice a2 n2 c2, .slice a3 n3 c3)]))); have HA := hid (fun cs => HP2.out.alloc HT2.out (.cells cs 29)); clear hS HPG)) | (refine wpList_agg (HA.out _) HT2.out rfl (.tmp 8) (.tmp 26) 29 rfl (actC x (.slice a1 n1 c1) (.slice a2 n2 c2) (.slice a3 n3 c3)) rfl rfl sizeAct rfl rfl ?_; intro w3 h3; have H3 := hid h3; clear h3 HA) | (refine wpList_ld rfl (.tmp 8) 29 rfl rfl (.agg (actC x (.slice a1 n1 c1) (.slice a2 n2 c2) (.slice a3 n3 c3))) (ldAct rfl H3.out) ?_) | (at_builtin; rw [fold12]; refine wpList_appendA (x, .slice a1 n1 c1, .slice a2 n2 c2, .slice a3 n3 c3) rfl (.tmp 31) (.tmp 33) rfl (Sts.box HT2.out H3.out.tail (.cells (actC x (.slice a1 n1 c1) (.slice a2 n2 c2) (.slice a3 n3 c3)) 29)) (rowsLs_stable _) rfl ⟨w3.heap.size, 0, none⟩ 1 rfl (HCELL.out a1 a2 a3 n1 c1 n2 c2 n3 c3 w3) (HONE.out a1 a2 a3 n1 c1 n2 c2 n3 c3) hl3 ?_; intro v' w5 hz; have HZ := hid hz; clear hz))
          all_goals (first | (rcases h with h | h; (exact absurd (of_decide_eq_true h) (fun n => n rfl)); (exact absurd h (Nat.lt_irrefl 12))) | (rename_i h; rcases h with h | h; (exact absurd (of_decide_eq_true h) (fun n => n rfl)); (exact absurd h (Nat.lt_irrefl 12))) | skip)
          all_goals (go_roundw
                     case rel => exact ⟨I + 1, K + 1, I + 1, l ++ [(x, .slice a1 n1 c1, .slice a2 n2 c2, .slice a3 n3 c3)], rfl, rfl, rfl, by omega, by omega, hk2, by simpa using hl2, hid ⟨by simpa using HK2.out.1, HK2.out.2⟩, hid (NoNl.zero s (I + 1)), hid (HNX.out _ rfl), hid HZ.out⟩
                     case measure => simp [intOf]; omega)
      · have hcn : s[I] ≠ 10 := by
          intro e
          rw [hcI, e] at hc
          exact h10 hc
        have HNL2 := hid (HNL.out.more hIs hcn)
        clear hc hcI hcn HNL hIs
        go_wp2_with fail
        all_goals (go_roundw
                   case rel => exact ⟨F, K, I + 1, l, rfl, rfl, rfl, by omega, by omega, hK, hl, HK, HNL2, HI, HS⟩
                   case measure => simp [intOf]; omega)
    · obtain rfl : I = N := by omega
      clear hlt
      by_cases hF : F < I
      · have hcut := (show NoNl s F s.length from HN.out ▸ HNL.out).stop
        have hne : s.drop F ≠ [] := by
          intro e
          have := congrArg List.length e
          simp at this
          have := HN.out
          omega
        have hres := HI.out.none hne hcut
        clear hcut hne HNL HI HI0 HN hix hpc
        subst hres
        go_wp2_with fail
        all_goals (go_ret2; exact ⟨_, [], rfl, rfl, Sts.rowNilQ _ _ (Sts.nil_below HS.out.below)⟩)
      · obtain rfl : F = I := by omega
        have he : s.drop F = [] := by rw [HN.out]; exact List.drop_length
        have hI := HI.out
        rw [he] at hI
        have hd := hI.done
        clear HI HI0 HN HNL hix hpc hI he hF
        subst hd
        go_wp2_with fail
        all_goals (go_ret2; exact ⟨u4, l, rfl, rfl, HS.out⟩)
end
end Go.Proofs.YtimnhheagdhpgaaDoor
