/- The names of services and of kinds of faults, found and told by the program. The names of services: command.Name, command.Service. -/
import Derived.Test.YtimnhheagdhpgaaDoorScrT
set_option linter.unusedVariables false
set_option linter.unusedSimpArgs false
namespace Go.Proofs.YtimnhheagdhpgaaDoor
open Go.RowKit Go.Proofs.Num Scr
def row0 : Row := ⟨[], 0, false, 0, 0⟩
def rowAt (k : Nat) : Array Value := ((rowsL.getD k row0).cells).toArray
theorem rows_piece : ∀ (l : List Row) (k : Nat), k < l.length → ((l.flatMap Row.cells).drop (k * 5)).take 5 = (l.getD k row0).cells
  | [], k, h => absurd h (by simp)
  | r :: l, 0, h => by simp [Row.cells]
  | r :: l, k + 1, h => by
    have ih := rows_piece l k (by simpa using h)
    have e : ((r :: l).flatMap Row.cells).drop ((k + 1) * 5) = (l.flatMap Row.cells).drop (k * 5) := by
      rw [List.flatMap_cons, show (k + 1) * 5 = r.cells.length + k * 5 by simp [Row.cells]; omega, List.drop_append]
      simp
    rw [e, ih]; simp
theorem tab_piece (k : Nat) (h : k < 29) : tabV.extract (k * 5) (k * 5 + 5) = rowAt k := by
  apply Array.ext'
  have := rows_piece rowsL k h
  rw [Array.toList_extract]
  simp only [tabV, rowAt]
  rw [← this]
  simp
set_option maxRecDepth 100000 in
theorem sizeRow : ∀ w, (Go.sizeOf 85).run Tryd.prog w = .ok 5 w := fun w => by first | rfl | simp [go_sem] | kernel_rfl
set_option maxRecDepth 100000 in
theorem infoRow : (Tryd.prog.info? 85).map (·.size) = some 5 := by kernel_rfl
theorem ldRow {W w : World} {b : Nat} {l : List HProp} {k : Nat} (h : Sts W (blkP b (.cells (rowAt k) 85 (0, 0)) :: l) w) : (loadVar 85 ⟨b, 0, none⟩).run Tryd.prog w = .ok (.agg (rowAt k)) w := by
  have hb : w.heap[b]? = some (.cells (rowAt k) 85 (0, 0)) := by obtain ⟨F, hF⟩ := h.head; exact hF.1
  exact run_loadVar_row (P := Tryd.prog) w b 85 85 (rowAt k) (0, 0) _ hb Tryd.underlying85 rfl (by rw [infoRow]; rfl)
theorem run_row (k : Nat) (hk : k < 29) (x : World) : (Instr.index 93 (.agg tabV) (.int .i64 (k : Int))).run Tryd.prog x = .ok (.agg (rowAt k)) x := by
  have h1 : (0 : Int) ≤ (k : Int) ∧ (k : Int) < (29 : Nat) := by omega
  have e := tab_piece k hk
  have ag := Tryd.isAgg85
  simp only [Instr.index, asIntOf, Sem.run_bind, run_underlying Tryd.underlying93]
  simp [Result.andThen, h1, sizeRow, ag, part, e]
  intro h
  omega
def findV (n : Int) : Nat := if 1 ≤ n ∧ n < 29 then n.toNat else 0
section
variable {w : World}
set_option maxHeartbeats 4000000 in
theorem cFind (n : Int) : Calls Tryd.prog 61 #[.int .i64 n] w fun e w' => e = .returned (.tuple #[.agg (rowAt (findV n)), .bool (decide (1 ≤ n ∧ n < 29))]) ∧ Below w.heap.size w w' := by
  have hz : ∀ cs, Sts w [blkP w.heap.size (.cells cs 85 (0, 0))] (w.alloc (.cells cs 85)) := fun cs => (Sts.nil w).alloc stab0 _
  obtain ⟨r, hr⟩ : ∃ r, r = decide (1 ≤ n ∧ n < 29) := ⟨_, rfl⟩
  obtain ⟨f, hf⟩ : ∃ f, f = findV n := ⟨_, rfl⟩
  rw [← hr, ← hf]
  by_cases hn : 1 ≤ n ∧ n < 29
  · obtain ⟨k, hk⟩ : ∃ k : Nat, (k : Int) = n := ⟨n.toNat, by omega⟩
    subst hk
    have hf2 : f = k := by rw [hf, findV, if_pos hn]; omega
    have hr2 : r = true := by rw [hr]; simp; omega
    subst hf2 hr2
    have hrow := run_row f (by omega)
    obtain ⟨h1, h2⟩ := hn
    clear hr hf
    obtain ⟨cs, hcs⟩ : ∃ cs, cs = rowAt f := ⟨_, rfl⟩
    have HC := hid hcs
    rw [← hcs] at hrow
    have hsz : cs.size = 5 := by rw [hcs]; rfl
    have hone : cs.toList.all (fun v => v.oneCell') = true := by rw [hcs]; rfl
    have hld : ∀ (W y : World) b l, Sts W (blkP b (.cells cs 85 (0, 0)) :: l) y → (loadVar 85 ⟨b, 0, none⟩).run Tryd.prog y = .ok (.agg cs) y := by
      intro W y b l h; rw [hcs] at h ⊢; exact ldRow h
    clear hcs
    have HLD := hid hld
    have HSZ := hid hsz
    have HONE := hid hone
    clear hld hsz hone
    go_enter Tryd.func61, Tryd.ntmps61
    go_wp2_with (first | (go_at_call 66; refine (cTable).mono ?_; rintro e w1 ⟨rfl, hb1⟩; have HB := hid hb1; clear hb1) | (refine wpList_agg ((hz _).quiet (stab1 (blkP_stable _ _)) HB.out) stab0 rfl (.tmp 2) (.tmp 13) 85 rfl cs rfl rfl (by rw [HSZ.out]; exact sizeRow) (by rw [HSZ.out]; rfl) HONE.out ?_; intro w2 hw2; have HF := hid hw2; clear hw2))
    refine post_cell2 HF.out Tryd.results61 rfl rfl (HLD.out _ _ _ _ HF.out) _ rfl ⟨by rw [HC.out]; rfl, HF.out.below⟩
  · have hf2 : f = 0 := by rw [hf, findV, if_neg hn]
    have hr2 : r = false := by rw [hr]; simp; omega
    subst hf2 hr2
    clear hr hf
    rcases (show n < 1 ∨ (1 ≤ n ∧ 29 ≤ n) by omega) with h1 | ⟨h1, h2⟩
    · go_enter Tryd.func61, Tryd.ntmps61
      go_wp2_with (refine wpList_agg (hz _) stab0 rfl (.tmp 2) (.tmp 10) 85 rfl (rowAt 0) rfl rfl sizeRow rfl rfl ?_; intro w2 hw2; have HF := hid hw2; clear hw2)
      refine post_cell2 HF.out Tryd.results61 rfl rfl (ldRow HF.out) _ rfl ⟨rfl, HF.out.below⟩
    · go_enter Tryd.func61, Tryd.ntmps61
      go_wp2_with (refine wpList_agg (hz _) stab0 rfl (.tmp 2) (.tmp 10) 85 rfl (rowAt 0) rfl rfl sizeRow rfl rfl ?_; intro w2 hw2; have HF := hid hw2; clear hw2)
      refine post_cell2 HF.out Tryd.results61 rfl rfl (ldRow HF.out) _ rfl ⟨rfl, HF.out.below⟩
theorem row_name (n : Int) : (rowsL.getD (findV n) row0).nm = svcN n := by
  by_cases hn : 1 ≤ n ∧ n < 29
  · have : ∀ i : Fin 28, (rowsL.getD (findV ((i.val : Int) + 1)) row0).nm = svcN ((i.val : Int) + 1) := by decide +kernel
    have e := this ⟨(n - 1).toNat, by omega⟩
    simp only at e
    rw [show (((n - 1).toNat : Nat) : Int) + 1 = n by omega] at e
    exact e
  · rw [findV, if_neg hn]
    have hl : (svcs.length : Int) = 28 := rfl
    have : svcN n = [] := by unfold svcN nth; rw [if_neg (by omega)]
    rw [this]; rfl
end
end Go.Proofs.YtimnhheagdhpgaaDoor
namespace Go.Proofs.YtimnhheagdhpgaaDoor
open Go.RowKit Go.Proofs.Num Scr
theorem ix_first : ∀ (l : List Str) (w : Str) (m k : Nat), (∀ j, j < k → l.getD j [] ≠ w) → k < l.length → l.getD k [] = w → ixOf l w m = m + k
  | [], w, m, k, _, h, _ => absurd h (by simp)
  | a :: r, w, m, 0, _, _, h => by simp only [List.getD_cons_zero] at h; simp [ixOf, h]
  | a :: r, w, m, k + 1, hn, hk, h => by
    have h0 := hn 0 (by omega)
    simp only [List.getD_cons_zero] at h0
    simp only [ixOf, h0, if_false]
    rw [ix_first r w (m + 1) k (fun j hj => by have := hn (j + 1) (by omega); simpa using this) (by simpa using hk) (by simpa using h)]
    omega
theorem ix_none : ∀ (l : List Str) (w : Str) (m : Nat), (∀ j, j < l.length → l.getD j [] ≠ w) → ixOf l w m = 0
  | [], w, m, _ => rfl
  | a :: r, w, m, hn => by
    have h0 := hn 0 (by simp)
    simp only [List.getD_cons_zero] at h0
    simp only [ixOf, h0, if_false]
    exact ix_none r w (m + 1) (fun j hj => by have := hn (j + 1) (by simpa using hj); simpa using this)
theorem row_nm (k : Nat) (h1 : 1 ≤ k) (h2 : k < 29) : (rowsL.getD k row0).nm = svcs.getD (k - 1) [] := by
  have : ∀ i : Fin 28, (rowsL.getD (i.val + 1) row0).nm = svcs.getD i.val [] := by decide +kernel
  have e := this ⟨k - 1, by omega⟩
  simp only at e
  rw [show k - 1 + 1 = k by omega] at e
  exact e
section
variable {w : World}
set_option maxHeartbeats 4000000 in
theorem cCName (n : Int) : Calls Tryd.prog 45 #[.int .i64 n] w fun e w' => e = .returned (.string ⟨(svcN n).toArray⟩) ∧ Below w.heap.size w w' := by
  have hnm := row_name n
  have hF := cFind (w := w) n
  obtain ⟨f, hf⟩ : ∃ f, f = findV n := ⟨_, rfl⟩
  obtain ⟨b, hb⟩ : ∃ b, b = decide (1 ≤ n ∧ n < 29) := ⟨_, rfl⟩
  rw [← hf, ← hb] at hF
  rw [← hf] at hnm
  obtain ⟨nm, hnm2⟩ : ∃ nm, nm = svcN n := ⟨_, rfl⟩
  rw [← hnm2] at hnm ⊢
  have hcell0 : (rowAt f)[0]? = some (.string ⟨nm.toArray⟩) := by
    rw [← hnm]; rfl
  obtain ⟨cs, hcs⟩ : ∃ cs, cs = rowAt f := ⟨_, rfl⟩
  have hsz : cs.size = 5 := by rw [hcs]; rfl
  have hone : cs.toList.all (fun v => v.oneCell') = true := by rw [hcs]; rfl
  rw [← hcs] at hF hcell0
  have HSZ := hid hsz
  have HONE := hid hone
  have HC0 := hid hcell0
  clear hf hb hnm2 hnm hcs hsz hone hcell0
  go_enter Tryd.func45, Tryd.ntmps45
  go_wp2_with (first | (go_at_call 61; refine hF.mono ?_; rintro e w1 ⟨rfl, hb1⟩; have HB := hid hb1; clear hb1) | (refine wpList_agg ((Sts.nil_below HB.out).alloc stab0 _) stab0 rfl (.tmp 3) (.tmp 8) 85 rfl cs rfl rfl (by rw [HSZ.out]; exact sizeRow) (by rw [HSZ.out]; rfl) HONE.out ?_; intro w2 hw2; have HF := hid hw2; clear hw2; have hc0 := (Sts.boxCell HF.out 0 _ HC0.out).1))
  go_ret
  exact ⟨rfl, HF.out.below⟩
set_option maxHeartbeats 8000000 in
theorem cService (S : ByteArray) : Calls Tryd.prog 52 #[.string S] w fun e w' => e = .returned (.int .i64 (svcV (bs S))) ∧ Below w.heap.size w w' := by
  obtain ⟨r, hr⟩ : ∃ r, r = svcV (bs S) := ⟨_, rfl⟩
  rw [← hr]
  have HR := hid hr
  clear hr
  go_enter Tryd.func52, Tryd.ntmps52
  go_wp2_with (go_at_call 66; refine (cTable).mono ?_; rintro e w1 ⟨rfl, hb1⟩; have HB := hid hb1; clear hb1)
  obtain ⟨tv, htv⟩ : ∃ tv, tv = tabV := ⟨_, rfl⟩
  rw [← htv]
  have HTV := hid htv
  clear htv
  go_loopw [6] (fun i wr => ∃ k : Nat, k ≤ 29 ∧ i = .int .i64 k ∧ Hid (∀ j, 1 ≤ j → j < k → (rowsL.getD j row0).nm ≠ bs S) ∧ Hid (Below w.heap.size w wr)) (fun i _ => 29 - (intOf i).toNat)
  case atStart => exact ⟨0, by omega, rfl, hid (fun j h1 h2 => by omega), HB⟩
  case round =>
    obtain ⟨k, hk, rfl, HI, HS⟩ := hrel
    by_cases hlt : k < 29
    · have hrow := fun x => run_row k hlt x
      rw [← HTV.out] at hrow
      obtain ⟨nm, hnm⟩ : ∃ nm, nm = (rowsL.getD k row0).nm := ⟨_, rfl⟩
      have hcell0 : (rowAt k)[0]? = some (.string ⟨nm.toArray⟩) := by rw [hnm]; rfl
      obtain ⟨cs, hcs⟩ : ∃ cs, cs = rowAt k := ⟨_, rfl⟩
      have hsz : cs.size = 5 := by rw [hcs]; rfl
      have hone : cs.toList.all (fun v => v.oneCell') = true := by rw [hcs]; rfl
      rw [← hcs] at hrow hcell0
      have HSZ := hid hsz
      have HONE := hid hone
      have HC0 := hid hcell0
      have HNM := hid hnm
      have heq := str_eq nm S
      rw [ByteArray.toList_mk] at heq
      clear hcs hsz hone hcell0 hnm
      by_cases h0 : k = 0
      · have hk0 : decide ((0 : Int) < (k : Int)) = false := by simp; omega
        have hk1 : ¬ ((0 : Int) < (k : Int)) := by omega
        have hk2 : ¬ (0 < k) := by omega
        have H0 := hid h0
        clear h0
        go_wp2_with (first | (refine wpList_agg ((Sts.nil_below HS.out).alloc stab0 _) stab0 rfl (.tmp 4) (.tmp 9) 85 rfl cs rfl rfl (by rw [HSZ.out]; exact sizeRow) (by rw [HSZ.out]; rfl) HONE.out ?_; intro w2 hw2; have HF := hid hw2; clear hw2; have hc0 := (Sts.boxCell HF.out 0 _ HC0.out).1))
        all_goals (go_roundw
                   case rel => exact ⟨k + 1, by omega, by simp, hid (fun j h1 h2 => by have := H0.out; omega), hid HF.out.below⟩
                   case measure => simp [intOf]; omega)
      · have hk0 : (0 : Int) < (k : Int) := by omega
        obtain ⟨b, hb⟩ : ∃ b, b = decide (nm = bs S) := ⟨_, rfl⟩
        rw [← hb] at heq
        cases b with
        | true =>
          have hn : nm = bs S := of_decide_eq_true hb.symm
          have hrk : r = (k : Int) := by
            rw [HR.out, svcV, ix_first svcs (bs S) 1 (k - 1) (fun j hj => by
              have := HI.out (j + 1) (by omega) (by omega)
              rw [row_nm (j + 1) (by omega) (by omega)] at this
              simpa using this) (by show k - 1 < 28; omega) (by rw [← row_nm k (by omega) hlt, ← HNM.out, hn])]
            omega
          clear HR HI hb hn
          subst hrk
          go_wp2_with (first | (refine wpList_agg ((Sts.nil_below HS.out).alloc stab0 _) stab0 rfl (.tmp 4) (.tmp 9) 85 rfl cs rfl rfl (by rw [HSZ.out]; exact sizeRow) (by rw [HSZ.out]; rfl) HONE.out ?_; intro w2 hw2; have HF := hid hw2; clear hw2; have hc0 := (Sts.boxCell HF.out 0 _ HC0.out).1))
          all_goals (go_ret; exact ⟨rfl, HF.out.below⟩)
        | false =>
          have hn : nm ≠ bs S := of_decide_eq_false hb.symm
          have HI2 := hid (show ∀ j, 1 ≤ j → j < k + 1 → (rowsL.getD j row0).nm ≠ bs S from fun j h1 h2 => by
            by_cases e : j = k
            · rw [e, ← HNM.out]; exact hn
            · exact HI.out j h1 (by omega))
          clear hb hn
          go_wp2_with (first | (refine wpList_agg ((Sts.nil_below HS.out).alloc stab0 _) stab0 rfl (.tmp 4) (.tmp 9) 85 rfl cs rfl rfl (by rw [HSZ.out]; exact sizeRow) (by rw [HSZ.out]; rfl) HONE.out ?_; intro w2 hw2; have HF := hid hw2; clear hw2; have hc0 := (Sts.boxCell HF.out 0 _ HC0.out).1))
          all_goals (go_roundw
                     case rel => exact ⟨k + 1, by omega, by simp, HI2, hid HF.out.below⟩
                     case measure => simp [intOf]; omega)
    · have hk29 : k = 29 := by omega
      subst hk29
      have hr0 : r = 0 := by
        rw [HR.out, svcV, ix_none svcs (bs S) 1 (fun j hj => by
          have hj2 : j < 28 := hj
          have := HI.out (j + 1) (by omega) (by omega)
          rw [row_nm (j + 1) (by omega) (by omega)] at this
          simpa using this)]
        rfl
      clear HR HI
      subst hr0
      go_wp2_with fail
      all_goals (go_ret; exact ⟨rfl, HS.out⟩)
end
end Go.Proofs.YtimnhheagdhpgaaDoor
