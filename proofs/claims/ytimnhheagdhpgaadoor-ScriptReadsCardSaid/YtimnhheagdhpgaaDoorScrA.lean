/- The small readers of the scenario language: names of files, numbers. -/
import Derived.Test.YtimnhheagdhpgaaDoorScrD
import Derived.Test.YtimnhheagdhpgaaDoorScrShelf
import Derived.Test.YtimnhheagdhpgaaDoorStr
import Derived.Lib.LaidTab
set_option linter.unusedVariables false
set_option linter.unusedSimpArgs false
namespace Go.Proofs.YtimnhheagdhpgaaDoor
open Go.RowKit Go.Proofs.Num Scr
/-- The library's variables, as its initialisers lay them. -/
structure Env (w : World) : Prop where
  tab : Lib.TabIs Tryd.prog w "internal/strconv.uint64pow10" .u64 Lib.pow10Tab
  syn : ∃ t p, w.cell? ⟨2, 0, none⟩ = some (.iface t p)
  rng : ∃ t p, w.cell? ⟨3, 0, none⟩ = some (.iface t p)
  most : ∃ m : Int, w.cell? ⟨0, 0, none⟩ = some (.int .i64 m)
theorem cell_below {w w' : World} (hb : Below w.heap.size w w') {a : Addr} {v : Value} (hc : w.cell? a = some v) : w'.cell? a = some v := (hb.cell (World.block_lt_of_cell? w a hc)).trans hc
theorem Env.below {w w' : World} (h : Env w) (hb : Below w.heap.size w w') : Env w' where
  tab := by
    have hg : Tryd.prog.globalNamed "internal/strconv.uint64pow10" = some 1 := by kernel_rfl
    have h := h.tab
    unfold Lib.TabIs World.var? at h ⊢
    rw [hg] at h ⊢
    simp only [Option.bind_some] at h ⊢
    have hlt : 1 < w.heap.size := by
      rcases Nat.lt_or_ge 1 w.heap.size with h' | h'
      · exact h'
      · rw [Array.getElem?_eq_none h'] at h; cases h
    rw [hb.block 1 hlt]
    exact h
  syn := by obtain ⟨t, p, h⟩ := h.syn; exact ⟨t, p, cell_below hb h⟩
  rng := by obtain ⟨t, p, h⟩ := h.rng; exact ⟨t, p, cell_below hb h⟩
  most := by obtain ⟨m, h⟩ := h.most; exact ⟨m, cell_below hb h⟩

theorem name_no {s : Str} {k : Nat} (hk : k < s.length) (h : ¬ (33 ≤ (s.getD k 0).toNat ∧ (s.getD k 0).toNat ≤ 126)) : nameV s = false := by
  cases hn : nameV s with
  | false => rfl
  | true =>
    exfalso
    simp only [nameV, Bool.and_eq_true, List.all_eq_true, decide_eq_true_eq] at hn
    apply h
    rw [List.getD_eq_getElem?_getD, List.getElem?_eq_getElem hk]
    exact hn.1 _ (List.getElem_mem hk)
theorem name_all {s : Str} (h : ∀ j, j < s.length → 33 ≤ (s.getD j 0).toNat ∧ (s.getD j 0).toNat ≤ 126) : nameV s = decide (1 ≤ s.length ∧ s.length ≤ 64) := by
  have : s.all (fun c => decide (33 ≤ c.toNat ∧ c.toNat ≤ 126)) = true := by
    simp only [List.all_eq_true, decide_eq_true_eq]
    intro c hc
    obtain ⟨i, hi, rfl⟩ := List.getElem_of_mem hc
    have := h i hi
    rw [List.getD_eq_getElem?_getD, List.getElem?_eq_getElem hi] at this
    exact this
  unfold nameV; rw [this, Bool.true_and]
section
variable {w : World}
/-- The byte at a place of a string. -/
theorem run_byte (S : ByteArray) (k : Nat) (hk : k < (bs S).length) (x : World) : (Instr.index 9 (.string S) (.int .i64 (k : Int))).run Tryd.prog x = .ok (.int .u8 (((bs S).getD k 0).toNat : Int)) x := by
  rw [run_index_string x 9 S .i64 (k : Int) Tryd.underlying9]
  rw [dif_pos ⟨by omega, by rw [bs_size]; omega⟩]
  congr 3
  rw [List.getD_eq_getElem?_getD, List.getElem?_eq_getElem hk]
  rfl
set_option maxHeartbeats 2000000 in
theorem cName (S : ByteArray) (hs : S.size ≤ 281474976710656) : Calls Tryd.prog 56 #[.string S] w fun e w' => e = .returned (.bool (nameV (bs S))) ∧ w' = w := by
  obtain ⟨N, hN⟩ : ∃ N, N = (bs S).length := ⟨_, rfl⟩
  have hz : S.size = N := by rw [bs_size, hN]
  have hix := hid (run_byte S)
  rw [← hN] at hix
  have HN := hid hN
  clear hN
  obtain ⟨r, hr⟩ : ∃ r, r = nameV (bs S) := ⟨_, rfl⟩
  rw [← hr]
  have HR := hid hr
  clear hr
  go_enter Tryd.func56, Tryd.ntmps56
  go_wp2_with fail
  go_loopw [6] (fun i wr => ∃ k : Nat, k ≤ N ∧ i = .int .i64 k ∧ Hid (∀ j, j < k → 33 ≤ ((bs S).getD j 0).toNat ∧ ((bs S).getD j 0).toNat ≤ 126) ∧ wr = w) (fun i _ => N - (intOf i).toNat)
  case atStart => exact ⟨0, by omega, rfl, hid (fun j hj => by omega), rfl⟩
  case round =>
    obtain ⟨k, hk, rfl, HA, rfl⟩ := hrel
    by_cases hlt : k < N
    · obtain ⟨c, hc⟩ : ∃ c : Nat, c = ((bs S).getD k 0).toNat := ⟨_, rfl⟩
      have hx := fun x => hix.out k hlt x
      rw [← hc] at hx
      have HC := hid hc
      clear hc
      by_cases hb : 33 ≤ c ∧ c ≤ 126
      · obtain ⟨h1, h2⟩ := hb
        go_wp2_with fail
        go_roundw
        case rel => exact ⟨k + 1, by omega, by simp [intOf], hid (fun j hj => by
          by_cases e : j = k
          · rw [e, ← HC.out]; exact ⟨h1, h2⟩
          · exact HA.out j (by omega)), trivial⟩
        case measure => simp [intOf]; omega
      · have HB := hid hb
        clear hb
        have hf : r = false := by
          rw [HR.out]
          exact name_no (by rw [← HN.out]; exact hlt) (by rw [← HC.out]; exact HB.out)
        clear HR
        subst hf
        rcases (show c < 33 ∨ (33 ≤ c ∧ 126 < c) by have := HB.out; omega) with h1 | ⟨h1, h2⟩
        · go_wp2_with fail
          all_goals (go_ret; trivial)
        · go_wp2_with fail
          all_goals (go_ret; trivial)
    · have hkN : k = N := by omega
      subst hkN
      have hf : r = decide (1 ≤ k ∧ k ≤ 64) := by
        rw [HR.out, name_all (by rw [← HN.out]; exact HA.out), ← HN.out]
      clear HR HA HN hix hlt hk
      subst hf
      go_wp2_with fail
      all_goals (go_ret; refine ⟨ret_bool ?_, rfl⟩; rw [Bool.eq_iff_iff]; simp; omega)
end
end Go.Proofs.YtimnhheagdhpgaaDoor
