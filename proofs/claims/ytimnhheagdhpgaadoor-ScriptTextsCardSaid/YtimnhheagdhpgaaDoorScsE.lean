/- The specification's table of services: row, Name. -/
import Derived.Test.YtimnhheagdhpgaaDoorScsD
set_option linter.unusedVariables false
set_option linter.unusedSimpArgs false
namespace Go.Proofs.YtimnhheagdhpgaaDoor
open Go.RowKit Go.Proofs.Num
open Scr (Str bs svcs svcN)
/-- The table's rows stand in block g. -/
def RowsAt (w : World) (g : Nat) (W : World) : Prop := Below w.heap.size w W ∧ ∀ k, k < 28 → ∃ a, W.cell? ⟨g, k, none⟩ = some (.slice (some a) 4 4)
theorem rowsAt {w W1 : World} {g : Nat} {cs : Array Value} {t : TypeId} (hb : Below w.heap.size w W1) (hs : W1.heap.size = g) (h : ∀ i : Fin 28, ∃ a, cs[i.val]? = some (.slice (some a) 4 4)) : RowsAt w g (W1.alloc (.cells cs t)) := by
  refine ⟨hb.alloc hb.size _, fun k hk => ?_⟩
  obtain ⟨a, ha⟩ := h ⟨k, hk⟩
  exact ⟨a, by rw [← hs]; exact cell_blk (heap_new W1 _ rfl) ha⟩
theorem below_push {w W : World} (h : Below w.heap.size w W) (o : Obj) : Below w.heap.size w (W.alloc o) := h.alloc h.size o
theorem ldRow28 {ops : Array Oper} {rest : List Oper} {o : Oper} {a : Act} {Q : Exit → Act → World → Prop} {w W : World} {g k : Nat} (hF : RowsAt w g W) (hk : k < 28) (hgd : o.guard = none) (x : Operand) (ho : o.op = .load 23 x) (hx : a.eval x = .pointer (some ⟨g, k, none⟩))
    (h : ∀ ra, wpList Tryd.prog ops Q rest (a.put o.dst (.slice (some ra) 4 4)) W) : wpList Tryd.prog ops Q (o :: rest) a W := by
  obtain ⟨ra, hra⟩ := hF.2 k hk
  refine wpList_ld hgd x 23 ho hx (.slice (some ra) 4 4) ?_ (h ra)
  simp [go_sem, hra]
section
variable {w : World}
set_option maxRecDepth 100000 in
set_option maxHeartbeats 16000000 in
theorem cRow (n : Int) : Calls Tryd.prog 63 #[.int .i64 n] w fun e w' => (∃ v, e = .returned v ∧ (v = .slice none 0 0 ∧ ¬ (1 ≤ n ∧ n < 29) ∨ (∃ a, v = .slice (some a) 4 4) ∧ (1 ≤ n ∧ n < 29))) ∧ Below w.heap.size w w' := by
  by_cases h1 : n < 1
  · have f1 : decide (n < 1) = true := decide_eq_true h1
    go_enter Tryd.func63, Tryd.ntmps63
    go_wp2_with fail
    go_ret
    exact ⟨⟨_, rfl, Or.inl ⟨rfl, by omega⟩⟩, by (iterate 29 refine below_push ?_ _); exact Below.refl _ _⟩
  · have f1 : decide (n < 1) = false := decide_eq_false h1
    by_cases h2 : 28 < n
    · have f2 : decide (28 < n) = true := decide_eq_true h2
      go_enter Tryd.func63, Tryd.ntmps63
      go_wp2_with fail
      go_ret
      exact ⟨⟨_, rfl, Or.inl ⟨rfl, by omega⟩⟩, by (iterate 29 refine below_push ?_ _); exact Below.refl _ _⟩
    · obtain ⟨k, hk⟩ : ∃ k : Nat, n = (k : Int) + 1 := ⟨(n - 1).toNat, by omega⟩
      subst hk
      have hk : k < 28 := by omega
      have f2 : decide (28 < (k : Int) + 1) = false := decide_eq_false h2
      have f3 : (k : Int) + 1 - 1 = (k : Int) := by omega
      have f4 : (k : Int) < 28 := by omega
      have f5 : (0 : Int) ≤ (k : Int) := by omega
      go_enter Tryd.func63, Tryd.ntmps63
      go_wp2_with (refine ldRow28 (w := w) (g := w.heap.size + 1 + 1 + 1 + 1 + 1 + 1 + 1 + 1 + 1 + 1 + 1 + 1 + 1 + 1 + 1 + 1 + 1 + 1 + 1 + 1 + 1 + 1 + 1 + 1 + 1 + 1 + 1 + 1) (k := k) (rowsAt (by (iterate 28 refine below_push ?_ _); exact Below.refl _ _) (by simp only [size_alloc]) (fun i => match i with | ⟨0, _⟩ => ⟨_, rfl⟩ | ⟨1, _⟩ => ⟨_, rfl⟩ | ⟨2, _⟩ => ⟨_, rfl⟩ | ⟨3, _⟩ => ⟨_, rfl⟩ | ⟨4, _⟩ => ⟨_, rfl⟩ | ⟨5, _⟩ => ⟨_, rfl⟩ | ⟨6, _⟩ => ⟨_, rfl⟩ | ⟨7, _⟩ => ⟨_, rfl⟩ | ⟨8, _⟩ => ⟨_, rfl⟩ | ⟨9, _⟩ => ⟨_, rfl⟩ | ⟨10, _⟩ => ⟨_, rfl⟩ | ⟨11, _⟩ => ⟨_, rfl⟩ | ⟨12, _⟩ => ⟨_, rfl⟩ | ⟨13, _⟩ => ⟨_, rfl⟩ | ⟨14, _⟩ => ⟨_, rfl⟩ | ⟨15, _⟩ => ⟨_, rfl⟩ | ⟨16, _⟩ => ⟨_, rfl⟩ | ⟨17, _⟩ => ⟨_, rfl⟩ | ⟨18, _⟩ => ⟨_, rfl⟩ | ⟨19, _⟩ => ⟨_, rfl⟩ | ⟨20, _⟩ => ⟨_, rfl⟩ | ⟨21, _⟩ => ⟨_, rfl⟩ | ⟨22, _⟩ => ⟨_, rfl⟩ | ⟨23, _⟩ => ⟨_, rfl⟩ | ⟨24, _⟩ => ⟨_, rfl⟩ | ⟨25, _⟩ => ⟨_, rfl⟩ | ⟨26, _⟩ => ⟨_, rfl⟩ | ⟨27, _⟩ => ⟨_, rfl⟩ | ⟨j + 28, h⟩ => absurd h (by omega))) hk rfl (.tmp 44) rfl rfl ?_; intro ra)
      go_ret
      exact ⟨⟨_, rfl, Or.inr ⟨⟨_, rfl⟩, by omega⟩⟩, by (iterate 29 refine below_push ?_ _); exact Below.refl _ _⟩
set_option maxRecDepth 100000 in
set_option maxHeartbeats 8000000 in
theorem cRNameOf (n : Int) : Calls Tryd.prog 49 #[.int .i64 n] w fun e w' => (∃ S, e = .returned (.string S) ∧ bs S = svcN n ∧ S.size ≤ 20) ∧ Below w.heap.size w w' := by
  have HR := hid (cRow (w := w) n)
  by_cases hn : 1 ≤ n ∧ n < 29
  · obtain ⟨k, hk⟩ : ∃ k : Nat, n = (k : Int) + 1 := ⟨(n - 1).toNat, by omega⟩
    subst hk
    have hk : k < 28 := by omega
    have f3 : (k : Int) + 1 - 1 = (k : Int) := by omega
    have f4 : (k : Int) < 28 := by omega
    have f5 : (0 : Int) ≤ (k : Int) := by omega
    have hnm : svcs[k]? = some (svcN ((k : Int) + 1)) ∧ (svcN ((k : Int) + 1)).length ≤ 20 := by
      have : ∀ i : Fin 28, svcs[i.val]? = some (svcN ((i.val : Int) + 1)) ∧ (svcN ((i.val : Int) + 1)).length ≤ 20 := by decide +kernel
      exact this ⟨k, hk⟩
    obtain ⟨nm, hnm0⟩ : ∃ nm, nm = svcN ((k : Int) + 1) := ⟨_, rfl⟩
    rw [← hnm0] at hnm ⊢
    have HNM := hid hnm
    have HN := hid hn
    clear hnm hnm0 hn
    go_enter Tryd.func49, Tryd.ntmps49
    go_wp2_with (first | (go_at_call 63; refine HR.out.mono ?_; rintro e w1 ⟨⟨v, rfl, hv⟩, hb⟩; obtain ⟨ra, rfl⟩ := (hv.resolve_left (fun h => h.2 HN.out)).1; have H1 := hid hb; clear hv hb) | (go_at_call 57; refine (cRNames).mono ?_; rintro e w2 ⟨rfl, hn⟩; have HS := hid (show Sts w [rowP 9 1 (.slice (some ⟨w1.heap.size, 0, none⟩) 28 28) 28 (strsV svcs)] w2 from Sts.new stab0 (Sts.nil_below H1.out) hn); have hc := Sts.rowCell HS.out k hk (.string ⟨nm.toArray⟩) (by rw [show strsV svcs = svcs.map strV from rfl, List.getElem?_map, HNM.out.1]; rfl); clear hn))
    go_ret
    exact ⟨⟨_, rfl, rfl, by rw [Scr.bs_size]; exact HNM.out.2⟩, HS.out.below⟩
  · have hnm : svcN n = [] := by
      have hl : (svcs.length : Int) = 28 := rfl
      unfold svcN Scr.nth; rw [if_neg (by omega)]
    rw [hnm]
    have HN := hid hn
    clear hn hnm
    go_enter Tryd.func49, Tryd.ntmps49
    go_wp2_with (first | (go_at_call 63; refine HR.out.mono ?_; rintro e w1 ⟨⟨v, rfl, hv⟩, hb⟩; obtain rfl := (hv.resolve_right (fun h => HN.out h.2)).1; have H1 := hid hb; clear hv hb))
    go_ret
    exact ⟨⟨_, rfl, rfl, by decide⟩, H1.out⟩
end
end Go.Proofs.YtimnhheagdhpgaaDoor
