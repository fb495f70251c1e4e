/- What Lines leaves, read element by element. -/
import Derived.Test.YtimnhheagdhpgaaDoorScsV
import Derived.Deep.MidRow
set_option linter.unusedVariables false
set_option linter.unusedSimpArgs false
namespace Go.Proofs.YtimnhheagdhpgaaDoor
open Go.RowKit Go.Proofs.Num
open Scr (Str bs parseV cutN linesF linesV)
theorem rowsLs_mem : ∀ {l : List A4} {x : A4}, x ∈ l → ∃ L, (rowsLs l).Perm (rowsA4 x ++ L) := by
  intro l x hx
  obtain ⟨l1, l2, rfl⟩ := List.append_of_mem hx
  refine ⟨rowsLs l2 ++ rowsLs l1, ?_⟩
  have e : rowsLs (l1 ++ x :: l2) = rowsLs l2 ++ (rowsA4 x ++ rowsLs l1) := by simp [rowsLs]
  rw [e]
  have h1 : (rowsLs l2 ++ (rowsA4 x ++ rowsLs l1)).Perm ((rowsA4 x ++ rowsLs l1) ++ rowsLs l2) := List.perm_append_comm
  refine h1.trans ?_
  rw [List.append_assoc]
  exact List.Perm.append_left _ List.perm_append_comm
theorem cellsL_at : ∀ {l : List A4} {k : Nat} (hk : k < l.length) (j : Nat), j < 12 → (cellsL l)[k * 12 + j]? = (cellA l[k])[j]?
  | x :: l, 0, hk, j, hj => by
    show (cellA x ++ cellsL l)[0 * 12 + j]? = (cellA x)[j]?
    rw [List.getElem?_append_left (by rw [cellA_len]; omega)]
    congr 1
    omega
  | x :: l, k + 1, hk, j, hj => by
    show (cellA x ++ cellsL l)[(k + 1) * 12 + j]? = _
    rw [List.getElem?_append_right (by rw [cellA_len]; omega), cellA_len, show (k + 1) * 12 + j - 12 = k * 12 + j by omega]
    exact cellsL_at (l := l) (by simpa using hk) j hj
theorem infoActS : (Tryd.prog.info? 29).map (·.size) = some 12 := by kernel_rfl
/-- What Lines returns, as whoever comes after it reads it. -/
def linesE2 (w w' : World) (o : List Scr.Act) (n K : Nat) (e : Ending) : Prop := ∃ (ad : Option Addr) (c : Nat), e = .returned (.tuple #[.slice ad n c, .int .i64 (K : Int)]) ∧ Below w.heap.size w w' ∧
  ∀ k (hk : k < o.length), ∃ g dv av cv, ad = some ⟨g, 0, none⟩ ∧ ∀ x, Below w'.heap.size w' x → (loadVar 29 ⟨g, k * 12, none⟩).run Tryd.prog x = .ok (.agg (actC o[k] dv av cv)) x ∧ ActV x o[k] dv av cv
theorem linesE.two {w w' : World} {o : List Scr.Act × Nat} {e : Ending} (h : linesE w w' o e) : linesE2 w w' o.1 o.1.length o.2 e := by
  obtain ⟨v, l, he, hl, hS⟩ := h
  have hn : o.1.length = l.length := by rw [← hl]; simp
  obtain ⟨-, ⟨hv, h0⟩ | ⟨g, cap, cur, hv, -, hg, hn1, -, hcur, htk⟩⟩ := Sts.rowOwnQ hS
  · refine ⟨none, 0, by rw [he, hv, hn, h0], hS.below, fun k hk => ?_⟩
    omega
  · refine ⟨some ⟨g, 0, none⟩, cap, by rw [he, hv, hn], hS.below, fun k hk => ?_⟩
    have hk' : k < l.length := by omega
    have hx : o.1[k] = l[k].1 := by
      have : o.1[k]? = some l[k].1 := by rw [← hl, List.getElem?_map, List.getElem?_eq_getElem hk']; rfl
      rw [List.getElem?_eq_getElem hk] at this
      exact Option.some.inj this
    obtain ⟨L, hL⟩ := rowsLs_mem (List.getElem_mem hk')
    have hV := Sts.actV ((Sts.tail hS).perm hL)
    refine ⟨g, l[k].2.1, l[k].2.2.1, l[k].2.2.2, rfl, fun x hb => ⟨?_, ?_⟩⟩
    · rw [hx]
      refine run_loadVar_mid (P := Tryd.prog) x g (k * 12) 29 (cellA l[k]) _ ?_ Tryd.underlying29 rfl infoActS
      intro j u hu
      have hj : j < 12 := by
        have := (List.getElem?_eq_some_iff.1 hu).1
        rw [cellA_len] at this
        exact this
      refine cell_below hb (cell_blk hg ?_)
      rw [← cellsL_at hk' j hj, ← htk, List.getElem?_take] at hu
      split at hu
      · rw [← hu]; simp
      · cases hu
    · rw [hx]; exact hV.below hb
theorem exec_ixA {o : Oper} {a : Act} {w : World} {g n c k : Nat} (x i : Operand) (ho : o.op = .indexAddr 38 x i) (hx : a.eval x = .slice (some ⟨g, 0, none⟩) n c) (hi : a.eval i = .int .i64 (k : Int)) (hk : k < n) :
    (execOp a.eval o).run Tryd.prog w = .ok (.value (.pointer (some ⟨g, k * 12, none⟩))) w := by
  unfold execOp
  simp only [ho, hx, hi]
  have h1 : (Instr.indexAt 38 (.slice (some ⟨g, 0, none⟩) n c) (.int .i64 (k : Int))).run Tryd.prog w = .ok (.pointer (some ⟨g, k * 12, none⟩)) w := by
    have e : (⟨g, 0, none⟩ : Addr).add (k * 12) = ⟨g, k * 12, none⟩ := by rw [Addr.add_mid]; simp
    have hs : Sem.run Tryd.prog (sizeOf 29) w = .ok 12 w := by
      cases hq : Tryd.prog.info? 29 with
      | none => have := infoActS; rw [hq] at this; cases this
      | some i => have := infoActS; rw [hq] at this; simp only [Option.map_some, Option.some.injEq] at this; simp [sizeOf, typeInfo, hq, this]
    have hu := run_underlying (P := Tryd.prog) Tryd.underlying38 w
    simp only [Instr.indexAt, asIntOf, Sem.run_bind, Sem.run_pure, Result.andThen_ok, hu]
    have hk2 : (0 : Int) ≤ (k : Int) ∧ (k : Int) < (n : Int) := by omega
    simp [hk2, hs, e]
  simp [Sem.run_bind, h1, Result.andThen]
theorem parse_fewA {s : Str} {a : Scr.Act} (hs : s.length < 900000) (ha : parseV s = some a) : a.args.length < 1000000 := by
  have h1 := Scr.parseR_eq s
  rw [ha] at h1
  unfold Scr.parseR at h1
  split at h1
  · injection h1 with h1
    rw [← h1]
    obtain ⟨g1, g2⟩ := words_len s
    exact (actR_ok (Scr.splitW s) (fun x hx => by have := g2 x hx; omega)).few
  · cases h1
theorem linesF_few : ∀ (f : Nat) (s : Str) (n : Nat) (out : List Scr.Act), s.length < 900000 → (∀ x ∈ out, x.args.length < 1000000) → ∀ x ∈ (linesF f s n out).1, x.args.length < 1000000
  | 0, s, n, out, hs, ho => by unfold linesF; exact ho
  | f + 1, s, n, out, hs, ho => by
    unfold linesF
    split
    · exact ho
    · split
      · simp
      · rename_i a b hc
        have h1 := (Scr.cutN_some hc).1
        have h2 := congrArg List.length h1
        simp only [List.length_append, List.length_cons] at h2
        split
        · simp
        · rename_i x hx
          refine linesF_few f b (n + 1) (out ++ [x]) (by omega) ?_
          intro y hy
          rcases List.mem_append.1 hy with hy | hy
          · exact ho y hy
          · rw [List.mem_singleton] at hy; subst hy; exact parse_fewA (by omega) hx
theorem linesF_cnt : ∀ (f : Nat) (s : Str) (n : Nat) (out : List Scr.Act), (linesF f s n out).1.length ≤ out.length + s.length
  | 0, s, n, out => by unfold linesF; exact Nat.le_add_right _ _
  | f + 1, s, n, out => by
    unfold linesF
    split
    · exact Nat.le_add_right _ _
    · split
      · simp
      · rename_i a b hc
        have h1 := Scr.cutN_len hc
        split
        · simp
        · rename_i x hx
          have := linesF_cnt f b (n + 1) (out ++ [x])
          simp only [List.length_append, List.length_cons, List.length_nil] at this
          omega
theorem linesV_cnt (s : Str) : (linesV s).1.length ≤ s.length := by
  have := linesF_cnt (s.length + 1) s 1 []
  simpa [linesV] using this
theorem linesV_few {s : Str} (hs : s.length < 900000) : ∀ x ∈ (linesV s).1, x.args.length < 1000000 := linesF_few _ _ _ _ hs (by simp)
end Go.Proofs.YtimnhheagdhpgaaDoor
