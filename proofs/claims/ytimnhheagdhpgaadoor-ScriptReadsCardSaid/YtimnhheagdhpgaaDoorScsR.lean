/- Rows of acts. The lines of a text: script.Lines. -/
import Derived.Test.YtimnhheagdhpgaaDoorScsP
import Derived.Test.YtimnhheagdhpgaaDoorSclB
import Derived.Lib.IndexMore
set_option linter.unusedVariables false
set_option linter.unusedSimpArgs false
namespace Go.Proofs.YtimnhheagdhpgaaDoor
open Go.RowKit Go.Proofs.Num
abbrev A4 := Scr.Act × Value × Value × Value
def cellA (x : A4) : List Value := (actC x.1 x.2.1 x.2.2.1 x.2.2.2).toList
def cellsL : List A4 → List Value
  | [] => []
  | x :: r => cellA x ++ cellsL r
def rowsA4 (x : A4) : List HProp := rowsA x.1 x.2.1 x.2.2.1 x.2.2.2
/-- The rows of the acts, the last one first. -/
def rowsLs (L : List A4) : List HProp := L.reverse.flatMap rowsA4
theorem rowsLs_snoc (L : List A4) (x : A4) : rowsLs (L ++ [x]) = rowsA4 x ++ rowsLs L := by simp [rowsLs]
theorem rowsLs_stable (L : List A4) : ∀ A ∈ rowsLs L, Stable A := by
  intro A hA
  obtain ⟨x, _, hx⟩ := List.mem_flatMap.1 hA
  exact rowsA_stable _ _ _ _ A hx
theorem cellsL_app : ∀ l m : List A4, cellsL (l ++ m) = cellsL l ++ cellsL m
  | [], m => rfl
  | x :: l, m => by simp [cellsL, cellsL_app l m]
theorem cellA_len (x : A4) : (cellA x).length = 12 := rfl
theorem cellsL_len : ∀ l : List A4, (cellsL l).length = l.length * 12
  | [] => rfl
  | x :: l => by simp only [cellsL, List.length_append, cellsL_len l, cellA_len, List.length_cons]; omega
theorem cellsL_one (x : A4) : cellsL [x] = cellA x := by simp [cellsL]
/-- A slice of three words: neither an aggregate. -/
def isSl (v : Value) : Prop := ∃ a n c, v = .slice a n c
theorem isSl.one {v : Value} (h : isSl v) : v.oneCell' = true := by obtain ⟨a, n, c, rfl⟩ := h; rfl
theorem cellA_one {x : A4} (h1 : isSl x.2.1) (h2 : isSl x.2.2.1) (h3 : isSl x.2.2.2) : ∀ u ∈ cellA x, u.oneCell' = true := by
  obtain ⟨a, dv, av, cv⟩ := x
  obtain ⟨a1, n1, c1, rfl⟩ := h1
  obtain ⟨a2, n2, c2, rfl⟩ := h2
  obtain ⟨a3, n3, c3, rfl⟩ := h3
  intro u hu
  simp only [cellA, actC, List.mem_cons, List.not_mem_nil, or_false] at hu
  rcases hu with rfl | rfl | rfl | rfl | rfl | rfl | rfl | rfl | rfl | rfl | rfl | rfl <;> rfl
theorem Sts.grownQ {W w w1 : World} {l : List HProp} {e : TypeId} {s : Nat} {v v' : Value} {n n' : Nat} {xs xs' : List Value} (hl : ∀ A ∈ l, Stable A) (h : Sts W (rowP e s v n xs :: l) w)
    (hg : w.grownBy w1 v.ownBlock) (ho : w1.ownsRow 0 e s v' n' xs') (hv : ∀ k, v'.ownBlock = some k → v.ownBlock = some k ∨ w.heap.size ≤ k) : Sts W (rowP e s v' n' xs' :: l) w1 := by
  obtain ⟨F, ⟨F1, F2, ⟨a, hF1⟩, r, hd, hF⟩, hb, hn⟩ := h
  have hs := stars_stable hl
  have hk : Keep F1 w w1 := Keep.of_grown hg (fun k hk _ => (hF1 k).2 hk)
  refine ⟨fun k => v'.ownBlock = some k ∨ F2 k, ⟨fun k => v'.ownBlock = some k, F2, ⟨ho, fun k => Iff.rfl⟩, hs.keep r hk (fun k h2 h1 => hd k h1 h2), ?_, fun k => Iff.rfl⟩, ?_, ?_⟩
  · intro k h1 h2
    rcases hv k h1 with h | h
    · exact hd k ((hF1 k).2 h) h2
    · have := hs.dom r k h2; omega
  · exact hb.grown hg hb.size (fun k hk => hn k ((hF k).2 (Or.inl ((hF1 k).2 hk))))
  · rintro k (h | h)
    · rcases hv k h with h' | h'
      · exact hn k ((hF k).2 (Or.inl ((hF1 k).2 h')))
      · have := hb.size; omega
    · exact hn k ((hF k).2 (Or.inr h))
theorem Sts.rowOwnQ {W w : World} {l : List HProp} {e : TypeId} {s : Nat} {v : Value} {n : Nat} {xs : List Value} (h : Sts W (rowP e s v n xs :: l) w) : w.ownsRow 0 e s v n xs := by
  obtain ⟨F, a, _⟩ := h.head; exact a
theorem Sts.rowNilQ {W w : World} {l : List HProp} (e : TypeId) (s : Nat) (h : Sts W l w) : Sts W (rowP e s (.slice none 0 0) 0 [] :: l) w := by
  obtain ⟨F, a, b, c⟩ := h
  exact ⟨F, ⟨fun _ => False, F, ⟨⟨by simp, Or.inl ⟨rfl, rfl⟩⟩, fun k => by simp [Value.ownBlock]⟩, a, fun _ h => h.elim, fun k => by simp⟩, b, c⟩
set_option maxRecDepth 100000 in
theorem infoActA : (Tryd.prog.info? 29).map (fun i => (i.zero, i.size, i.bytes)) = some (some (.agg (actC Scr.act0 (.slice none 0 0) (.slice none 0 0) (.slice none 0 0))), 12, 152) := by kernel_rfl
theorem new_cells (x : World) (cs : Array Value) (t : TypeId) : ∀ (j : Nat) (u : Value), cs.toList[j]? = some u → (x.alloc (.cells cs t)).cell? ((⟨x.heap.size, 0, none⟩ : Addr).add j) = some u := by
  intro j u hj
  have e : (⟨x.heap.size, 0, none⟩ : Addr).add j = ⟨x.heap.size, j, none⟩ := by
    unfold Addr.add
    split
    · simp_all
    · simp
  rw [e]
  exact cell_blk (heap_new x (.cells cs t) rfl) (by simpa using hj)
theorem wpList_appendA {ops : Array Oper} {rest : List Oper} {o : Oper} {a : Act} {Q : Exit → Act → World → Prop} {W w : World} {L : List HProp} {v : Value} {l : List A4} (x : A4) (hgd : o.guard = none) (s y : Operand)
    (ho : o.op = .call { callee := .builtin .append, args := #[s, y], argTypes := #[38, 38] }) (hS : Sts W (rowP 29 12 v l.length (cellsL l) :: L) w) (hL : ∀ B ∈ L, Stable B)
    (hs : a.eval s = v) (ad : Addr) (c : Nat) (hx : a.eval y = .slice (some ad) 1 c) (hnews : ∀ j u, (cellA x)[j]? = some u → w.cell? (ad.add j) = some u) (hone : ∀ u ∈ cellA x, u.oneCell' = true) (hlen : l.length < 1000000)
    (h : ∀ v' w', Sts W (rowP 29 12 v' (l ++ [x]).length (cellsL (l ++ [x])) :: L) w' → wpList Tryd.prog ops Q rest (a.put o.dst v') w') : wpList Tryd.prog ops Q (o :: rest) a w := by
  refine wpList_plain hgd fun K hK => ?_
  obtain ⟨i0, hi, hz0, hz1, hz2⟩ := info_parts infoActA
  obtain ⟨v', w', hrun, hown, hgr, _, hbl⟩ := run_append_own_at (P := Tryd.prog) w 0 38 o.type 29 i0 (.agg (actC Scr.act0 (.slice none 0 0) (.slice none 0 0) (.slice none 0 0))) 12 152 Tryd.underlying38 hi hz0 hz1 hz2 rfl (by decide) v l.length (cellsL l) (Sts.rowOwnQ hS) ad 1 c (cellA x) (cellA_len x) hnews hone (by unfold maxLen; omega) (by omega) (Nat.zero_le _)
  have hS2 := Sts.grownQ hL hS hgr hown (by
    intro k hk
    rcases hbl with h | h
    · exact Or.inl (h ▸ hk)
    · rw [h] at hk; injection hk with hk; exact Or.inr (by omega))
  rw [show l.length + 1 = (l ++ [x]).length by simp, ← cellsL_one x, ← cellsL_app] at hS2
  unfold Oper.wp
  simp [execOp, ho, resolve, invoke, builtin, hs, hx, hrun, Result.andThen]
  exact hK _ _ (h v' w' hS2)
/-- A parsed act that comes behind the row. -/
theorem Sts.parsed {W w w' : World} {v : Value} {l : List A4} {a : Scr.Act} {dv av cv : Value} (h : Sts W (rowP 29 12 v l.length (cellsL l) :: rowsLs l) w) (k : Sts w (rowsA a dv av cv) w') :
    Sts W (rowP 29 12 v l.length (cellsL l) :: rowsLs (l ++ [(a, dv, av, cv)])) w' := by
  have h1 := Sts.cat (stabC (rowP_stable _ _ _ _ _) (rowsLs_stable l)) h k
  rw [rowsLs_snoc]
  exact h1.perm List.perm_middle
/-- What the list of acts owns and nothing else. -/
structure ListV (W w : World) (v : Value) (l : List A4) : Prop where
  sts : Sts W (rowP 29 12 v l.length (cellsL l) :: rowsLs l) w
theorem rowsA_slices {W w : World} {a : Scr.Act} {dv av cv : Value} (h : Sts W (rowsA a dv av cv) w) : isSl dv ∧ isSl av ∧ isSl cv := by
  have hv := Sts.actV (l := []) (by rw [List.append_nil]; exact h)
  obtain ⟨a1, c1, e1⟩ := hv.data.eq
  obtain ⟨a2, c2, e2⟩ := hv.args.eq
  obtain ⟨a3, c3, e3⟩ := hv.cdata.eq
  exact ⟨⟨_, _, _, e1⟩, ⟨_, _, _, e2⟩, ⟨_, _, _, e3⟩⟩
end Go.Proofs.YtimnhheagdhpgaaDoor
namespace Go.Proofs.YtimnhheagdhpgaaDoor
open Go.RowKit Go.Proofs.Num
open Scr (Str bs parseV cutN linesF linesV)
theorem index_nl : ∀ (s : Str), Lib.index s [10] = match cutN s with | some (a, _) => (a.length : Int) | none => -1
  | [] => rfl
  | c :: r => by
    have ih := index_nl r
    unfold Lib.index cutN
    by_cases hc : c = 10
    · subst hc; rfl
    · have h1 : List.isPrefixOf [10] (c :: r) = false := by simp [List.isPrefixOf]; exact fun h => hc h.symm
      rw [h1, if_neg hc, ih]
      cases cutN r with
      | none => rfl
      | some p =>
        obtain ⟨a, b⟩ := p
        have : (((a.length : Int)) == -1) = false := by rw [beq_eq_false_iff_ne]; omega
        simp [this]
theorem cut_nl (s : Str) : Lib.cut s [10] = match cutN s with | some (a, b) => (a, b, true) | none => (s, [], false) := by
  unfold Lib.cut
  rw [index_nl]
  cases h : cutN s with
  | none => rfl
  | some p =>
    obtain ⟨a, b⟩ := p
    have he := (Scr.cutN_some h).1
    have h0 : (0 : Int) ≤ (a.length : Int) := by omega
    simp only [h0, if_true]
    rw [he]
    simp
def linesE (w w' : World) (o : List Scr.Act × Nat) (e : Ending) : Prop := ∃ (v : Value) (l : List A4), e = .returned (.tuple #[v, .int .i64 (o.2 : Int)]) ∧ l.map (·.1) = o.1 ∧ Sts w (rowP 29 12 v l.length (cellsL l) :: rowsLs l) w'
section
variable {w : World}
theorem cCut (r : Str) (hr : r.length < 1000000) (hE : Env w) : Calls Tryd.prog 24 #[.string ⟨r.toArray⟩, .string ⟨#[10]⟩] w fun e w' => e = .returned (.tuple #[.string ⟨(Lib.cut r [10]).1.toArray⟩, .string ⟨(Lib.cut r [10]).2.1.toArray⟩, .bool (Lib.cut r [10]).2.2]) ∧ Below w.heap.size w w' := by
  obtain ⟨m, hm⟩ := hE.most
  refine (Tryd.strings_Cut ⟨r.toArray⟩ ⟨#[10]⟩ m w (by show r.toArray.size < _; simp; omega) hm).mono ?_
  rintro e w' ⟨rfl, n, rfl⟩
  exact ⟨rfl, below_drewN (Below.refl _ _) n⟩
def LInv (r : Str) (k : Nat) (l : List A4) (res : List Scr.Act × Nat) : Prop := linesF (r.length + 1) r k (l.map (·.1)) = res
theorem LInv.done {k : Nat} {l : List A4} {res : List Scr.Act × Nat} (h : LInv [] k l res) : res = (l.map (·.1), 0) := by rw [← h]; simp [linesF]
theorem LInv.none {r : Str} {k : Nat} {l : List A4} {res : List Scr.Act × Nat} (h : LInv r k l res) (hr : r ≠ []) (hc : cutN r = Option.none) : res = ([], k) := by rw [← h]; simp [linesF, hr, hc]
theorem LInv.bad {r a b : Str} {k : Nat} {l : List A4} {res : List Scr.Act × Nat} (h : LInv r k l res) (hr : r ≠ []) (hc : cutN r = some (a, b)) (hp : parseV a = Option.none) : res = ([], k) := by rw [← h]; simp [linesF, hr, hc, hp]
theorem LInv.step {r a b : Str} {k : Nat} {l : List A4} {res : List Scr.Act × Nat} (h : LInv r k l res) (hr : r ≠ []) (hc : cutN r = some (a, b)) (x : A4) (hp : parseV a = some x.1) : LInv b (k + 1) (l ++ [x]) res := by
  have hl := Scr.cutN_len hc
  unfold LInv at h ⊢
  rw [← h]
  conv => rhs; unfold linesF
  rw [if_neg hr, hc]
  simp only [hp]
  rw [show l.map (·.1) ++ [x.1] = (l ++ [x]).map (·.1) by simp]
  exact Scr.linesF_more _ _ _ _ _ (by omega) (by omega)
end
end Go.Proofs.YtimnhheagdhpgaaDoor
