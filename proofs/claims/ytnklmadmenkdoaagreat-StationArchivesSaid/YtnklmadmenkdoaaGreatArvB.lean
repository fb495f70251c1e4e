/- Packets of an archive as rows of items; an append of one struct. -/
import Derived.Test.YtnklmadmenkdoaaGreatArvA
import Derived.Test.YtnklmadmenkdoaaGreatQArcB
set_option linter.unusedVariables false
set_option linter.unusedSimpArgs false
namespace Go.Proofs.YtnklmadmenkdoaaGreat
open Go.RowKit Go.Proofs.Num
theorem infoItm3 : (Tryz.prog.info? 102).map (fun i => (i.zero, i.size, i.bytes)) = some (some (.agg #[.int .i64 0, .int .i64 0, .int .i64 0, .slice none 0 0]), 4, 48) := by kernel_rfl
def icl (p : EntV) : List Value := [.int .i64 (p.1.a : Int), .int .i64 (p.1.n : Int), .int .i64 (p.1.t : Int), p.2]
theorem icl_len (p : EntV) : (icl p).length = 4 := rfl
/-- A row of items, with their data. -/
def itmL (v : Value) (es : List EntV) (l : List HProp) : List HProp := rowP 102 4 v es.length (es.flatMap icl) :: (datL es ++ l)
theorem datL_stable (es : List EntV) {l : List HProp} (hl : ∀ B ∈ l, Stable B) : ∀ B ∈ datL es ++ l, Stable B := fun B hB => by
  rcases List.mem_append.1 hB with h | h
  · obtain ⟨e, _, rfl⟩ := List.mem_map.1 h
    exact rowP_stable _ _ _ _ _
  · exact hl B h
theorem itmL_stable (v : Value) (es : List EntV) {l : List HProp} (hl : ∀ B ∈ l, Stable B) : ∀ B ∈ itmL v es l, Stable B := stabC (rowP_stable _ _ _ _ _) (datL_stable es hl)
set_option maxRecDepth 100000 in
theorem exec_bldIt {o : Oper} {a : Act} {w : World} (x : Operand) (ho : o.op = .buildSlice 95 1 #[(0, x)]) (i1 i2 i3 : Int) (a1 : Option Addr) (n1 c1 : Nat) (hx : a.eval x = .agg #[.int .i64 i1, .int .i64 i2, .int .i64 i3, .slice a1 n1 c1]) :
    (execOp a.eval o).run Tryz.prog w = .ok (.value (.slice (some ⟨w.heap.size, 0, none⟩) 1 1)) (w.alloc (.cells #[.int .i64 i1, .int .i64 i2, .int .i64 i3, .slice a1 n1 c1] 102)) := by
  have key : ∀ u, u = Value.agg #[.int .i64 i1, .int .i64 i2, .int .i64 i3, .slice a1 n1 c1] → (Instr.buildSlice 95 1 #[(0, u)]).run Tryz.prog w = .ok (.slice (some ⟨w.heap.size, 0, none⟩) 1 1) (w.alloc (.cells #[.int .i64 i1, .int .i64 i2, .int .i64 i3, .slice a1 n1 c1] 102)) := by
    rintro u rfl
    kernel_rfl
  unfold execOp
  simp only [ho]
  rw [show Array.map (fun x => (x.fst, a.eval x.snd)) #[((0 : Nat), x)] = #[(0, a.eval x)] by simp]
  simp only [Sem.run_bind, key _ hx, Result.andThen]
  rfl
theorem wpList_bldIt {ops : Array Oper} {rest : List Oper} {o : Oper} {a : Act} {Q : Exit → Act → World → Prop} {W w : World} {L : List HProp} (hgd : o.guard = none) (x : Operand) (ho : o.op = .buildSlice 95 1 #[(0, x)]) (i1 i2 i3 : Int) (a1 : Option Addr) (n1 c1 : Nat) (hx : a.eval x = .agg #[.int .i64 i1, .int .i64 i2, .int .i64 i3, .slice a1 n1 c1]) (hS : Sts W L w) (hL : ∀ B ∈ L, Stable B)
    (h : ∀ g w', Sts W (blkP g (.cells #[.int .i64 i1, .int .i64 i2, .int .i64 i3, .slice a1 n1 c1] 102 (0, 0)) :: L) w' → wpList Tryz.prog ops Q rest (a.put o.dst (.slice (some ⟨g, 0, none⟩) 1 1)) w') : wpList Tryz.prog ops Q (o :: rest) a w := by
  refine wpList_plain hgd fun K hK => ?_
  unfold Oper.wp
  rw [exec_bldIt x ho i1 i2 i3 a1 n1 c1 hx]
  exact hK _ _ (h _ _ (hS.alloc hL _))
/-- append of one struct that lies in a block of its own. -/
theorem wpList_appOne {S T : TypeId} {s by' : Nat} {z : Value} {ops : Array Oper} {rest : List Oper} {o : Oper} {a : Act} {Q : Exit → Act → World → Prop} {W w : World} {L : List HProp} {v : Value} {n : Nat} {xs : List Value}
    (hu : Tryz.prog.underlying S = some (.slice T)) (hinfo : (Tryz.prog.info? T).map (fun i => (i.zero, i.size, i.bytes)) = some (some z, s, by')) (hzs : z.cells.size = s) (hs0 : 0 < s) (hby : by' ≤ 100) (hgd : o.guard = none) (sl x : Operand)
    (ho : o.op = .call { callee := .builtin .append, args := #[sl, x], argTypes := #[S, S] }) {g : Nat} {c : Array Value} (hc : c.size = s) (hS : Sts W (rowP T s v n xs :: blkP g (.cells c T (0, 0)) :: L) w) (hL : ∀ B ∈ L, Stable B)
    (hs : a.eval sl = v) (hx : a.eval x = .slice (some ⟨g, 0, none⟩) 1 1) (h1 : ∀ u ∈ c.toList, u.oneCell' = true) (hn : n < 1000000)
    (h : ∀ v' w', Sts W (rowP T s v' (n + 1) (xs ++ c.toList) :: L) w' → wpList Tryz.prog ops Q rest (a.put o.dst v') w') : wpList Tryz.prog ops Q (o :: rest) a w := by
  refine wpList_plain hgd fun K hK => ?_
  obtain ⟨i0, hi, hz0, hz1, hz2⟩ := info_parts hinfo
  have hb : w.heap[g]? = some (.cells c T (0, 0)) := by obtain ⟨F, hF⟩ := hS.swap.head; exact hF.1
  obtain ⟨v', w', hrun, hown, hgr, _, hbl⟩ := run_append_own_at (P := Tryz.prog) w 0 S o.type T i0 z s by' hu hi hz0 hz1 hz2 hzs hs0 v n xs (Sts.rowOwnS' hS) ⟨g, 0, none⟩ 1 1 c.toList (by simp [hc]) (news_blk hb rfl) h1 (by unfold maxLen; omega) (Nat.le_trans (Nat.mul_le_mul_left (n + 1) hby) (by omega)) (Nat.zero_le _)
  have hS2 := Sts.grownS' (stabC (blkP_stable _ _) hL) hS hgr hown (by
    intro k hk
    rcases hbl with h | h
    · exact Or.inl (h ▸ hk)
    · rw [h] at hk; injection hk with hk; exact Or.inr (by omega))
  unfold Oper.wp
  simp [execOp, ho, resolve, invoke, builtin, hs, hx, hrun, Result.andThen]
  exact hK _ _ (h v' w' hS2.swap.tail)
/-- append of a row's cells to an empty row (a copy). -/
theorem wpList_appRow {S T : TypeId} {s by' : Nat} {z : Value} {ops : Array Oper} {rest : List Oper} {o : Oper} {a : Act} {Q : Exit → Act → World → Prop} {W w : World} {L : List HProp} {v : Value} {m cap : Nat} {ad : Addr} {ys : List Value}
    (hu : Tryz.prog.underlying S = some (.slice T)) (hinfo : (Tryz.prog.info? T).map (fun i => (i.zero, i.size, i.bytes)) = some (some z, s, by')) (hzs : z.cells.size = s) (hs0 : 0 < s) (hby : by' ≤ 100) (hgd : o.guard = none) (sl x : Operand)
    (ho : o.op = .call { callee := .builtin .append, args := #[sl, x], argTypes := #[S, S] }) (hS : Sts W (rowP T s v 0 [] :: L) w) (hL : ∀ B ∈ L, Stable B)
    (hs : a.eval sl = v) (hx : a.eval x = .slice (some ad) m cap) (hyl : ys.length = m * s) (hys : ∀ j u, ys[j]? = some u → w.cell? (ad.add j) = some u) (h1 : ∀ u ∈ ys, u.oneCell' = true) (hm : m < 1000000)
    (h : ∀ v' w', Sts W (rowP T s v' m ys :: L) w' → wpList Tryz.prog ops Q rest (a.put o.dst v') w') : wpList Tryz.prog ops Q (o :: rest) a w := by
  refine wpList_plain hgd fun K hK => ?_
  obtain ⟨i0, hi, hz0, hz1, hz2⟩ := info_parts hinfo
  obtain ⟨v', w', hrun, hown, hgr, _, hbl⟩ := run_append_own_at (P := Tryz.prog) w 0 S o.type T i0 z s by' hu hi hz0 hz1 hz2 hzs hs0 v 0 [] (Sts.rowOwnS' hS) ad m cap ys hyl hys h1 (by unfold maxLen; omega) (Nat.le_trans (Nat.mul_le_mul_left (0 + m) hby) (by omega)) (Nat.zero_le _)
  rw [Nat.zero_add, List.nil_append] at hown
  have hS2 := Sts.grownS' hL hS hgr hown (by
    intro k hk
    rcases hbl with h | h
    · exact Or.inl (h ▸ hk)
    · rw [h] at hk; injection hk with hk; exact Or.inr (by omega))
  unfold Oper.wp
  simp [execOp, ho, resolve, invoke, builtin, hs, hx, hrun, Result.andThen]
  exact hK _ _ (h v' w' hS2)
end Go.Proofs.YtnklmadmenkdoaaGreat
