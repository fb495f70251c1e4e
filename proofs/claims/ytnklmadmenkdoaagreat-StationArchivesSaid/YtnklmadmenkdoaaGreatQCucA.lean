/- The formats of time codes: cuc.all, index, Valid, Size. -/
import Derived.Test.YtnklmadmenkdoaaGreatQTkB
set_option linter.unusedVariables false
set_option linter.unusedSimpArgs false
namespace Go.Proofs.YtnklmadmenkdoaaGreat
open Go.RowKit Go.Proofs.Num
set_option maxRecDepth 100000 in
theorem szFmt : ∀ w, (Go.sizeOf 316).run Tryz.prog w = .ok 2 w := fun w => by first | rfl | simp [go_sem] | kernel_rfl
theorem infoFmt : (Tryz.prog.info? 316).map (·.size) = some 2 := by kernel_rfl
theorem infoFmt3 : (Tryz.prog.info? 316).map (fun i => (i.zero, i.size, i.bytes)) = some (some (.agg #[.int .i64 0, .int .i64 0]), 2, 16) := by kernel_rfl
theorem ldFmt {W w : World} {l : List HProp} {b : Nat} {cs : Array Value} (hs : cs.size = 2) (h : Sts W (blkP b (.cells cs 316 (0, 0)) :: l) w) : (loadVar 316 ⟨b, 0, none⟩).run Tryz.prog w = .ok (.agg cs) w := by
  have hb : w.heap[b]? = some (.cells cs 316 (0, 0)) := by obtain ⟨F, hF⟩ := h.head; exact hF.1
  exact run_loadVar_row (P := Tryz.prog) w b 316 316 cs (0, 0) _ hb Tryz.underlying316 rfl (by rw [infoFmt, hs])
set_option maxRecDepth 100000 in
theorem exec_bldF {o : Oper} {a : Act} {w : World} (x : Operand) (ho : o.op = .buildSlice 370 1 #[(0, x)]) (i1 i2 : Int) (hx : a.eval x = .agg #[.int .i64 i1, .int .i64 i2]) :
    (execOp a.eval o).run Tryz.prog w = .ok (.value (.slice (some ⟨w.heap.size, 0, none⟩) 1 1)) (w.alloc (.cells #[.int .i64 i1, .int .i64 i2] 316)) := by
  have key : ∀ u, u = Value.agg #[.int .i64 i1, .int .i64 i2] → (Instr.buildSlice 370 1 #[(0, u)]).run Tryz.prog w = .ok (.slice (some ⟨w.heap.size, 0, none⟩) 1 1) (w.alloc (.cells #[.int .i64 i1, .int .i64 i2] 316)) := by
    rintro u rfl
    kernel_rfl
  unfold execOp
  simp only [ho]
  rw [show Array.map (fun x => (x.fst, a.eval x.snd)) #[((0 : Nat), x)] = #[(0, a.eval x)] by simp]
  simp only [Sem.run_bind, key _ hx, Result.andThen]
  rfl
theorem wpList_bldF {ops : Array Oper} {rest : List Oper} {o : Oper} {a : Act} {Q : Exit → Act → World → Prop} {W w : World} {L : List HProp} (hgd : o.guard = none) (x : Operand) (ho : o.op = .buildSlice 370 1 #[(0, x)]) (i1 i2 : Int) (hx : a.eval x = .agg #[.int .i64 i1, .int .i64 i2]) (hS : Sts W L w) (hL : ∀ B ∈ L, Stable B)
    (h : ∀ g w', Sts W (blkP g (.cells #[.int .i64 i1, .int .i64 i2] 316 (0, 0)) :: L) w' → wpList Tryz.prog ops Q rest (a.put o.dst (.slice (some ⟨g, 0, none⟩) 1 1)) w') : wpList Tryz.prog ops Q (o :: rest) a w := by
  refine wpList_plain hgd fun K hK => ?_
  unfold Oper.wp
  rw [exec_bldF x ho i1 i2 hx]
  exact hK _ _ (h _ _ (hS.alloc hL _))
theorem wpList_appK {W w : World} {l : List HProp} {S T : TypeId} {s by' : Nat} {z : Value} {ops : Array Oper} {rest : List Oper} {o : Oper} {a : Act} {Q : Exit → Act → World → Prop} (hu : Tryz.prog.underlying S = some (.slice T)) (hinfo : (Tryz.prog.info? T).map (fun i => (i.zero, i.size, i.bytes)) = some (some z, s, by')) (hzs : z.cells.size = s) (hs0 : 0 < s) (hby : by' ≤ 100) (hgd : o.guard = none) (sx x : Operand)
    (ho : o.op = .call { callee := .builtin .append, args := #[sx, x], argTypes := #[S, S] }) {v : Value} {n : Nat} {xs : List Value} {g : Nat} {c : Array Value} (hc : c.size = s) (hS : Sts W (rowP T s v n xs :: blkP g (.cells c T (0, 0)) :: l) w) (hL : ∀ B ∈ l, Stable B)
    (hs : a.eval sx = v) (hx : a.eval x = .slice (some ⟨g, 0, none⟩) 1 1) (h1 : ∀ u ∈ c.toList, u.oneCell' = true) (hn : n < 1000000)
    (h : ∀ v' w', Sts W (rowP T s v' (n + 1) (xs ++ c.toList) :: l) w' → wpList Tryz.prog ops Q rest (a.put o.dst v') w') : wpList Tryz.prog ops Q (o :: rest) a w := by
  refine wpList_plain hgd fun K hK => ?_
  obtain ⟨i0, hi, hz0, hz1, hz2⟩ := info_parts hinfo
  have hb : w.heap[g]? = some (.cells c T (0, 0)) := by obtain ⟨F, hF⟩ := hS.swap.head; exact hF.1
  have hb2 : (n + 1) * by' ≤ (n + 1) * 100 := Nat.mul_le_mul_left _ hby
  obtain ⟨v', w', hrun, hown, hgr, _, hbl⟩ := run_append_own_at (P := Tryz.prog) w 0 S o.type T i0 z s by' hu hi hz0 hz1 hz2 hzs hs0 v n xs (Sts.rowOwnS' hS) ⟨g, 0, none⟩ 1 1 c.toList (by simp [hc]) (news_blk hb rfl) h1 (by unfold maxLen; omega) (by omega) (Nat.zero_le _)
  have hS2 := Sts.grownS' (stabC (blkP_stable _ _) hL) hS hgr hown (by
    intro k hk
    rcases hbl with h | h
    · exact Or.inl (h ▸ hk)
    · rw [h] at hk; injection hk with hk; exact Or.inr (by omega))
  unfold Oper.wp
  simp [execOp, ho, resolve, invoke, builtin, hs, hx, hrun, Result.andThen]
  exact hK _ _ (h v' w' hS2.swap.tail)
/-- The first n formats. -/
def cucR (n : Nat) : List Value := ((List.range n).map (fun i => [Value.int .i64 ((i / 4 + 1 : Nat) : Int), .int .i64 ((i % 4 : Nat) : Int)])).flatten
theorem cucR_succ (k m : Nat) (hm : m < 4) : cucR (k * 4 + (m + 1)) = cucR (k * 4 + m) ++ [.int .i64 ((k + 1 : Nat) : Int), .int .i64 (m : Int)] := by
  unfold cucR
  have e1 : (k * 4 + m) / 4 = k := by omega
  have e2 : (k * 4 + m) % 4 = m := by omega
  rw [← Nat.add_assoc, List.range_succ, List.map_append, List.flatten_append]
  simp only [List.map_cons, List.map_nil, List.flatten_cons, List.flatten_nil, List.append_nil, e1, e2]
theorem cucR_get (k : Nat) (hk : k < 16) : (cucR 16)[k * 2]? = some (.int .i64 ((k / 4 + 1 : Nat) : Int)) ∧ (cucR 16)[k * 2 + 1]? = some (.int .i64 ((k % 4 : Nat) : Int)) := by
  have h : k = 0 ∨ k = 1 ∨ k = 2 ∨ k = 3 ∨ k = 4 ∨ k = 5 ∨ k = 6 ∨ k = 7 ∨ k = 8 ∨ k = 9 ∨ k = 10 ∨ k = 11 ∨ k = 12 ∨ k = 13 ∨ k = 14 ∨ k = 15 := by omega
  rcases h with rfl | rfl | rfl | rfl | rfl | rfl | rfl | rfl | rfl | rfl | rfl | rfl | rfl | rfl | rfl | rfl <;> exact ⟨rfl, rfl⟩
/-- What all() has made. -/
def cucP (g off c : Nat) : HProp := fun w F => off = 0 ∧ rowP 316 2 (.slice (some ⟨g, 0, none⟩) 16 c) 16 (cucR 16) w F
theorem cucP_stable (g off c : Nat) : Stable (cucP g off c) where
  dom := by rintro w F ⟨_, h⟩; exact (rowP_stable _ _ _ _ _).dom h
  keep := by rintro w w' F S ⟨e, h⟩ hk hS; exact ⟨e, (rowP_stable _ _ _ _ _).keep h hk hS⟩
theorem cuc_cell {W w : World} {l : List HProp} {g c : Nat} (h : Sts W (rowP 316 2 (.slice (some ⟨g, 0, none⟩) 16 c) 16 (cucR 16) :: l) w) (j : Nat) (v : Value) (hv : (cucR 16)[j]? = some v) : w.cell? ⟨g, j, none⟩ = some v := by
  have h1 := (Sts.rowOwnS' h).cells (g := g) rfl j v hv
  unfold Addr.add at h1
  by_cases hj : j = 0
  · subst hj; simpa using h1
  · simpa [hj] using h1
theorem cuc_cells {W w : World} {l : List HProp} {g off c : Nat} (h : Sts W (cucP g off c :: l) w) : w.cell? ⟨g, off + 26, none⟩ = some (.int .i64 4) ∧ w.cell? ⟨g, off + 27, none⟩ = some (.int .i64 1) := by
  obtain ⟨F, e, _⟩ := h.head
  subst e
  have h2 := h.weaken (fun F hF => hF.2)
  have k1 := cuc_cell h2 26 _ (cucR_get 13 (by decide)).1
  have k2 := cuc_cell h2 27 _ (cucR_get 13 (by decide)).2
  exact ⟨k1, k2⟩
section
variable {W w : World} {l : List HProp}
set_option maxRecDepth 100000 in
set_option maxHeartbeats 4000000 in
theorem cCucRow (hl : ∀ B ∈ l, Stable B) (hs : Sts W l w) : Calls Tryz.prog 267 #[] w fun e w' => ∃ g c, e = .returned (.slice (some ⟨g, 0, none⟩) 16 c) ∧ 16 ≤ c ∧ Sts W (rowP 316 2 (.slice (some ⟨g, 0, none⟩) 16 c) 16 (cucR 16) :: l) w' := by
  have H0 := hid (show Sts W (rowP 316 2 (.slice none 0 0) (0 * 4) (cucR (0 * 4)) :: l) w from Sts.rowNilT 316 2 hs)
  have HL := hid hl
  clear hs hl
  go_enter Tryz.func267, Tryz.ntmps267
  go_wp2_with fail
  go_loopw [1, 4] (fun v i wr => ∃ k : Nat, k ≤ 4 ∧ i = .int .i64 (k : Int) ∧ Sts W (rowP 316 2 v (k * 4) (cucR (k * 4)) :: l) wr) (fun _ i _ => 4 - (intOf i).toNat)
  case atStart => exact ⟨0, Nat.zero_le _, rfl, H0.out⟩
  case round =>
    clear H0
    obtain ⟨k, hk, rfl, hs⟩ := hrel
    by_cases hlt : k < 4
    · have d3 : decide ((k : Int) < 4) = true := decide_eq_true (by omega)
      have HS := hid (show Sts W (rowP 316 2 u1 (k * 4 + 0) (cucR (k * 4 + 0)) :: l) wr from hs)
      have HK : Hid (k + 1 ≤ 4) := hid hlt
      have HE8 : Hid (wrap64 ((k : Int) + 1) = ((k + 1 : Nat) : Int)) := hid (by unfold wrap64; omega)
      clear hs hk hlt
      go_wp2_with fail
      go_loopw [1, 7] (fun v i wr => ∃ m : Nat, m ≤ 4 ∧ i = .int .i64 (m : Int) ∧ Sts W (rowP 316 2 v (k * 4 + m) (cucR (k * 4 + m)) :: l) wr) (fun _ i _ => 4 - (intOf i).toNat)
      case atStart => exact ⟨0, Nat.zero_le _, rfl, HS.out⟩
      case round =>
        clear HS
        obtain ⟨m, hm, rfl, hs⟩ := hrel
        by_cases hlt : m < 4
        · have d4 : decide ((m : Int) < 4) = true := decide_eq_true (by omega)
          have HS := hid hs
          have HM : Hid (m + 1 ≤ 4) := hid hlt
          have HE9 : Hid (wrap64 ((m : Int) + 1) = ((m + 1 : Nat) : Int)) := hid (by unfold wrap64; omega)
          have HR : Hid (cucR (k * 4 + (m + 1)) = cucR (k * 4 + m) ++ [.int .i64 (wrap64 ((k : Int) + 1)), .int .i64 (m : Int)]) := hid (by rw [HE8.out]; exact cucR_succ k m hlt)
          clear hs hm hlt
          go_wp2_with (first
            | (refine wpList_bldF rfl (.tmp 14) rfl (wrap64 ((k : Int) + 1)) (m : Int) rfl HS.out (stabC (rowP_stable _ _ _ _ _) HL.out) ?_; intro gx w5 h5; have H5 := hid h5.swap; clear h5)
            | (at_builtin; refine wpList_appK Tryz.underlying370 infoFmt3 rfl (by decide) (by decide) rfl (.tmp 10) (.tmp 15) rfl (c := #[.int .i64 (wrap64 ((k : Int) + 1)), .int .i64 (m : Int)]) rfl H5.out HL.out rfl rfl (by simp [Value.oneCell']) (by have := HM.out; have := HK.out; omega) ?_; intro v2 w6 h6; have H6 := hid h6; clear h6))
          go_roundw
          case rel => exact ⟨m + 1, HM.out, congrArg (Value.int .i64) HE9.out, by rw [HR.out]; exact H6.out⟩
          case measure =>
            rw [HE9.out]
            have := HM.out
            simp [intOf]
            omega
        · obtain rfl : m = 4 := by omega
          have HS := hid hs
          clear hs hm hlt
          go_wp2_with fail
          go_roundw
          case rel => exact ⟨k + 1, HK.out, congrArg (Value.int .i64) HE8.out, by rw [show (k + 1) * 4 = k * 4 + 4 by omega]; exact HS.out⟩
          case measure =>
            rw [HE8.out]
            have := HK.out
            simp [intOf]
            omega
    · obtain rfl : k = 4 := by omega
      obtain ⟨g, c, rfl, hc⟩ : ∃ g c, u1 = .slice (some ⟨g, 0, none⟩) 16 c ∧ 16 ≤ c := by
        have hown := Sts.rowOwnS' hs
        rcases hown.2 with ⟨hv, h0⟩ | ⟨g, c, cur, hv, _, _, hnc, _⟩
        · exact absurd h0 (by omega)
        · exact ⟨g, c, hv, hnc⟩
      have HS := hid hs
      have HC := hid hc
      clear hs hk hlt hc
      go_wp2_with fail
      go_ret
      exact ⟨g, c, rfl, HC.out, HS.out⟩
theorem cCucAllP (hl : ∀ B ∈ l, Stable B) (hs : Sts W l w) : Calls Tryz.prog 267 #[] w fun e w' => ∃ g off c, e = .returned (.slice (some ⟨g, off, none⟩) 16 c) ∧ 16 ≤ c ∧ Sts W (cucP g off c :: l) w' := by
  refine (cCucRow hl hs).mono ?_
  rintro e w' ⟨g, c, rfl, hc, h⟩
  exact ⟨g, 0, c, rfl, hc, h.weaken (fun F hF => ⟨rfl, hF⟩)⟩
end
theorem fmtEql (w : World) (a b c d : Int) : (binOp .eql 316 (.agg #[.int .i64 a, .int .i64 b]) (.agg #[.int .i64 c, .int .i64 d])).run Tryz.prog w = .ok (.bool (a == c && b == d)) w := by
  simp [go_sem]
  by_cases h1 : a = c <;> by_cases h2 : b = d <;> simp [h1, h2]
abbrev fmtB (b : Nat) : HProp := blkP b (.cells #[.int .i64 4, .int .i64 1] 316 (0, 0))
set_option maxRecDepth 100000 in
set_option maxHeartbeats 4000000 in
theorem cCucIndex (w : World) : Calls Tryz.prog 342 #[.agg #[.int .i64 4, .int .i64 1]] w fun e w' => e = .returned (.int .i64 13) ∧ Below w.heap.size w w' := by
  have HS : Hid (Sts w (fmtB w.heap.size :: []) (w.alloc (.cells #[.int .i64 4, .int .i64 1] 316))) := hid (Sts.alloc stab0 (Sts.nil w) _)
  obtain ⟨bx, hbx⟩ : ∃ bx, bx = w.heap.size := ⟨_, rfl⟩
  go_enter Tryz.func342, Tryz.ntmps342
  go_wp2_with (first
    | (go_at_call 267; refine (cCucRow (stabC (blkP_stable _ _) stab0) HS.out).mono ?_; rintro e w2 ⟨g, c, rfl, hc, h2⟩; have H2 := hid h2; clear h2 hc))
  rw [← hbx] at *
  go_loopw [7] (fun i wr => ∃ k : Nat, k ≤ 13 ∧ i = .int .i64 (k : Int) ∧ Sts w (rowP 316 2 (.slice (some ⟨g, 0, none⟩) 16 c) 16 (cucR 16) :: fmtB bx :: []) wr) (fun i _ => 13 - (intOf i).toNat)
  case atStart => exact ⟨0, Nat.zero_le _, rfl, H2.out⟩
  case round =>
    clear H2 HS
    obtain ⟨k, hk, rfl, hs⟩ := hrel
    obtain ⟨A, hA⟩ : ∃ A : Int, A = ((k / 4 + 1 : Nat) : Int) := ⟨_, rfl⟩
    obtain ⟨B, hB⟩ : ∃ B : Int, B = ((k % 4 : Nat) : Int) := ⟨_, rfl⟩
    have hg := cucR_get k (by omega)
    rw [← hA, ← hB] at hg
    have q0 : wr.cell? ⟨g, k * 2, none⟩ = some (.int .i64 A) := cuc_cell hs _ _ hg.1
    have q1 : wr.cell? ⟨g, k * 2 + 1, none⟩ = some (.int .i64 B) := cuc_cell hs _ _ hg.2
    have HA := hid (Sts.alloc (stabC (rowP_stable _ _ _ _ _) (stabC (blkP_stable _ _) stab0)) hs (.cells #[.int .i64 0, .int .i64 0] 316))
    have he := fun W => fmtEql W A B 4 1
    have hd : (A == 4 && B == 1) = decide (k = 13) := by
      rw [Bool.eq_iff_iff]
      simp only [Bool.and_eq_true, beq_iff_eq, decide_eq_true_eq]
      omega
    rw [hd] at he
    have d1 : decide ((k : Int) < 16) = true := decide_eq_true (by omega)
    have p0 : (0 : Int) ≤ (k : Int) := Int.natCast_nonneg _
    have p1 : (k : Int) < 16 := by omega
    have HE8 : Hid (wrap64 ((k : Int) + 1) = ((k + 1 : Nat) : Int)) := hid (by unfold wrap64; omega)
    have HB := hid hs.below
    have HK13 := hid hk
    clear hA hB hg hd hs hk
    by_cases e13 : k = 13
    · simp only [decide_eq_true e13] at he
      have HK := hid e13
      clear e13
      go_wp2_with (first
        | (refine wpList_aggS HA.out (stabC (rowP_stable _ _ _ _ _) (stabC (blkP_stable _ _) stab0)) rfl (.tmp 4) (.tmp 11) 316 rfl #[.int .i64 A, .int .i64 B] rfl rfl szFmt rfl rfl ?_; intro w5 h5; have H5 := hid h5; clear h5)
        | (refine wpList_ldS rfl (.tmp 4) 316 rfl rfl (.agg #[.int .i64 A, .int .i64 B]) (ldFmt rfl H5.out) ?_)
        | (refine wpList_ldS rfl (.tmp 1) 316 rfl rfl (.agg #[.int .i64 4, .int .i64 1]) (ldFmt rfl H5.out.tail.tail) ?_))
      go_ret
      exact ⟨by rw [HK.out]; rfl, H5.out.below⟩
    · simp only [decide_eq_false e13] at he
      have HK : Hid (k + 1 ≤ 13) := hid (by have := HK13.out; omega)
      clear e13
      go_wp2_with (first
        | (refine wpList_aggS HA.out (stabC (rowP_stable _ _ _ _ _) (stabC (blkP_stable _ _) stab0)) rfl (.tmp 4) (.tmp 11) 316 rfl #[.int .i64 A, .int .i64 B] rfl rfl szFmt rfl rfl ?_; intro w5 h5; have H5 := hid h5; clear h5)
        | (refine wpList_ldS rfl (.tmp 4) 316 rfl rfl (.agg #[.int .i64 A, .int .i64 B]) (ldFmt rfl H5.out) ?_)
        | (refine wpList_ldS rfl (.tmp 1) 316 rfl rfl (.agg #[.int .i64 4, .int .i64 1]) (ldFmt rfl H5.out.tail.tail) ?_))
      go_roundw
      case rel => exact ⟨k + 1, HK.out, congrArg (Value.int .i64) (by omega : (k : Int) + 1 = ((k + 1 : Nat) : Int)), H5.out.tail⟩
      case measure =>
        have := HK.out
        simp [intOf]
        omega
set_option maxRecDepth 100000 in
theorem cCucValid (w : World) : Calls Tryz.prog 307 #[.agg #[.int .i64 4, .int .i64 1]] w fun e w' => e = .returned (.bool true) ∧ Below w.heap.size w w' := by
  have HS : Hid (Sts w (fmtB w.heap.size :: []) (w.alloc (.cells #[.int .i64 4, .int .i64 1] 316))) := hid (Sts.alloc stab0 (Sts.nil w) _)
  have HLB : Hid (∀ B ∈ fmtB w.heap.size :: [], Stable B) := hid (stabC (blkP_stable _ _) stab0)
  go_enter Tryz.func307, Tryz.ntmps307
  go_wp2_with (first
    | (go_at_call 342; refine (cCucIndex _).mono ?_; rintro e w2 ⟨rfl, h2⟩; have H2 := hid (HS.out.quiet HLB.out h2); clear h2)
    | (refine wpList_ldS rfl (.tmp 1) 316 rfl rfl (.agg #[.int .i64 4, .int .i64 1]) (ldFmt rfl HS.out) ?_))
  go_ret
  exact ⟨rfl, H2.out.below⟩
set_option maxRecDepth 100000 in
theorem cCucSize (w : World) : Calls Tryz.prog 268 #[.agg #[.int .i64 4, .int .i64 1]] w fun e w' => e = .returned (.int .i64 6) ∧ Below w.heap.size w w' := by
  have HS : Hid (Sts w (fmtB w.heap.size :: []) (w.alloc (.cells #[.int .i64 4, .int .i64 1] 316))) := hid (Sts.alloc stab0 (Sts.nil w) _)
  have HLB : Hid (∀ B ∈ fmtB w.heap.size :: [], Stable B) := hid (stabC (blkP_stable _ _) stab0)
  go_enter Tryz.func268, Tryz.ntmps268
  go_wp2_with (first
    | (go_at_call 307; refine (cCucValid _).mono ?_; rintro e w2 ⟨rfl, h2⟩
       have h3 := HS.out.quiet HLB.out h2
       have H2 := hid h3
       have c0 : w2.cell? ⟨w.heap.size, 0, none⟩ = some (.int .i64 4) := (Sts.boxCell h3 0 _ rfl).1
       have c1 : w2.cell? ⟨w.heap.size, 1, none⟩ = some (.int .i64 1) := (Sts.boxCell h3 1 _ rfl).1
       clear h2 h3)
    | (refine wpList_ldS rfl (.tmp 1) 316 rfl rfl (.agg #[.int .i64 4, .int .i64 1]) (ldFmt rfl HS.out) ?_))
  go_ret
  exact ⟨rfl, H2.out.below⟩
end Go.Proofs.YtnklmadmenkdoaaGreat
