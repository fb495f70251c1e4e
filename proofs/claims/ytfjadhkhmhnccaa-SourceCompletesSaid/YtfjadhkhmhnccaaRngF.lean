/- ranges.Add. ranges.Remove. -/
import Derived.Test.YtfjadhkhmhnccaaRngD
set_option linter.unusedVariables false
set_option linter.unusedSimpArgs false
namespace Go.Proofs.Ytfjadhkhmhnccaa
open Go.RowKit Go.Proofs.Num
/-- append of one range to a row, in a drawn region. -/
theorem effR_append {L : Prop} {W0 y : World} {o : Oper} {a : Act} {K : Act → WP → WP → Prop} {v : Value} {b : Nat} {l : List Rng.R} {f t : Int} {M : List HProp}
    (hS : Sts W0 (rowP 81 2 v l.length (Fil.rcells l) :: blkP b (.cells #[.int .i64 f, .int .i64 t] 81 (0, 0)) :: M) y) (hM : ∀ A ∈ blkP b (.cells #[.int .i64 f, .int .i64 t] 81 (0, 0)) :: M, Stable A)
    (s x : Operand) (ho : o.op = .call { callee := .builtin .append, args := #[s, x], argTypes := #[36, 36] })
    (hs : a.eval s = v) (hx : a.eval x = .slice (some ⟨b, 0, none⟩) 1 1) (hlen : l.length < 1000000) (D : WP)
    (hD : ∀ v' z, Sts W0 (rowP 81 2 v' (l ++ [(f, t)]).length (Fil.rcells (l ++ [(f, t)])) :: blkP b (.cells #[.int .i64 f, .int .i64 t] 81 (0, 0)) :: M) z → D z)
    (hk : ∀ v', K (a.put o.dst v') D (fun z => Sts W0 (rowP 81 2 v' (l ++ [(f, t)]).length (Fil.rcells (l ++ [(f, t)])) :: blkP b (.cells #[.int .i64 f, .int .i64 t] 81 (0, 0)) :: M) z)) :
    effUpon Try.prog L o.dst a D K ((execOp a.eval o).run Try.prog y) := by
  obtain ⟨i0, hi, hz0, hz1, hz2⟩ := info_parts infoR
  have hblk : y.heap[b]? = some (.cells #[.int .i64 f, .int .i64 t] 81 (0, 0)) := by obtain ⟨F, hF⟩ := hS.tail.head; exact hF.1
  have hnews : ∀ j u, [Value.int .i64 f, Value.int .i64 t][j]? = some u → y.cell? ((⟨b, 0, none⟩ : Addr).add j) = some u := by
    intro j u hj
    rw [plain_add, Nat.zero_add]
    exact cell_blk hblk (by simpa using hj)
  obtain ⟨v', w', hrun, hown', hgr, _, hbl⟩ := run_append_own_at (P := Try.prog) y 0 36 o.type 81 i0 (.agg #[.int .i64 0, .int .i64 0]) 2 16 Try.underlying36 hi hz0 hz1 hz2 rfl (by decide) v l.length (Fil.rcells l) (Sts.rowOwnK hS) ⟨b, 0, none⟩ 1 1 [.int .i64 f, .int .i64 t] rfl hnews (by intro u hu; simp at hu; rcases hu with rfl | rfl <;> rfl) (by unfold maxLen; omega) (by omega) (Nat.zero_le _)
  have h := Sts.grownK hM hS hgr hown' (by
    intro q' hq
    rcases hbl with h | h
    · exact Or.inl (h ▸ hq)
    · rw [h] at hq; injection hq with hq; exact Or.inr (by omega))
  have e1 : l.length + 1 = (l ++ [(f, t)]).length := by simp
  have e2 : Fil.rcells l ++ [.int .i64 f, .int .i64 t] = Fil.rcells (l ++ [(f, t)]) := by rw [rcells_app]; rfl
  rw [e1, e2] at h
  have hr : (execOp a.eval o).run Try.prog y = .ok (.value v') w' := by
    simp [execOp, ho, resolve, invoke, builtin, hs, hx, hrun, Result.andThen]
  exact eff_value D _ hr h (hD v') (fun _ h => h) (hk v')
set_option maxRecDepth 100000 in
set_option maxHeartbeats 2000000 in
theorem cAddR (w : World) (v : Value) (l : List Rng.R) (f t : Int) (h : RdR w v l) (hn : l.length < 900000) :
    Calls Try.prog 108 #[v, .agg #[.int .i64 f, .int .i64 t]] w fun e w' => ∃ r, e = .returned r ∧ NewR w w' r (Rng.ofV (l ++ [(f, t)])) := by
  have HR := hid h
  have hn2 : (l ++ [(f, t)]).length < 1000000 := by simp; omega
  replace hn : l.length < 1000000 := by omega
  have HB := hid ((Sts.nil w).alloc stab0 (.cells #[.int .i64 f, .int .i64 t] 81))
  clear h
  go_enter Try.func108, Try.ntmps108
  go_wp2_with fail
  refine wp_region_ord (.pure 0 (.pure 2 (.eff2 1 3 (.eff 3 (.eff 4 (.eff 5 (.pure 6 .nil)))) (.eff 1 (.eff 4 (.eff 5 (.pure 6 .nil))))))) (fun y => y.cell? ⟨w.heap.size, 0, none⟩ = some (.int .i64 f) ∧ y.cell? ⟨w.heap.size, 1, none⟩ = some (.int .i64 t)) (fun y => Sts w [blkP w.heap.size (.cells #[.int .i64 f, .int .i64 t] 81 (0, 0))] y) (by kernel_rfl) (by kernel_rfl) (HB.out.drew (stabC (blkP_stable _ _) stab0)) (fun z hz => ⟨(Sts.boxCell hz 0 _ rfl).1, (Sts.boxCell hz 1 _ rfl).1⟩) ?_
  apply ord_pure (ho := rfl)
  · go_simp
  · intro x hx; obtain ⟨q0, q1⟩ := hx; go_simp; rfl
  apply ord_norm
  · go_simp; rfl
  apply ord_pure (ho := rfl)
  · go_simp
  · intro x hx; obtain ⟨q0, q1⟩ := hx; go_simp; rfl
  apply ord_norm
  · go_simp; rfl
  refine ord_eff2 ?_ ?_
  · apply ord_eff (ho := rfl)
    · go_simp
    intro y hy
    refine eff_call (f := 79) (by go_simp) (cCloneR y v l (HR.out.below hy.below) hn) ?_
    rintro e w2 ⟨r, rfl, hN⟩
    have hs2 := Sts.newR (stabC (blkP_stable _ _) stab0) hy hN
    refine ⟨_, rfl, (fun y => y.cell? ⟨w.heap.size, 0, none⟩ = some (.int .i64 f) ∧ y.cell? ⟨w.heap.size, 1, none⟩ = some (.int .i64 t)), (fun y => Sts w [rowP 81 2 r l.length (Fil.rcells l), blkP w.heap.size (.cells #[.int .i64 f, .int .i64 t] 81 (0, 0))] y), hs2, (fun z hz => ⟨(Sts.boxCell hz.tail 0 _ rfl).1, (Sts.boxCell hz.tail 1 _ rfl).1⟩), (fun _ h => h), ?_⟩
    clear hs2 hN hy y
    apply ord_norm
    · go_simp; rfl
    apply ord_eff (ho := rfl)
    · go_simp
    intro y hy
    obtain ⟨q0, q1⟩ : y.cell? ⟨w.heap.size, 0, none⟩ = some (.int .i64 f) ∧ y.cell? ⟨w.heap.size, 1, none⟩ = some (.int .i64 t) := ⟨(Sts.boxCell hy.tail 0 _ rfl).1, (Sts.boxCell hy.tail 1 _ rfl).1⟩
    have hs2 := (hy.alloc (stabC (rowP_stable _ _ _ _ _) (stabC (blkP_stable _ _) stab0)) (.cells #[.int .i64 f, .int .i64 t] 81)).swap
    generalize hb : y.heap.size = b at hs2
    refine eff_value (fun y => y.cell? ⟨w.heap.size, 0, none⟩ = some (.int .i64 f) ∧ y.cell? ⟨w.heap.size, 1, none⟩ = some (.int .i64 t)) (fun y => Sts w [rowP 81 2 r l.length (Fil.rcells l), blkP b (.cells #[.int .i64 f, .int .i64 t] 81 (0, 0)), blkP w.heap.size (.cells #[.int .i64 f, .int .i64 t] 81 (0, 0))] y) (w := y.alloc (.cells #[.int .i64 f, .int .i64 t] 81)) (v := .slice (some ⟨b, 0, none⟩) 1 1) ?_ hs2 (fun z hz => ⟨(Sts.boxCell hz.tail.tail 0 _ rfl).1, (Sts.boxCell hz.tail.tail 1 _ rfl).1⟩) (fun _ h => h) ?_
    · clear hs2 hy; subst hb; go_simp
    clear hs2 hy q0 q1 hb y
    apply ord_norm
    · go_simp; rfl
    apply ord_eff (ho := rfl)
    · go_simp
    intro y hy
    refine effR_append hy (stabC (blkP_stable _ _) (stabC (blkP_stable _ _) stab0)) (.tmp 6) (.tmp 8) rfl rfl rfl hn (fun y => y.cell? ⟨w.heap.size, 0, none⟩ = some (.int .i64 f) ∧ y.cell? ⟨w.heap.size, 1, none⟩ = some (.int .i64 t)) (fun v1 z hz => ⟨(Sts.boxCell hz.tail.tail 0 _ rfl).1, (Sts.boxCell hz.tail.tail 1 _ rfl).1⟩) ?_
    intro v1
    clear hy y
    apply ord_norm
    · go_simp; rfl
    apply ord_eff (ho := rfl)
    · go_simp
    intro y hy
    refine eff_call (f := 118) (by go_simp) (cNormal y v1 (l ++ [(f, t)]) (RdR.of_own (Sts.rowOwnK hy) rfl) hn2) ?_
    rintro e w2 ⟨r2, rfl, hN⟩
    have hs2 := Sts.newR (stabC (rowP_stable _ _ _ _ _) (stabC (blkP_stable _ _) (stabC (blkP_stable _ _) stab0))) hy hN
    refine ⟨_, rfl, (fun y => y.cell? ⟨w.heap.size, 0, none⟩ = some (.int .i64 f) ∧ y.cell? ⟨w.heap.size, 1, none⟩ = some (.int .i64 t)), (fun y => Sts w [rowP 81 2 r2 (Rng.ofV (l ++ [(f, t)])).length (Fil.rcells (Rng.ofV (l ++ [(f, t)]))), rowP 81 2 v1 (l ++ [(f, t)]).length (Fil.rcells (l ++ [(f, t)])), blkP b (.cells #[.int .i64 f, .int .i64 t] 81 (0, 0)), blkP w.heap.size (.cells #[.int .i64 f, .int .i64 t] 81 (0, 0))] y), hs2, (fun z hz => ⟨(Sts.boxCell hz.tail.tail.tail 0 _ rfl).1, (Sts.boxCell hz.tail.tail.tail 1 _ rfl).1⟩), (fun _ h => h), ?_⟩
    clear hs2 hN hy y
    apply ord_norm
    · go_simp; rfl
    apply ord_pure (ho := rfl)
    · go_simp
    · intro x hx; obtain ⟨q0, q1⟩ := hx; go_simp; rfl
    apply ord_norm
    · go_simp; rfl
    refine ord_nil fun z hz => ?_
    have HZ := hid hz
    clear hz
    go_wp2_with fail
    go_ret
    exact ⟨_, rfl, Sts.isNewR HZ.out rfl⟩
  · apply ord_eff (ho := rfl)
    · go_simp
    intro y hy
    obtain ⟨q0, q1⟩ : y.cell? ⟨w.heap.size, 0, none⟩ = some (.int .i64 f) ∧ y.cell? ⟨w.heap.size, 1, none⟩ = some (.int .i64 t) := ⟨(Sts.boxCell hy 0 _ rfl).1, (Sts.boxCell hy 1 _ rfl).1⟩
    have hs2 := (hy.alloc (stabC (blkP_stable _ _) stab0) (.cells #[.int .i64 f, .int .i64 t] 81))
    generalize hb : y.heap.size = b at hs2
    refine eff_value (fun y => y.cell? ⟨w.heap.size, 0, none⟩ = some (.int .i64 f) ∧ y.cell? ⟨w.heap.size, 1, none⟩ = some (.int .i64 t)) (fun y => Sts w [blkP b (.cells #[.int .i64 f, .int .i64 t] 81 (0, 0)), blkP w.heap.size (.cells #[.int .i64 f, .int .i64 t] 81 (0, 0))] y) (w := y.alloc (.cells #[.int .i64 f, .int .i64 t] 81)) (v := .slice (some ⟨b, 0, none⟩) 1 1) ?_ hs2 (fun z hz => ⟨(Sts.boxCell hz.tail 0 _ rfl).1, (Sts.boxCell hz.tail 1 _ rfl).1⟩) (fun _ h => h) ?_
    · clear hs2 hy; subst hb; go_simp
    clear hs2 hy q0 q1 hb y
    apply ord_norm
    · go_simp; rfl
    apply ord_eff (ho := rfl)
    · go_simp
    intro y hy
    refine eff_call (f := 79) (by go_simp) (cCloneR y v l (HR.out.below hy.below) hn) ?_
    rintro e w2 ⟨r, rfl, hN⟩
    have hs2 := Sts.newR (stabC (blkP_stable _ _) (stabC (blkP_stable _ _) stab0)) hy hN
    refine ⟨_, rfl, (fun y => y.cell? ⟨w.heap.size, 0, none⟩ = some (.int .i64 f) ∧ y.cell? ⟨w.heap.size, 1, none⟩ = some (.int .i64 t)), (fun y => Sts w [rowP 81 2 r l.length (Fil.rcells l), blkP b (.cells #[.int .i64 f, .int .i64 t] 81 (0, 0)), blkP w.heap.size (.cells #[.int .i64 f, .int .i64 t] 81 (0, 0))] y), hs2, (fun z hz => ⟨(Sts.boxCell hz.tail.tail 0 _ rfl).1, (Sts.boxCell hz.tail.tail 1 _ rfl).1⟩), (fun _ h => h), ?_⟩
    clear hs2 hN hy y
    apply ord_norm
    · go_simp; rfl
    apply ord_eff (ho := rfl)
    · go_simp
    intro y hy
    refine effR_append hy (stabC (blkP_stable _ _) (stabC (blkP_stable _ _) stab0)) (.tmp 6) (.tmp 8) rfl rfl rfl hn (fun y => y.cell? ⟨w.heap.size, 0, none⟩ = some (.int .i64 f) ∧ y.cell? ⟨w.heap.size, 1, none⟩ = some (.int .i64 t)) (fun v1 z hz => ⟨(Sts.boxCell hz.tail.tail 0 _ rfl).1, (Sts.boxCell hz.tail.tail 1 _ rfl).1⟩) ?_
    intro v1
    clear hy y
    apply ord_norm
    · go_simp; rfl
    apply ord_eff (ho := rfl)
    · go_simp
    intro y hy
    refine eff_call (f := 118) (by go_simp) (cNormal y v1 (l ++ [(f, t)]) (RdR.of_own (Sts.rowOwnK hy) rfl) hn2) ?_
    rintro e w2 ⟨r2, rfl, hN⟩
    have hs2 := Sts.newR (stabC (rowP_stable _ _ _ _ _) (stabC (blkP_stable _ _) (stabC (blkP_stable _ _) stab0))) hy hN
    refine ⟨_, rfl, (fun y => y.cell? ⟨w.heap.size, 0, none⟩ = some (.int .i64 f) ∧ y.cell? ⟨w.heap.size, 1, none⟩ = some (.int .i64 t)), (fun y => Sts w [rowP 81 2 r2 (Rng.ofV (l ++ [(f, t)])).length (Fil.rcells (Rng.ofV (l ++ [(f, t)]))), rowP 81 2 v1 (l ++ [(f, t)]).length (Fil.rcells (l ++ [(f, t)])), blkP b (.cells #[.int .i64 f, .int .i64 t] 81 (0, 0)), blkP w.heap.size (.cells #[.int .i64 f, .int .i64 t] 81 (0, 0))] y), hs2, (fun z hz => ⟨(Sts.boxCell hz.tail.tail.tail 0 _ rfl).1, (Sts.boxCell hz.tail.tail.tail 1 _ rfl).1⟩), (fun _ h => h), ?_⟩
    clear hs2 hN hy y
    apply ord_norm
    · go_simp; rfl
    apply ord_pure (ho := rfl)
    · go_simp
    · intro x hx; obtain ⟨q0, q1⟩ := hx; go_simp; rfl
    apply ord_norm
    · go_simp; rfl
    refine ord_nil fun z hz => ?_
    have HZ := hid hz
    clear hz
    go_wp2_with fail
    go_ret
    exact ⟨_, rfl, Sts.isNewR HZ.out rfl⟩
end Go.Proofs.Ytfjadhkhmhnccaa
namespace Rng
theorem ins_len : ∀ (l : List R) (r : R), (ins l r).length ≤ l.length + 1
  | [], r => by simp [ins]
  | x :: l, r => by
    unfold ins
    have h1 := ins_len l r
    have h2 := ins_len l (min r.1 x.1, max r.2 x.2)
    split
    · simp only [List.length_cons]; omega
    · split <;> simp only [List.length_cons] <;> omega
theorem ofV_len (l : List R) : (ofV l).length ≤ l.length := by
  have h : ∀ (l : List R) (o : List R), (l.foldl put o).length ≤ o.length + l.length := by
    intro l
    induction l with
    | nil => intro o; simp
    | cons r l ih =>
      intro o
      have h1 := ih (put o r)
      have h2 : (put o r).length ≤ o.length + 1 := by
        unfold put
        split
        · omega
        · exact ins_len o r
      simp only [List.foldl_cons, List.length_cons]; omega
  have := h l []
  simpa [ofV] using this
theorem cuts_len (r : R) (l : List R) : (l.flatMap (cut r)).length = l.length * 2 := by
  induction l with
  | nil => rfl
  | cons x l ih => rw [List.flatMap_cons, List.length_append, ih]; simp [cut]; omega
end Rng
namespace Go.Proofs.Ytfjadhkhmhnccaa
open Go.RowKit Go.Proofs.Num
theorem cell_four_new (w : World) (x y z u0 : Value) (t : TypeId) : ∀ j u, [x, y, z, u0][j]? = some u → (w.alloc (.cells #[x, y, z, u0] t)).cell? ((⟨w.heap.size, 0, none⟩ : Addr).add j) = some u := by
  intro j u hj
  rw [plain_add, Nat.zero_add]
  have hh : (w.alloc (.cells #[x, y, z, u0] t)).heap[w.heap.size]? = some (.cells #[x, y, z, u0] t (0, 0)) := by
    show (w.heap.push (.cells #[x, y, z, u0] t (0, 0)))[w.heap.size]? = _
    simp
  exact cell_blk hh (by simpa using hj)
theorem own_or {v1 v : Value} {n : Nat} (h : v1.ownBlock = v.ownBlock ∨ v1.ownBlock = some n) : ∀ k, v1.ownBlock = some k → v.ownBlock = some k ∨ n ≤ k := by
  intro k hk
  rcases h with h | h
  · exact Or.inl (h ▸ hk)
  · rw [h] at hk; injection hk with hk; exact Or.inr (by omega)
set_option maxRecDepth 100000 in
set_option maxHeartbeats 2000000 in
theorem cRemoveR (w : World) (v : Value) (l : List Rng.R) (f t : Int) (h : RdR w v l) (hn : l.length < 400000) :
    Calls Try.prog 106 #[v, .agg #[.int .i64 f, .int .i64 t]] w fun e w' => ∃ r, e = .returned r ∧ NewR w w' r (Rng.remV l (f, t)) := by
  have hB0 := (Sts.nil w).alloc stab0 (.cells #[.int .i64 f, .int .i64 t] 81)
  have HN := hid (cNormal (w.alloc (.cells #[.int .i64 f, .int .i64 t] 81)) v l (h.below hB0.below) (by omega))
  have HB := hid hB0
  have hol := Rng.ofV_len l
  clear h hB0
  obtain ⟨i0, hi0, hz0, hz1, hz2⟩ := info_parts infoR
  cases hd : decide (t ≤ f) with
  | true =>
    have HR : Hid (Rng.remV l (f, t) = Rng.ofV l) := hid (by unfold Rng.remV; rw [if_pos (by simpa using hd)])
    rw [HR.out]
    clear HR
    go_enter Try.func106, Try.ntmps106
    go_wp2_with (first | (go_at_call 118; refine HN.out.mono ?_; rintro e w1 ⟨r1, rfl, hN⟩; have H1 := hid (Sts.newR (stabC (blkP_stable _ _) stab0) HB.out hN); have b0 := (Sts.boxCell H1.out.tail 0 _ rfl).1; have b1 := (Sts.boxCell H1.out.tail 1 _ rfl).1; clear hN HN))
    go_ret
    exact ⟨_, rfl, Sts.isNewR H1.out rfl⟩
  | false =>
    have HR : Hid (Rng.remV l (f, t) = Rng.ofV ((Rng.ofV l).flatMap (Rng.cut (f, t)))) := hid (by unfold Rng.remV; rw [if_neg (by simpa using hd)])
    rw [HR.out]
    clear HR
    generalize Rng.ofV l = d at *
    have hdl : d.length < 400000 := by omega
    have hcl := Rng.cuts_len (f, t) d
    have HCL := hid hcl
    clear hol hn hcl
    go_enter Try.func106, Try.ntmps106
    go_wp2_with (first | (go_at_call 118; refine HN.out.mono ?_; rintro e w1 ⟨r1, rfl, hN⟩; have H1 := hid (Sts.newR (stabC (blkP_stable _ _) stab0) HB.out hN); have b0 := (Sts.boxCell H1.out.tail 0 _ rfl).1; have b1 := (Sts.boxCell H1.out.tail 1 _ rfl).1; obtain ⟨a2, c2, rfl⟩ := (RdR.of_own hN.own rfl).eq; clear hN HN))
    clear b0 b1
    go_loopw [5, 18] (fun vo i wr => ∃ k : Nat, k ≤ d.length ∧ i = .int .i64 k ∧ Sts w [rowP 81 2 vo ((d.take k).flatMap (Rng.cut (f, t))).length (Fil.rcells ((d.take k).flatMap (Rng.cut (f, t)))), rowP 81 2 (.slice a2 d.length c2) d.length (Fil.rcells d), blkP w.heap.size (.cells #[.int .i64 f, .int .i64 t] 81 (0, 0))] wr) (fun _ i _ => d.length - (intOf i).toNat)
    case atStart => exact ⟨0, by omega, rfl, Sts.rowNilK _ _ H1.out⟩
    case round =>
      obtain ⟨k, hk, rfl, hS⟩ := hrel
      have HS := hid hS
      have hml := Rng.cuts_len (f, t) (d.take k)
      rw [List.length_take] at hml
      have b0 := (Sts.boxCell hS.tail.tail 0 _ rfl).1
      have b1 := (Sts.boxCell hS.tail.tail 1 _ rfl).1
      clear hS H1
      by_cases hlt : k < d.length
      · obtain ⟨g, rfl⟩ : ∃ g, a2 = some ⟨g, 0, none⟩ := by
          rcases (Sts.rowOwnK HS.out.tail).2 with ⟨h2, h3⟩ | ⟨g, cap, cur, hv, _⟩
          · omega
          · injection hv with h1 h2 h3; exact ⟨g, h1⟩
        have c0 := Sts.rowCellK HS.out.tail (k * 2) (by omega) _ (rcells_get d k hlt).1
        have c1 := Sts.rowCellK HS.out.tail (k * 2 + 1) (by omega) _ (rcells_get d k hlt).2
        have HT : Hid ((d.take (k + 1)).flatMap (Rng.cut (f, t)) = (d.take k).flatMap (Rng.cut (f, t)) ++ Rng.cut (f, t) d[k]) := hid (by rw [List.take_add_one, List.getElem?_eq_getElem hlt, List.flatMap_append]; simp)
        generalize d[k] = x at *
        generalize (d.take k).flatMap (Rng.cut (f, t)) = o at *
        obtain ⟨x1, x2⟩ := x
        simp only [] at c0 c1
        obtain ⟨oa, oc, hoe⟩ := (RdR.of_own (Sts.rowOwnK HS.out) rfl).eq
        have hLr : ∀ B ∈ [rowP 81 2 u5 o.length (Fil.rcells o), rowP 81 2 (.slice (some ⟨g, 0, none⟩) d.length c2) d.length (Fil.rcells d), blkP w.heap.size (.cells #[.int .i64 f, .int .i64 t] 81 (0, 0))], Stable B := stabC (rowP_stable _ _ _ _ _) (stabC (rowP_stable _ _ _ _ _) (stab1 (blkP_stable _ _)))
        have hHQ := Sts.box hLr (Sts.box hLr HS.out (.cells #[.int .i64 x1, .int .i64 x2] 81)) (.cells #[.int .i64 x1, .int .i64 (min x2 f), .int .i64 (max x1 t), .int .i64 x2] 81)
        have hX := Sts.box hLr HS.out (.cells #[.int .i64 x1, .int .i64 x2] 81)
        have p0 := (Sts.boxCell hX.tail.tail 0 _ rfl).1
        have p1 := (Sts.boxCell hX.tail.tail 1 _ rfl).1
        have HQ := hid hHQ
        have HL := hid hLr
        clear hX
        clear hLr hHQ hoe
        have HCT : Hid (∀ j u, [Value.int .i64 x1, Value.int .i64 (min x2 f), Value.int .i64 (max x1 t), Value.int .i64 x2][j]? = some u → ((wr.alloc (.cells #[.int .i64 x1, .int .i64 x2] 81)).alloc (.cells #[.int .i64 x1, .int .i64 (min x2 f), .int .i64 (max x1 t), .int .i64 x2] 81)).cell? ((⟨wr.heap.size + 1, 0, none⟩ : Addr).add j) = some u) := hid fun j u hj => by
          have h := cell_four_new (wr.alloc (.cells #[.int .i64 x1, .int .i64 x2] 81)) (.int .i64 x1) (.int .i64 (min x2 f)) (.int .i64 (max x1 t)) (.int .i64 x2) 81 j u hj
          have e : (wr.alloc (.cells #[.int .i64 x1, .int .i64 x2] 81)).heap.size = wr.heap.size + 1 := by
            show (wr.heap.push _).size = _
            simp
          rwa [e] at h
        have HCC : Hid (Fil.rcells o ++ [Value.int .i64 x1, Value.int .i64 (min x2 f), Value.int .i64 (max x1 t), Value.int .i64 x2] = Fil.rcells (o ++ Rng.cut (f, t) (x1, x2))) := hid (by rw [rcells_app]; rfl)
        have HCL2 : Hid ((o ++ Rng.cut (f, t) (x1, x2)).length = o.length + 2) := hid (by simp [Rng.cut])
        go_wp2_with (at_builtin; refine wpList_append_own_at _ rfl (.tmp 22) (.tmp 39) 36 rfl 0 81 i0 (.agg #[.int .i64 0, .int .i64 0]) 2 16 Try.underlying36 hi0 hz0 hz1 hz2 rfl (by decide) u5 o.length (Fil.rcells o) rfl (Sts.rowOwnK HQ.out) ⟨wr.heap.size + 1, 0, none⟩ 2 2 [.int .i64 x1, .int .i64 (min x2 f), .int .i64 (max x1 t), .int .i64 x2] rfl rfl HCT.out (by intro u hu; simp at hu; rcases hu with rfl | rfl | rfl | rfl <;> rfl) (by unfold maxLen; omega) (by omega) (Nat.zero_le _) ?_; intro v1 w5 hown hgr _ hblk; have HZ := hid (Sts.grownK (stabC (rowP_stable _ _ _ _ _) (stab1 (blkP_stable _ _))) HQ.out hgr hown (own_or hblk)); clear hown hgr hblk)
        go_roundw
        case rel =>
          refine ⟨k + 1, by omega, by go_num, ?_⟩
          rw [HT.out, HCL2.out, ← HCC.out]
          exact HZ.out
        case measure => simp [intOf]; omega
      · obtain rfl : k = d.length := by omega
        rw [List.take_length] at HS
        have HN2 := hid (cNormal wr u5 (d.flatMap (Rng.cut (f, t))) (RdR.of_own (Sts.rowOwnK HS.out) rfl) (by rw [HCL.out]; omega))
        have HL : Hid (∀ B ∈ [rowP 81 2 u5 (d.flatMap (Rng.cut (f, t))).length (Fil.rcells (d.flatMap (Rng.cut (f, t)))), rowP 81 2 (.slice a2 d.length c2) d.length (Fil.rcells d), blkP w.heap.size (.cells #[.int .i64 f, .int .i64 t] 81 (0, 0))], Stable B) := hid (stabC (rowP_stable _ _ _ _ _) (stabC (rowP_stable _ _ _ _ _) (stab1 (blkP_stable _ _))))
        go_wp2_with (first | (go_at_call 118; refine HN2.out.mono ?_; rintro e w1 ⟨r1, rfl, hN⟩; have H2 := hid (Sts.newR HL.out HS.out hN); clear hN))
        go_ret
        exact ⟨_, rfl, Sts.isNewR H2.out rfl⟩
end Go.Proofs.Ytfjadhkhmhnccaa
