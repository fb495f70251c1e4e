/- Lists of transactions: whether one is there, of the library and of the specification; equal lists. Whether a transaction is in a list: the library's Contains, the specification's has. Equal lists of transactions are told equal. The copy of a list of transactions. -/
import Derived.Test.YtgidckkcibplgaaGreatProg
import Derived.Test.YtgidckkcibplgaaGreatPduGaps
import Derived.Test.YtgidckkcibplgaaGreatRngB
set_option linter.unusedVariables false
set_option linter.unusedSimpArgs false
set_option linter.unusedSectionVars false
namespace Go.Proofs.YtgidckkcibplgaaGreat
open Go.RowKit Go.Proofs.Num
theorem idEql (w : World) (a b c d : Int) : (binOp .eql 38 (.agg #[.int .i64 a, .int .i64 b]) (.agg #[.int .i64 c, .int .i64 d])).run Tryz.prog w = .ok (.bool (a == c && b == d)) w := by
  simp [go_sem]
  by_cases h1 : a = c <;> by_cases h2 : b = d <;> simp [h1, h2]
theorem two_newA (w : World) (x y : Value) (t : TypeId) : (w.alloc (.cells #[x, y] t)).heap[w.heap.size]? = some (.cells #[x, y] t (0, 0)) := by
  show (w.heap.push (.cells #[x, y] t (0, 0)))[w.heap.size]? = _
  simp
set_option maxRecDepth 100000 in
set_option maxHeartbeats 2000000 in
theorem cIdxF (w : World) (v : Value) (l : List Rng.R) (h : RdR w v l) (hn : l.length < 1000000) (src num : Int) :
    Calls Tryz.prog 99 #[v, .agg #[.int .i64 src, .int .i64 num]] w fun e w' => Below w.heap.size w w' ∧ ((e = .returned (.int .i64 (-1)) ∧ ∀ r ∈ l, r ≠ (src, num)) ∨ ∃ k : Nat, k < l.length ∧ e = .returned (.int .i64 k) ∧ (src, num) ∈ l) := by
  obtain ⟨a, cap, rfl, hcap, hx⟩ := h
  have HX := hid hx
  clear hx hcap
  go_enter Tryz.func99, Tryz.ntmps99
  go_wp2_with fail
  go_loopw [8] (fun i wr => ∃ k : Nat, k ≤ l.length ∧ i = .int .i64 k ∧ (∀ r ∈ l.take k, r ≠ (src, num)) ∧ Below w.heap.size w wr ∧ wr.cell? ⟨w.heap.size, 0, none⟩ = some (.int .i64 src) ∧ wr.cell? ⟨w.heap.size, 1, none⟩ = some (.int .i64 num)) (fun i _ => l.length - (intOf i).toNat)
  case atStart =>
    have hc := two_newA w (.int .i64 src) (.int .i64 num) 38
    exact ⟨0, by omega, rfl, by simp, (Below.refl _ w).alloc (Nat.le_refl _) _, cell_blk (j := 0) hc rfl, cell_blk (j := 1) hc rfl⟩
  case round =>
    obtain ⟨k, hk, rfl, hpre, hbel, q0, q1⟩ := hrel
    have HB := hid hbel
    have HP := hid hpre
    clear hbel hpre
    by_cases hlt : k < l.length
    · obtain ⟨b, off, rfl, hb, c0, c1⟩ := HX.out k hlt
      rw [← HB.out.cell hb] at c0 c1
      have HE : Hid (l[k] ∈ l) := hid (List.getElem_mem hlt)
      have HT : Hid (l.take (k + 1) = l.take k ++ [l[k]]) := hid (by rw [List.take_add_one, List.getElem?_eq_getElem hlt]; rfl)
      obtain ⟨x, hx⟩ : ∃ x, x = l[k] := ⟨_, rfl⟩
      rw [← hx] at c0 c1 HE HT
      clear hx
      obtain ⟨f, t⟩ := x
      simp only [] at c0 c1
      have he := fun W => idEql W src num f t
      cases hd : (src == f && num == t) with
      | true =>
        simp only [hd] at he
        go_wp2_with fail
        go_quiet (fail)
        go_wp2_with fail
        go_ret
        exact ⟨below_drewN HB.out _, Or.inr ⟨k, hlt, rfl, by have h := HE.out; rw [show ((src, num) : Rng.R) = (f, t) by simp at hd; rw [hd.1, hd.2]]; exact h⟩⟩
      | false =>
        simp only [hd] at he
        go_wp2_with fail
        go_quiet (fail)
        go_wp2_with fail
        go_roundw
        case rel =>
          refine ⟨k + 1, by omega, by go_num, ?_, below_drewN HB.out _, q0, q1⟩
          intro r hr
          rw [HT.out, List.mem_append, List.mem_singleton] at hr
          rcases hr with hr | rfl
          · exact HP.out r hr
          · intro e; injection e with e1 e2; subst e1; subst e2; simp at hd
        case measure => simp [intOf]; omega
    · obtain rfl : k = l.length := by omega
      go_wp2_with fail
      go_ret
      refine ⟨HB.out, Or.inl ⟨rfl, ?_⟩⟩
      have := HP.out
      rwa [List.take_length] at this
end Go.Proofs.YtgidckkcibplgaaGreat
namespace Go.Proofs.YtgidckkcibplgaaGreat
open Go.RowKit Go.Proofs.Num
/-- An answer that tells whether r is in l. -/
def TellsIn (l : List Rng.R) (r : Rng.R) (e : Ending) : Prop := ∃ b : Bool, e = .returned (.bool b) ∧ (b = true ↔ r ∈ l)
set_option maxRecDepth 100000 in
set_option maxHeartbeats 2000000 in
theorem cContF (w : World) (v : Value) (l : List Rng.R) (h : RdR w v l) (hn : l.length < 1000000) (src num : Int) :
    Calls Tryz.prog 45 #[v, .agg #[.int .i64 src, .int .i64 num]] w fun e w' => Below w.heap.size w w' ∧ TellsIn l (src, num) e := by
  have H := hid h
  clear h
  go_enter Tryz.func45, Tryz.ntmps45
  go_wp2_with fail
  have hA := (Below.refl w.heap.size w).alloc (Nat.le_refl _) (.cells #[.int .i64 src, .int .i64 num] 38)
  refine (cIdxF _ v l (H.out.below hA) hn src num).mono ?_
  rintro e w1 ⟨hb0, h | ⟨k, hk, h, hm⟩⟩
  all_goals have hb := hA.trans (hb0.mono hA.size)
  all_goals clear hb0 hA
  · obtain ⟨rfl, hno⟩ := h
    have HN := hid hno
    have HB := hid hb
    clear hno hb
    go_wp2_with fail
    go_ret
    exact ⟨HB.out, false, rfl, by simp; intro hm; exact HN.out _ hm rfl⟩
  · subst h
    have HM := hid hm
    have HB := hid hb
    have hk0 : (0 : Int) ≤ (k : Int) := by omega
    clear hm hb
    go_wp2_with fail
    go_ret
    exact ⟨HB.out, true, rfl, by simp; exact HM.out⟩
set_option maxRecDepth 100000 in
set_option maxHeartbeats 2000000 in
theorem cHasF (w : World) (v : Value) (l : List Rng.R) (h : RdR w v l) (hn : l.length < 1000000) (src num : Int) :
    Calls Tryz.prog 47 #[v, .agg #[.int .i64 src, .int .i64 num]] w fun e w' => Below w.heap.size w w' ∧ TellsIn l (src, num) e := by
  obtain ⟨a, cap, rfl, hcap, hx⟩ := h
  have HX := hid hx
  clear hx hcap
  go_enter Tryz.func47, Tryz.ntmps47
  go_wp2_with fail
  go_loopw [5] (fun i wr => ∃ k : Nat, k ≤ l.length ∧ i = .int .i64 k ∧ (∀ r ∈ l.take k, r ≠ (src, num)) ∧ Below w.heap.size w wr ∧ wr.cell? ⟨w.heap.size, 0, none⟩ = some (.int .i64 src) ∧ wr.cell? ⟨w.heap.size, 1, none⟩ = some (.int .i64 num)) (fun i _ => l.length - (intOf i).toNat)
  case atStart =>
    have hc := two_newA w (.int .i64 src) (.int .i64 num) 38
    exact ⟨0, by omega, rfl, by simp, (Below.refl _ w).alloc (Nat.le_refl _) _, cell_blk (j := 0) hc rfl, cell_blk (j := 1) hc rfl⟩
  case round =>
    obtain ⟨k, hk, rfl, hpre, hbel, q0, q1⟩ := hrel
    have HB := hid hbel
    have HP := hid hpre
    clear hbel hpre
    by_cases hlt : k < l.length
    · obtain ⟨b, off, rfl, hb, c0, c1⟩ := HX.out k hlt
      rw [← HB.out.cell hb] at c0 c1
      have HE : Hid (l[k] ∈ l) := hid (List.getElem_mem hlt)
      have HT : Hid (l.take (k + 1) = l.take k ++ [l[k]]) := hid (by rw [List.take_add_one, List.getElem?_eq_getElem hlt]; rfl)
      obtain ⟨x, hx⟩ : ∃ x, x = l[k] := ⟨_, rfl⟩
      rw [← hx] at c0 c1 HE HT
      clear hx
      obtain ⟨f, t⟩ := x
      simp only [] at c0 c1
      have he := fun W => idEql W f t src num
      cases hd : (f == src && t == num) with
      | true =>
        simp only [hd] at he
        go_wp2_with fail
        go_quiet (fail)
        go_wp2_with fail
        go_ret
        exact ⟨below_drewN HB.out _, true, rfl, by simp only [true_iff]; simp at hd; rw [← hd.1, ← hd.2]; exact HE.out⟩
      | false =>
        simp only [hd] at he
        go_wp2_with fail
        go_quiet (fail)
        go_wp2_with fail
        go_roundw
        case rel =>
          refine ⟨k + 1, by omega, by go_num, ?_, below_drewN HB.out _, q0, q1⟩
          intro r hr
          rw [HT.out, List.mem_append, List.mem_singleton] at hr
          rcases hr with hr | rfl
          · exact HP.out r hr
          · intro e; injection e with e1 e2; subst e1; subst e2; simp at hd
        case measure => simp [intOf]; omega
    · obtain rfl : k = l.length := by omega
      go_wp2_with fail
      go_ret
      refine ⟨HB.out, false, rfl, ?_⟩
      have := HP.out
      rw [List.take_length] at this
      simp; intro hm; exact this _ hm rfl
end Go.Proofs.YtgidckkcibplgaaGreat
namespace Go.Proofs.YtgidckkcibplgaaGreat
open Go.RowKit Go.Proofs.Num
theorem idNeql (w : World) (a b c d : Int) : (binOp .neq 38 (.agg #[.int .i64 a, .int .i64 b]) (.agg #[.int .i64 c, .int .i64 d])).run Tryz.prog w = .ok (.bool (!(a == c && b == d))) w := by
  simp [go_sem]
  by_cases h1 : a = c <;> by_cases h2 : b = d <;> simp [h1, h2]
set_option maxRecDepth 100000 in
set_option maxHeartbeats 2000000 in
theorem cIdsF (w : World) (v u : Value) (l : List Rng.R) (h : RdR w v l) (g : RdR w u l) (hn : l.length < 1000000) :
    Calls Tryz.prog 15 #[v, u] w fun e w' => Below w.heap.size w w' ∧ e = .returned (.bool true) := by
  obtain ⟨a, cap, rfl, hcap, hx⟩ := h
  obtain ⟨a2, cap2, rfl, hcap2, hx2⟩ := g
  have HX := hid hx
  have HY := hid hx2
  clear hx hcap hx2 hcap2
  go_enter Tryz.func15, Tryz.ntmps15
  go_wp2_with fail
  go_loopw [5] (fun i wr => ∃ k : Nat, k ≤ l.length ∧ i = .int .i64 k ∧ Below w.heap.size w wr) (fun i _ => l.length - (intOf i).toNat)
  case atStart => exact ⟨0, by omega, rfl, Below.refl _ w⟩
  case round =>
    obtain ⟨k, hk, rfl, hbel⟩ := hrel
    have HB := hid hbel
    clear hbel
    by_cases hlt : k < l.length
    · obtain ⟨b, off, rfl, hb, c0, c1⟩ := HX.out k hlt
      obtain ⟨b2, off2, rfl, hb2, d0, d1⟩ := HY.out k hlt
      rw [← HB.out.cell hb] at c0 c1
      rw [← HB.out.cell hb2] at d0 d1
      obtain ⟨x, hx⟩ : ∃ x, x = l[k] := ⟨_, rfl⟩
      rw [← hx] at c0 c1 d0 d1
      clear hx
      obtain ⟨f, t⟩ := x
      simp only [] at c0 c1 d0 d1
      have he : ∀ W, (binOp .neq 38 (.agg #[.int .i64 f, .int .i64 t]) (.agg #[.int .i64 f, .int .i64 t])).run Tryz.prog W = .ok (.bool false) W := fun W => (idNeql W f t f t).trans (by simp)
      go_wp2_with fail
      go_quiet (fail)
      go_wp2_with fail
      go_roundw
      case rel => exact ⟨k + 1, by omega, by go_num, below_drewN HB.out _⟩
      case measure => simp [intOf]; omega
    · obtain rfl : k = l.length := by omega
      go_wp2_with fail
      go_ret
      exact ⟨HB.out, rfl⟩
end Go.Proofs.YtgidckkcibplgaaGreat
namespace Go.Proofs.YtgidckkcibplgaaGreat
open Go.RowKit Go.Proofs.Num
theorem infoF : (Tryz.prog.info? 38).map (fun i => (i.zero, i.size, i.bytes)) = some (some (.agg #[.int .i64 0, .int .i64 0]), 2, 16) := by kernel_rfl
set_option maxRecDepth 100000 in
theorem cCloneF (w : World) (v : Value) (l : List Rng.R) (h : RdR w v l) (hn : l.length < 1000000) :
    Calls Tryz.prog 46 #[v] w fun e w' => ∃ r, e = .returned r ∧ Below w.heap.size w w' ∧ RdR w' r l := by
  obtain ⟨a, cap, rfl, ⟨hcap1, hcap2⟩, hx⟩ := h
  unfold maxLen at hcap2
  obtain ⟨i0, hi0, hz0, hz1, hz2⟩ := info_parts infoF
  cases a with
  | none =>
    have hl : l = [] := by
      rcases l with _ | ⟨x, l⟩
      · rfl
      · obtain ⟨b, off, e, _⟩ := hx 0 (by simp); cases e
    subst hl
    have HX := hid hx
    clear hx
    have hq := Lib.run_eql_slice_nil (P := Tryz.prog) w 24 38 none 0 cap 0 0 Tryz.underlying24
    go_enter Tryz.func46, Tryz.ntmps46
    go_wp2_with fail
    go_ret
    exact ⟨_, rfl, Below.refl _ _, RdR.nil _⟩
  | some ad =>
    have hq := Lib.run_eql_slice_nil (P := Tryz.prog) w 24 38 (some ad) l.length cap 0 0 Tryz.underlying24
    have HCN : Hid (∀ j u, (Fil.rcells l)[j]? = some u → (w.alloc (.cells #[] 38)).cell? (ad.add j) = some u) := by
      refine hid (fun j u hj => ?_)
      have hbel := (Below.refl w.heap.size w).alloc (Nat.le_refl _) (.cells #[] 38)
      have hlt : j < l.length * 2 := by
        rcases Nat.lt_or_ge j (Fil.rcells l).length with h | h
        · rw [rcells_len] at h; exact h
        · rw [List.getElem?_eq_none h] at hj; cases hj
      obtain ⟨ba, oa, ea, hba, hca, hcb⟩ := hx (j / 2) (by omega)
      injection ea with ea
      subst ea
      have hg := rcells_get l (j / 2) (by omega)
      rw [plain_add, hbel.cell hba]
      rcases (by omega : j / 2 * 2 = j ∨ j / 2 * 2 + 1 = j) with e | e
      · rw [e] at hca hg; rw [hca, ← hg.1, hj]
      · rw [Nat.add_assoc, e] at hcb; rw [e] at hg; rw [hcb, ← hg.2, hj]
    have hso : Sts w [rowP 38 2 (.slice (some ⟨w.heap.size, 0, none⟩) 0 0) 0 []] (w.alloc (.cells #[] 38)) :=
      ((Sts.nil w).alloc stab0 (.cells #[] 38)).weaken (fun F h => blkP.rowR (n := 0) (cap := 0) h (by omega) rfl (by unfold maxLen; omega))
    have HSO0 := hid hso
    have HNU : Hid ((Fil.rcells l).length = l.length * 2) := hid (rcells_len l)
    have HCAP : Hid (l.length ≤ cap) := hid hcap1
    clear hso hx
    generalize hm : l.length = m at *
    have HM := hid hm
    clear hm
    go_enter Tryz.func46, Tryz.ntmps46
    go_wp2_with (at_builtin; refine wpList_append_own_at _ rfl (.tmp 5) (.tmp 6) 24 rfl 0 38 i0 (.agg #[.int .i64 0, .int .i64 0]) 2 16 Tryz.underlying24 hi0 hz0 hz1 hz2 rfl (by decide) (.slice (some ⟨w.heap.size, 0, none⟩) 0 0) 0 [] rfl (Sts.rowOwnK HSO0.out) ad m cap (Fil.rcells l) rfl HNU.out HCN.out (rcells_one l) (by unfold maxLen; omega) (by omega) (Nat.zero_le _) ?_; intro v1 w5 hown hgr _ hblk)
    have hso := Sts.grownK stab0 HSO0.out hgr hown (by
      intro q' hq
      rcases hblk with h | h
      · exact Or.inl (h ▸ hq)
      · rw [h] at hq; injection hq with hq; exact Or.inr (by omega))
    rw [Nat.zero_add, List.nil_append] at hso
    have HSO := hid hso
    clear hso hown hgr hblk HCN HSO0
    go_ret
    exact ⟨_, rfl, HSO.out.below, RdR.of_own (Sts.rowOwnK HSO.out) HM.out⟩
end Go.Proofs.YtgidckkcibplgaaGreat
