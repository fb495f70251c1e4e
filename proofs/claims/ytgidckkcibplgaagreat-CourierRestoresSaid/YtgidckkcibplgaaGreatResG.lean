/- Lists of transactions appended; what a list must be to be restored. Restore where the configuration or the entity's number is not valid. Small facts of the walks of Restore. -/
import Derived.Test.YtgidckkcibplgaaGreatResF
import Derived.Test.YtgidckkcibplgaaGreatResD
import Derived.Maps.AppendAt
set_option linter.unusedVariables false
set_option linter.unusedSimpArgs false
set_option linter.unusedSectionVars false
namespace Go.Proofs.YtgidckkcibplgaaGreat
open Go.RowKit Go.Proofs.Num
theorem own_orF {v1 v : Value} {n : Nat} (h : v1.ownBlock = v.ownBlock ∨ v1.ownBlock = some n) : ∀ k, v1.ownBlock = some k → v.ownBlock = some k ∨ n ≤ k := by
  intro k hk
  rcases h with h | h
  · exact Or.inl (h ▸ hk)
  · rw [h] at hk; injection hk with hk; exact Or.inr (by omega)
theorem run_append_none_anyF {P : Program} {w : World} (base : Nat) (t ty e : TypeId) (i : TypeInfo) (size : Nat) (ht : P.underlying t = some (.slice e)) (hi : P.info? e = some i)
    (v : Value) (n : Nat) (xs : List Value) (hown : w.ownsRow base e size v n xs) (c : Nat) :
    (Builtin.append_ #[t, t] ty #[v, .slice none 0 c]).run P w = .ok v w := by
  rcases hown.2 with ⟨rfl, rfl⟩ | ⟨g, cap, cur, rfl, _, _, hnc, _⟩
  · simp [Builtin.append_, run_underlying ht, sizeOf, typeInfo, hi, Builtin.lenOf, Builtin.firstCells]
  · simp [Builtin.append_, run_underlying ht, sizeOf, typeInfo, hi, Builtin.lenOf, Builtin.firstCells, hnc, storeCells]
theorem rd_newsF {w : World} {a : Addr} {m : List Rng.R} {cap : Nat} (hx : RdR w (.slice (some a) m.length cap) m) : ∀ j u, (Fil.rcells m)[j]? = some u → w.cell? (a.add j) = some u := by
  intro j u hj
  obtain ⟨a', c', e', _, hx⟩ := hx
  injection e' with e1 e2 e3
  subst e1
  have hlt : j < m.length * 2 := by
    rcases Nat.lt_or_ge j (Fil.rcells m).length with h | h
    · rw [rcells_len] at h; exact h
    · rw [List.getElem?_eq_none h] at hj; cases hj
  obtain ⟨ba, oa, ea, hba, hca, hcb⟩ := hx (j / 2) (by omega)
  injection ea with ea
  subst ea
  have hg := rcells_get m (j / 2) (by omega)
  rw [plain_add]
  rcases (by omega : j / 2 * 2 = j ∨ j / 2 * 2 + 1 = j) with e | e
  · rw [e] at hca hg; rw [hca, ← hg.1, hj]
  · rw [Nat.add_assoc, e] at hcb; rw [e] at hg; rw [hcb, ← hg.2, hj]
theorem RdR.nil_ofF {w : World} {c n : Nat} {m : List Rng.R} (hx : RdR w (.slice none n c) m) : m = [] := by
  obtain ⟨a', c', e', _, hx⟩ := hx
  injection e' with e1 e2 e3
  rcases m with _ | ⟨x, m⟩
  · rfl
  · obtain ⟨b, off, e, _⟩ := hx 0 (by simp); rw [← e1] at e; cases e
theorem run_appendRF (w : World) (ty : TypeId) (v xv : Value) (l m : List Rng.R) (hown : w.ownsRow 0 38 2 v l.length (Fil.rcells l)) (hx : RdR w xv m) (hlen : l.length + m.length < 1000000) :
    ∃ v' w', (Builtin.append_ #[24, 24] ty #[v, xv]).run Tryz.prog w = .ok v' w' ∧ w'.ownsRow 0 38 2 v' (l ++ m).length (Fil.rcells (l ++ m)) ∧ w.grownBy w' v.ownBlock ∧ (v'.ownBlock = v.ownBlock ∨ v'.ownBlock = some w.heap.size) := by
  obtain ⟨i0, hi, hz0, hz1, hz2⟩ := info_parts infoF
  obtain ⟨a, c, rfl⟩ := hx.eq
  rw [List.length_append, rcells_app]
  cases a with
  | none =>
    have hm := RdR.nil_ofF hx
    subst hm
    refine ⟨v, w, run_append_none_anyF 0 24 ty 38 i0 2 Tryz.underlying24 hi v l.length (Fil.rcells l) hown c, ?_, ⟨rfl, rfl, rfl, Nat.le_refl _, fun _ _ _ => rfl⟩, Or.inl rfl⟩
    simpa [Fil.rcells] using hown
  | some ad =>
    obtain ⟨v', w', hrun, hown', hgr, _, hbl⟩ := run_append_own_at (P := Tryz.prog) w 0 24 ty 38 i0 (.agg #[.int .i64 0, .int .i64 0]) 2 16 Tryz.underlying24 hi hz0 hz1 hz2 rfl (by decide) v l.length (Fil.rcells l) hown ad m.length c (Fil.rcells m) (rcells_len m) (rd_newsF hx) (rcells_one m) (by unfold maxLen; omega) (by omega) (Nat.zero_le _)
    exact ⟨v', w', hrun, hown', hgr, hbl⟩
theorem wpList_appendRF {ops : Array Oper} {rest : List Oper} {o : Oper} {a : Act} {Q : Exit → Act → World → Prop} {W w : World} {L : List HProp} {v : Value} {l m : List Rng.R} (hgd : o.guard = none) (s x : Operand)
    (ho : o.op = .call { callee := .builtin .append, args := #[s, x], argTypes := #[24, 24] }) (hS : Sts W (rowP 38 2 v l.length (Fil.rcells l) :: L) w) (hL : ∀ B ∈ L, Stable B)
    (hs : a.eval s = v) (xv : Value) (hx : a.eval x = xv) (hrd : RdR w xv m) (hlen : l.length + m.length < 1000000)
    (h : ∀ v' w', Sts W (rowP 38 2 v' (l ++ m).length (Fil.rcells (l ++ m)) :: L) w' → wpList Tryz.prog ops Q rest (a.put o.dst v') w') : wpList Tryz.prog ops Q (o :: rest) a w := by
  refine wpList_plain hgd fun K hK => ?_
  obtain ⟨v', w', hrun, hown, hgr, hbl⟩ := run_appendRF w o.type v xv l m (Sts.rowOwnK hS) hrd hlen
  have hS2 := Sts.grownK hL hS hgr hown (own_orF hbl)
  unfold Oper.wp
  simp [execOp, ho, resolve, invoke, builtin, hs, hx, hrun, Result.andThen]
  exact hK _ _ (h v' w' hS2)
/-- A transaction that no list may hold. -/
def IdBad (self : Int) (r : Rng.R) : Prop := r.1 < 0 ∨ 15 < r.1 ∨ r.1 = self ∨ r.2 < 0 ∨ 65535 < r.2
def IdGood (self : Int) (l : List Rng.R) (k : Nat) : Prop := ∀ h : k < l.length, ¬ IdBad self l[k] ∧ l[k] ∉ l.take k
/-- What may be restored. -/
def RestOk (self : Int) (l : List Rng.R) (next : Int) : Prop := l.length ≤ 256 ∧ 1 ≤ next ∧ next ≤ 65536 ∧ ∀ k, IdGood self l k
theorem RdR.takeF {w : World} {a : Option Addr} {cap : Nat} {l : List Rng.R} (h : RdR w (.slice a l.length cap) l) (k : Nat) (hk : k ≤ l.length) : RdR w (.slice a k cap) (l.take k) := by
  obtain ⟨a', c', e', hc, hx⟩ := h
  injection e' with e1 e2 e3
  subst e1 e3
  refine ⟨a, cap, by rw [List.length_take, Nat.min_eq_left hk], ⟨by rw [List.length_take, Nat.min_eq_left hk]; omega, hc.2⟩, fun j hj => ?_⟩
  rw [List.length_take, Nat.min_eq_left hk] at hj
  obtain ⟨b, off, h1, h2, h3, h4⟩ := hx j (by omega)
  refine ⟨b, off, h1, h2, ?_, ?_⟩
  · rw [h3]; simp
  · rw [h4]; simp
set_option maxRecDepth 100000 in
theorem sizeF : ∀ w, (Go.sizeOf 38).run Tryz.prog w = .ok 2 w := fun w => by first | rfl | simp [go_sem] | kernel_rfl
theorem run_slice_toF (x : World) (ad : Addr) (n cap k : Nat) (hk : k < n) (hc : n ≤ cap) : (Instr.slice 24 (.slice (some ad) n cap) none (some (.int .i64 (k : Int))) none).run Tryz.prog x = .ok (.slice (some ad) k cap) x := by
  have ht' : Tryz.prog.underlying 24 = some (.slice (Tryz.prog.elem 24)) := by simp [Program.elem, Tryz.underlying24]
  have he : Tryz.prog.elem 24 = 38 := by simp [Program.elem, Tryz.underlying24]
  rw [run_slice_h x 24 _ _ _ ht' .i64 _ (by omega) (by omega), he, sizeF]
  have hne : ¬ cap = 0 := by omega
  simp [sliced, hne, Result.andThen, Addr.add]
end Go.Proofs.YtgidckkcibplgaaGreat
namespace Go.Proofs.YtgidckkcibplgaaGreat
open Go.RowKit Go.Proofs.Num
set_option maxRecDepth 100000 in
set_option maxHeartbeats 4000000 in
theorem cRestB {W w : World} {L : List HProp} (hl : ∀ B ∈ L, Stable B) (v : Value) (self chunk to re next : Int) (st : Option Addr) (hs : Sts W L w) (hb : ¬ ((0 ≤ self ∧ self ≤ 15) ∧ (1 ≤ chunk ∧ chunk ≤ 512) ∧ (1 ≤ to ∧ to ≤ 1048576) ∧ (0 ≤ re ∧ re ≤ 255))) :
    Calls Tryz.prog 10 #[.int .i64 self, .pointer st, .agg #[.int .i64 chunk, .int .i64 to, .int .i64 re], v, .int .i64 next] w fun e w' => e = .returned (.tuple #[.pointer none, .int .i64 1]) ∧ Sts W L w' := by
  have HS := hid (hs.alloc hl (.cells #[.int .i64 chunk, .int .i64 to, .int .i64 re] 23))
  have HB := hid hb
  clear hs hb
  go_enter Tryz.func10, Tryz.ntmps10
  go_wp2_with (first | (go_at_call 19; refine (cCouBadS (stabC (blkP_stable _ _) hl) self chunk to re st HS.out HB.out).mono ?_; rintro e w2 ⟨rfl, h⟩; have HC := hid h; clear h HS))
  go_ret2
  exact ⟨rfl, HC.out.tail⟩
set_option maxRecDepth 100000 in
set_option maxHeartbeats 4000000 in
theorem cRRestB (w : World) (v : Value) (self chunk to re next : Int) (hb : ¬ ((0 ≤ self ∧ self ≤ 15) ∧ (1 ≤ chunk ∧ chunk ≤ 512) ∧ (1 ≤ to ∧ to ≤ 1048576) ∧ (0 ≤ re ∧ re ≤ 255))) :
    Calls Tryz.prog 12 #[.int .i64 self, .agg #[.int .i64 1, .int .i64 1, .slice none 0 0], .agg #[.int .i64 chunk, .int .i64 to, .int .i64 re], v, .int .i64 next] w fun e w' => Below w.heap.size w w' ∧ e = .returned (.tuple #[.agg zero29, .int .i64 1]) := by
  have HB := hid hb
  clear hb
  have e1 : (w.alloc (.cells #[.int .i64 1, .int .i64 1, .slice none 0 0] 34)).heap.size = w.heap.size + 1 := Array.size_push ..
  have e2 : ((w.alloc (.cells #[.int .i64 1, .int .i64 1, .slice none 0 0] 34)).alloc (.cells #[.int .i64 chunk, .int .i64 to, .int .i64 re] 23)).heap.size = w.heap.size + 1 + 1 := by show (Array.push _ _).size = _; rw [Array.size_push, e1]
  have H1 := (Sts.nil w).alloc stab0 (.cells #[.int .i64 1, .int .i64 1, .slice none 0 0] 34)
  have H2 := H1.alloc (stab1 (blkP_stable _ _)) (.cells #[.int .i64 chunk, .int .i64 to, .int .i64 re] 23)
  have HS := H2.alloc (stabC (blkP_stable _ _) (stab1 (blkP_stable _ _))) (.cells zero29 40)
  rw [e1, e2] at HS
  have HS2 := hid HS
  have HT := hid (show ∀ B ∈ [blkP (w.heap.size + 1) (.cells #[.int .i64 chunk, .int .i64 to, .int .i64 re] 23 (0, 0)), blkP w.heap.size (.cells #[.int .i64 1, .int .i64 1, .slice none 0 0] 34 (0, 0))], Stable B from stabC (blkP_stable _ _) (stab1 (blkP_stable _ _)))
  clear HS H1 H2 e1 e2
  have hz29 : zero29 = #[.int .i64 0, .int .i64 0, .int .i64 0, .slice none 0 0, .int .i64 0, .int .i64 0, .int .i64 0, .int .i64 0, .int .i64 0, .slice none 0 0, .slice none 0 0, .slice none 0 0, .bool false, .int .i64 0, .int .i64 0, .bool false] := rfl
  rw [hz29] at HS2
  clear hz29
  go_enter Tryz.func12, Tryz.ntmps12
  go_wp2_with (first
    | (go_at_call 33; refine (cRNew29F (stabC (blkP_stable _ _) HT.out) self chunk to re HS2.out HB.out).mono ?_; rintro e w2 ⟨rfl, h⟩; unfold zero29; have HA := hid (h.alloc (stabC (blkP_stable _ _) HT.out) (.cells zero29 40)); clear h HS2)
    | (refine wpList_aggS HA.out (stabC (blkP_stable _ _) HT.out) rfl (.tmp 12) (.tmp 20) 40 rfl zero29 rfl rfl sizeC29 rfl rfl ?_; intro w4 h4; have HC := hid h4; have HCS := hid h4.swap; clear h4 HA; have HTC := hid (stabC (blkP_stable w2.heap.size (.cells zero29 40 (0, 0))) HT.out))
    | (refine wpList_ldS rfl (.tmp 12) 40 rfl rfl (.agg zero29) (ldC29 rfl HC.out) ?_)
    | (refine wpList_aggS HCS.out HTC.out rfl (.tmp 10) (.tmp 24) 40 rfl zero29 rfl rfl sizeC29 rfl rfl ?_; intro w5 h5; have HF := hid h5; clear h5))
  exact post_cell2S HF.out Tryz.results12 rfl rfl (ldC29 rfl HF.out) _ rfl ⟨HF.out.below, rfl⟩
end Go.Proofs.YtgidckkcibplgaaGreat
namespace Go.Proofs.YtgidckkcibplgaaGreat
open Go.RowKit Go.Proofs.Num
theorem row_sliceF {W w : World} {L : List HProp} {e : TypeId} {s n : Nat} {v : Value} {xs : List Value} (h : Sts W (rowP e s v n xs :: L) w) : ∃ a k c, v = .slice a k c := by
  rcases (Sts.rowOwnK h).2 with ⟨rfl, rfl⟩ | ⟨g, cap, cur, rfl, _⟩
  · exact ⟨_, _, _, rfl⟩
  · exact ⟨_, _, _, rfl⟩
theorem bad_not {self next : Int} {l : List Rng.R} {k : Nat} (hk : k < l.length) (hb : IdBad self l[k] ∨ l[k] ∈ l.take k) : ¬ RestOk self l next := fun h => by
  obtain ⟨h1, h2⟩ := h.2.2.2 k hk
  rcases hb with hb | hb
  · exact h1 hb
  · exact h2 hb
set_option maxRecDepth 100000 in
theorem szFs : ∀ w, (Go.sizeOf 24).run Tryz.prog w = .ok 1 w := fun w => by first | rfl | simp [go_sem] | kernel_rfl
set_option maxRecDepth 100000 in
theorem szInt : ∀ w, (Go.sizeOf 3).run Tryz.prog w = .ok 1 w := fun w => by first | rfl | simp [go_sem] | kernel_rfl
/-- Which of the checks is the first that fails. -/
def Cat (m : Nat) (self f t : Int) (i : Prop) : Prop :=
  match m with
  | 0 => f < 0
  | 1 => ¬ (f < 0) ∧ 15 < f
  | 2 => ¬ (f < 0) ∧ ¬ (15 < f) ∧ f = self
  | 3 => ¬ (f < 0) ∧ ¬ (15 < f) ∧ ¬ (f = self) ∧ t < 0
  | 4 => ¬ (f < 0) ∧ ¬ (15 < f) ∧ ¬ (f = self) ∧ ¬ (t < 0) ∧ 65535 < t
  | _ => ¬ (f < 0) ∧ ¬ (15 < f) ∧ ¬ (f = self) ∧ ¬ (t < 0) ∧ ¬ (65535 < t) ∧ i
theorem cat_of {self : Int} {l : List Rng.R} {k : Nat} (hk : k < l.length) (h : ¬ IdGood self l k) : ∃ m, m < 6 ∧ Cat m self l[k].1 l[k].2 (l[k] ∈ l.take k) := by
  by_cases h0 : l[k].1 < 0
  · exact ⟨0, by omega, h0⟩
  by_cases h1 : 15 < l[k].1
  · exact ⟨1, by omega, h0, h1⟩
  by_cases h2 : l[k].1 = self
  · exact ⟨2, by omega, h0, h1, h2⟩
  by_cases h3 : l[k].2 < 0
  · exact ⟨3, by omega, h0, h1, h2, h3⟩
  by_cases h4 : 65535 < l[k].2
  · exact ⟨4, by omega, h0, h1, h2, h3, h4⟩
  by_cases h5 : l[k] ∈ l.take k
  · exact ⟨5, by omega, h0, h1, h2, h3, h4, h5⟩
  · exact absurd (fun _ => ⟨by unfold IdBad; omega, h5⟩) h
/-- The first that fails is of one kind, if there is one. -/
theorem first_cat (self : Int) (l : List Rng.R) : ∃ m, m < 6 ∧ ∀ k, (h : k < l.length) → (∀ j, j < k → IdGood self l j) → ¬ IdGood self l k → Cat m self l[k].1 l[k].2 (l[k] ∈ l.take k) := by
  by_cases hx : ∃ k, k < l.length ∧ (∀ j, j < k → IdGood self l j) ∧ ¬ IdGood self l k
  · obtain ⟨k, hk, h1, h2⟩ := hx
    obtain ⟨m, hm, hc⟩ := cat_of hk h2
    refine ⟨m, hm, fun k2 hk2 g1 g2 => ?_⟩
    obtain rfl : k2 = k := by
      rcases Nat.lt_trichotomy k2 k with h | h | h
      · exact absurd (h1 k2 h) g2
      · exact h
      · exact absurd (g1 k h) h2
    exact hc
  · exact ⟨0, by omega, fun k hk g1 g2 => absurd ⟨k, hk, g1, g2⟩ hx⟩
end Go.Proofs.YtgidckkcibplgaaGreat
