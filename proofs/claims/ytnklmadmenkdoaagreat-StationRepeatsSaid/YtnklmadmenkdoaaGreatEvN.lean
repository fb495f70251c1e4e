/- An evaluator of the model's code, fourteenth part: append, whole. -/
import Derived.Test.YtnklmadmenkdoaaGreatEvM
set_option linter.unusedVariables false
set_option linter.unusedSimpArgs false
namespace Go.Ev
variable {D : List Deferred}
variable {P : Program} {pr : Prims} {ih : Rn} {e : Env} {t : T V} {h : H} {s : Nat} {w : World} {a : Act} {r : RO} {k : K} {o : Oper}
variable {at_ : Array TypeId} {tt u ty el : TypeId} {d : TypeDesc} {i : TypeInfo} {x y : V} {xv yv : Value}
theorem isSl_ok (h : isSl x = true) (hx : VR e x xv) : ∃ b l c, xv = .slice b l c ∧ l ≤ c ∧ (b = none → l = 0 ∧ c = 0) := by
  cases hx <;> first | (cases h; done) | skip
  · exact ⟨none, 0, 0, rfl, Nat.le_refl _, fun _ => ⟨rfl, rfl⟩⟩
  · rename_i hl; exact ⟨_, _, _, rfl, hl, fun h0 => by cases h0⟩
  · exact ⟨_, _, _, rfl, Nat.le_refl _, fun h0 => by cases h0⟩
  · rename_i hl _; exact ⟨_, _, _, rfl, hl, fun h0 => by cases h0⟩
  · exact ⟨_, _, _, rfl, Nat.le_refl _, fun h0 => by cases h0⟩
theorem appendV_ok (hk : appendV P el x y h s k = r) (hr : r.good) (hs : Sim e h w) (hf : Free e s) (hx : VR e x xv) (hy : VR e y yv) (h0 : at_[0]? = some tt) (h1 : at_[1]? = some u)
    (ht : P.underlying tt = some (.slice el)) (hu : P.underlying u = some d) (hd : ∀ k, d ≠ .int k) (hi : P.info? el = some i) :
    ∃ v h' s', k v h' s' = r ∧ ∃ z w', (Builtin.append_ at_ ty #[xv, yv]).run P w = .ok z w' ∧ Good e s h w v h' s' z w' := by
  unfold appendV at hk
  obtain ⟨n, cs, xs, hk, hcs, hlen, hxl, hfc⟩ := srcCells_ok (P := P) hk hr hs hy
  have hfc' := hfc w.drew rfl n (Nat.le_refl _)
  rw [List.take_of_length_le (by omega)] at hfc'
  have hfn := hfc w rfl n (Nat.le_refl _)
  rw [List.take_of_length_le (by omega)] at hfn
  have hcl := hcs.length
  cases hn : Nat.beq n 0 with
  | true =>
    rw [hn] at hk
    have hn := Nat.eq_of_beq_eq_true hn
    subst hn
    have hxs : xs = [] := by
      have : xs.length = 0 := by rw [hxl, Nat.zero_mul]
      exact List.length_eq_zero_iff.1 this
    subst hxs
    simp only [cond_true] at hk
    obtain ⟨hsl, hk⟩ := bif_ok hk (by simp [RO.good]) hr
    obtain ⟨b, l, c, rfl, hlc, _⟩ := isSl_ok hsl hx
    refine ⟨x, h, s, hk, .slice b l c, w, ?_, e, hx, Post.refl hs hf⟩
    have := run_append_here (P := P) (w := w) (w' := w) (ty := ty) (b := b) (l := l) (c := c) h0 h1 ht hu hd hi hlen hfn (by omega) (by cases b <;> rfl)
    simpa using this
  | false =>
    rw [hn] at hk
    have hn := Nat.ne_of_beq_eq_false hn
    simp only [cond_false] at hk
    split at hk
    · cases hx
      obtain ⟨i', zv, h', e', v, g1, g2, g3, g4, g5⟩ := grow_ok (c := grownCap w (0 + n) 0 el) hk rfl hr hs hf hcs (by rw [hcl, hxl]) (by have := grownCap_ge w (0 + n) 0 el; omega)
      rw [hi] at g1; injection g1 with g1; subst g1
      refine ⟨v, h', s + 1, g4, _, _, ?_, e', g5⟩
      have := run_append_new (P := P) (w := w) (ty := ty) (b := none) (l := 0) (c := 0) (os := []) h0 h1 ht hu hd hi g2 hlen hfc' (by simp [Builtin.firstCells]) (by omega) (by rw [Nat.zero_add]; exact g3)
      simpa using this
    · rename_i b off l c _
      cases hroom : Nat.ble (l + n) c with
      | true =>
        simp only [Nat.add_eq] at hk
        rw [hroom] at hk
        have hroom := Nat.le_of_ble_eq_true hroom
        simp only [cond_true] at hk
        have hk' := hk
        cases hx with
        | @sl _ _ _ _ nb sh sz hb hlc =>
          obtain ⟨h', w', k1, k2, k3⟩ := storeV_ok (P := P) hk' hr hs hf hb hcs
          refine ⟨_, h', s, k1, .slice (some ⟨nb, sh + off, none⟩) (l + n) c, w', ?_, e, .sl hb hroom, k3⟩
          exact run_append_here (P := P) (w := w) (w' := w') (ty := ty) h0 h1 ht hu hd hi hlen hfn hroom (by simp only [addr_add]; rw [Nat.add_assoc]; exact k2)
        | sl0 hb => omega
      | false =>
        simp only [Nat.add_eq] at hk
        rw [hroom] at hk
        have hroom : ¬ (l + n ≤ c) := by
          intro h0
          rw [ble_eq] at hroom
          simp [h0] at hroom
        simp only [cond_false] at hk
        obtain ⟨l', old, os, hk2, hos, hlen2, hol, hfo⟩ := srcCells_ok (P := P) hk hr hs hx
        have hll : l' = l := by
          have : (Builtin.lenOf xv).run P w = .ok l w := by cases hx <;> rfl
          rw [this] at hlen2
          injection hlen2 with h2 h3
          exact h2.symm
        subst hll
        have hfo' := hfo w.drew rfl l' (Nat.le_refl _)
        rw [List.take_of_length_le (by omega)] at hfo'
        have hool := hos.length
        obtain ⟨i', zv, h', e', v, g1, g2, g3, g4, g5⟩ := grow_ok (c := grownCap w (l' + n) c el) hk2 rfl hr hs hf (hos.append hcs) (by rw [List.length_append, hool, hcl, hxl, hol, ← Nat.add_mul]) (grownCap_ge w (l' + n) c el)
        rw [hi] at g1; injection g1 with g1; subst g1
        refine ⟨v, h', s + 1, g4, _, _, ?_, e', g5⟩
        have hxv : ∃ b, xv = .slice b l' c := by cases hx <;> exact ⟨_, rfl⟩
        obtain ⟨b0, rfl⟩ := hxv
        have := run_append_new (P := P) (w := w) (ty := ty) (b := b0) (l := l') (c := c) (os := os) h0 h1 ht hu hd hi g2 hlen hfc' hfo' (by omega) g3
        simpa using this
    · rename_i b off l z _
      obtain ⟨hz, hk⟩ := bif_ok hk (by simp [RO.good]) hr
      have hz := Nat.eq_of_beq_eq_true hz
      subst hz
      split at hk
      · rename_i t' m hbl
        cases hroom : Nat.ble (off + (l + n) * P.cellsOf el) m with
        | true =>
          simp only [Nat.add_eq, Nat.mul_eq] at hk
          rw [hroom] at hk
          have hroom := Nat.le_of_ble_eq_true hroom
          simp only [cond_true] at hk
          obtain ⟨hz1, hk⟩ := bif_ok hk (by simp [RO.good]) hr
          have hz1 : 1 ≤ P.cellsOf el := Nat.le_of_ble_eq_true hz1
          have hk' := hk
          cases hx with
          | @slu _ _ _ _ c nb sh sz hb hlc hcz =>
            obtain ⟨hl, cc, elc, fr, hw, c1, c2, c3, c4, c5⟩ := cells_at hs hbl hb
            simp only at c2
            have hfit : l + n ≤ c := by
              have : (l + n) * P.cellsOf el ≤ c * P.cellsOf el := by omega
              exact Nat.le_of_mul_le_mul_right this hz1
            obtain ⟨h', w', k1, k2, k3⟩ := storeV_ok (P := P) hk' hr hs hf hb hcs
            refine ⟨_, h', s, k1, .slice (some ⟨nb, sh + off, none⟩) (l + n) c, w', ?_, e, .slu hb hfit hcz, k3⟩
            exact run_append_here (P := P) (w := w) (w' := w') (ty := ty) h0 h1 ht hu hd hi hlen hfn hfit (by simp only [addr_add]; rw [Nat.add_assoc]; exact k2)
          | @slu0 _ _ _ x0 nb sh sz hb hx0 =>
            exfalso
            obtain ⟨hl, cc, elc, fr, hw, c1, c2, c3, c4, c5⟩ := cells_at hs hbl hb
            simp only at c2
            have : 1 ≤ (0 + n) * P.cellsOf el := Nat.mul_le_mul (by omega : 1 ≤ 0 + n) hz1
            omega
        | false =>
          simp only [Nat.add_eq, Nat.mul_eq] at hk
          rw [hroom] at hk
          simp only [cond_false] at hk
          obtain ⟨hc2, hk⟩ := bif_ok hk (by simp [RO.good]) hr
          obtain ⟨d1, d2⟩ := and2 hc2
          have d1 : off + l * P.cellsOf el ≤ m := Nat.le_of_ble_eq_true d1
          have hk' := hk
          cases hx with
          | @slu _ _ _ _ c nb sh sz hb hlc hcz =>
            obtain ⟨hl, cc, elc, fr, hw, c1, c2, c3, c4, c5⟩ := cells_at hs hbl hb
            simp only at c1 c2 c3 hw
            obtain ⟨os, hol, hos, hget⟩ := rd_ok (x := ⟨nb, sh, sz⟩) c3 d1
            simp only at hget
            have hool := hos.length
            by_cases hfit : l + n ≤ c
            · have hmul : (l + n) * P.cellsOf el ≤ c * P.cellsOf el := Nat.mul_le_mul_right _ hfit
              have hadd : (l + n) * P.cellsOf el = l * P.cellsOf el + n * P.cellsOf el := Nat.add_mul _ _ _
              unfold grow newB at hk'
              obtain ⟨hgo, hk2⟩ := bif_ok hk' (by simp [RO.good]) hr
              obtain ⟨hhas, hk3⟩ := bif_ok hk2 (by simp [RO.good]) hr
              rw [T.has_set] at hhas
              have hrl := rdCells_len t' (l * P.cellsOf el) off
              have hcsz : cc.size = sz := c1
              obtain ⟨e', k2, k3⟩ := alias_post (sh := sh + off) (blk := .cells (tree (rdCells t' (l * P.cellsOf el) off ++ cs)) (len (rdCells t' (l * P.cellsOf el) off ++ cs)))
                (ob := .cells (putArr cc (sh + off + l * P.cellsOf el) xs) elc fr) hs hf hhas hl hb (by simp) (fun e' hle => by
                  have := tree_BR (rest := []) (n := nb) (sh := sh + off) (el := elc) (fr := fr) ((hos.append hcs).mono hle) (c := putArr cc (sh + off + l * P.cellsOf el) xs) (fun i hi => by
                    rw [putArr_get xs cc _ _ (by omega)]
                    rw [List.length_append] at hi
                    by_cases hil : i < l * P.cellsOf el
                    · rw [if_neg (by omega), List.getElem?_append_left (by omega)]
                      have := hget i (os[i]'(by omega)) (by simp [List.getElem?_eq_getElem (show i < os.length by omega)])
                      rw [this, List.getElem?_eq_getElem (show i < os.length by omega)]
                    · rw [if_pos (by omega), List.getElem?_append_right (by omega)]
                      congr 1; omega) (by rw [putArr_size, List.length_append]; omega) (by rw [putArr_size, hcsz]; exact c5)
                  rw [putArr_size, hcsz] at this
                  exact this)
              refine ⟨_, _, s + 1, hk3, .slice (some ⟨nb, sh + off, none⟩) (l + n) c, _, ?_, e', ?_, k3⟩
              · exact run_append_here (P := P) (w := w) (ty := ty) h0 h1 ht hu hd hi hlen hfn hfit (by
                  simp only [addr_add]
                  have := run_storeCells (P := P) (n := nb) (el := elc) (fr := fr) (x := sh + off + l * P.cellsOf el) xs 0 cc w hw (by omega) (by rw [hcsz]; exact c5) (hcs.one d2)
                  simpa using this)
              · have := VR.slu (e := e') (b := s) (o := 0) (l := l + n) (z := P.cellsOf el) (c := c) k2 hfit (by simp only; omega)
                simpa using this
            · have hfo : (Builtin.firstCells (P.cellsOf el) l (.slice (some ⟨nb, sh + off, none⟩) l c)).run P w.drew = .ok ⟨os⟩ w.drew :=
                run_firstCells_some (P := P) (w := w.drew) (P.cellsOf el) l ⟨nb, sh + off, none⟩ l c os hol (fun j v hv => by
                  rw [addr_add, cell_at (w := w.drew) (by exact hw)]; exact hget j v hv)
              have hgp := gone_post (b := b) hs hf
              obtain ⟨i', zv, h', e', v, g1, g2, g3, g4, g5, g6⟩ := grow_ok (c := grownCap w (l + n) c el) hk' rfl hr hgp.sim hf (hos.append hcs) (by rw [List.length_append, hool, hcl, hxl, hol, ← Nat.add_mul]) (grownCap_ge w (l + n) c el)
              rw [hi] at g1; injection g1 with g1; subst g1
              refine ⟨v, h', s + 1, g4, _, _, ?_, e', g5, hgp.trans g6⟩
              have := run_append_new (P := P) (w := w) (ty := ty) (b := some ⟨nb, sh + off, none⟩) (l := l) (c := c) (os := os) h0 h1 ht hu hd hi g2 hlen hfc' hfo (by omega) g3
              simpa using this
          | @slu0 _ _ _ x0 nb sh sz hb hx0 =>
            have hfo : (Builtin.firstCells (P.cellsOf el) 0 (.slice (some ⟨nb, x0, none⟩) 0 0)).run P w.drew = .ok ⟨[]⟩ w.drew :=
              run_firstCells_some (P := P) (w := w.drew) (P.cellsOf el) 0 ⟨nb, x0, none⟩ 0 0 [] (by simp) (fun j v hv => by simp at hv)
            have hgp := gone_post (b := b) hs hf
            have hnil : rdCells t' (Nat.mul 0 (P.cellsOf el)) off = [] := by rw [show Nat.mul 0 (P.cellsOf el) = 0 from Nat.zero_mul _]; rfl
            have hnil2 : rdCells t' (0 * P.cellsOf el) off = [] := hnil
            have hk2 : grow P el (h.set b .gone) s (P.cellsOf el) (0 + n) cs k = r := by
              rw [← hk', hnil2]; rfl
            obtain ⟨i', zv, h', e', v, g1, g2, g3, g4, g5, g6⟩ := grow_ok (c := grownCap w (0 + n) 0 el) hk2 rfl hr hgp.sim hf hcs (by rw [hcl, hxl, Nat.zero_add]) (grownCap_ge w (0 + n) 0 el)
            rw [hi] at g1; injection g1 with g1; subst g1
            refine ⟨v, h', s + 1, g4, _, _, ?_, e', g5, hgp.trans g6⟩
            have := run_append_new (P := P) (w := w) (ty := ty) (b := some ⟨nb, x0, none⟩) (l := 0) (c := 0) (os := []) h0 h1 ht hu hd hi g2 hlen hfc' hfo (by omega) g3
            simpa using this
      · subst hk; cases hr
    · subst hk; cases hr
theorem appendZ_ok {u : TypeId} {n : Nat} {kd : IntKind} (hk : appendZ P el x n h s k = r) (hr : r.good) (hs : Sim e h w) (hf : Free e s) (hx : VR e x xv) (h0 : at_[0]? = some tt) (h1 : at_[1]? = some u)
    (ht : P.underlying tt = some (.slice el)) (hu : P.underlying u = some (.int kd)) (hi : P.info? el = some i) :
    ∃ v h' s', k v h' s' = r ∧ ∃ z w', (Builtin.append_ at_ ty #[xv, .int .i64 (n : Int)]).run P w = .ok z w' ∧ Good e s h w v h' s' z w' := by
  unfold appendZ at hk
  split at hk
  · rename_i z hz
    obtain ⟨hc, hk⟩ := bif_ok hk (by simp [RO.good]) hr
    obtain ⟨c1, c2⟩ := and2 hc
    have c1 := Nat.eq_of_beq_eq_true c1
    have c2 : 1 ≤ n := Nat.le_of_ble_eq_true c2
    rw [len_eq] at c1
    cases hx
    obtain ⟨i', zv, hi', hz2, hv, _⟩ := zeroV_ok (e := e) hz
    rw [hi] at hi'; injection hi' with hi'; subst hi'
    have hgrow : growOk P el = true := by
      unfold grow at hk
      obtain ⟨hg, _⟩ := bif_ok hk (by simp [RO.good]) hr
      exact (and2 hg).1
    obtain ⟨i', zv', hi', hz3, hsz, hpos⟩ := growOk_ok hgrow
    rw [hi] at hi'; injection hi' with hi'; subst hi'
    rw [hz2] at hz3; injection hz3 with hz3; subst hz3
    have hzl : 0 < z.cells.length := by omega
    have hcs : VRs e (reps z.cells n) (Builtin.zeroCells zv.cells n).toList := by
      have := reps_VRs (n := n * zv.cells.size) (c := n) hv.cells hzl (by rw [hsz, c1])
      exact this
    have hlen : (reps z.cells n).length = n * P.cellsOf el := by rw [reps_len, c1]
    obtain ⟨i', zv', h', e', v, g1, g2, g3, g4, g5, g6⟩ := grow_ok (c := grownCap w n 0 el) hk rfl hr hs hf hcs hlen (grownCap_ge w n 0 el)
    rw [hi] at g1; injection g1 with g1; subst g1
    rw [hz2] at g2; injection g2 with g2; subst g2
    exact ⟨v, h', s + 1, g4, _, _, run_append_zeros h0 h1 ht hu hi hz2 c2 (by omega) g3, e', g5, by simpa using g6⟩
  · subst hk; cases hr
end Go.Ev
