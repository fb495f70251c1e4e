/- Restore of an entity. -/
import Derived.Test.YtgidckkcibplgaaGreatResG
set_option linter.unusedVariables false
set_option linter.unusedSimpArgs false
namespace Go.Proofs.YtgidckkcibplgaaGreat
open Go.RowKit Go.Proofs.Num
/-- What Restore leaves: nothing, or an entity with the delivered transactions. -/
def RestC (W : World) (L : List HProp) (self chunk to re next : Int) (q m : Nat) (l : List Rng.R) (e : Ending) (w' : World) : Prop :=
  (e = .returned (.tuple #[.pointer none, .int .i64 1]) ∧ ¬ RestOk self l next ∧ Below W.heap.size W w') ∨
  (∃ c m1 m2 m3 v, e = .returned (.tuple #[.pointer (some ⟨c, 0, none⟩), .int .i64 0]) ∧ RestOk self l next ∧ RdR w' v l ∧ (∃ va vn vc, v = .slice va vn vc) ∧ Sts W (blkP c (.cells #[.bool true, .int .i64 self, .pointer (some ⟨q, 0, none⟩), .int .i64 chunk, .int .i64 to, .int .i64 re, .int .i64 0, .int .i64 next, .map (some m1), .map (some m2), .map (some m3), v, .slice none 0 0, .bool false, .pointer none] 69 (0, 0)) :: blkP m3 (.map #[] 0) :: blkP m2 (.map #[] 0) :: blkP m1 (.map #[] 0) :: blkP q (.cells #[.int .i64 1, .int .i64 1, .map (some m)] 74 (0, 0)) :: blkP m (.map #[] 0) :: L) w')
/-- What a call has made comes to what there is. -/
theorem Sts.catF {W w w' : World} {l m : List HProp} (hl : ∀ A ∈ l, Stable A) (h : Sts W l w) (k : Sts w m w') : Sts W (m ++ l) w' := by
  obtain ⟨F, b, c, d⟩ := h
  obtain ⟨G, b2, c2, d2⟩ := k
  have hs := stars_stable hl
  refine ⟨fun k => G k ∨ F k, stars_app.2 ⟨G, F, b2, hs.keep b (Keep.of_below (S := fun _ => False) c2) (fun _ _ h => h), ?_, fun k => Iff.rfl⟩, c.trans (c2.mono c.size), ?_⟩
  · intro k' h1 h2; have := hs.dom b k' h2; have := d2 k' h1; omega
  · rintro k' (h | h)
    · have := c.size; have := d2 k' h; omega
    · exact d k' h
set_option maxRecDepth 100000 in
theorem cCloneFS (w : World) (v : Value) (l : List Rng.R) (h : RdR w v l) (hn : l.length < 1000000) :
    Calls Tryz.prog 46 #[v] w fun e w' => ∃ va vn vc, e = .returned (.slice va vn vc) ∧ Sts w [rowP 38 2 (.slice va vn vc) l.length (Fil.rcells l)] w' := by
  obtain ⟨a, cap, rfl, ⟨hcap1, hcap2⟩, hx⟩ := h
  unfold maxLen at hcap2
  obtain ⟨i0, hi0, hz0, hz1, hz2⟩ := info_parts infoF
  cases a with
  | none =>
    have hl : l = [] := by
      rcases l with _ | ⟨x, l⟩
      · rfl
      · obtain ⟨b, off, e, _⟩ := hx 0 (by simp); cases e
    subst hl
    have HX := hid hx
    clear hx
    have hq := Lib.run_eql_slice_nil (P := Tryz.prog) w 24 38 none 0 cap 0 0 Tryz.underlying24
    go_enter Tryz.func46, Tryz.ntmps46
    go_wp2_with fail
    go_ret
    exact ⟨_, _, _, rfl, Sts.rowNilK 38 2 (Sts.nil w)⟩
  | some ad =>
    have hq := Lib.run_eql_slice_nil (P := Tryz.prog) w 24 38 (some ad) l.length cap 0 0 Tryz.underlying24
    have HCN : Hid (∀ j u, (Fil.rcells l)[j]? = some u → (w.alloc (.cells #[] 38)).cell? (ad.add j) = some u) := by
      refine hid (fun j u hj => ?_)
      have hbel := (Below.refl w.heap.size w).alloc (Nat.le_refl _) (.cells #[] 38)
      have hlt : j < l.length * 2 := by
        rcases Nat.lt_or_ge j (Fil.rcells l).length with h | h
        · rw [rcells_len] at h; exact h
        · rw [List.getElem?_eq_none h] at hj; cases hj
      obtain ⟨ba, oa, ea, hba, hca, hcb⟩ := hx (j / 2) (by omega)
      injection ea with ea
      subst ea
      have hg := rcells_get l (j / 2) (by omega)
      rw [plain_add, hbel.cell hba]
      rcases (by omega : j / 2 * 2 = j ∨ j / 2 * 2 + 1 = j) with e | e
      · rw [e] at hca hg; rw [hca, ← hg.1, hj]
      · rw [Nat.add_assoc, e] at hcb; rw [e] at hg; rw [hcb, ← hg.2, hj]
    have hso : Sts w [rowP 38 2 (.slice (some ⟨w.heap.size, 0, none⟩) 0 0) 0 []] (w.alloc (.cells #[] 38)) :=
      ((Sts.nil w).alloc stab0 (.cells #[] 38)).weaken (fun F h => blkP.rowR (n := 0) (cap := 0) h (by omega) rfl (by unfold maxLen; omega))
    have HSO0 := hid hso
    have HNU : Hid ((Fil.rcells l).length = l.length * 2) := hid (rcells_len l)
    have HCAP : Hid (l.length ≤ cap) := hid hcap1
    clear hso hx
    generalize hm : l.length = m at *
    have HM := hid hm
    clear hm
    go_enter Tryz.func46, Tryz.ntmps46
    go_wp2_with (at_builtin; refine wpList_append_own_at _ rfl (.tmp 5) (.tmp 6) 24 rfl 0 38 i0 (.agg #[.int .i64 0, .int .i64 0]) 2 16 Tryz.underlying24 hi0 hz0 hz1 hz2 rfl (by decide) (.slice (some ⟨w.heap.size, 0, none⟩) 0 0) 0 [] rfl (Sts.rowOwnK HSO0.out) ad m cap (Fil.rcells l) rfl HNU.out HCN.out (rcells_one l) (by unfold maxLen; omega) (by omega) (Nat.zero_le _) ?_; intro v1 w5 hown hgr _ hblk)
    have hso := Sts.grownK stab0 HSO0.out hgr hown (by
      intro q' hq
      rcases hblk with h | h
      · exact Or.inl (h ▸ hq)
      · rw [h] at hq; injection hq with hq; exact Or.inr (by omega))
    rw [Nat.zero_add, List.nil_append] at hso
    have HSO := hid hso
    clear hso hown hgr hblk HCN HSO0
    go_ret
    obtain ⟨va, vn, vc, rfl⟩ := row_sliceF HSO.out
    exact ⟨_, _, _, rfl, HSO.out⟩
section
variable {W w : World} {L : List HProp} (hl : ∀ B ∈ L, Stable B)
include hl
set_option maxRecDepth 100000 in
set_option maxHeartbeats 8000000 in
theorem cRestF (a : Option Addr) (cap : Nat) (l : List Rng.R) (hn : l.length < 1000000) (self chunk to re next : Int) (q m : Nat) (hs : Sts W (blkP q (.cells #[.int .i64 1, .int .i64 1, .map (some m)] 74 (0, 0)) :: blkP m (.map #[] 0) :: L) w) (h3 : 0 ≤ self ∧ self ≤ 15) (h4 : 1 ≤ chunk ∧ chunk ≤ 512) (h5 : 1 ≤ to ∧ to ≤ 1048576) (h6 : 0 ≤ re ∧ re ≤ 255) (hb : ¬ (l.length ≤ 256 ∧ 1 ≤ next ∧ next ≤ 65536)) :
    Calls Tryz.prog 10 #[.int .i64 self, .pointer (some ⟨q, 0, none⟩), .agg #[.int .i64 chunk, .int .i64 to, .int .i64 re], .slice a l.length cap, .int .i64 next] w fun e w' => RestC W L self chunk to re next q m l e w' := by
  have HN := hid (show ¬ RestOk self l next from fun h => hb ⟨h.1, h.2.1, h.2.2.1⟩)
  have HA := hs.alloc (stabC (blkP_stable _ _) (stabC (blkP_stable _ _) hl)) (.cells #[.int .i64 chunk, .int .i64 to, .int .i64 re] 23)
  have HS := hid (Sts.third' HA)
  have HLC := hid (stabC (blkP_stable w.heap.size (.cells #[.int .i64 chunk, .int .i64 to, .int .i64 re] 23 (0, 0))) hl)
  have H3 := hid h3
  have H4 := hid h4
  have H5 := hid h5
  have H6 := hid h6
  clear hs HA h3 h4 h5 h6
  generalize l.length = z at *
  rcases (by omega : 256 < z ∨ (¬ (256 < z) ∧ next < 1) ∨ (¬ (256 < z) ∧ ¬ (next < 1) ∧ 65536 < next)) with h | h | h
  · have d1 : decide ((256 : Int) < (z : Int)) = true := decide_eq_true (by omega)
    have d1' : (256 : Int) < (z : Int) := by omega
    clear h hb hn
    go_enter Tryz.func10, Tryz.ntmps10
    go_wp2_with (first | (go_at_call 19; refine (cCouNew HLC.out self chunk to re q m 1 1 HS.out (by omega) (by omega) H3.out H4.out H5.out H6.out).mono ?_; rintro e w2 ⟨c, m1, m2, m3, rfl, h⟩; have HB := hid h; clear h HS))
    go_ret2
    exact Or.inl ⟨rfl, HN.out, HB.out.below⟩
  · have d1 : decide ((256 : Int) < (z : Int)) = false := decide_eq_false (by omega)
    have d2 : decide (next < 1) = true := decide_eq_true h.2
    clear h hb hn
    go_enter Tryz.func10, Tryz.ntmps10
    go_wp2_with (first | (go_at_call 19; refine (cCouNew HLC.out self chunk to re q m 1 1 HS.out (by omega) (by omega) H3.out H4.out H5.out H6.out).mono ?_; rintro e w2 ⟨c, m1, m2, m3, rfl, h⟩; have HB := hid h; clear h HS))
    go_ret2
    exact Or.inl ⟨rfl, HN.out, HB.out.below⟩
  · have d1 : decide ((256 : Int) < (z : Int)) = false := decide_eq_false (by omega)
    have d2 : decide (next < 1) = false := decide_eq_false h.2.1
    have d3 : decide (65536 < next) = true := decide_eq_true h.2.2
    clear h hb hn
    go_enter Tryz.func10, Tryz.ntmps10
    go_wp2_with (first | (go_at_call 19; refine (cCouNew HLC.out self chunk to re q m 1 1 HS.out (by omega) (by omega) H3.out H4.out H5.out H6.out).mono ?_; rintro e w2 ⟨c, m1, m2, m3, rfl, h⟩; have HB := hid h; clear h HS))
    go_ret2
    exact Or.inl ⟨rfl, HN.out, HB.out.below⟩
set_option maxRecDepth 100000 in
set_option maxHeartbeats 40000000 in
theorem cRestT (a : Option Addr) (cap : Nat) (l : List Rng.R) (hr : RdR W (.slice a l.length cap) l) (hn : l.length < 1000000) (self chunk to re next : Int) (q m : Nat) (hs : Sts W (blkP q (.cells #[.int .i64 1, .int .i64 1, .map (some m)] 74 (0, 0)) :: blkP m (.map #[] 0) :: L) w) (h3 : 0 ≤ self ∧ self ≤ 15) (h4 : 1 ≤ chunk ∧ chunk ≤ 512) (h5 : 1 ≤ to ∧ to ≤ 1048576) (h6 : 0 ≤ re ∧ re ≤ 255) (hb : l.length ≤ 256 ∧ 1 ≤ next ∧ next ≤ 65536) :
    Calls Tryz.prog 10 #[.int .i64 self, .pointer (some ⟨q, 0, none⟩), .agg #[.int .i64 chunk, .int .i64 to, .int .i64 re], .slice a l.length cap, .int .i64 next] w fun e w' => RestC W L self chunk to re next q m l e w' := by
  have HRD := hid hr
  obtain ⟨a', cap', e', hcap, hx⟩ := hr
  injection e' with e1 e2 e3
  subst e1 e3
  have HX := hid hx
  have HCAP := hid hcap
  clear hx hcap e2
  have HOK := hid hb
  have HA := hs.alloc (stabC (blkP_stable _ _) (stabC (blkP_stable _ _) hl)) (.cells #[.int .i64 chunk, .int .i64 to, .int .i64 re] 23)
  have HS := hid (Sts.third' HA)
  have HLC := hid (stabC (blkP_stable w.heap.size (.cells #[.int .i64 chunk, .int .i64 to, .int .i64 re] 23 (0, 0))) hl)
  have H3 := hid h3
  have H4 := hid h4
  have H5 := hid h5
  have H6 := hid h6
  clear hs HA h3 h4 h5 h6
  have d1 : decide ((256 : Int) < (l.length : Int)) = false := decide_eq_false (by omega)
  have d2 : decide (next < 1) = false := decide_eq_false (by omega)
  have d3 : decide (65536 < next) = false := decide_eq_false (by omega)
  clear hb
  go_enter Tryz.func10, Tryz.ntmps10
  go_wp2_with (first | (go_at_call 19; refine (cCouNew HLC.out self chunk to re q m 1 1 HS.out (by omega) (by omega) H3.out H4.out H5.out H6.out).mono ?_; rintro e w2 ⟨c, m1, m2, m3, rfl, h⟩; have HB := hid h; clear h HS))
  obtain ⟨B0, hB0⟩ : ∃ B0, B0 = w.heap.size := ⟨_, rfl⟩
  rw [← hB0] at HB HLC
  clear hB0
  have HLL := hid (show ∀ B ∈ (blkP c (.cells #[.bool true, .int .i64 self, .pointer (some ⟨q, 0, none⟩), .int .i64 chunk, .int .i64 to, .int .i64 re, .int .i64 0, .int .i64 1, .map (some m1), .map (some m2), .map (some m3), .slice none 0 0, .slice none 0 0, .bool false, .pointer none] 69 (0, 0)) :: blkP m3 (.map #[] 0) :: blkP m2 (.map #[] 0) :: blkP m1 (.map #[] 0) :: blkP q (.cells #[.int .i64 1, .int .i64 1, .map (some m)] 74 (0, 0)) :: blkP m (.map #[] 0) :: blkP B0 (.cells #[.int .i64 chunk, .int .i64 to, .int .i64 re] 23 (0, 0)) :: L), Stable B from stabC (blkP_stable _ _) (stabC (blkP_stable _ _) (stabC (blkP_stable _ _) (stabC (blkP_stable _ _) (stabC (blkP_stable _ _) (stabC (blkP_stable _ _) HLC.out))))))
  go_loopw [39] (fun i wr => ∃ k : Nat, k ≤ l.length ∧ i = .int .i64 k ∧ (∀ j, j < k → IdGood self l j) ∧ Sts W (blkP c (.cells #[.bool true, .int .i64 self, .pointer (some ⟨q, 0, none⟩), .int .i64 chunk, .int .i64 to, .int .i64 re, .int .i64 0, .int .i64 1, .map (some m1), .map (some m2), .map (some m3), .slice none 0 0, .slice none 0 0, .bool false, .pointer none] 69 (0, 0)) :: blkP m3 (.map #[] 0) :: blkP m2 (.map #[] 0) :: blkP m1 (.map #[] 0) :: blkP q (.cells #[.int .i64 1, .int .i64 1, .map (some m)] 74 (0, 0)) :: blkP m (.map #[] 0) :: blkP B0 (.cells #[.int .i64 chunk, .int .i64 to, .int .i64 re] 23 (0, 0)) :: L) wr) (fun i _ => l.length - (intOf i).toNat)
  case atStart => exact ⟨0, by omega, rfl, fun j hj => by omega, HB.out⟩
  case round =>
    clear HB
    obtain ⟨k, hk, rfl, hpre, hs9⟩ := hrel
    have HS := hid hs9
    have HP := hid hpre
    clear hs9 hpre
    by_cases hlt : k < l.length
    · obtain ⟨b, off, rfl, hb, c0, c1⟩ := HX.out k hlt
      rw [← HS.out.below.cell hb] at c0 c1
      obtain ⟨x, hxe⟩ : ∃ x, x = l[k] := ⟨_, rfl⟩
      rw [← hxe] at c0 c1
      have HE := hid hxe
      clear hxe hb
      obtain ⟨f, t⟩ := x
      simp only [] at c0 c1
      have HAE := hid (HS.out.alloc HLL.out (.cells #[.int .i64 0, .int .i64 0] 38))
      go_wp2_with (first
        | (refine wpList_aggS HAE.out HLL.out rfl (.tmp 15) (.tmp 43) 38 rfl #[.int .i64 f, .int .i64 t] rfl rfl sizeF rfl rfl ?_; intro w5 h5; have HE5 := hid h5; clear h5 HAE c0 c1))
      generalize wr.heap.size = bx at *
      have HLX := hid (show ∀ B ∈ (blkP bx (.cells #[.int .i64 f, .int .i64 t] 38 (0, 0)) :: (blkP c (.cells #[.bool true, .int .i64 self, .pointer (some ⟨q, 0, none⟩), .int .i64 chunk, .int .i64 to, .int .i64 re, .int .i64 0, .int .i64 1, .map (some m1), .map (some m2), .map (some m3), .slice none 0 0, .slice none 0 0, .bool false, .pointer none] 69 (0, 0)) :: blkP m3 (.map #[] 0) :: blkP m2 (.map #[] 0) :: blkP m1 (.map #[] 0) :: blkP q (.cells #[.int .i64 1, .int .i64 1, .map (some m)] 74 (0, 0)) :: blkP m (.map #[] 0) :: blkP B0 (.cells #[.int .i64 chunk, .int .i64 to, .int .i64 re] 23 (0, 0)) :: L)), Stable B from stabC (blkP_stable _ _) HLL.out)
      have HD : Hid (∀ y, Sts W (blkP bx (.cells #[.int .i64 f, .int .i64 t] 38 (0, 0)) :: (blkP c (.cells #[.bool true, .int .i64 self, .pointer (some ⟨q, 0, none⟩), .int .i64 chunk, .int .i64 to, .int .i64 re, .int .i64 0, .int .i64 1, .map (some m1), .map (some m2), .map (some m3), .slice none 0 0, .slice none 0 0, .bool false, .pointer none] 69 (0, 0)) :: blkP m3 (.map #[] 0) :: blkP m2 (.map #[] 0) :: blkP m1 (.map #[] 0) :: blkP q (.cells #[.int .i64 1, .int .i64 1, .map (some m)] 74 (0, 0)) :: blkP m (.map #[] 0) :: blkP B0 (.cells #[.int .i64 chunk, .int .i64 to, .int .i64 re] 23 (0, 0)) :: L)) y → y.cell? ⟨bx, 0, none⟩ = some (.int .i64 f) ∧ y.cell? ⟨bx, 1, none⟩ = some (.int .i64 t)) := hid fun y hy => ⟨(Sts.boxCell hy 0 _ rfl).1, (Sts.boxCell hy 1 _ rfl).1⟩
      rcases (by omega : (f = self) ∨ (¬ (f = self) ∧ f < 0) ∨ (¬ (f = self) ∧ ¬ (f < 0) ∧ 15 < f) ∨ (¬ (f = self) ∧ ¬ (f < 0) ∧ ¬ (15 < f) ∧ t < 0) ∨ (¬ (f = self) ∧ ¬ (f < 0) ∧ ¬ (15 < f) ∧ ¬ (t < 0) ∧ 65535 < t) ∨ (¬ (f = self) ∧ ¬ (f < 0) ∧ ¬ (15 < f) ∧ ¬ (t < 0) ∧ ¬ (65535 < t))) with h | h | h | h | h | h
      · skip
        have HN : Hid (¬ RestOk self l next) := hid (by have h1 := h; exact bad_not hlt (by rw [← HE.out]; exact Or.inl (Or.inr (Or.inr (Or.inl h1)))))
        have g0 : (f == self) = true := by simp; omega
        clear h
        refine wp_region_ord (.pure 0 (.pure 1 (.pure 2 (.pure 3 (.pure 4 (.pure 5 (.pure 6 (.pure 7 (.pure 8 (.pure 9 (.pure 10 (.pure 11 (.pure 12 (.pure 13 (.pure 14 (.pure 15 (.pure 16 (.pure 17 (.pure 18 (.pure 19 (.pure 20 (.pure 21 (.pure 22 (.pure 23 (.pure 24 (.pure 25 (.pure 26 (.pure 27 (.pure 28 (.eff 29 (.pure 30 (.nil)))))))))))))))))))))))))))))))) (fun y => y.cell? ⟨bx, 0, none⟩ = some (.int .i64 f) ∧ y.cell? ⟨bx, 1, none⟩ = some (.int .i64 t)) (fun y => Sts W (blkP bx (.cells #[.int .i64 f, .int .i64 t] 38 (0, 0)) :: (blkP c (.cells #[.bool true, .int .i64 self, .pointer (some ⟨q, 0, none⟩), .int .i64 chunk, .int .i64 to, .int .i64 re, .int .i64 0, .int .i64 1, .map (some m1), .map (some m2), .map (some m3), .slice none 0 0, .slice none 0 0, .bool false, .pointer none] 69 (0, 0)) :: blkP m3 (.map #[] 0) :: blkP m2 (.map #[] 0) :: blkP m1 (.map #[] 0) :: blkP q (.cells #[.int .i64 1, .int .i64 1, .map (some m)] 74 (0, 0)) :: blkP m (.map #[] 0) :: blkP B0 (.cells #[.int .i64 chunk, .int .i64 to, .int .i64 re] 23 (0, 0)) :: L)) y) (by kernel_rfl) (by kernel_rfl) (HE5.out.drew HLX.out) HD.out ?_
        iterate 29
          (first
            | (apply ord_pure (ho := rfl)
               · go_simp
               · intro x hx; obtain ⟨c0, c1⟩ := hx; go_simp; rfl
               apply ord_norm
               · go_simp; rfl)
            | (apply ord_skip (ho := rfl)
               · go_simp
               apply ord_norm
               · go_simp; rfl))
        apply ord_eskip (ho := rfl)
        · go_simp
        apply ord_norm
        · go_simp; rfl
        iterate 1
          (first
            | (apply ord_pure (ho := rfl)
               · go_simp
               · intro x hx; obtain ⟨c0, c1⟩ := hx; go_simp; rfl
               apply ord_norm
               · go_simp; rfl)
            | (apply ord_skip (ho := rfl)
               · go_simp
               apply ord_norm
               · go_simp; rfl))
        refine ord_nil fun z hz9 => ?_
        have HZ := hid hz9
        clear hz9
        go_wp2_with fail
        go_ret2
        exact Or.inl ⟨rfl, HN.out, HZ.out.below⟩
      · skip
        have HN : Hid (¬ RestOk self l next) := hid (by have h1 := h.2; exact bad_not hlt (by rw [← HE.out]; exact Or.inl (Or.inl h1)))
        have g0 : (f == self) = false := by simp; omega
        have g1 : decide (f < 0) = true := decide_eq_true (by omega)
        clear h
        refine wp_region_ord (.pure 0 (.pure 1 (.pure 2 (.pure 3 (.pure 4 (.pure 5 (.pure 6 (.pure 7 (.pure 8 (.pure 9 (.pure 10 (.pure 11 (.pure 12 (.pure 13 (.pure 14 (.pure 15 (.pure 16 (.pure 17 (.pure 18 (.pure 19 (.pure 20 (.pure 21 (.pure 22 (.pure 23 (.pure 24 (.pure 25 (.pure 26 (.pure 27 (.pure 28 (.eff 29 (.pure 30 (.nil)))))))))))))))))))))))))))))))) (fun y => y.cell? ⟨bx, 0, none⟩ = some (.int .i64 f) ∧ y.cell? ⟨bx, 1, none⟩ = some (.int .i64 t)) (fun y => Sts W (blkP bx (.cells #[.int .i64 f, .int .i64 t] 38 (0, 0)) :: (blkP c (.cells #[.bool true, .int .i64 self, .pointer (some ⟨q, 0, none⟩), .int .i64 chunk, .int .i64 to, .int .i64 re, .int .i64 0, .int .i64 1, .map (some m1), .map (some m2), .map (some m3), .slice none 0 0, .slice none 0 0, .bool false, .pointer none] 69 (0, 0)) :: blkP m3 (.map #[] 0) :: blkP m2 (.map #[] 0) :: blkP m1 (.map #[] 0) :: blkP q (.cells #[.int .i64 1, .int .i64 1, .map (some m)] 74 (0, 0)) :: blkP m (.map #[] 0) :: blkP B0 (.cells #[.int .i64 chunk, .int .i64 to, .int .i64 re] 23 (0, 0)) :: L)) y) (by kernel_rfl) (by kernel_rfl) (HE5.out.drew HLX.out) HD.out ?_
        iterate 29
          (first
            | (apply ord_pure (ho := rfl)
               · go_simp
               · intro x hx; obtain ⟨c0, c1⟩ := hx; go_simp; rfl
               apply ord_norm
               · go_simp; rfl)
            | (apply ord_skip (ho := rfl)
               · go_simp
               apply ord_norm
               · go_simp; rfl))
        apply ord_eskip (ho := rfl)
        · go_simp
        apply ord_norm
        · go_simp; rfl
        iterate 1
          (first
            | (apply ord_pure (ho := rfl)
               · go_simp
               · intro x hx; obtain ⟨c0, c1⟩ := hx; go_simp; rfl
               apply ord_norm
               · go_simp; rfl)
            | (apply ord_skip (ho := rfl)
               · go_simp
               apply ord_norm
               · go_simp; rfl))
        refine ord_nil fun z hz9 => ?_
        have HZ := hid hz9
        clear hz9
        go_wp2_with fail
        go_ret2
        exact Or.inl ⟨rfl, HN.out, HZ.out.below⟩
      · skip
        have HN : Hid (¬ RestOk self l next) := hid (by have h1 := h.2.2; exact bad_not hlt (by rw [← HE.out]; exact Or.inl (Or.inr (Or.inl h1))))
        have g0 : (f == self) = false := by simp; omega
        have g1 : decide (f < 0) = false := decide_eq_false (by omega)
        have g2 : decide (15 < f) = true := decide_eq_true (by omega)
        clear h
        refine wp_region_ord (.pure 0 (.pure 1 (.pure 2 (.pure 3 (.pure 4 (.pure 5 (.pure 6 (.pure 7 (.pure 8 (.pure 9 (.pure 10 (.pure 11 (.pure 12 (.pure 13 (.pure 14 (.pure 15 (.pure 16 (.pure 17 (.pure 18 (.pure 19 (.pure 20 (.pure 21 (.pure 22 (.pure 23 (.pure 24 (.pure 25 (.pure 26 (.pure 27 (.pure 28 (.eff 29 (.pure 30 (.nil)))))))))))))))))))))))))))))))) (fun y => y.cell? ⟨bx, 0, none⟩ = some (.int .i64 f) ∧ y.cell? ⟨bx, 1, none⟩ = some (.int .i64 t)) (fun y => Sts W (blkP bx (.cells #[.int .i64 f, .int .i64 t] 38 (0, 0)) :: (blkP c (.cells #[.bool true, .int .i64 self, .pointer (some ⟨q, 0, none⟩), .int .i64 chunk, .int .i64 to, .int .i64 re, .int .i64 0, .int .i64 1, .map (some m1), .map (some m2), .map (some m3), .slice none 0 0, .slice none 0 0, .bool false, .pointer none] 69 (0, 0)) :: blkP m3 (.map #[] 0) :: blkP m2 (.map #[] 0) :: blkP m1 (.map #[] 0) :: blkP q (.cells #[.int .i64 1, .int .i64 1, .map (some m)] 74 (0, 0)) :: blkP m (.map #[] 0) :: blkP B0 (.cells #[.int .i64 chunk, .int .i64 to, .int .i64 re] 23 (0, 0)) :: L)) y) (by kernel_rfl) (by kernel_rfl) (HE5.out.drew HLX.out) HD.out ?_
        iterate 29
          (first
            | (apply ord_pure (ho := rfl)
               · go_simp
               · intro x hx; obtain ⟨c0, c1⟩ := hx; go_simp; rfl
               apply ord_norm
               · go_simp; rfl)
            | (apply ord_skip (ho := rfl)
               · go_simp
               apply ord_norm
               · go_simp; rfl))
        apply ord_eskip (ho := rfl)
        · go_simp
        apply ord_norm
        · go_simp; rfl
        iterate 1
          (first
            | (apply ord_pure (ho := rfl)
               · go_simp
               · intro x hx; obtain ⟨c0, c1⟩ := hx; go_simp; rfl
               apply ord_norm
               · go_simp; rfl)
            | (apply ord_skip (ho := rfl)
               · go_simp
               apply ord_norm
               · go_simp; rfl))
        refine ord_nil fun z hz9 => ?_
        have HZ := hid hz9
        clear hz9
        go_wp2_with fail
        go_ret2
        exact Or.inl ⟨rfl, HN.out, HZ.out.below⟩
      · skip
        have HN : Hid (¬ RestOk self l next) := hid (by have h1 := h.2.2.2; exact bad_not hlt (by rw [← HE.out]; exact Or.inl (Or.inr (Or.inr (Or.inr (Or.inl h1))))))
        have g0 : (f == self) = false := by simp; omega
        have g1 : decide (f < 0) = false := decide_eq_false (by omega)
        have g2 : decide (15 < f) = false := decide_eq_false (by omega)
        have g3 : decide (t < 0) = true := decide_eq_true (by omega)
        clear h
        refine wp_region_ord (.pure 0 (.pure 1 (.pure 2 (.pure 3 (.pure 4 (.pure 5 (.pure 6 (.pure 7 (.pure 8 (.pure 9 (.pure 10 (.pure 11 (.pure 12 (.pure 13 (.pure 14 (.pure 15 (.pure 16 (.pure 17 (.pure 18 (.pure 19 (.pure 20 (.pure 21 (.pure 22 (.pure 23 (.pure 24 (.pure 25 (.pure 26 (.pure 27 (.pure 28 (.eff 29 (.pure 30 (.nil)))))))))))))))))))))))))))))))) (fun y => y.cell? ⟨bx, 0, none⟩ = some (.int .i64 f) ∧ y.cell? ⟨bx, 1, none⟩ = some (.int .i64 t)) (fun y => Sts W (blkP bx (.cells #[.int .i64 f, .int .i64 t] 38 (0, 0)) :: (blkP c (.cells #[.bool true, .int .i64 self, .pointer (some ⟨q, 0, none⟩), .int .i64 chunk, .int .i64 to, .int .i64 re, .int .i64 0, .int .i64 1, .map (some m1), .map (some m2), .map (some m3), .slice none 0 0, .slice none 0 0, .bool false, .pointer none] 69 (0, 0)) :: blkP m3 (.map #[] 0) :: blkP m2 (.map #[] 0) :: blkP m1 (.map #[] 0) :: blkP q (.cells #[.int .i64 1, .int .i64 1, .map (some m)] 74 (0, 0)) :: blkP m (.map #[] 0) :: blkP B0 (.cells #[.int .i64 chunk, .int .i64 to, .int .i64 re] 23 (0, 0)) :: L)) y) (by kernel_rfl) (by kernel_rfl) (HE5.out.drew HLX.out) HD.out ?_
        iterate 29
          (first
            | (apply ord_pure (ho := rfl)
               · go_simp
               · intro x hx; obtain ⟨c0, c1⟩ := hx; go_simp; rfl
               apply ord_norm
               · go_simp; rfl)
            | (apply ord_skip (ho := rfl)
               · go_simp
               apply ord_norm
               · go_simp; rfl))
        apply ord_eskip (ho := rfl)
        · go_simp
        apply ord_norm
        · go_simp; rfl
        iterate 1
          (first
            | (apply ord_pure (ho := rfl)
               · go_simp
               · intro x hx; obtain ⟨c0, c1⟩ := hx; go_simp; rfl
               apply ord_norm
               · go_simp; rfl)
            | (apply ord_skip (ho := rfl)
               · go_simp
               apply ord_norm
               · go_simp; rfl))
        refine ord_nil fun z hz9 => ?_
        have HZ := hid hz9
        clear hz9
        go_wp2_with fail
        go_ret2
        exact Or.inl ⟨rfl, HN.out, HZ.out.below⟩
      · skip
        have HN : Hid (¬ RestOk self l next) := hid (by have h1 := h.2.2.2.2; exact bad_not hlt (by rw [← HE.out]; exact Or.inl (Or.inr (Or.inr (Or.inr (Or.inr h1))))))
        have g0 : (f == self) = false := by simp; omega
        have g1 : decide (f < 0) = false := decide_eq_false (by omega)
        have g2 : decide (15 < f) = false := decide_eq_false (by omega)
        have g3 : decide (t < 0) = false := decide_eq_false (by omega)
        have g4 : decide (65535 < t) = true := decide_eq_true (by omega)
        clear h
        refine wp_region_ord (.pure 0 (.pure 1 (.pure 2 (.pure 3 (.pure 4 (.pure 5 (.pure 6 (.pure 7 (.pure 8 (.pure 9 (.pure 10 (.pure 11 (.pure 12 (.pure 13 (.pure 14 (.pure 15 (.pure 16 (.pure 17 (.pure 18 (.pure 19 (.pure 20 (.pure 21 (.pure 22 (.pure 23 (.pure 24 (.pure 25 (.pure 26 (.pure 27 (.pure 28 (.eff 29 (.pure 30 (.nil)))))))))))))))))))))))))))))))) (fun y => y.cell? ⟨bx, 0, none⟩ = some (.int .i64 f) ∧ y.cell? ⟨bx, 1, none⟩ = some (.int .i64 t)) (fun y => Sts W (blkP bx (.cells #[.int .i64 f, .int .i64 t] 38 (0, 0)) :: (blkP c (.cells #[.bool true, .int .i64 self, .pointer (some ⟨q, 0, none⟩), .int .i64 chunk, .int .i64 to, .int .i64 re, .int .i64 0, .int .i64 1, .map (some m1), .map (some m2), .map (some m3), .slice none 0 0, .slice none 0 0, .bool false, .pointer none] 69 (0, 0)) :: blkP m3 (.map #[] 0) :: blkP m2 (.map #[] 0) :: blkP m1 (.map #[] 0) :: blkP q (.cells #[.int .i64 1, .int .i64 1, .map (some m)] 74 (0, 0)) :: blkP m (.map #[] 0) :: blkP B0 (.cells #[.int .i64 chunk, .int .i64 to, .int .i64 re] 23 (0, 0)) :: L)) y) (by kernel_rfl) (by kernel_rfl) (HE5.out.drew HLX.out) HD.out ?_
        iterate 29
          (first
            | (apply ord_pure (ho := rfl)
               · go_simp
               · intro x hx; obtain ⟨c0, c1⟩ := hx; go_simp; rfl
               apply ord_norm
               · go_simp; rfl)
            | (apply ord_skip (ho := rfl)
               · go_simp
               apply ord_norm
               · go_simp; rfl))
        apply ord_eskip (ho := rfl)
        · go_simp
        apply ord_norm
        · go_simp; rfl
        iterate 1
          (first
            | (apply ord_pure (ho := rfl)
               · go_simp
               · intro x hx; obtain ⟨c0, c1⟩ := hx; go_simp; rfl
               apply ord_norm
               · go_simp; rfl)
            | (apply ord_skip (ho := rfl)
               · go_simp
               apply ord_norm
               · go_simp; rfl))
        refine ord_nil fun z hz9 => ?_
        have HZ := hid hz9
        clear hz9
        go_wp2_with fail
        go_ret2
        exact Or.inl ⟨rfl, HN.out, HZ.out.below⟩
      · skip
        have HG : Hid (¬ IdBad self (f, t)) := hid (by unfold IdBad; omega)
        have g0 : (f == self) = false := by simp; omega
        have g1 : decide (f < 0) = false := decide_eq_false (by omega)
        have g2 : decide (15 < f) = false := decide_eq_false (by omega)
        have g3 : decide (t < 0) = false := decide_eq_false (by omega)
        have g4 : decide (65535 < t) = false := decide_eq_false (by omega)
        have hsl := fun x => run_slice_toF x ⟨b, off, none⟩ l.length cap k hlt HCAP.out.1
        clear h
        refine wp_region_ord (.pure 0 (.pure 1 (.pure 2 (.pure 3 (.pure 4 (.pure 5 (.pure 6 (.pure 7 (.pure 8 (.pure 9 (.pure 10 (.pure 11 (.pure 12 (.pure 13 (.pure 14 (.pure 15 (.pure 16 (.pure 17 (.pure 18 (.pure 19 (.pure 20 (.pure 21 (.pure 22 (.pure 23 (.pure 24 (.pure 25 (.pure 26 (.pure 27 (.pure 28 (.eff 29 (.pure 30 (.nil)))))))))))))))))))))))))))))))) (fun y => y.cell? ⟨bx, 0, none⟩ = some (.int .i64 f) ∧ y.cell? ⟨bx, 1, none⟩ = some (.int .i64 t)) (fun y => Sts W (blkP bx (.cells #[.int .i64 f, .int .i64 t] 38 (0, 0)) :: (blkP c (.cells #[.bool true, .int .i64 self, .pointer (some ⟨q, 0, none⟩), .int .i64 chunk, .int .i64 to, .int .i64 re, .int .i64 0, .int .i64 1, .map (some m1), .map (some m2), .map (some m3), .slice none 0 0, .slice none 0 0, .bool false, .pointer none] 69 (0, 0)) :: blkP m3 (.map #[] 0) :: blkP m2 (.map #[] 0) :: blkP m1 (.map #[] 0) :: blkP q (.cells #[.int .i64 1, .int .i64 1, .map (some m)] 74 (0, 0)) :: blkP m (.map #[] 0) :: blkP B0 (.cells #[.int .i64 chunk, .int .i64 to, .int .i64 re] 23 (0, 0)) :: L)) y) (by kernel_rfl) (by kernel_rfl) (HE5.out.drew HLX.out) HD.out ?_
        iterate 29
          (first
            | (apply ord_pure (ho := rfl)
               · go_simp
               · intro x hx; obtain ⟨c0, c1⟩ := hx; go_simp; rfl
               apply ord_norm
               · go_simp; rfl)
            | (apply ord_skip (ho := rfl)
               · go_simp
               apply ord_norm
               · go_simp; rfl))
        apply ord_eff (ho := rfl)
        · go_simp
        intro y hy
        refine eff_call (f := 45) (by go_simp) (cContF y _ (l.take k) ((HRD.out.takeF k hk).below hy.below) (by rw [List.length_take]; omega) f t) ?_
        rintro e w6 ⟨hb6, bb, rfl, hiff⟩
        refine ⟨_, rfl, (fun y => y.cell? ⟨bx, 0, none⟩ = some (.int .i64 f) ∧ y.cell? ⟨bx, 1, none⟩ = some (.int .i64 t)), (fun y => Sts W (blkP bx (.cells #[.int .i64 f, .int .i64 t] 38 (0, 0)) :: (blkP c (.cells #[.bool true, .int .i64 self, .pointer (some ⟨q, 0, none⟩), .int .i64 chunk, .int .i64 to, .int .i64 re, .int .i64 0, .int .i64 1, .map (some m1), .map (some m2), .map (some m3), .slice none 0 0, .slice none 0 0, .bool false, .pointer none] 69 (0, 0)) :: blkP m3 (.map #[] 0) :: blkP m2 (.map #[] 0) :: blkP m1 (.map #[] 0) :: blkP q (.cells #[.int .i64 1, .int .i64 1, .map (some m)] 74 (0, 0)) :: blkP m (.map #[] 0) :: blkP B0 (.cells #[.int .i64 chunk, .int .i64 to, .int .i64 re] 23 (0, 0)) :: L)) y), hy.quiet HLX.out hb6, HD.out, (fun _ h => h), ?_⟩
        have HIF := hid hiff
        clear hb6 hy hiff y
        apply ord_norm
        · go_simp; rfl
        cases bb
        · iterate 1
            (first
              | (apply ord_pure (ho := rfl)
                 · go_simp
                 · intro x hx; obtain ⟨c0, c1⟩ := hx; go_simp; rfl
                 apply ord_norm
                 · go_simp; rfl)
              | (apply ord_skip (ho := rfl)
                 · go_simp
                 apply ord_norm
                 · go_simp; rfl))
          refine ord_nil fun z hz9 => ?_
          have HZ := hid hz9.tail
          clear hz9
          go_wp2_with fail
          go_roundw
          case rel =>
            refine ⟨k + 1, by omega, by go_num, fun j hj => ?_, HZ.out⟩
            by_cases hjk : j = k
            · subst hjk
              intro _
              rw [← HE.out]
              exact ⟨HG.out, fun hm => by have := HIF.out.2 hm; cases this⟩
            · exact HP.out j (by omega)
          case measure => simp [intOf]; omega
        · iterate 1
            (first
              | (apply ord_pure (ho := rfl)
                 · go_simp
                 · intro x hx; obtain ⟨c0, c1⟩ := hx; go_simp; rfl
                 apply ord_norm
                 · go_simp; rfl)
              | (apply ord_skip (ho := rfl)
                 · go_simp
                 apply ord_norm
                 · go_simp; rfl))
          refine ord_nil fun z hz9 => ?_
          have HZ := hid hz9
          clear hz9
          go_wp2_with fail
          go_ret2
          exact Or.inl ⟨rfl, bad_not hlt (by rw [← HE.out]; exact Or.inr (HIF.out.1 trivial)), HZ.out.below⟩
    · obtain rfl : k = l.length := by omega
      clear HX HCAP
      have HRDZ := hid (HRD.out.below HS.out.below)
      have HOKK : Hid (RestOk self l next) := hid ⟨HOK.out.1, HOK.out.2.1, HOK.out.2.2, fun j => by
        by_cases hj : j < l.length
        · exact HP.out j hj
        · intro h; exact absurd h hj⟩
      have HL1 := hid (show ∀ B ∈ (blkP m3 (.map #[] 0) :: blkP m2 (.map #[] 0) :: blkP m1 (.map #[] 0) :: blkP q (.cells #[.int .i64 1, .int .i64 1, .map (some m)] 74 (0, 0)) :: blkP m (.map #[] 0) :: blkP B0 (.cells #[.int .i64 chunk, .int .i64 to, .int .i64 re] 23 (0, 0)) :: L), Stable B from fun B hB => HLL.out B (List.mem_cons_of_mem _ hB))
      go_wp2_with fail
      refine (cCloneFS wr _ l HRDZ.out hn).mono ?_
      rintro e w6 ⟨va, vn, vc, rfl, hrow⟩
      have HQ := hid (show Sts W (_ :: _ :: _) _ from (Sts.catF HLL.out HS.out hrow).swap)
      clear hrow
      go_wp2_with (first
        | (refine wpList_cellS HQ.out (stabC (rowP_stable _ _ _ _ _) HL1.out) rfl (.tmp 82) (.tmp 79) 24 rfl 11 (.slice va vn vc) rfl rfl szFs (show 11 < 15 by decide) rfl ?_; intro w7 h7; have HQ2 := hid h7; clear h7)
        | (refine wpList_cellS HQ2.out (stabC (rowP_stable _ _ _ _ _) HL1.out) rfl (.tmp 84) (.tmp 80) 3 rfl 7 (.int .i64 next) rfl rfl szInt (show 7 < 15 by decide) rfl ?_; intro w8 h8; have HQ3 := hid h8; clear h8))
      go_ret2
      exact Or.inr ⟨c, m1, m2, m3, _, rfl, HOKK.out, RdR.of_own (Sts.rowOwnK HQ3.out.swap) rfl, ⟨_, _, _, rfl⟩, (HQ3.out.swap.tail.perm (show (_ :: _ :: _ :: _ :: _ :: _ :: _ :: L).Perm (_ :: _ :: _ :: _ :: _ :: _ :: _ :: L) from List.perm_middle (l₁ := [_, _, _, _, _, _]))).tail⟩
end
end Go.Proofs.YtgidckkcibplgaaGreat
