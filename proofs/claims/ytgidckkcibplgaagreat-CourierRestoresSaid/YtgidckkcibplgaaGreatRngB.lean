/- Rows of ranges; the copy of a slice of ranges; the first empty range of a slice. DeleteFunc over a row of ranges: what is not empty stays. -/
import Derived.Test.YtgidckkcibplgaaGreatSrcNew
import Derived.Lib.SliceRun
set_option linter.unusedVariables false
set_option linter.unusedSimpArgs false
namespace Go.Proofs.YtgidckkcibplgaaGreat
open Go.RowKit Go.Proofs.Num
theorem infoR : (Tryz.prog.info? 158).map (fun i => (i.zero, i.size, i.bytes)) = some (some (.agg #[.int .i64 0, .int .i64 0]), 2, 16) := by kernel_rfl
theorem rcells_len (l : List Rng.R) : (Fil.rcells l).length = l.length * 2 := by
  induction l with
  | nil => rfl
  | cons r l ih => unfold Fil.rcells at *; simp only [List.flatMap_cons, List.length_append, ih, List.length_cons, List.length_nil]; omega
theorem rcells_app (a b : List Rng.R) : Fil.rcells (a ++ b) = Fil.rcells a ++ Fil.rcells b := by simp [Fil.rcells]
theorem rcells_one (l : List Rng.R) : ∀ u ∈ Fil.rcells l, u.oneCell' = true := by
  intro u hu; simp [Fil.rcells] at hu; obtain ⟨a, b, _, h | h⟩ := hu <;> subst h <;> rfl
theorem rcells_get (l : List Rng.R) (j : Nat) (h : j < l.length) : (Fil.rcells l)[j * 2]? = some (.int .i64 l[j].1) ∧ (Fil.rcells l)[j * 2 + 1]? = some (.int .i64 l[j].2) := by
  induction l generalizing j with
  | nil => simp at h
  | cons r l ih =>
    have e : Fil.rcells (r :: l) = .int .i64 r.1 :: .int .i64 r.2 :: Fil.rcells l := by simp [Fil.rcells]
    rw [e]
    cases j with
    | zero => exact ⟨rfl, rfl⟩
    | succ j =>
      rw [show (j + 1) * 2 = j * 2 + 1 + 1 by omega]
      simp only [List.getElem?_cons_succ, List.getElem_cons_succ]
      exact ih j (by simpa using h)
/-- A new row of ranges. -/
structure NewR (w w' : World) (v : Value) (l : List Rng.R) : Prop where
  own : w'.ownsRow w.heap.size 158 2 v l.length (Fil.rcells l)
  below : Below w.heap.size w w'
theorem RdR.of_own {w : World} {b : Nat} {e : TypeId} {v : Value} {n : Nat} {l : List Rng.R} (h : w.ownsRow b e 2 v n (Fil.rcells l)) (hn : l.length = n) : RdR w v l := by
  rcases h.2 with ⟨h2, h3⟩ | ⟨g, cap, cur, hv', hg, _, hc1, hc2, r⟩
  · subst h2; subst h3
    have := List.eq_nil_of_length_eq_zero hn; subst this; exact RdR.nil _
  · subst hv'
    have hlt := (h.lt g rfl).2
    refine ⟨_, cap, by rw [hn], ⟨by omega, hc2⟩, fun j hj => ⟨g, 0, rfl, hlt, ?_, ?_⟩⟩
    · rw [Nat.zero_add, h.cellAt (j * 2) (by omega)]; exact (rcells_get l j hj).1
    · rw [Nat.zero_add, h.cellAt (j * 2 + 1) (by omega)]; exact (rcells_get l j hj).2
theorem NewR.rd {w w' : World} {v : Value} {l : List Rng.R} (h : NewR w w' v l) : RdR w' v l := RdR.of_own h.own rfl
theorem NewR.of {W w w' : World} {v : Value} {l : List Rng.R} (h : Below W.heap.size W w) (k : NewR w w' v l) : NewR W w' v l := ⟨own_base k.own h.size, h.trans (k.below.mono h.size)⟩
theorem NewR.later {w w1 w2 : World} {v : Value} {l : List Rng.R} (h : NewR w w1 v l) (k : Below w1.heap.size w1 w2) : NewR w w2 v l :=
  ⟨(Keep.of_below (S := fun _ => False) k).ownsRow h.own (fun _ _ h => h), h.below.trans (k.mono h.below.size)⟩
theorem newR_nil {w w' : World} (h : Below w.heap.size w w') : NewR w w' (.slice none 0 0) [] := ⟨⟨rfl, Or.inl ⟨rfl, rfl⟩⟩, h⟩
theorem Sts.newR {W w w' : World} {l : List HProp} {v : Value} {ys : List Rng.R} (hl : ∀ A ∈ l, Stable A) (h : Sts W l w) (k : NewR w w' v ys) : Sts W (rowP 158 2 v ys.length (Fil.rcells ys) :: l) w' := by
  obtain ⟨F, b, c, d⟩ := h
  have hs := stars_stable hl
  have hv : ∀ k, v.ownBlock = some k → w.heap.size ≤ k := fun k' hk => (k.own.lt k' hk).1
  refine ⟨fun k => v.ownBlock = some k ∨ F k, ⟨fun k => v.ownBlock = some k, F, ⟨own_base k.own (Nat.zero_le _), fun k => Iff.rfl⟩, hs.keep b (Keep.of_below (S := fun _ => False) k.below) (fun _ _ h => h), ?_, fun k => Iff.rfl⟩, c.trans (k.below.mono c.size), ?_⟩
  · intro k' h1 h2; have := hs.dom b k' h2; have := hv k' h1; omega
  · rintro k' (h | h)
    · have := c.size; have := hv k' h; omega
    · exact d k' h
theorem Sts.isNewR {W w : World} {l : List HProp} {v : Value} {n : Nat} {ys : List Rng.R} (h : Sts W (rowP 158 2 v n (Fil.rcells ys) :: l) w) (hn : ys.length = n) : NewR W w v ys := by
  subst hn
  obtain ⟨F, ⟨F1, F2, ⟨⟨h1, h2⟩, hf⟩, _, _, hu⟩, hb, hlow⟩ := h
  refine ⟨⟨h1, ?_⟩, hb⟩
  rcases h2 with h2 | ⟨g, cap, cur, hv, hg, r⟩
  · exact Or.inl h2
  · refine Or.inr ⟨g, cap, cur, hv, ?_, r⟩
    have : v.ownBlock = some g := by rw [hv]; rfl
    exact hlow g ((hu g).2 (Or.inl ((hf g).2 this)))
/-- The row at the head has grown. -/
theorem Sts.grownK {W w w1 : World} {l : List HProp} {e : TypeId} {s : Nat} {v v' : Value} {n n' : Nat} {xs xs' : List Value} (hl : ∀ A ∈ l, Stable A) (h : Sts W (rowP e s v n xs :: l) w)
    (hg : w.grownBy w1 v.ownBlock) (ho : w1.ownsRow 0 e s v' n' xs') (hv : ∀ k, v'.ownBlock = some k → v.ownBlock = some k ∨ w.heap.size ≤ k) : Sts W (rowP e s v' n' xs' :: l) w1 := by
  obtain ⟨F, ⟨F1, F2, ⟨a, hF1⟩, r, hd, hF⟩, hb, hn⟩ := h
  have hs := stars_stable hl
  have hk : Keep F1 w w1 := Keep.of_grown hg (fun k hk _ => (hF1 k).2 hk)
  refine ⟨fun k => v'.ownBlock = some k ∨ F2 k, ⟨fun k => v'.ownBlock = some k, F2, ⟨ho, fun k => Iff.rfl⟩, hs.keep r hk (fun k h2 h1 => hd k h1 h2), ?_, fun k => Iff.rfl⟩, ?_, ?_⟩
  · intro k h1 h2
    rcases hv k h1 with h | h
    · exact hd k ((hF1 k).2 h) h2
    · have := hs.dom r k h2; omega
  · exact hb.grown hg hb.size (fun k hk => hn k ((hF k).2 (Or.inl ((hF1 k).2 hk))))
  · rintro k (h | h)
    · rcases hv k h with h' | h'
      · exact hn k ((hF k).2 (Or.inl ((hF1 k).2 h')))
      · have := hb.size; omega
    · exact hn k ((hF k).2 (Or.inr h))
theorem Sts.rowOwnK {W w : World} {l : List HProp} {e : TypeId} {s : Nat} {v : Value} {n : Nat} {xs : List Value} (h : Sts W (rowP e s v n xs :: l) w) : w.ownsRow 0 e s v n xs := by
  obtain ⟨F, a, _⟩ := h.head; exact a
theorem Sts.rowNilK {W w : World} {l : List HProp} (e : TypeId) (s : Nat) (h : Sts W l w) : Sts W (rowP e s (.slice none 0 0) 0 [] :: l) w := by
  obtain ⟨F, a, b, c⟩ := h
  exact ⟨F, ⟨fun _ => False, F, ⟨⟨by simp, Or.inl ⟨rfl, rfl⟩⟩, fun k => by simp [Value.ownBlock]⟩, a, fun _ h => h.elim, fun k => by simp⟩, b, c⟩
/-- A block just made is a row. -/
theorem blkP.rowR {b : Nat} {cs : Array Value} {e : TypeId} {w : World} {F : Nat → Prop} {n cap : Nat} (h : blkP b (.cells cs e (0, 0)) w F) (hn : n ≤ cap) (hc : cs.size = cap * 2) (hm : cap ≤ maxLen) : rowP e 2 (.slice (some ⟨b, 0, none⟩) n cap) n (cs.toList.take (n * 2)) w F :=
  ⟨⟨by simp [hc]; omega, Or.inr ⟨b, cap, cs, rfl, Nat.zero_le _, h.1, hn, hm, hc, rfl⟩⟩, fun k => by rw [h.2 k]; simp [Value.ownBlock]; exact eq_comm⟩
theorem RdR.eq {w : World} {v : Value} {l : List Rng.R} (h : RdR w v l) : ∃ a cap, v = .slice a l.length cap := by
  obtain ⟨a, cap, h, _⟩ := h; exact ⟨a, cap, h⟩
set_option maxRecDepth 100000 in
theorem cCloneR (w : World) (v : Value) (l : List Rng.R) (h : RdR w v l) (hn : l.length < 1000000) :
    Calls Tryz.prog 131 #[v] w fun e w' => ∃ r, e = .returned r ∧ NewR w w' r l := by
  obtain ⟨a, cap, rfl, ⟨hcap1, hcap2⟩, hx⟩ := h
  unfold maxLen at hcap2
  obtain ⟨i0, hi0, hz0, hz1, hz2⟩ := info_parts infoR
  cases a with
  | none =>
    have hl : l = [] := by
      rcases l with _ | ⟨x, l⟩
      · rfl
      · obtain ⟨b, off, e, _⟩ := hx 0 (by simp); cases e
    subst hl
    have HX := hid hx
    clear hx
    have hq := Lib.run_eql_slice_nil (P := Tryz.prog) w 61 158 none 0 cap 0 0 Tryz.underlying61
    go_enter Tryz.func131, Tryz.ntmps131
    go_wp2_with fail
    go_ret
    exact ⟨_, rfl, newR_nil (Below.refl _ _)⟩
  | some ad =>
    have hq := Lib.run_eql_slice_nil (P := Tryz.prog) w 61 158 (some ad) l.length cap 0 0 Tryz.underlying61
    have HCN : Hid (∀ j u, (Fil.rcells l)[j]? = some u → (w.alloc (.cells #[] 158)).cell? (ad.add j) = some u) := by
      refine hid (fun j u hj => ?_)
      have hbel := (Below.refl w.heap.size w).alloc (Nat.le_refl _) (.cells #[] 158)
      have hlt : j < l.length * 2 := by
        rcases Nat.lt_or_ge j (Fil.rcells l).length with h | h
        · rw [rcells_len] at h; exact h
        · rw [List.getElem?_eq_none h] at hj; cases hj
      obtain ⟨ba, oa, ea, hba, hca, hcb⟩ := hx (j / 2) (by omega)
      injection ea with ea
      subst ea
      have hg := rcells_get l (j / 2) (by omega)
      rw [plain_add, hbel.cell hba]
      rcases (by omega : j / 2 * 2 = j ∨ j / 2 * 2 + 1 = j) with e | e
      · rw [e] at hca hg; rw [hca, ← hg.1, hj]
      · rw [Nat.add_assoc, e] at hcb; rw [e] at hg; rw [hcb, ← hg.2, hj]
    have hso : Sts w [rowP 158 2 (.slice (some ⟨w.heap.size, 0, none⟩) 0 0) 0 []] (w.alloc (.cells #[] 158)) :=
      ((Sts.nil w).alloc stab0 (.cells #[] 158)).weaken (fun F h => blkP.rowR (n := 0) (cap := 0) h (by omega) rfl (by unfold maxLen; omega))
    have HSO0 := hid hso
    have HNU : Hid ((Fil.rcells l).length = l.length * 2) := hid (rcells_len l)
    have HCAP : Hid (l.length ≤ cap) := hid hcap1
    clear hso hx
    generalize hm : l.length = m at *
    have HM := hid hm
    clear hm
    go_enter Tryz.func131, Tryz.ntmps131
    go_wp2_with (at_builtin; refine wpList_append_own_at _ rfl (.tmp 5) (.tmp 6) 61 rfl 0 158 i0 (.agg #[.int .i64 0, .int .i64 0]) 2 16 Tryz.underlying61 hi0 hz0 hz1 hz2 rfl (by decide) (.slice (some ⟨w.heap.size, 0, none⟩) 0 0) 0 [] rfl (Sts.rowOwnK HSO0.out) ad m cap (Fil.rcells l) rfl HNU.out HCN.out (rcells_one l) (by unfold maxLen; omega) (by omega) (Nat.zero_le _) ?_; intro v1 w5 hown hgr _ hblk)
    have hso := Sts.grownK stab0 HSO0.out hgr hown (by
      intro q' hq
      rcases hblk with h | h
      · exact Or.inl (h ▸ hq)
      · rw [h] at hq; injection hq with hq; exact Or.inr (by omega))
    rw [Nat.zero_add, List.nil_append] at hso
    have HSO := hid hso
    clear hso hown hgr hblk HCN HSO0
    go_ret
    exact ⟨_, rfl, Sts.isNewR HSO.out HM.out⟩
theorem cEmptyR (w : World) (f t : Int) : Calls Tryz.prog 223 #[.agg #[.int .i64 f, .int .i64 t]] w fun e w' => e = .returned (.bool (decide (t ≤ f))) ∧ Below w.heap.size w w' := by
  have HB := hid ((Below.refl w.heap.size w).alloc (Nat.le_refl _))
  go_enter Tryz.func223, Tryz.ntmps223
  go_wp2_with fail
  go_ret
  exact ⟨rfl, HB.out _⟩
set_option maxRecDepth 100000 in
theorem cIndexR (w : World) (v : Value) (l : List Rng.R) (h : RdR w v l) (hn : l.length < 1000000) : Calls Tryz.prog 231 #[v, .func (.func 223) #[] #[]] w fun e w' => Below w.heap.size w w' ∧ ((e = .returned (.int .i64 (-1)) ∧ ∀ r ∈ l, r.1 < r.2) ∨ ∃ k, k < l.length ∧ e = .returned (.int .i64 (k : Nat)) ∧ (∀ r ∈ l.take k, r.1 < r.2) ∧ ∀ r, l[k]? = some r → r.2 ≤ r.1) := by
  obtain ⟨a, cap, rfl, hcap, hx⟩ := h
  have HX := hid hx
  clear hx hcap
  go_enter Tryz.func231, Tryz.ntmps231
  go_wp2_with fail
  go_loopw [8] (fun i wr => ∃ k : Nat, k ≤ l.length ∧ i = .int .i64 k ∧ (∀ r ∈ l.take k, r.1 < r.2) ∧ Below w.heap.size w wr) (fun i _ => l.length - (intOf i).toNat)
  case atStart => exact ⟨0, by omega, rfl, by simp, Below.refl _ _⟩
  case round =>
    obtain ⟨k, hk, rfl, hpre, hbel⟩ := hrel
    have HB := hid hbel
    have HP := hid hpre
    clear hbel hpre
    by_cases hlt : k < l.length
    · obtain ⟨b, off, rfl, hb, c0, c1⟩ := HX.out k hlt
      rw [← HB.out.cell hb] at c0 c1
      have HE : Hid (l[k]? = some l[k]) := hid (List.getElem?_eq_getElem hlt)
      have HT : Hid (l.take (k + 1) = l.take k ++ [l[k]]) := hid (by rw [List.take_add_one, List.getElem?_eq_getElem hlt]; rfl)
      obtain ⟨x, hx⟩ : ∃ x, x = l[k] := ⟨_, rfl⟩
      rw [← hx] at c0 c1 HE HT
      clear hx
      obtain ⟨f, t⟩ := x
      simp only [] at c0 c1
      cases hd : decide (t ≤ f) with
      | true =>
        go_wp2_with (first | (go_at_call 223; refine (cEmptyR _ f t).mono ?_; rintro e w2 ⟨rfl, hw2⟩; have HB2 := hid (HB.out.trans (hw2.mono HB.out.size)); clear hw2; rw [hd]))
        go_ret
        refine ⟨HB2.out, Or.inr ⟨k, hlt, rfl, HP.out, fun r hr => ?_⟩⟩
        rw [HE.out] at hr
        injection hr with hr
        subst hr
        simpa using hd
      | false =>
        go_wp2_with (first | (go_at_call 223; refine (cEmptyR _ f t).mono ?_; rintro e w2 ⟨rfl, hw2⟩; have HB2 := hid (HB.out.trans (hw2.mono HB.out.size)); clear hw2; rw [hd]))
        go_roundw
        case rel =>
          refine ⟨k + 1, by omega, by go_num, ?_, HB2.out⟩
          intro r hr
          rw [HT.out, List.mem_append] at hr
          rcases hr with hr | hr
          · exact HP.out r hr
          · simp at hr; subst hr; simpa using hd
        case measure => simp [intOf]; omega
    · obtain rfl : k = l.length := by omega
      go_wp2_with fail
      go_ret
      refine ⟨HB.out, Or.inl ⟨rfl, ?_⟩⟩
      have := HP.out
      rwa [List.take_length] at this
end Go.Proofs.YtgidckkcibplgaaGreat
namespace Fil
/-- What is not empty. -/
def full (l : List Rng.R) : List Rng.R := l.filter fun r => decide (r.1 < r.2)
end Fil
namespace Go.Proofs.YtgidckkcibplgaaGreat
open Go.RowKit Go.Proofs.Num
section
variable {W w : World} {e : TypeId} {g cap n s : Nat} {xs : List Value} {l : List HProp}
theorem Sts.rowCellK (h : Sts W (rowP e s (.slice (some ⟨g, 0, none⟩) n cap) n xs :: l) w) (i : Nat) (hi : i < n * s) (v : Value) (hv : xs[i]? = some v) : w.cell? ⟨g, i, none⟩ = some v := by
  obtain ⟨F, h, _⟩ := h.head
  rw [h.cellAt i hi, hv]
theorem Sts.rowFreeK (h : Sts W (rowP e s (.slice (some ⟨g, 0, none⟩) n cap) n xs :: l) w) (i : Nat) : w.frozen? ⟨g, i, none⟩ = false := by
  obtain ⟨F, h, _⟩ := h.head; exact h.frozenAt i
theorem Sts.rowStoreK (hl : ∀ A ∈ l, Stable A) (h : Sts W (rowP e s (.slice (some ⟨g, 0, none⟩) n cap) n xs :: l) w) (i : Nat) (v : Value) :
    Sts W (rowP e s (.slice (some ⟨g, 0, none⟩) n cap) n (xs.set i v) :: l) (w.setCell ⟨g, i, none⟩ v) := by
  obtain ⟨F, ⟨F1, F2, ⟨a, hF1⟩, r, hd, hF⟩, hb, hn⟩ := h
  have hg : ∀ k, F1 k ↔ k = g := fun k => by rw [hF1 k]; simp [Value.ownBlock]; exact eq_comm
  have hk : Keep (fun k => k = g) w (w.setCell ⟨g, i, none⟩ v) := (Keep.refl (fun k => k = g) w).setCell (p := ⟨g, i, none⟩) (fun _ => rfl) v
  refine ⟨F, ⟨F1, F2, ⟨?_, hF1⟩, (stars_stable hl).keep r hk (fun k h2 h1 => hd k ((hg k).2 h1) h2), hd, hF⟩, ?_, hn⟩
  · have := (a.stored i v).1; simpa using this
  · exact hb.setCell (hn g ((hF g).2 (Or.inl ((hg g).2 rfl)))) v
theorem Sts.rowStores (hl : ∀ A ∈ l, Stable A) : ∀ (zs : List Value) (i : Nat) (xs : List Value) (w : World), Sts W (rowP e s (.slice (some ⟨g, 0, none⟩) n cap) n xs :: l) w →
    ∃ ys, ys.take i = xs.take i ∧ Sts W (rowP e s (.slice (some ⟨g, 0, none⟩) n cap) n ys :: l) (w.setCells g i zs)
  | [], i, xs, w, h => ⟨xs, rfl, h⟩
  | z :: zs, i, xs, w, h => by
    obtain ⟨ys, h1, h2⟩ := Sts.rowStores hl zs (i + 1) _ _ (Sts.rowStoreK hl h i z)
    refine ⟨ys, ?_, h2⟩
    have := congrArg (List.take i) h1
    rw [List.take_take, List.take_take, Nat.min_eq_left (by omega)] at this
    rw [this, List.take_set_of_le (by omega)]
/-- The front of a row. -/
theorem Sts.rowFront (h : Sts W (rowP e s (.slice (some ⟨g, 0, none⟩) n cap) n xs :: l) w) (m : Nat) (hm : m ≤ n) : Sts W (rowP e s (.slice (some ⟨g, 0, none⟩) m cap) m (xs.take (m * s)) :: l) w := by
  refine h.weaken fun F h => ?_
  obtain ⟨⟨h1, h2⟩, hf⟩ := h
  rcases h2 with ⟨h2, _⟩ | ⟨g', cap', cur, hv, hb, hh, hn, hc, hs, ht⟩
  · simp at h2
  · simp only [Value.slice.injEq, Option.some.injEq, Addr.mk.injEq, and_true, true_and] at hv
    obtain ⟨rfl, rfl⟩ := hv
    refine ⟨⟨by rw [List.length_take, h1]; exact Nat.min_eq_left (Nat.mul_le_mul_right s hm), Or.inr ⟨g, cap, cur, rfl, Nat.zero_le _, hh, by omega, hc, hs, ?_⟩⟩, fun k => by rw [hf k]; rfl⟩
    rw [← ht, List.take_take, Nat.min_eq_left (Nat.mul_le_mul_right s hm)]
end
theorem rcells_set (c : List Rng.R) (m : Nat) (r : Rng.R) (h : m < c.length) : ((Fil.rcells c).set (m * 2) (.int .i64 r.1)).set (m * 2 + 1) (.int .i64 r.2) = Fil.rcells (c.set m r) := by
  induction c generalizing m with
  | nil => simp at h
  | cons x c ih =>
    have e : ∀ (x : Rng.R) c, Fil.rcells (x :: c) = .int .i64 x.1 :: .int .i64 x.2 :: Fil.rcells c := fun x c => by simp [Fil.rcells]
    cases m with
    | zero =>
      rw [e]
      show _ = Fil.rcells (r :: c)
      rw [e]; rfl
    | succ m =>
      rw [e, List.set_cons_succ, e, show (m + 1) * 2 = m * 2 + 1 + 1 by omega]
      simp only [List.set_cons_succ]
      rw [ih m (by simpa using h)]
theorem rcells_take (c : List Rng.R) (m : Nat) : (Fil.rcells c).take (m * 2) = Fil.rcells (c.take m) := by
  induction c generalizing m with
  | nil => simp [Fil.rcells]
  | cons x c ih =>
    have e : ∀ (x : Rng.R) c, Fil.rcells (x :: c) = .int .i64 x.1 :: .int .i64 x.2 :: Fil.rcells c := fun x c => by simp [Fil.rcells]
    cases m with
    | zero => simp [Fil.rcells]
    | succ m =>
      rw [e, List.take_succ_cons, e, show (m + 1) * 2 = m * 2 + 1 + 1 by omega]
      simp only [List.take_succ_cons]
      rw [ih m]
set_option maxRecDepth 100000 in
theorem sizeR : ∀ w, (Go.sizeOf 158).run Tryz.prog w = .ok 2 w := fun w => by first | rfl | simp [go_sem] | kernel_rfl
set_option maxRecDepth 100000 in
theorem zeroR : ∀ w, (zeroValue 158).run Tryz.prog w = .ok (.agg #[.int .i64 0, .int .i64 0]) w := fun w => by first | rfl | simp [go_sem] | kernel_rfl
theorem sliceLow (w : World) (g n cap m : Nat) (h : m < n) (hc : n ≤ cap) : (Instr.slice 61 (.slice (some ⟨g, 0, none⟩) n cap) (some (.int .i64 (m : Int))) none none).run Tryz.prog w = .ok (.slice (some ⟨g, m * 2, none⟩) (n - m) (cap - m)) w := by
  have ht' : Tryz.prog.underlying 61 = some (.slice (Tryz.prog.elem 61)) := by simp [Program.elem, Tryz.underlying61]
  have he : Tryz.prog.elem 61 = 158 := by simp [Program.elem, Tryz.underlying61]
  rw [run_slice_l w 61 _ _ _ ht' .i64 _ (by omega) (by omega), he, sizeR]
  have h0 : ¬ cap = m := by omega
  by_cases h1 : m = 0
  · subst h1; simp [Result.andThen, sliced, Addr.add, h0]
  · have h2 : ¬ m * 2 = 0 := by omega
    simp [Result.andThen, sliced, Addr.add, h0, h2]
theorem sliceHigh (w : World) (g n cap m : Nat) (h : m ≤ cap) : (Instr.slice 61 (.slice (some ⟨g, 0, none⟩) n cap) none (some (.int .i64 (m : Int))) none).run Tryz.prog w = .ok (.slice (some ⟨g, 0, none⟩) m cap) w := by
  have ht' : Tryz.prog.underlying 61 = some (.slice (Tryz.prog.elem 61)) := by simp [Program.elem, Tryz.underlying61]
  have he : Tryz.prog.elem 61 = 158 := by simp [Program.elem, Tryz.underlying61]
  rw [run_slice_h w 61 _ _ _ ht' .i64 _ (by omega) (by omega), he, sizeR]
  by_cases h0 : cap = 0
  · simp [Result.andThen, sliced, Addr.add, h0]
  · simp [Result.andThen, sliced, Addr.add, h0]
theorem clearR (w : World) (ty : TypeId) (b o n c : Nat) (hn : 0 < n) (hc : ∀ j, j < n * 2 → (w.cell? ⟨b, o + j, none⟩).isSome = true) (hf : ∀ j, j < n * 2 → w.frozen? ⟨b, o + j, none⟩ = false) :
    (Builtin.clear_ #[61] ty #[.slice (some ⟨b, o, none⟩) n c]).run Tryz.prog w = .ok (.tuple #[]) (w.setCells b o (Builtin.zeroCells #[.int .i64 0, .int .i64 0] n).toList) := by
  have hlen : (Builtin.zeroCells #[.int .i64 0, .int .i64 0] n).toList.length = n * 2 := by simp [Builtin.zeroCells]
  have h1 : ∀ v ∈ (Builtin.zeroCells #[.int .i64 0, .int .i64 0] n).toList, v.oneCell' = true := by
    intro v hv
    simp [Builtin.zeroCells] at hv
    obtain ⟨i, _, rfl⟩ := hv
    have : i % 2 = 0 ∨ i % 2 = 1 := by omega
    rcases this with h | h <;> rw [h] <;> rfl
  have hst := run_storeCells_cells (P := Tryz.prog) b o _ 0 w (by rw [hlen]; simpa using hc) (by rw [hlen]; simpa using hf) h1
  simp only [Nat.add_zero] at hst
  obtain ⟨m, rfl⟩ : ∃ m, n = m + 1 := ⟨n - 1, by omega⟩
  simp [Builtin.clear_, run_underlying Tryz.underlying61, zeroR, hst, Value.cells]
theorem first_bad : ∀ (l : List Rng.R), ¬ (∀ r ∈ l, r.1 < r.2) → ∃ k, k < l.length ∧ (∀ r ∈ l.take k, r.1 < r.2) ∧ ∀ r, l[k]? = some r → r.2 ≤ r.1
  | [], h => absurd (by simp) h
  | x :: l, h => by
    by_cases hx : x.1 < x.2
    · obtain ⟨k, h1, h2, h3⟩ := first_bad l (fun hl => h (by intro r hr; rcases List.mem_cons.1 hr with rfl | hr; exact hx; exact hl r hr))
      exact ⟨k + 1, by simpa using h1, by intro r hr; rw [List.take_succ_cons] at hr; rcases List.mem_cons.1 hr with rfl | hr; exact hx; exact h2 r hr, by simpa using h3⟩
    · exact ⟨0, by simp, by simp, by intro r hr; simp at hr; subst hr; omega⟩
theorem bad_uniq {l : List Rng.R} {k j : Nat} (hj : j < l.length) (h1 : ∀ r ∈ l.take k, r.1 < r.2) (h2 : ∀ r, l[j]? = some r → r.2 ≤ r.1) : k ≤ j := by
  rcases Nat.lt_or_ge j k with h | h
  · have h3 := h2 l[j] (List.getElem?_eq_getElem hj)
    have h4 := h1 l[j] (by rw [List.mem_take_iff_getElem]; exact ⟨j, by omega, rfl⟩)
    omega
  · exact h
theorem full_all {l : List Rng.R} (h : ∀ r ∈ l, r.1 < r.2) : Fil.full l = l := List.filter_eq_self.2 fun r hr => by simpa using h r hr
section
variable {W w : World} {L : List HProp} (hL : ∀ B ∈ L, Stable B)
include hL
set_option maxRecDepth 100000 in
set_option maxHeartbeats 1000000 in
theorem cDeleteR0 (v : Value) (l : List Rng.R) (hs : Sts W (rowP 158 2 v l.length (Fil.rcells l) :: L) w) (hn : l.length < 1000000) (hall : ∀ r ∈ l, r.1 < r.2) :
    Calls Tryz.prog 222 #[v, .func (.func 223) #[] #[]] w fun e w' => ∃ v', e = .returned v' ∧ Sts W (rowP 158 2 v' (Fil.full l).length (Fil.rcells (Fil.full l)) :: L) w' := by
  have hL2 : ∀ B ∈ rowP 158 2 v l.length (Fil.rcells l) :: L, Stable B := stabC (rowP_stable _ _ _ _ _) hL
  have HI := hid ((cIndexR w v l (RdR.of_own (Sts.rowOwnK hs) rfl) hn).mono (R' := fun e w' => e = .returned (.int .i64 (-1)) ∧ Below w.heap.size w w') (by
    rintro e w' ⟨hb, ⟨h, -⟩ | ⟨k, h1, -, h2, h3⟩⟩
    · exact ⟨h, hb⟩
    · have h4 := h3 l[k] (List.getElem?_eq_getElem h1)
      have h5 := hall l[k] (List.getElem_mem h1)
      omega))
  rw [full_all hall]
  have HS := hid hs
  have HL := hid hL
  have HL2 := hid hL2
  clear hs hL hL2 hall
  go_enter Tryz.func222, Tryz.ntmps222
  go_wp2_with (first | (go_at_call 231; refine HI.out.mono ?_; rintro e w2 ⟨rfl, hb⟩; have HS2 := hid (HS.out.quiet HL2.out hb); clear hb))
  go_ret
  exact ⟨_, rfl, HS2.out⟩
set_option maxRecDepth 100000 in
set_option maxHeartbeats 1000000 in
theorem cDeleteR1 (g cap : Nat) (l : List Rng.R) (hs : Sts W (rowP 158 2 (.slice (some ⟨g, 0, none⟩) l.length cap) l.length (Fil.rcells l) :: L) w) (hn : l.length < 1000000) (hcap : l.length ≤ cap) (hall : ¬ ∀ r ∈ l, r.1 < r.2) :
    Calls Tryz.prog 222 #[.slice (some ⟨g, 0, none⟩) l.length cap, .func (.func 223) #[] #[]] w fun e w' => ∃ v', e = .returned v' ∧ Sts W (rowP 158 2 v' (Fil.full l).length (Fil.rcells (Fil.full l)) :: L) w' := by
  obtain ⟨k, k1, k2, k3⟩ := first_bad l hall
  have hL2 : ∀ B ∈ rowP 158 2 (.slice (some ⟨g, 0, none⟩) l.length cap) l.length (Fil.rcells l) :: L, Stable B := stabC (rowP_stable _ _ _ _ _) hL
  have HI := hid ((cIndexR w _ l (RdR.of_own (Sts.rowOwnK hs) rfl) hn).mono (R' := fun e w' => e = .returned (.int .i64 (k : Nat)) ∧ Below w.heap.size w w') (by
    rintro e w' ⟨hb, ⟨-, h⟩ | ⟨j, h1, h, h2, h3⟩⟩
    · exact absurd h hall
    · have e1 := bad_uniq h1 k2 h3
      have e2 := bad_uniq k1 h2 k3
      obtain rfl : j = k := by omega
      exact ⟨h, hb⟩))
  have hm1 : ((k : Int) == -1) = false := by rw [beq_eq_false_iff_ne]; omega
  have hst : l.take k = Fil.full (l.take (k + 1)) := by
    rw [List.take_add_one, List.getElem?_eq_getElem k1]
    unfold Fil.full
    rw [List.filter_append, List.filter_eq_self.2 (fun r hr => by simpa using k2 r hr)]
    have := k3 l[k] (List.getElem?_eq_getElem k1)
    simp; omega
  have HST := hid hst
  have HS := hid hs
  have HL := hid hL
  have HL2 := hid hL2
  clear hs hL hL2 hall k2 k3 hst
  generalize hN : l.length = N at *
  have HN := hid hN
  clear hN
  go_enter Tryz.func222, Tryz.ntmps222
  go_wp2_with (first | (go_at_call 231; refine HI.out.mono ?_; rintro e w2 ⟨rfl, hb⟩; have HS2 := hid (HS.out.quiet HL2.out hb); clear hb))
  clear HI HS HL2
  go_loopw [5, 6] (fun a b wr => ∃ (m j : Nat) (c : List Rng.R), a = .int .i64 m ∧ b = .int .i64 j ∧ m < j ∧ j ≤ N ∧ c.length = N ∧ c.take m = Fil.full (l.take j) ∧ c.drop j = l.drop j ∧ Sts W (rowP 158 2 (.slice (some ⟨g, 0, none⟩) N cap) N (Fil.rcells c) :: L) wr) (fun _ b _ => N - (intOf b).toNat)
  case atStart => exact ⟨k, k + 1, l, rfl, by go_num, by omega, by omega, HN.out, HST.out, rfl, HS2.out⟩
  case round =>
    obtain ⟨m, j, c, rfl, rfl, h1, h2, h3, h4, h5, h6⟩ := hrel
    have HS := hid h6
    have H3 := hid h3
    have H4 := hid h4
    have H5 := hid h5
    clear h3 h4 h5 h6 HS2 HST
    by_cases hlt : j < N
    · have hjc : j < c.length := by rw [H3.out]; exact hlt
      have hjl : j < l.length := by rw [HN.out]; exact hlt
      have hcj : c[j] = l[j] := by
        have h := H5.out
        rw [List.drop_eq_getElem_cons hjc, List.drop_eq_getElem_cons hjl] at h
        injection h
      have c0 := Sts.rowCellK HS.out (j * 2) (by omega) _ (rcells_get c j hjc).1
      have c1 := Sts.rowCellK HS.out (j * 2 + 1) (by omega) _ (rcells_get c j hjc).2
      rw [hcj] at c0 c1
      have HT : Hid (l.take (j + 1) = l.take j ++ [l[j]]) := hid (by rw [List.take_add_one, List.getElem?_eq_getElem hjl]; rfl)
      have HD : Hid (c.drop (j + 1) = l.drop (j + 1)) := hid (by have h := H5.out; rw [List.drop_eq_getElem_cons hjc, List.drop_eq_getElem_cons hjl] at h; injection h)
      clear hcj
      generalize l[j] = x at *
      obtain ⟨f, t⟩ := x
      simp only [] at c0 c1
      clear hjc hjl
      have hLr := stabC (rowP_stable 158 2 (.slice (some ⟨g, 0, none⟩) N cap) N (Fil.rcells c)) HL.out
      have hLB := hid (stabC (blkP_stable wr.heap.size (.cells #[.int .i64 f, .int .i64 t] 158 (0, 0))) hLr)
      have HB := hid (HS.out.alloc hLr (.cells #[.int .i64 f, .int .i64 t] 158))
      clear hLr
      cases hd : decide (t ≤ f) with
      | true =>
        have HE : Hid (Fil.full (l.take (j + 1)) = Fil.full (l.take j)) := hid (by
          rw [HT.out]; unfold Fil.full; rw [List.filter_append]
          have : ¬ f < t := by simpa using hd
          simp [this])
        go_wp2_with (first | (go_at_call 223; refine (cEmptyR _ f t).mono ?_; rintro e w2 ⟨rfl, hw2⟩; have HS3 := hid (HB.out.quiet hLB.out hw2).tail; clear hw2; rw [hd]))
        go_roundw
        case rel => exact ⟨m, j + 1, c, rfl, by go_num, by omega, by omega, H3.out, by rw [HE.out]; exact H4.out, HD.out, HS3.out⟩
        case measure => simp [intOf]; omega
      | false =>
        have hft : f < t := by simpa using hd
        have hmc : m < c.length := by rw [H3.out]; omega
        have HE : Hid ((c.set m (f, t)).take (m + 1) = Fil.full (l.take (j + 1))) := hid (by
          rw [HT.out]; unfold Fil.full; rw [List.filter_append]
          have h4 := H4.out
          unfold Fil.full at h4
          rw [← h4, List.take_add_one, List.getElem?_set_self hmc, List.take_set_of_le (by omega)]
          simp [hft])
        have HDD : Hid ((c.set m (f, t)).drop (j + 1) = l.drop (j + 1)) := hid (by rw [List.drop_set_of_lt (by omega)]; exact HD.out)
        obtain ⟨y, hy⟩ : ∃ y : Rng.R, (Fil.rcells c)[m * 2]? = some (.int .i64 y.1) ∧ (Fil.rcells c)[m * 2 + 1]? = some (.int .i64 y.2) := ⟨c[m], rcells_get c m hmc⟩
        have HG0 := hid hy
        clear hy
        have HSET := hid (rcells_set c m (f, t) hmc)
        have HLEN : Hid ((c.set m (f, t)).length = N) := hid (by rw [List.length_set]; exact H3.out)
        clear hft hmc
        go_wp2_with (first | (go_at_call 223; refine (cEmptyR _ f t).mono ?_; rintro e w2 ⟨rfl, hw2⟩; have HS2 := hid (HB.out.quiet hLB.out hw2); have HS3 := hid HS2.out.tail; have b0 := (Sts.boxCell HS2.out 0 _ rfl).1; have b1 := (Sts.boxCell HS2.out 1 _ rfl).1; have d0 := Sts.rowCellK HS3.out (m * 2) (by omega) _ HG0.out.1; have d1 := Sts.rowCellK HS3.out (m * 2 + 1) (by omega) _ HG0.out.2; have q0 := Sts.rowFreeK HS3.out (m * 2); have q1 := Sts.rowFreeK HS3.out (m * 2 + 1); have HS4 := hid (Sts.rowStoreK HL.out (Sts.rowStoreK HL.out HS3.out (m * 2) (.int .i64 f)) (m * 2 + 1) (.int .i64 t)); clear hw2 HS2; rw [hd]))
        go_roundw
        case rel =>
          refine ⟨m + 1, j + 1, c.set m (f, t), by go_num, by go_num, by omega, by omega, HLEN.out, HE.out, HDD.out, ?_⟩
          have h := HS4.out
          rw [HSET.out] at h
          exact h
        case measure => simp [intOf]; omega
    · obtain rfl : j = N := by omega
      have HF : Hid (c.take m = Fil.full l) := hid (by rw [H4.out, ← HN.out, List.take_length])
      have hcl : ∀ ty, (Builtin.clear_ #[61] ty #[.slice (some ⟨g, m * 2, none⟩) (j - m) (cap - m)]).run Tryz.prog wr = .ok (.tuple #[]) (wr.setCells g (m * 2) (Builtin.zeroCells #[.int .i64 0, .int .i64 0] (j - m)).toList) := fun ty =>
        clearR wr ty g (m * 2) (j - m) (cap - m) (by omega) (fun i hi => by rw [Sts.rowCellK HS.out (m * 2 + i) (by omega) _ (List.getElem?_eq_getElem (by rw [rcells_len, H3.out]; omega))]; rfl) (fun i hi => Sts.rowFreeK HS.out _)
      have hs1 := fun x => sliceLow x g j cap m h1 hcap
      have hs2 := fun x => sliceHigh x g j cap m (by omega)
      have HSZ := hid (Sts.rowStores HL.out (Builtin.zeroCells #[.int .i64 0, .int .i64 0] (j - m)).toList (m * 2) _ _ HS.out)
      generalize (Builtin.zeroCells #[.int .i64 0, .int .i64 0] (j - m)).toList = zs at *
      go_wp2_with fail
      go_ret
      obtain ⟨ys, hy1, hy2⟩ := HSZ.out
      have hy3 := Sts.rowFront hy2 m (by omega)
      rw [hy1, rcells_take, HF.out] at hy3
      have hml : (Fil.full l).length = m := by rw [← HF.out, List.length_take, H3.out]; omega
      rw [hml]
      exact ⟨_, rfl, hy3⟩
/-- What is empty goes. -/
theorem cDeleteR (v : Value) (l : List Rng.R) (hs : Sts W (rowP 158 2 v l.length (Fil.rcells l) :: L) w) (hn : l.length < 1000000) :
    Calls Tryz.prog 222 #[v, .func (.func 223) #[] #[]] w fun e w' => ∃ v', e = .returned v' ∧ Sts W (rowP 158 2 v' (Fil.full l).length (Fil.rcells (Fil.full l)) :: L) w' := by
  by_cases hall : ∀ r ∈ l, r.1 < r.2
  · exact cDeleteR0 hL v l hs hn hall
  · rcases (Sts.rowOwnK hs).2 with ⟨h2, h3⟩ | ⟨g, cap, cur, hv, hg, hh, hc1, _⟩
    · have := List.eq_nil_of_length_eq_zero h3
      subst this
      exact absurd (by simp) hall
    · subst hv
      exact cDeleteR1 hL g cap l hs hn hc1 hall
end
end Go.Proofs.YtgidckkcibplgaaGreat
