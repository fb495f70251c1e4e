/- Rows of ranges; the copy of a slice of ranges; the first empty range of a slice. -/
import Derived.Test.YtfjadhkhmhnccaaSrcNew
set_option linter.unusedVariables false
set_option linter.unusedSimpArgs false
namespace Go.Proofs.Ytfjadhkhmhnccaa
open Go.RowKit Go.Proofs.Num
theorem infoR : (Try.prog.info? 81).map (fun i => (i.zero, i.size, i.bytes)) = some (some (.agg #[.int .i64 0, .int .i64 0]), 2, 16) := by kernel_rfl
theorem rcells_len (l : List Rng.R) : (Fil.rcells l).length = l.length * 2 := by
  induction l with
  | nil => rfl
  | cons r l ih => unfold Fil.rcells at *; simp only [List.flatMap_cons, List.length_append, ih, List.length_cons, List.length_nil]; omega
theorem rcells_app (a b : List Rng.R) : Fil.rcells (a ++ b) = Fil.rcells a ++ Fil.rcells b := by simp [Fil.rcells]
theorem rcells_one (l : List Rng.R) : ∀ u ∈ Fil.rcells l, u.oneCell' = true := by
  intro u hu; simp [Fil.rcells] at hu; obtain ⟨a, b, _, h | h⟩ := hu <;> subst h <;> rfl
theorem rcells_get (l : List Rng.R) (j : Nat) (h : j < l.length) : (Fil.rcells l)[j * 2]? = some (.int .i64 l[j].1) ∧ (Fil.rcells l)[j * 2 + 1]? = some (.int .i64 l[j].2) := by
  induction l generalizing j with
  | nil => simp at h
  | cons r l ih =>
    have e : Fil.rcells (r :: l) = .int .i64 r.1 :: .int .i64 r.2 :: Fil.rcells l := by simp [Fil.rcells]
    rw [e]
    cases j with
    | zero => exact ⟨rfl, rfl⟩
    | succ j =>
      rw [show (j + 1) * 2 = j * 2 + 1 + 1 by omega]
      simp only [List.getElem?_cons_succ, List.getElem_cons_succ]
      exact ih j (by simpa using h)
/-- A new row of ranges. -/
structure NewR (w w' : World) (v : Value) (l : List Rng.R) : Prop where
  own : w'.ownsRow w.heap.size 81 2 v l.length (Fil.rcells l)
  below : Below w.heap.size w w'
theorem RdR.of_own {w : World} {b : Nat} {e : TypeId} {v : Value} {n : Nat} {l : List Rng.R} (h : w.ownsRow b e 2 v n (Fil.rcells l)) (hn : l.length = n) : RdR w v l := by
  rcases h.2 with ⟨h2, h3⟩ | ⟨g, cap, cur, hv', hg, _, hc1, hc2, r⟩
  · subst h2; subst h3
    have := List.eq_nil_of_length_eq_zero hn; subst this; exact RdR.nil _
  · subst hv'
    have hlt := (h.lt g rfl).2
    refine ⟨_, cap, by rw [hn], ⟨by omega, hc2⟩, fun j hj => ⟨g, 0, rfl, hlt, ?_, ?_⟩⟩
    · rw [Nat.zero_add, h.cellAt (j * 2) (by omega)]; exact (rcells_get l j hj).1
    · rw [Nat.zero_add, h.cellAt (j * 2 + 1) (by omega)]; exact (rcells_get l j hj).2
theorem NewR.rd {w w' : World} {v : Value} {l : List Rng.R} (h : NewR w w' v l) : RdR w' v l := RdR.of_own h.own rfl
theorem NewR.of {W w w' : World} {v : Value} {l : List Rng.R} (h : Below W.heap.size W w) (k : NewR w w' v l) : NewR W w' v l := ⟨own_base k.own h.size, h.trans (k.below.mono h.size)⟩
theorem NewR.later {w w1 w2 : World} {v : Value} {l : List Rng.R} (h : NewR w w1 v l) (k : Below w1.heap.size w1 w2) : NewR w w2 v l :=
  ⟨(Keep.of_below (S := fun _ => False) k).ownsRow h.own (fun _ _ h => h), h.below.trans (k.mono h.below.size)⟩
theorem newR_nil {w w' : World} (h : Below w.heap.size w w') : NewR w w' (.slice none 0 0) [] := ⟨⟨rfl, Or.inl ⟨rfl, rfl⟩⟩, h⟩
theorem Sts.newR {W w w' : World} {l : List HProp} {v : Value} {ys : List Rng.R} (hl : ∀ A ∈ l, Stable A) (h : Sts W l w) (k : NewR w w' v ys) : Sts W (rowP 81 2 v ys.length (Fil.rcells ys) :: l) w' := by
  obtain ⟨F, b, c, d⟩ := h
  have hs := stars_stable hl
  have hv : ∀ k, v.ownBlock = some k → w.heap.size ≤ k := fun k' hk => (k.own.lt k' hk).1
  refine ⟨fun k => v.ownBlock = some k ∨ F k, ⟨fun k => v.ownBlock = some k, F, ⟨own_base k.own (Nat.zero_le _), fun k => Iff.rfl⟩, hs.keep b (Keep.of_below (S := fun _ => False) k.below) (fun _ _ h => h), ?_, fun k => Iff.rfl⟩, c.trans (k.below.mono c.size), ?_⟩
  · intro k' h1 h2; have := hs.dom b k' h2; have := hv k' h1; omega
  · rintro k' (h | h)
    · have := c.size; have := hv k' h; omega
    · exact d k' h
theorem Sts.isNewR {W w : World} {l : List HProp} {v : Value} {n : Nat} {ys : List Rng.R} (h : Sts W (rowP 81 2 v n (Fil.rcells ys) :: l) w) (hn : ys.length = n) : NewR W w v ys := by
  subst hn
  obtain ⟨F, ⟨F1, F2, ⟨⟨h1, h2⟩, hf⟩, _, _, hu⟩, hb, hlow⟩ := h
  refine ⟨⟨h1, ?_⟩, hb⟩
  rcases h2 with h2 | ⟨g, cap, cur, hv, hg, r⟩
  · exact Or.inl h2
  · refine Or.inr ⟨g, cap, cur, hv, ?_, r⟩
    have : v.ownBlock = some g := by rw [hv]; rfl
    exact hlow g ((hu g).2 (Or.inl ((hf g).2 this)))
/-- The row at the head has grown. -/
theorem Sts.grownK {W w w1 : World} {l : List HProp} {e : TypeId} {s : Nat} {v v' : Value} {n n' : Nat} {xs xs' : List Value} (hl : ∀ A ∈ l, Stable A) (h : Sts W (rowP e s v n xs :: l) w)
    (hg : w.grownBy w1 v.ownBlock) (ho : w1.ownsRow 0 e s v' n' xs') (hv : ∀ k, v'.ownBlock = some k → v.ownBlock = some k ∨ w.heap.size ≤ k) : Sts W (rowP e s v' n' xs' :: l) w1 := by
  obtain ⟨F, ⟨F1, F2, ⟨a, hF1⟩, r, hd, hF⟩, hb, hn⟩ := h
  have hs := stars_stable hl
  have hk : Keep F1 w w1 := Keep.of_grown hg (fun k hk _ => (hF1 k).2 hk)
  refine ⟨fun k => v'.ownBlock = some k ∨ F2 k, ⟨fun k => v'.ownBlock = some k, F2, ⟨ho, fun k => Iff.rfl⟩, hs.keep r hk (fun k h2 h1 => hd k h1 h2), ?_, fun k => Iff.rfl⟩, ?_, ?_⟩
  · intro k h1 h2
    rcases hv k h1 with h | h
    · exact hd k ((hF1 k).2 h) h2
    · have := hs.dom r k h2; omega
  · exact hb.grown hg hb.size (fun k hk => hn k ((hF k).2 (Or.inl ((hF1 k).2 hk))))
  · rintro k (h | h)
    · rcases hv k h with h' | h'
      · exact hn k ((hF k).2 (Or.inl ((hF1 k).2 h')))
      · have := hb.size; omega
    · exact hn k ((hF k).2 (Or.inr h))
theorem Sts.rowOwnK {W w : World} {l : List HProp} {e : TypeId} {s : Nat} {v : Value} {n : Nat} {xs : List Value} (h : Sts W (rowP e s v n xs :: l) w) : w.ownsRow 0 e s v n xs := by
  obtain ⟨F, a, _⟩ := h.head; exact a
theorem Sts.rowNilK {W w : World} {l : List HProp} (e : TypeId) (s : Nat) (h : Sts W l w) : Sts W (rowP e s (.slice none 0 0) 0 [] :: l) w := by
  obtain ⟨F, a, b, c⟩ := h
  exact ⟨F, ⟨fun _ => False, F, ⟨⟨by simp, Or.inl ⟨rfl, rfl⟩⟩, fun k => by simp [Value.ownBlock]⟩, a, fun _ h => h.elim, fun k => by simp⟩, b, c⟩
/-- A block just made is a row. -/
theorem blkP.rowR {b : Nat} {cs : Array Value} {e : TypeId} {w : World} {F : Nat → Prop} {n cap : Nat} (h : blkP b (.cells cs e (0, 0)) w F) (hn : n ≤ cap) (hc : cs.size = cap * 2) (hm : cap ≤ maxLen) : rowP e 2 (.slice (some ⟨b, 0, none⟩) n cap) n (cs.toList.take (n * 2)) w F :=
  ⟨⟨by simp [hc]; omega, Or.inr ⟨b, cap, cs, rfl, Nat.zero_le _, h.1, hn, hm, hc, rfl⟩⟩, fun k => by rw [h.2 k]; simp [Value.ownBlock]; exact eq_comm⟩
theorem RdR.eq {w : World} {v : Value} {l : List Rng.R} (h : RdR w v l) : ∃ a cap, v = .slice a l.length cap := by
  obtain ⟨a, cap, h, _⟩ := h; exact ⟨a, cap, h⟩
set_option maxRecDepth 100000 in
theorem cCloneR (w : World) (v : Value) (l : List Rng.R) (h : RdR w v l) (hn : l.length < 1000000) :
    Calls Try.prog 79 #[v] w fun e w' => ∃ r, e = .returned r ∧ NewR w w' r l := by
  obtain ⟨a, cap, rfl, ⟨hcap1, hcap2⟩, hx⟩ := h
  unfold maxLen at hcap2
  obtain ⟨i0, hi0, hz0, hz1, hz2⟩ := info_parts infoR
  cases a with
  | none =>
    have hl : l = [] := by
      rcases l with _ | ⟨x, l⟩
      · rfl
      · obtain ⟨b, off, e, _⟩ := hx 0 (by simp); cases e
    subst hl
    have HX := hid hx
    clear hx
    have hq := Lib.run_eql_slice_nil (P := Try.prog) w 36 81 none 0 cap 0 0 Try.underlying36
    go_enter Try.func79, Try.ntmps79
    go_wp2_with fail
    go_ret
    exact ⟨_, rfl, newR_nil (Below.refl _ _)⟩
  | some ad =>
    have hq := Lib.run_eql_slice_nil (P := Try.prog) w 36 81 (some ad) l.length cap 0 0 Try.underlying36
    have HCN : Hid (∀ j u, (Fil.rcells l)[j]? = some u → (w.alloc (.cells #[] 81)).cell? (ad.add j) = some u) := by
      refine hid (fun j u hj => ?_)
      have hbel := (Below.refl w.heap.size w).alloc (Nat.le_refl _) (.cells #[] 81)
      have hlt : j < l.length * 2 := by
        rcases Nat.lt_or_ge j (Fil.rcells l).length with h | h
        · rw [rcells_len] at h; exact h
        · rw [List.getElem?_eq_none h] at hj; cases hj
      obtain ⟨ba, oa, ea, hba, hca, hcb⟩ := hx (j / 2) (by omega)
      injection ea with ea
      subst ea
      have hg := rcells_get l (j / 2) (by omega)
      rw [plain_add, hbel.cell hba]
      rcases (by omega : j / 2 * 2 = j ∨ j / 2 * 2 + 1 = j) with e | e
      · rw [e] at hca hg; rw [hca, ← hg.1, hj]
      · rw [Nat.add_assoc, e] at hcb; rw [e] at hg; rw [hcb, ← hg.2, hj]
    have hso : Sts w [rowP 81 2 (.slice (some ⟨w.heap.size, 0, none⟩) 0 0) 0 []] (w.alloc (.cells #[] 81)) :=
      ((Sts.nil w).alloc stab0 (.cells #[] 81)).weaken (fun F h => blkP.rowR (n := 0) (cap := 0) h (by omega) rfl (by unfold maxLen; omega))
    have HSO0 := hid hso
    have HNU : Hid ((Fil.rcells l).length = l.length * 2) := hid (rcells_len l)
    have HCAP : Hid (l.length ≤ cap) := hid hcap1
    clear hso hx
    generalize hm : l.length = m at *
    have HM := hid hm
    clear hm
    go_enter Try.func79, Try.ntmps79
    go_wp2_with (at_builtin; refine wpList_append_own_at _ rfl (.tmp 5) (.tmp 6) 36 rfl 0 81 i0 (.agg #[.int .i64 0, .int .i64 0]) 2 16 Try.underlying36 hi0 hz0 hz1 hz2 rfl (by decide) (.slice (some ⟨w.heap.size, 0, none⟩) 0 0) 0 [] rfl (Sts.rowOwnK HSO0.out) ad m cap (Fil.rcells l) rfl HNU.out HCN.out (rcells_one l) (by unfold maxLen; omega) (by omega) (Nat.zero_le _) ?_; intro v1 w5 hown hgr _ hblk)
    have hso := Sts.grownK stab0 HSO0.out hgr hown (by
      intro q' hq
      rcases hblk with h | h
      · exact Or.inl (h ▸ hq)
      · rw [h] at hq; injection hq with hq; exact Or.inr (by omega))
    rw [Nat.zero_add, List.nil_append] at hso
    have HSO := hid hso
    clear hso hown hgr hblk HCN HSO0
    go_ret
    exact ⟨_, rfl, Sts.isNewR HSO.out HM.out⟩
theorem cEmptyR (w : World) (f t : Int) : Calls Try.prog 123 #[.agg #[.int .i64 f, .int .i64 t]] w fun e w' => e = .returned (.bool (decide (t ≤ f))) ∧ Below w.heap.size w w' := by
  have HB := hid ((Below.refl w.heap.size w).alloc (Nat.le_refl _))
  go_enter Try.func123, Try.ntmps123
  go_wp2_with fail
  go_ret
  exact ⟨rfl, HB.out _⟩
set_option maxRecDepth 100000 in
theorem cIndexR (w : World) (v : Value) (l : List Rng.R) (h : RdR w v l) (hn : l.length < 1000000) : Calls Try.prog 129 #[v, .func (.func 123) #[] #[]] w fun e w' => Below w.heap.size w w' ∧ ((e = .returned (.int .i64 (-1)) ∧ ∀ r ∈ l, r.1 < r.2) ∨ ∃ k, k < l.length ∧ e = .returned (.int .i64 (k : Nat)) ∧ (∀ r ∈ l.take k, r.1 < r.2) ∧ ∀ r, l[k]? = some r → r.2 ≤ r.1) := by
  obtain ⟨a, cap, rfl, hcap, hx⟩ := h
  have HX := hid hx
  clear hx hcap
  go_enter Try.func129, Try.ntmps129
  go_wp2_with fail
  go_loopw [8] (fun i wr => ∃ k : Nat, k ≤ l.length ∧ i = .int .i64 k ∧ (∀ r ∈ l.take k, r.1 < r.2) ∧ Below w.heap.size w wr) (fun i _ => l.length - (intOf i).toNat)
  case atStart => exact ⟨0, by omega, rfl, by simp, Below.refl _ _⟩
  case round =>
    obtain ⟨k, hk, rfl, hpre, hbel⟩ := hrel
    have HB := hid hbel
    have HP := hid hpre
    clear hbel hpre
    by_cases hlt : k < l.length
    · obtain ⟨b, off, rfl, hb, c0, c1⟩ := HX.out k hlt
      rw [← HB.out.cell hb] at c0 c1
      have HE : Hid (l[k]? = some l[k]) := hid (List.getElem?_eq_getElem hlt)
      have HT : Hid (l.take (k + 1) = l.take k ++ [l[k]]) := hid (by rw [List.take_add_one, List.getElem?_eq_getElem hlt]; rfl)
      obtain ⟨x, hx⟩ : ∃ x, x = l[k] := ⟨_, rfl⟩
      rw [← hx] at c0 c1 HE HT
      clear hx
      obtain ⟨f, t⟩ := x
      simp only [] at c0 c1
      cases hd : decide (t ≤ f) with
      | true =>
        go_wp2_with (first | (go_at_call 123; refine (cEmptyR _ f t).mono ?_; rintro e w2 ⟨rfl, hw2⟩; have HB2 := hid (HB.out.trans (hw2.mono HB.out.size)); clear hw2; rw [hd]))
        go_ret
        refine ⟨HB2.out, Or.inr ⟨k, hlt, rfl, HP.out, fun r hr => ?_⟩⟩
        rw [HE.out] at hr
        injection hr with hr
        subst hr
        simpa using hd
      | false =>
        go_wp2_with (first | (go_at_call 123; refine (cEmptyR _ f t).mono ?_; rintro e w2 ⟨rfl, hw2⟩; have HB2 := hid (HB.out.trans (hw2.mono HB.out.size)); clear hw2; rw [hd]))
        go_roundw
        case rel =>
          refine ⟨k + 1, by omega, by go_num, ?_, HB2.out⟩
          intro r hr
          rw [HT.out, List.mem_append] at hr
          rcases hr with hr | hr
          · exact HP.out r hr
          · simp at hr; subst hr; simpa using hd
        case measure => simp [intOf]; omega
    · obtain rfl : k = l.length := by omega
      go_wp2_with fail
      go_ret
      refine ⟨HB.out, Or.inl ⟨rfl, ?_⟩⟩
      have := HP.out
      rwa [List.take_length] at this
end Go.Proofs.Ytfjadhkhmhnccaa
