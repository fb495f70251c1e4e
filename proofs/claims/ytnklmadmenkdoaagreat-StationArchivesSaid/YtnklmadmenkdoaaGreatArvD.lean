/- The packets of a process, as a row of items that shares no memory with the archive. -/
import Derived.Test.YtnklmadmenkdoaaGreatArvC
set_option linter.unusedVariables false
set_option linter.unusedSimpArgs false
namespace Go.Proofs.YtnklmadmenkdoaaGreat
open Go.RowKit Go.Proofs.Num
theorem icl_one {es : List EntV} {x : EntV} (h : slV x.2) : ∀ u ∈ icl x, u.oneCell' = true := by
  obtain ⟨a, n, c, e⟩ := h
  intro u hu
  simp only [icl, List.mem_cons, List.not_mem_nil, or_false] at hu
  rcases hu with rfl | rfl | rfl | rfl
  · rfl
  · rfl
  · rfl
  · rw [e]; rfl
theorem datL_snoc (es : List EntV) (x : EntV) : datL (es ++ [x]) = datL es ++ [rowP 5 1 x.2 x.1.d.length (u8s x.1.d)] := by simp [datL]
set_option maxRecDepth 100000 in
theorem szSlI : ∀ w, (Go.sizeOf 192).run Tryz.prog w = .ok 5 w := fun w => by first | rfl | simp [go_sem] | kernel_rfl
section
variable {W w : World} {l : List HProp}
/-- A finished round: the new item behind the others. -/
theorem itm_close {ov' : Value} {es : List EntV} {x : EntV} {A : HProp} (h : Sts W (rowP 102 4 ov' (es.length + 1) (es.flatMap icl ++ icl x) :: rowP 5 1 x.2 x.1.d.length (u8s x.1.d) :: A :: (datL es ++ l)) w) :
    Sts W (itmL ov' (es ++ [x]) l) w := by
  unfold itmL
  rw [datL_snoc, List.length_append, List.flatMap_append, List.append_assoc]
  have h2 : Sts W (rowP 102 4 ov' (es.length + 1) (es.flatMap icl ++ icl x) :: rowP 5 1 x.2 x.1.d.length (u8s x.1.d) :: (datL es ++ l)) w := Sts.sub h (.cons_cons _ (.cons_cons _ (.cons _ (List.Sublist.refl _))))
  have h3 := h2.perm (.cons _ (List.perm_middle (l₁ := datL es) (l₂ := l)).symm)
  simpa using h3
set_option maxRecDepth 100000 in
set_option maxHeartbeats 8000000 in
theorem cItemsOf (hl : ∀ B ∈ l, Stable B) (q : Nat) (v : Value) (M : List PrcV) (a : Nat) (ev : Value) (ents : List EntV) (hn : ents.length < 1000)
    (hE : ∃ ea ec, ev = .slice ea ents.length ec)
    (hC : ∀ (L : List HProp) (y : World), Sts W (L ++ arcL q v M l) y → ∀ k (hk : k < ents.length), ∃ g c da dc, ev = .slice (some ⟨g, 0, none⟩) ents.length c ∧ ents[k].2 = .slice da ents[k].1.d.length dc ∧ y.cell? ⟨g, k * 5, none⟩ = some (.int .i64 ents[k].1.c) ∧ y.cell? ⟨g, k * 5 + 1, none⟩ = some (.int .i64 (ents[k].1.a : Int)) ∧ y.cell? ⟨g, k * 5 + 2, none⟩ = some (.int .i64 (ents[k].1.n : Int)) ∧ y.cell? ⟨g, k * 5 + 3, none⟩ = some (.int .i64 (ents[k].1.t : Int)) ∧ y.cell? ⟨g, k * 5 + 4, none⟩ = some (.slice da ents[k].1.d.length dc) ∧ Rd y (.slice da ents[k].1.d.length dc) (u8s ents[k].1.d) ∧ NilOk (.slice da ents[k].1.d.length dc))
    (hd : ∀ e ∈ ents, e.1.d.length < 100000)
    (hent : Calls Tryz.prog 93 #[.pointer (some ⟨q, 0, none⟩), .int .i64 (a : Int)] w fun e w' => e = .returned ev ∧ ∃ j, w' = w.drewN j)
    (hs : Sts W (arcL q v M l) w) :
    Calls Tryz.prog 32 #[.pointer (some ⟨q, 0, none⟩), .int .i64 (a : Int)] w fun e w' => ∃ ov es, e = .returned ov ∧ es.map (·.1) = ents.map (·.1) ∧ Sts W (itmL ov es (arcL q v M l)) w' := by
  obtain ⟨ea, ec, rfl⟩ := hE
  have HL := hid (arcL_stable q v M hl)
  have KE := hid hent
  have HC := hid hC
  have HD := hid hd
  have HS : Hid (∀ j, Sts W (arcL q v M l) (w.drewN j)) := hid (fun j => hs.quiet (arcL_stable q v M hl) (below_drewN (Below.refl _ _) j))
  obtain ⟨N, hN⟩ : ∃ N, N = ents.length := ⟨_, rfl⟩
  have HN := hid hN
  have HN1 : Hid (N < 1000) := hid (by rw [hN]; exact hn)
  rw [← hN] at KE
  clear hs hl hent hC hd hN hn
  go_enter Tryz.func32, Tryz.ntmps32
  go_wp2_with fail
  refine KE.out.mono ?_
  rintro e w1 ⟨rfl, j, rfl⟩
  go_wp2_with fail
  go_loopw [5, 7, 12] (fun s _ i wr => ∃ (k : Nat) (es : List EntV), k ≤ N ∧ es.length = k ∧ es.map (·.1) = (ents.take k).map (·.1) ∧ i = .int .i64 (k : Int) ∧ Sts W (itmL s es (arcL q v M l)) wr) (fun _ _ i _ => N - (intOf i).toNat)
  case atStart => exact ⟨0, [], Nat.zero_le _, rfl, rfl, rfl, by simpa [itmL, datL] using Sts.rowNilS 102 4 (HS.out j)⟩
  case round =>
    clear HS KE
    obtain ⟨k, es, hk, hek, hem, rfl, hs⟩ := hrel
    by_cases hlt : k < N
    · have dk : decide ((k : Int) < (N : Int)) = true := decide_eq_true (by omega)
      have hkE : k < ents.length := by rw [← HN.out]; exact hlt
      have HKE := hid hkE
      obtain ⟨g, c, da, dc, ev, edv, q0, q1, q2, q3, q4, z1, z2⟩ := HC.out (rowP 102 4 u5 es.length (es.flatMap icl) :: datL es) wr hs k hkE
      obtain ⟨X, hX⟩ : ∃ X, X = ents[k].1 := ⟨_, rfl⟩
      have KDUP := hid (show ∀ (T : List HProp) (y : World), Sts W (T ++ arcL q v M l) y → Calls Tryz.prog 94 #[.agg (itmV X.a X.n X.t (.slice da X.d.length dc))] y fun e w' => ∃ r, e = .returned (.agg (itmV X.a X.n X.t r)) ∧ New y w' 5 r (u8s X.d) from fun T y hy => by
        obtain ⟨_, _, da', dc', _, e1, _, _, _, _, _, r1, r2⟩ := HC.out T y hy k hkE
        rw [edv] at e1
        injection e1 with i1 i2 i3
        subst i1
        subst i3
        rw [hX]
        exact cArcDup y _ _ _ _ _ r1 r2 (by have := HD.out _ (List.getElem_mem hkE); omega))
      injection ev with ev1 _ ev3
      subst ev1
      subst ev3
      replace q0 : wr.cell? ⟨g, k * 5, none⟩ = some (.int .i64 X.c) := by rw [hX]; exact q0
      replace q1 : wr.cell? ⟨g, k * 5 + 1, none⟩ = some (.int .i64 (X.a : Int)) := by rw [hX]; exact q1
      replace q2 : wr.cell? ⟨g, k * 5 + 2, none⟩ = some (.int .i64 (X.n : Int)) := by rw [hX]; exact q2
      replace q3 : wr.cell? ⟨g, k * 5 + 3, none⟩ = some (.int .i64 (X.t : Int)) := by rw [hX]; exact q3
      replace q4 : wr.cell? ⟨g, k * 5 + 4, none⟩ = some (.slice da X.d.length dc) := by rw [hX]; exact q4
      have HTK : Hid ((ents.take (k + 1)).map (·.1) = es.map (·.1) ++ [X]) := hid (by rw [List.take_succ_eq_append_getElem hkE, List.map_append, ← hem, hX]; rfl)
      have HA := hid (Sts.alloc (itmL_stable _ _ HL.out) hs (.cells #[.int .i64 0, .int .i64 0, .int .i64 0, .int .i64 0, .slice none 0 0] 192))
      have p0 : (0 : Int) ≤ (k : Int) := Int.natCast_nonneg _
      have p1 : (k : Int) < (N : Int) := by omega
      have HK1 : Hid (k + 1 ≤ N) := hid hlt
      have HEK := hid hek
      have HE8 : Hid (wrap64 ((k : Int) + 1) = ((k + 1 : Nat) : Int)) := hid (by have := HN1.out; unfold wrap64; omega)
      have HSB := hid (show ∀ x ∈ arcL q v M l, Stable x from HL.out)
      clear z1 z2 hs hk hek hem hlt hkE hX edv
      go_wp2_with (first
        | (refine wpList_aggS HA.out (itmL_stable _ _ HL.out) rfl (.tmp 7) (.tmp 15) 192 rfl #[.int .i64 X.c, .int .i64 (X.a : Int), .int .i64 (X.n : Int), .int .i64 (X.t : Int), .slice da X.d.length dc] rfl rfl szSlI rfl rfl ?_; intro w5 h5
           have r1 := (Sts.boxCell h5 1 _ rfl).1
           have r2 := (Sts.boxCell h5 2 _ rfl).1
           have r3 := (Sts.boxCell h5 3 _ rfl).1
           have r4 := (Sts.boxCell h5 4 _ rfl).1
           have H5 := hid h5; clear h5)
        | (go_at_call 94; refine (KDUP.out (_ :: _ :: datL es) _ H5.out).mono ?_; rintro e w6 ⟨r, rfl, hn⟩
           obtain ⟨ra, rc, hr⟩ : ∃ ra rc, r = .slice ra X.d.length rc := by
             obtain ⟨x, y, e⟩ := own_slice hn.1
             rw [u8s_len] at e
             exact ⟨x, y, e⟩
           subst hr
           have h6 := Sts.new (stabC (blkP_stable _ _) (itmL_stable _ _ HL.out)) H5.out hn
           rw [u8s_len] at h6
           have H6 := hid h6; clear h6 hn)
        | (refine wpList_bldIt rfl (.tmp 19) rfl (X.a : Int) (X.n : Int) (X.t : Int) ra X.d.length rc rfl H6.out (stabC (rowP_stable _ _ _ _ _) (stabC (blkP_stable _ _) (itmL_stable _ _ HL.out))) ?_; intro g7 w7 h7
           have H7 := hid (h7.perm (List.perm_middle (l₁ := [_, _, _]))); clear h7)
        | (refine wpList_appOne Tryz.underlying95 infoItm3 rfl (by decide) (by decide) rfl (.tmp 16) (.tmp 20) rfl (c := #[.int .i64 (X.a : Int), .int .i64 (X.n : Int), .int .i64 (X.t : Int), .slice ra X.d.length rc]) rfl H7.out (stabC (rowP_stable _ _ _ _ _) (stabC (blkP_stable _ _) (datL_stable es HL.out))) rfl rfl (icl_one (es := []) (x := (X, .slice ra X.d.length rc)) ⟨_, _, _, rfl⟩) (by have := HN1.out; have := HK1.out; have := HEK.out; omega) ?_; intro ov' w8 h8
           have H8 := hid h8; clear h8))
      go_roundw
      case rel => exact ⟨k + 1, es ++ [(X, .slice ra X.d.length rc)], HK1.out, by rw [List.length_append, HEK.out]; rfl, by rw [HTK.out, List.map_append]; rfl, congrArg (Value.int .i64) HE8.out, itm_close (x := (X, .slice ra X.d.length rc)) H8.out⟩
      case measure =>
        rw [HE8.out]
        have := HK1.out
        simp [intOf]
        omega
    · obtain rfl : k = N := by omega
      have dk : decide ((k : Int) < (k : Int)) = false := decide_eq_false (by omega)
      have HS := hid hs
      have HEM := hid hem
      clear hs hk hlt hek hem
      go_wp2_with fail
      go_ret
      exact ⟨_, rfl, es, by rw [HEM.out, HN.out, List.take_of_length_le (Nat.le_refl _)], HS.out⟩
theorem cArcItems (hl : ∀ B ∈ l, Stable B) (q : Nat) (v : Value) (M : List PrcV) (hM : M.length < 1000) (hE : ∀ p ∈ M, p.2.2.length < 1000) (hD : ∀ p ∈ M, ∀ e ∈ p.2.2, e.1.d.length < 100000) (a : Nat) (hs : Sts W (arcL q v M l) w) :
    Calls Tryz.prog 32 #[.pointer (some ⟨q, 0, none⟩), .int .i64 (a : Int)] w fun e w' => ∃ ov es, e = .returned ov ∧ es.map (·.1) = Arc.itms (absA M) a ∧ Sts W (itmL ov es (arcL q v M l)) w' := by
  cases hi : Arc.isA a (absA M) (Arc.find a (absA M)) with
  | false =>
    refine (cItemsOf hl q v M a (.slice none 0 0) [] (by simp) ⟨_, _, rfl⟩ (fun L y hy k hk => by simp at hk) (fun e he => by simp at he) (cEntN q v M hM a hi hs) hs).mono ?_
    rintro e w' ⟨ov, es, rfl, h1, h2⟩
    refine ⟨ov, es, rfl, ?_, h2⟩
    rw [h1]
    unfold Arc.itms
    rw [hi]
    rfl
  | true =>
    obtain ⟨f, hf⟩ : ∃ f, f = Arc.find a (absA M) := ⟨_, rfl⟩
    rw [← hf] at hi
    obtain ⟨hfl, hfa⟩ := Arc.isA_get hi
    have hfM : f < M.length := by rw [← absA_len]; exact hfl
    have hmem : M[f] ∈ M := List.getElem_mem hfM
    refine (cItemsOf hl q v M a M[f].2.1 M[f].2.2 (hE _ hmem) ?_ (fun L y hy k hk => ?_) (hD _ hmem) (cEntY q v M hM a f hf hi hfM hs) hs).mono ?_
    · have ho := mem_own hs (arc_memE (l := l) hmem)
      exact own_slice ho
    · have hme := List.mem_append_right L (arc_memE (q := q) (v := v) (l := l) hmem)
      have ho := mem_own hy hme
      have hxm : M[f].2.2[k] ∈ M[f].2.2 := List.getElem_mem hk
      have hmd := List.mem_append_right L (arc_memD (q := q) (v := v) (l := l) hmem hxm)
      have hod := mem_own hy hmd
      obtain ⟨g, c, cur, e1, _⟩ := own_ge ho (by omega)
      obtain ⟨da, dc, e2⟩ := own_slice hod
      rw [e1] at hme ho
      have hc : ∀ j, j < 5 → y.cell? ⟨g, k * 5 + j, none⟩ = (ecl M[f].2.2[k])[j]? := fun j hj => by
        have h5 := ecl_get M[f].2.2 k hk j hj
        have h6 : j < (ecl M[f].2.2[k]).length := by rw [ecl_len]; exact hj
        rw [List.getElem?_eq_getElem h6] at h5 ⊢
        exact mem_cell hy hme _ _ h5
      refine ⟨g, c, da, dc, e1, e2, hc 0 (by decide), hc 1 (by decide), hc 2 (by decide), hc 3 (by decide), ?_, ?_, ?_⟩
      · rw [← e2]; exact hc 4 (by decide)
      · rw [← e2]; exact Rd.of_own hod (u8s_len _)
      · rw [← e2]; exact NilOk.own hod
    · rintro e w' ⟨ov, es, rfl, h1, h2⟩
      refine ⟨ov, es, rfl, ?_, h2⟩
      rw [h1]
      unfold Arc.itms
      rw [← hf, hi, if_pos rfl, List.getD_eq_getElem?_getD, List.getElem?_eq_getElem hfl, absA_get]
      rfl
end
end Go.Proofs.YtnklmadmenkdoaaGreat
