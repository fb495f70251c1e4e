/- slices.Insert over entries. slices.Insert over processes. -/
import Derived.Test.YtnklmadmenkdoaaGreatQArcS
set_option linter.unusedVariables false
set_option linter.unusedSimpArgs false
namespace Go.Proofs.YtnklmadmenkdoaaGreat
open Go.RowKit Go.Proofs.Num
variable {W w : World} {l : List HProp}
theorem own_ge {w : World} {b0 : Nat} {e : TypeId} {s n : Nat} {v : Value} {xs : List Value} (h : w.ownsRow b0 e s v n xs) (hn : 1 ≤ n) : ∃ g c cur, v = .slice (some ⟨g, 0, none⟩) n c ∧ n ≤ c ∧ c ≤ maxLen ∧ cur.size = c * s ∧ w.heap[g]? = some (.cells cur e (0, 0)) := by
  rcases h.2 with ⟨hv, h0⟩ | ⟨g, cap, cur, hv, _, hg, hnc, hcm, hsz, _⟩
  · omega
  · exact ⟨g, cap, cur, hv, hnc, hcm, hsz, hg⟩
theorem src_blk {b : Nat} {ev : Array Value} {e : TypeId} (h : Sts W (blkP b (.cells ev e (0, 0)) :: l) w) : ∀ j v, ev.toList[j]? = some v → w.cell? ((⟨b, 0, none⟩ : Addr).add j) = some v := by
  intro j v hj
  have hb : w.heap[b]? = some (.cells ev e (0, 0)) := by obtain ⟨F, hF⟩ := h.head; exact hF.1
  rw [Lib.add_plain2, Nat.zero_add]
  exact cell_blk hb (by simpa using hj)
theorem blk_ne {b g : Nat} {o : Obj} {e : TypeId} {s n c : Nat} {xs : List Value} (h : Sts W (blkP b o :: rowP e s (.slice (some ⟨g, 0, none⟩) n c) n xs :: l) w) : b ≠ g := by
  obtain ⟨F, ⟨F1, F2, ⟨_, h1⟩, ⟨F3, F4, ⟨_, h3⟩, _, _, h5⟩, hd, _⟩, _, _⟩ := h
  rintro rfl
  exact hd b ((h1 b).2 rfl) ((h5 b).2 (Or.inl ((h3 b).2 (by simp [Value.ownBlock]))))
theorem ins_list1 (xs zs e : List Value) (k n s : Nat) (hk : k < n) (hx : xs.length = n * s) (hz : zs.length = (n + 1 - k) * s) (he : e.length = s) :
    (((xs.take (k * s) ++ zs).take (k * s) ++ e ++ (xs.take (k * s) ++ zs).drop (k * s + e.length)).take ((k + 1) * s) ++ xs.drop (k * s) ++ ((xs.take (k * s) ++ zs).take (k * s) ++ e ++ (xs.take (k * s) ++ zs).drop (k * s + e.length)).drop ((k + 1) * s + (xs.drop (k * s)).length)) = xs.take (k * s) ++ e ++ xs.drop (k * s) := by
  have hkn : k * s ≤ n * s := Nat.mul_le_mul_right _ (Nat.le_of_lt hk)
  have h1 : (xs.take (k * s)).length = k * s := by rw [List.length_take]; omega
  have h2 : (n + 1 - k) * s = s + (n - k) * s := by rw [show n + 1 - k = 1 + (n - k) by omega, Nat.add_mul, Nat.one_mul]
  have h3 : (k + 1) * s = k * s + s := by rw [Nat.add_mul, Nat.one_mul]
  have h4 : (n - k) * s = n * s - k * s := Nat.sub_mul _ _ _
  obtain ⟨A, hA⟩ : ∃ A, A = xs.take (k * s) := ⟨_, rfl⟩
  obtain ⟨B, hB⟩ : ∃ B, B = xs.drop (k * s) := ⟨_, rfl⟩
  have hBl : B.length = (n - k) * s := by rw [hB, List.length_drop, hx, h4]
  rw [← hA] at h1 ⊢
  rw [← hB]
  have e1 : (A ++ zs).take (k * s) = A := by rw [← h1, List.take_left]
  have e2 : (A ++ zs).drop (k * s + e.length) = zs.drop s := by rw [he, ← h1, List.drop_append, List.drop_of_length_le (by omega), List.nil_append]; congr 1; omega
  rw [e1, e2]
  have e3 : (A ++ e ++ zs.drop s).take ((k + 1) * s) = A ++ e := by
    rw [h3, show k * s + s = (A ++ e).length by rw [List.length_append, h1, he], List.take_left]
  have e4 : (A ++ e ++ zs.drop s).drop ((k + 1) * s + B.length) = [] := by
    apply List.drop_of_length_le
    rw [List.length_append, List.length_append, List.length_drop, h1, he, hz, hBl]; omega
  rw [e3, e4, List.append_nil]
theorem ins_list2 (xs ys e : List Value) (k n s : Nat) (hk : k < n) (hx : xs.length = n * s) (hy : ys.length = s) (he : e.length = s) :
    (((xs ++ ys).take ((k + 1) * s) ++ xs.drop (k * s) ++ (xs ++ ys).drop ((k + 1) * s + (xs.drop (k * s)).length)).take (k * s) ++ e ++ ((xs ++ ys).take ((k + 1) * s) ++ xs.drop (k * s) ++ (xs ++ ys).drop ((k + 1) * s + (xs.drop (k * s)).length)).drop (k * s + e.length)) = xs.take (k * s) ++ e ++ xs.drop (k * s) := by
  have hkn : (k + 1) * s ≤ n * s := Nat.mul_le_mul_right _ hk
  have h3 : (k + 1) * s = k * s + s := by rw [Nat.add_mul, Nat.one_mul]
  have e0 : (xs ++ ys).drop ((k + 1) * s + (xs.drop (k * s)).length) = [] := by
    apply List.drop_of_length_le
    rw [List.length_append, List.length_drop, hx, hy]; omega
  rw [e0, List.append_nil]
  have e1 : (xs ++ ys).take ((k + 1) * s) = xs.take ((k + 1) * s) := List.take_append_of_le_length (by omega)
  rw [e1]
  have l1 : (xs.take ((k + 1) * s)).length = (k + 1) * s := by rw [List.length_take]; omega
  have e2 : (xs.take ((k + 1) * s) ++ xs.drop (k * s)).take (k * s) = xs.take (k * s) := by
    rw [List.take_append_of_le_length (by omega), List.take_take, Nat.min_eq_left (by omega)]
  have e3 : (xs.take ((k + 1) * s) ++ xs.drop (k * s)).drop (k * s + e.length) = xs.drop (k * s) := by
    rw [he, ← h3]
    exact (fun (T D : List Value) (h : T.length = (k + 1) * s) => (by rw [← h, List.drop_left] : (T ++ D).drop ((k + 1) * s) = D)) _ _ l1
  rw [e2, e3]
set_option maxRecDepth 100000 in
theorem infoE : (Tryz.prog.info? 192).map (fun i => (i.zero, i.size, i.bytes)) = some (some (.agg #[.int .i64 0, .int .i64 0, .int .i64 0, .int .i64 0, .slice none 0 0]), 5, 56) := by kernel_rfl
theorem szIE : (Tryz.prog.info? 192).map (·.size) = some 5 := by kernel_rfl
set_option maxRecDepth 100000 in
theorem szFE : ∀ w, (Go.sizeOf 192).run Tryz.prog w = .ok 5 w := fun w => by first | rfl | simp [go_sem] | kernel_rfl
set_option maxRecDepth 100000 in
theorem ovlE (w : World) (b g : Nat) (ev cur : Array Value) (hb : w.heap[b]? = some (.cells ev 192 (0, 0))) (hg : w.heap[g]? = some (.cells cur 192 (0, 0))) (hne : b ≠ g) (hc : cur.size ≠ 0) (off lb cb : Nat) :
    (callFunc 192 #[.slice (some ⟨b, 0, none⟩) 1 1, .slice (some ⟨g, off, none⟩) lb cb]).run Tryz.prog w = .ok (.value (.bool false)) w := by
  rw [run_callFunc_extern Tryz.func192 (by kernel_rfl) (by kernel_rfl) (by kernel_rfl) (e := Extern.SlicesOverlaps.overlaps #[186, 186] #[4]) (by kernel_rfl),
    Lib.run_overlaps_apart w 186 4 192 Tryz.underlying186 5 szFE ⟨b, 0, none⟩ ⟨g, off, none⟩ 1 1 lb cb hne 192 192 ev.size cur.size (by simp [World.shape?, hb]) (by simp [World.shape?, hg]) hc (free_blk hb) (free_blk hb)]
  rfl
set_option maxRecDepth 100000 in
set_option maxHeartbeats 4000000 in
theorem cInsE (hl : ∀ B ∈ l, Stable B) (k n b : Nat) (v : Value) (xs : List Value) (ev : Array Value) (hev : ev.size = 5) (h1 : ∀ u ∈ ev.toList, u.oneCell' = true) (hx1 : ∀ u ∈ xs, u.oneCell' = true) (hk : k ≤ n) (hn : n < 1000) (hs : Sts W (rowP 192 5 v n xs :: blkP b (.cells ev 192 (0, 0)) :: l) w) :
    Calls Tryz.prog 102 #[v, .int .i64 (k : Int), .slice (some ⟨b, 0, none⟩) 1 1] w fun e w' => ∃ v', e = .returned v' ∧ Sts W (rowP 192 5 v' (n + 1) (xs.take (k * 5) ++ ev.toList ++ xs.drop (k * 5)) :: l) w' := by
  have hxl : xs.length = n * 5 := (Sts.rowOwnS' hs).1
  have HL := hid hl
  have HEV := hid hev
  have M5 : Hid (ev.toList.length = 1 * 5) := hid (by rw [Array.length_toList, hev])
  have H1 := hid h1
  have HX1 : Hid (∀ u ∈ xs.drop (k * 5), u.oneCell' = true) := hid (fun u hu => hx1 u (List.mem_of_mem_drop hu))
  have w1 : wrap64 ((n : Int) + 1) = (n : Int) + 1 := by unfold wrap64; omega
  have w2 : wrap64 ((n : Int) + 1 - (k : Int)) = ((n + 1 - k : Nat) : Int) := by unfold wrap64; omega
  have w3 : IntKind.i64.wrap ((k : Int) + 1) = (k : Int) + 1 := by rw [IntKind.wrap_i64]; omega
  have w4 : wrap64 ((k : Int) + 1) = (k : Int) + 1 := by unfold wrap64; omega
  rcases Nat.lt_or_ge k n with hkn | hkn
  · obtain ⟨g, c, cur, rfl, hcap, hcm, hcz, hg0⟩ := own_ge (Sts.rowOwnS' hs) (by omega)
    have e1 : ((k : Int) == (n : Int)) = false := by rw [beq_eq_false_iff_ne]; omega
    have s1 : (k : Int) ≤ (n : Int) := by omega
    have s2 : ¬ c = k := by omega
    have s3 : ¬ c = 0 := by omega
    have s4 : (k : Int) ≤ (c : Int) := by omega
    have s5 : (k : Int) + 1 ≤ (n : Int) + 1 := by omega
    have s6 : (k : Int) ≤ (n : Int) + 1 := by omega
    have HCD : Hid ((xs.drop (k * 5)).length = (n - k) * 5) := hid (by rw [List.length_drop, hxl, Nat.sub_mul])
    have HSR := hid (show ∀ (y : World) (L : List HProp), Sts W (rowP 192 5 (.slice (some ⟨g, 0, none⟩) n c) n (xs) :: L) y → ∀ j v, (xs.drop (k * 5))[j]? = some v → y.cell? ((⟨g, k * 5, none⟩ : Addr).add j) = some v from fun y L hy j v hj => by
      have hjl := (List.getElem?_eq_some_iff.1 hj).1
      rw [List.length_drop, hxl] at hjl
      rw [List.getElem?_drop] at hj
      rw [Lib.add_plain2, (Sts.rowOwnS' hy).cellAt _ (by omega)]
      exact hj)
    by_cases hroom : n + 1 ≤ c
    · obtain ⟨ys, hyl, hm⟩ := Sts.rowMore hs hroom
      have HSR2 := hid (show ∀ (y : World) (L : List HProp), Sts W (rowP 192 5 (.slice (some ⟨g, 0, none⟩) (n + 1) c) (n + 1) (xs ++ ys) :: L) y → ∀ j v, (xs.drop (k * 5))[j]? = some v → y.cell? ((⟨g, k * 5, none⟩ : Addr).add j) = some v from fun y L hy j v hj => by
        have hjl := (List.getElem?_eq_some_iff.1 hj).1
        rw [List.length_drop, hxl] at hjl
        rw [List.getElem?_drop] at hj
        rw [Lib.add_plain2, (Sts.rowOwnS' hy).cellAt _ (by omega), List.getElem?_append_left (by omega)]
        exact hj)
      have hbh : w.heap[b]? = some (.cells ev 192 (0, 0)) := by obtain ⟨F, hF⟩ := hs.swap.head; exact hF.1
      have hbg : b ≠ g := blk_ne hs.swap
      have hov := fun off lb cb => ovlE w b g ev cur hbh hg0 hbg (by rw [hcz]; omega) off lb cb
      have HM := hid hm
      have d1 : decide ((c : Int) < (n : Int) + 1) = false := decide_eq_false (by omega)
      have s7 : (n : Int) + 1 ≤ (c : Int) := by omega
      have s8 : ¬ c = k + 1 := by omega
      have HXL := hid hxl
      have HYL := hid hyl
      have HK := hid hkn
      have M1 : Hid (∀ q, k < q → 1 = Nat.min 1 (q - k)) := hid (fun q hq => (Nat.min_eq_left (by omega)).symm)
      have s9 : n + 1 - (k + 1) = n - k := by omega
      have HSB := hid (show ∀ (y : World) (L : List HProp), Sts W (blkP b (.cells ev 192 (0, 0)) :: L) y → ∀ j v, ev.toList[j]? = some v → y.cell? ((⟨b, 0, none⟩ : Addr).add j) = some v from fun y L hy => src_blk hy)
      clear hs hl hev h1 hx1 hk hn hxl hcap hcm hcz hm hyl hbh hbg hg0 hroom hkn
      go_enter Tryz.func102, Tryz.ntmps102
      go_wp2_with (simp only [hov])
      clear hov
      refine wp_region_ordQ (.pure 0 (.pure 1 (.pure 2 (.pure 3 (.pure 4 (.pure 5 (.pure 6 (.pure 7 (.eff 8 .nil))))))))) (fun y => True) (fun y => Sts W (rowP 192 5 (.slice (some ⟨g, 0, none⟩) (n + 1) c) (n + 1) (xs ++ ys) :: blkP b (.cells ev 192 (0, 0)) :: l) y) (by kernel_rfl) (by kernel_rfl) (HM.out.drew (stabC (rowP_stable _ _ _ _ _) (stabC (blkP_stable _ _) HL.out))) (fun y hy => trivial) ?_
      iterate 8
        (apply ordq_pure (ho := rfl)
         · go_simp
         · intro x hx; go_simp; rfl
         apply ordq_norm
         · go_simp; rfl)
      apply ordq_eff (ho := rfl)
      · go_simp
      intro y hy
      refine eff_copyR Tryz.underlying186 szIE (stabC (blkP_stable _ _) HL.out) hy (.tmp 73) (.tmp 76) rfl (k + 1) (n - k) (n - k) (c - (k + 1)) (n + 1 - k) (c - k) ⟨g, k * 5, none⟩ (xs.drop (k * 5)) ?_ ?_ (by simp only [Nat.min_def]; split <;> omega) HCD.out (HSR2.out y _ hy) HX1.out (by omega) (fun z hz => trivial) ?_
      · (go_simp; try rfl)
      · (go_simp; try rfl)
      apply ordq_norm
      · go_simp; rfl
      clear hy y
      refine ordq_nil fun z hz => ?_
      have HC := hid hz
      clear hz HM
      have HBC := hid (HSB.out z _ HC.out.swap)
      go_wp2_with (refine wpList_copyR Tryz.underlying186 szIE (stabC (blkP_stable _ _) HL.out) HC.out rfl (.tmp 80) (.tmp 81) rfl k 1 (n + 1 - k) (c - k) 1 1 ⟨b, 0, none⟩ ev.toList rfl rfl (M1.out _ (by have := HK.out; omega)) M5.out HBC.out H1.out (by have := HK.out; omega) ?_; intro w9 h9; have H9 := hid h9; clear h9)
      go_ret
      refine ⟨_, rfl, ?_⟩
      have h10 := Sts.sub H9.out (.cons_cons _ (.cons _ (List.Sublist.refl _)))
      rw [ins_list2 xs ys ev.toList k n 5 HK.out HXL.out HYL.out (by rw [Array.length_toList, HEV.out])] at h10
      exact h10
    · have hcn : c < n + 1 := by omega
      have d1 : decide ((c : Int) < (n : Int) + 1) = true := decide_eq_true (by omega)
      have HS := hid hs
      have HXL := hid hxl
      have HK := hid hkn
      have HN := hid hn
      have HCN := hid hcn
      have M1 : Hid (∀ q, k < q → 1 = Nat.min 1 (q - k)) := hid (fun q hq => (Nat.min_eq_left (by omega)).symm)
      have s9 : n + 1 - (k + 1) = n - k := by omega
      have HSB := hid (show ∀ (y : World) (L : List HProp), Sts W (blkP b (.cells ev 192 (0, 0)) :: L) y → ∀ j v, ev.toList[j]? = some v → y.cell? ((⟨b, 0, none⟩ : Addr).add j) = some v from fun y L hy => src_blk hy)
      clear hs hl hev h1 hx1 hk hn hxl hcap hcm hcz hg0 hroom hkn hcn
      go_enter Tryz.func102, Tryz.ntmps102
      go_wp2_with (first
        | (at_builtin; refine wpList_appV Tryz.underlying186 (show Tryz.prog.underlying 3 = some (.int .i64) by kernel_rfl) infoE rfl (by decide) (by decide) rfl (.tmp 34) (.tmp 39) rfl HS.out (stabC (blkP_stable _ _) HL.out) k (n + 1 - k) rfl (congrArg (Value.int .i64) w2) (by have := HK.out; omega) (by have := HK.out; omega) HCN.out (by have := HN.out; omega) ?_; intro g2 c2 zs w2 hc2 hz h2
           have t1 : ¬ c2 = k := by have := HK.out; omega
           have t2 : ¬ c2 = k + 1 := by have := HK.out; omega
           have HZL := hid hz
           have HBC := hid (HSB.out w2 _ (h2.third))
           have HA := hid h2
           clear h2 hz hc2)
        | (refine wpList_copyR Tryz.underlying186 szIE (stabC (rowP_stable _ _ _ _ _) (stabC (blkP_stable _ _) HL.out)) HA.out rfl (.tmp 43) (.tmp 44) rfl k 1 (n + 1 - k) (c2 - k) 1 1 ⟨b, 0, none⟩ ev.toList rfl rfl (M1.out _ (by have := HK.out; omega)) M5.out HBC.out H1.out (by have := HK.out; omega) ?_; intro w3 h3; have HB := hid h3; clear h3))
      refine wp_region_ordQ (.pure 0 (.pure 1 (.pure 2 (.pure 3 (.pure 4 (.pure 5 (.pure 6 (.pure 7 (.eff 8 .nil))))))))) (fun y => True) (fun y => Sts W (rowP 192 5 (.slice (some ⟨g2, 0, none⟩) (n + 1) c2) (n + 1) ((xs.take (k * 5) ++ zs).take (k * 5) ++ ev.toList ++ (xs.take (k * 5) ++ zs).drop (k * 5 + ev.toList.length)) :: rowP 192 5 (.slice (some ⟨g, 0, none⟩) n c) n (xs) :: blkP b (.cells ev 192 (0, 0)) :: l) y) (by kernel_rfl) (by kernel_rfl) (HB.out.drew (stabC (rowP_stable _ _ _ _ _) (stabC (rowP_stable _ _ _ _ _) (stabC (blkP_stable _ _) HL.out)))) (fun y hy => trivial) ?_
      iterate 8
        (apply ordq_pure (ho := rfl)
         · go_simp
         · intro x hx; go_simp; rfl
         apply ordq_norm
         · go_simp; rfl)
      apply ordq_eff (ho := rfl)
      · go_simp
      intro y hy
      refine eff_copyR Tryz.underlying186 szIE (stabC (rowP_stable _ _ _ _ _) (stabC (blkP_stable _ _) HL.out)) hy (.tmp 50) (.tmp 53) rfl (k + 1) (n - k) (n - k) (c2 - (k + 1)) (n - k) (c - k) ⟨g, k * 5, none⟩ (xs.drop (k * 5)) ?_ ?_ (by simp) HCD.out (HSR.out y _ hy.swap) HX1.out (by omega) (fun z hz => trivial) ?_
      · (go_simp; try rfl)
      · (go_simp; try rfl)
      apply ordq_norm
      · go_simp; rfl
      clear hy y
      refine ordq_nil fun z hz => ?_
      have HC := hid hz
      clear hz HB
      go_wp2_with fail
      go_ret
      refine ⟨_, rfl, ?_⟩
      have h10 := Sts.sub HC.out (.cons_cons _ (.cons _ (.cons _ (List.Sublist.refl _))))
      rw [ins_list1 xs zs ev.toList k n 5 HK.out HXL.out HZL.out (by rw [Array.length_toList, HEV.out])] at h10
      exact h10
  · obtain rfl : k = n := by omega
    obtain ⟨a, c, rfl⟩ := own_slice (Sts.rowOwnS' hs)
    have HS := hid hs
    have HXL := hid hxl
    have HN := hid hn
    clear hs hl hev h1 hx1 hk hn hxl hkn
    go_enter Tryz.func102, Tryz.ntmps102
    go_wp2_with (at_builtin; refine wpList_appK Tryz.underlying186 infoE rfl (by decide) (by decide) rfl (.tmp 23) (.tmp 24) rfl HEV.out HS.out HL.out rfl rfl H1.out (by have := HN.out; omega) ?_; intro v' w2 h2; have H2 := hid h2; clear h2)
    all_goals go_ret
    all_goals refine ⟨_, rfl, ?_⟩
    all_goals rw [← HXL.out, List.take_length, List.drop_length, List.append_nil]
    all_goals exact H2.out
end Go.Proofs.YtnklmadmenkdoaaGreat
namespace Go.Proofs.YtnklmadmenkdoaaGreat
open Go.RowKit Go.Proofs.Num
variable {W w : World} {l : List HProp}
set_option maxRecDepth 100000 in
theorem infoP : (Tryz.prog.info? 188).map (fun i => (i.zero, i.size, i.bytes)) = some (some (.agg #[.int .i64 0, .slice none 0 0]), 2, 32) := by kernel_rfl
theorem szIP : (Tryz.prog.info? 188).map (·.size) = some 2 := by kernel_rfl
set_option maxRecDepth 100000 in
theorem szFP : ∀ w, (Go.sizeOf 188).run Tryz.prog w = .ok 2 w := fun w => by first | rfl | simp [go_sem] | kernel_rfl
set_option maxRecDepth 100000 in
theorem ovlP (w : World) (b g : Nat) (ev cur : Array Value) (hb : w.heap[b]? = some (.cells ev 188 (0, 0))) (hg : w.heap[g]? = some (.cells cur 188 (0, 0))) (hne : b ≠ g) (hc : cur.size ≠ 0) (off lb cb : Nat) :
    (callFunc 190 #[.slice (some ⟨b, 0, none⟩) 1 1, .slice (some ⟨g, off, none⟩) lb cb]).run Tryz.prog w = .ok (.value (.bool false)) w := by
  rw [run_callFunc_extern Tryz.func190 (by kernel_rfl) (by kernel_rfl) (by kernel_rfl) (e := Extern.SlicesOverlaps.overlaps #[183, 183] #[4]) (by kernel_rfl),
    Lib.run_overlaps_apart w 183 4 188 Tryz.underlying183 2 szFP ⟨b, 0, none⟩ ⟨g, off, none⟩ 1 1 lb cb hne 188 188 ev.size cur.size (by simp [World.shape?, hb]) (by simp [World.shape?, hg]) hc (free_blk hb) (free_blk hb)]
  rfl
set_option maxRecDepth 100000 in
set_option maxHeartbeats 4000000 in
theorem cInsP (hl : ∀ B ∈ l, Stable B) (k n b : Nat) (v : Value) (xs : List Value) (ev : Array Value) (hev : ev.size = 2) (h1 : ∀ u ∈ ev.toList, u.oneCell' = true) (hx1 : ∀ u ∈ xs, u.oneCell' = true) (hk : k ≤ n) (hn : n < 1000) (hs : Sts W (rowP 188 2 v n xs :: blkP b (.cells ev 188 (0, 0)) :: l) w) :
    Calls Tryz.prog 99 #[v, .int .i64 (k : Int), .slice (some ⟨b, 0, none⟩) 1 1] w fun e w' => ∃ v', e = .returned v' ∧ Sts W (rowP 188 2 v' (n + 1) (xs.take (k * 2) ++ ev.toList ++ xs.drop (k * 2)) :: l) w' := by
  have hxl : xs.length = n * 2 := (Sts.rowOwnS' hs).1
  have HL := hid hl
  have HEV := hid hev
  have M5 : Hid (ev.toList.length = 1 * 2) := hid (by rw [Array.length_toList, hev])
  have H1 := hid h1
  have HX1 : Hid (∀ u ∈ xs.drop (k * 2), u.oneCell' = true) := hid (fun u hu => hx1 u (List.mem_of_mem_drop hu))
  have w1 : wrap64 ((n : Int) + 1) = (n : Int) + 1 := by unfold wrap64; omega
  have w2 : wrap64 ((n : Int) + 1 - (k : Int)) = ((n + 1 - k : Nat) : Int) := by unfold wrap64; omega
  have w3 : IntKind.i64.wrap ((k : Int) + 1) = (k : Int) + 1 := by rw [IntKind.wrap_i64]; omega
  have w4 : wrap64 ((k : Int) + 1) = (k : Int) + 1 := by unfold wrap64; omega
  rcases Nat.lt_or_ge k n with hkn | hkn
  · obtain ⟨g, c, cur, rfl, hcap, hcm, hcz, hg0⟩ := own_ge (Sts.rowOwnS' hs) (by omega)
    have e1 : ((k : Int) == (n : Int)) = false := by rw [beq_eq_false_iff_ne]; omega
    have s1 : (k : Int) ≤ (n : Int) := by omega
    have s2 : ¬ c = k := by omega
    have s3 : ¬ c = 0 := by omega
    have s4 : (k : Int) ≤ (c : Int) := by omega
    have s5 : (k : Int) + 1 ≤ (n : Int) + 1 := by omega
    have s6 : (k : Int) ≤ (n : Int) + 1 := by omega
    have HCD : Hid ((xs.drop (k * 2)).length = (n - k) * 2) := hid (by rw [List.length_drop, hxl, Nat.sub_mul])
    have HSR := hid (show ∀ (y : World) (L : List HProp), Sts W (rowP 188 2 (.slice (some ⟨g, 0, none⟩) n c) n (xs) :: L) y → ∀ j v, (xs.drop (k * 2))[j]? = some v → y.cell? ((⟨g, k * 2, none⟩ : Addr).add j) = some v from fun y L hy j v hj => by
      have hjl := (List.getElem?_eq_some_iff.1 hj).1
      rw [List.length_drop, hxl] at hjl
      rw [List.getElem?_drop] at hj
      rw [Lib.add_plain2, (Sts.rowOwnS' hy).cellAt _ (by omega)]
      exact hj)
    by_cases hroom : n + 1 ≤ c
    · obtain ⟨ys, hyl, hm⟩ := Sts.rowMore hs hroom
      have HSR2 := hid (show ∀ (y : World) (L : List HProp), Sts W (rowP 188 2 (.slice (some ⟨g, 0, none⟩) (n + 1) c) (n + 1) (xs ++ ys) :: L) y → ∀ j v, (xs.drop (k * 2))[j]? = some v → y.cell? ((⟨g, k * 2, none⟩ : Addr).add j) = some v from fun y L hy j v hj => by
        have hjl := (List.getElem?_eq_some_iff.1 hj).1
        rw [List.length_drop, hxl] at hjl
        rw [List.getElem?_drop] at hj
        rw [Lib.add_plain2, (Sts.rowOwnS' hy).cellAt _ (by omega), List.getElem?_append_left (by omega)]
        exact hj)
      have hbh : w.heap[b]? = some (.cells ev 188 (0, 0)) := by obtain ⟨F, hF⟩ := hs.swap.head; exact hF.1
      have hbg : b ≠ g := blk_ne hs.swap
      have hov := fun off lb cb => ovlP w b g ev cur hbh hg0 hbg (by rw [hcz]; omega) off lb cb
      have HM := hid hm
      have d1 : decide ((c : Int) < (n : Int) + 1) = false := decide_eq_false (by omega)
      have s7 : (n : Int) + 1 ≤ (c : Int) := by omega
      have s8 : ¬ c = k + 1 := by omega
      have HXL := hid hxl
      have HYL := hid hyl
      have HK := hid hkn
      have M1 : Hid (∀ q, k < q → 1 = Nat.min 1 (q - k)) := hid (fun q hq => (Nat.min_eq_left (by omega)).symm)
      have s9 : n + 1 - (k + 1) = n - k := by omega
      have HSB := hid (show ∀ (y : World) (L : List HProp), Sts W (blkP b (.cells ev 188 (0, 0)) :: L) y → ∀ j v, ev.toList[j]? = some v → y.cell? ((⟨b, 0, none⟩ : Addr).add j) = some v from fun y L hy => src_blk hy)
      clear hs hl hev h1 hx1 hk hn hxl hcap hcm hcz hm hyl hbh hbg hg0 hroom hkn
      go_enter Tryz.func99, Tryz.ntmps99
      go_wp2_with (simp only [hov])
      clear hov
      refine wp_region_ordQ (.pure 0 (.pure 1 (.pure 2 (.pure 3 (.pure 4 (.pure 5 (.pure 6 (.pure 7 (.eff 8 .nil))))))))) (fun y => True) (fun y => Sts W (rowP 188 2 (.slice (some ⟨g, 0, none⟩) (n + 1) c) (n + 1) (xs ++ ys) :: blkP b (.cells ev 188 (0, 0)) :: l) y) (by kernel_rfl) (by kernel_rfl) (HM.out.drew (stabC (rowP_stable _ _ _ _ _) (stabC (blkP_stable _ _) HL.out))) (fun y hy => trivial) ?_
      iterate 8
        (apply ordq_pure (ho := rfl)
         · go_simp
         · intro x hx; go_simp; rfl
         apply ordq_norm
         · go_simp; rfl)
      apply ordq_eff (ho := rfl)
      · go_simp
      intro y hy
      refine eff_copyR Tryz.underlying183 szIP (stabC (blkP_stable _ _) HL.out) hy (.tmp 73) (.tmp 76) rfl (k + 1) (n - k) (n - k) (c - (k + 1)) (n + 1 - k) (c - k) ⟨g, k * 2, none⟩ (xs.drop (k * 2)) ?_ ?_ (by simp only [Nat.min_def]; split <;> omega) HCD.out (HSR2.out y _ hy) HX1.out (by omega) (fun z hz => trivial) ?_
      · (go_simp; try rfl)
      · (go_simp; try rfl)
      apply ordq_norm
      · go_simp; rfl
      clear hy y
      refine ordq_nil fun z hz => ?_
      have HC := hid hz
      clear hz HM
      have HBC := hid (HSB.out z _ HC.out.swap)
      go_wp2_with (refine wpList_copyR Tryz.underlying183 szIP (stabC (blkP_stable _ _) HL.out) HC.out rfl (.tmp 80) (.tmp 81) rfl k 1 (n + 1 - k) (c - k) 1 1 ⟨b, 0, none⟩ ev.toList rfl rfl (M1.out _ (by have := HK.out; omega)) M5.out HBC.out H1.out (by have := HK.out; omega) ?_; intro w9 h9; have H9 := hid h9; clear h9)
      go_ret
      refine ⟨_, rfl, ?_⟩
      have h10 := Sts.sub H9.out (.cons_cons _ (.cons _ (List.Sublist.refl _)))
      rw [ins_list2 xs ys ev.toList k n 2 HK.out HXL.out HYL.out (by rw [Array.length_toList, HEV.out])] at h10
      exact h10
    · have hcn : c < n + 1 := by omega
      have d1 : decide ((c : Int) < (n : Int) + 1) = true := decide_eq_true (by omega)
      have HS := hid hs
      have HXL := hid hxl
      have HK := hid hkn
      have HN := hid hn
      have HCN := hid hcn
      have M1 : Hid (∀ q, k < q → 1 = Nat.min 1 (q - k)) := hid (fun q hq => (Nat.min_eq_left (by omega)).symm)
      have s9 : n + 1 - (k + 1) = n - k := by omega
      have HSB := hid (show ∀ (y : World) (L : List HProp), Sts W (blkP b (.cells ev 188 (0, 0)) :: L) y → ∀ j v, ev.toList[j]? = some v → y.cell? ((⟨b, 0, none⟩ : Addr).add j) = some v from fun y L hy => src_blk hy)
      clear hs hl hev h1 hx1 hk hn hxl hcap hcm hcz hg0 hroom hkn hcn
      go_enter Tryz.func99, Tryz.ntmps99
      go_wp2_with (first
        | (at_builtin; refine wpList_appV Tryz.underlying183 (show Tryz.prog.underlying 3 = some (.int .i64) by kernel_rfl) infoP rfl (by decide) (by decide) rfl (.tmp 34) (.tmp 39) rfl HS.out (stabC (blkP_stable _ _) HL.out) k (n + 1 - k) rfl (congrArg (Value.int .i64) w2) (by have := HK.out; omega) (by have := HK.out; omega) HCN.out (by have := HN.out; omega) ?_; intro g2 c2 zs w2 hc2 hz h2
           have t1 : ¬ c2 = k := by have := HK.out; omega
           have t2 : ¬ c2 = k + 1 := by have := HK.out; omega
           have HZL := hid hz
           have HBC := hid (HSB.out w2 _ (h2.third))
           have HA := hid h2
           clear h2 hz hc2)
        | (refine wpList_copyR Tryz.underlying183 szIP (stabC (rowP_stable _ _ _ _ _) (stabC (blkP_stable _ _) HL.out)) HA.out rfl (.tmp 43) (.tmp 44) rfl k 1 (n + 1 - k) (c2 - k) 1 1 ⟨b, 0, none⟩ ev.toList rfl rfl (M1.out _ (by have := HK.out; omega)) M5.out HBC.out H1.out (by have := HK.out; omega) ?_; intro w3 h3; have HB := hid h3; clear h3))
      refine wp_region_ordQ (.pure 0 (.pure 1 (.pure 2 (.pure 3 (.pure 4 (.pure 5 (.pure 6 (.pure 7 (.eff 8 .nil))))))))) (fun y => True) (fun y => Sts W (rowP 188 2 (.slice (some ⟨g2, 0, none⟩) (n + 1) c2) (n + 1) ((xs.take (k * 2) ++ zs).take (k * 2) ++ ev.toList ++ (xs.take (k * 2) ++ zs).drop (k * 2 + ev.toList.length)) :: rowP 188 2 (.slice (some ⟨g, 0, none⟩) n c) n (xs) :: blkP b (.cells ev 188 (0, 0)) :: l) y) (by kernel_rfl) (by kernel_rfl) (HB.out.drew (stabC (rowP_stable _ _ _ _ _) (stabC (rowP_stable _ _ _ _ _) (stabC (blkP_stable _ _) HL.out)))) (fun y hy => trivial) ?_
      iterate 8
        (apply ordq_pure (ho := rfl)
         · go_simp
         · intro x hx; go_simp; rfl
         apply ordq_norm
         · go_simp; rfl)
      apply ordq_eff (ho := rfl)
      · go_simp
      intro y hy
      refine eff_copyR Tryz.underlying183 szIP (stabC (rowP_stable _ _ _ _ _) (stabC (blkP_stable _ _) HL.out)) hy (.tmp 50) (.tmp 53) rfl (k + 1) (n - k) (n - k) (c2 - (k + 1)) (n - k) (c - k) ⟨g, k * 2, none⟩ (xs.drop (k * 2)) ?_ ?_ (by simp) HCD.out (HSR.out y _ hy.swap) HX1.out (by omega) (fun z hz => trivial) ?_
      · (go_simp; try rfl)
      · (go_simp; try rfl)
      apply ordq_norm
      · go_simp; rfl
      clear hy y
      refine ordq_nil fun z hz => ?_
      have HC := hid hz
      clear hz HB
      go_wp2_with fail
      go_ret
      refine ⟨_, rfl, ?_⟩
      have h10 := Sts.sub HC.out (.cons_cons _ (.cons _ (.cons _ (List.Sublist.refl _))))
      rw [ins_list1 xs zs ev.toList k n 2 HK.out HXL.out HZL.out (by rw [Array.length_toList, HEV.out])] at h10
      exact h10
  · obtain rfl : k = n := by omega
    obtain ⟨a, c, rfl⟩ := own_slice (Sts.rowOwnS' hs)
    have HS := hid hs
    have HXL := hid hxl
    have HN := hid hn
    clear hs hl hev h1 hx1 hk hn hxl hkn
    go_enter Tryz.func99, Tryz.ntmps99
    go_wp2_with (at_builtin; refine wpList_appK Tryz.underlying183 infoP rfl (by decide) (by decide) rfl (.tmp 23) (.tmp 24) rfl HEV.out HS.out HL.out rfl rfl H1.out (by have := HN.out; omega) ?_; intro v' w2 h2; have H2 := hid h2; clear h2)
    all_goals go_ret
    all_goals refine ⟨_, rfl, ?_⟩
    all_goals rw [← HXL.out, List.take_length, List.drop_length, List.append_nil]
    all_goals exact H2.out
end Go.Proofs.YtnklmadmenkdoaaGreat
