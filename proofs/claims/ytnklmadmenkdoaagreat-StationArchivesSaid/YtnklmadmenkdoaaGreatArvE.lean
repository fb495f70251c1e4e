/- Copies of archives. -/
import Derived.Test.YtnklmadmenkdoaaGreatArvD
import Derived.Test.YtnklmadmenkdoaaGreatQArcC
import Derived.Deep.MidRow
set_option linter.unusedVariables false
set_option linter.unusedSimpArgs false
namespace Go.Proofs.YtnklmadmenkdoaaGreat
open Go.RowKit Go.Proofs.Num
section
variable {W w : World} {l : List HProp}
theorem lit0K {W w : World} {l : List HProp} (e : TypeId) (s : Nat) (hl : ∀ B ∈ l, Stable B) (h : Sts W l w) : Sts W (rowP e s (.slice (some ⟨w.heap.size, 0, none⟩) 0 0) 0 [] :: l) (w.alloc (.cells #[] e)) :=
  Sts.weaken (Sts.alloc hl h (.cells #[] e)) (fun F h => ⟨⟨by simp, Or.inr ⟨w.heap.size, 0, #[], rfl, Nat.zero_le _, h.1, Nat.le_refl _, by unfold maxLen; omega, by simp, by simp⟩⟩, fun k => by rw [h.2 k]; simp [Value.ownBlock]; exact eq_comm⟩)
theorem infoPrc3 : (Tryz.prog.info? 188).map (fun i => (i.zero, i.size, i.bytes)) = some (some (.agg #[.int .i64 0, .slice none 0 0]), 2, 32) := by kernel_rfl
theorem infoEnt3 : (Tryz.prog.info? 192).map (fun i => (i.zero, i.size, i.bytes)) = some (some (.agg #[.int .i64 0, .int .i64 0, .int .i64 0, .int .i64 0, .slice none 0 0]), 5, 56) := by kernel_rfl
set_option maxRecDepth 100000 in
set_option maxHeartbeats 2000000 in
theorem cCloneP {L : List HProp} (hL : ∀ B ∈ L, Stable B) {v : Value} {n : Nat} {xs : List Value} (hm : rowP 188 2 v n xs ∈ L) (h1 : ∀ u ∈ xs, u.oneCell' = true) (hn : n < 1000000) (hs : Sts W L w) :
    Calls Tryz.prog 187 #[v] w fun e w' => ∃ r, e = .returned r ∧ Sts W (rowP 188 2 r n xs :: L) w' := by
  have ho := mem_own hs hm
  rcases ho.2 with ⟨rfl, rfl⟩ | ⟨g, c, cur, hv, _⟩
  · have hq := Lib.run_eql_slice_nil (P := Tryz.prog) w 183 188 none 0 0 0 0 Tryz.underlying183
    have hx : xs = [] := List.eq_nil_of_length_eq_zero (by simp [ho.1])
    subst hx
    have HS := hid hs
    clear ho hs hm h1 hn hL
    go_enter Tryz.func187, Tryz.ntmps187
    go_wp2_with fail
    go_ret
    exact ⟨_, rfl, Sts.rowNilS 188 2 HS.out⟩
  · subst hv
    have hq := Lib.run_eql_slice_nil (P := Tryz.prog) w 183 188 (some ⟨g, 0, none⟩) n c 0 0 Tryz.underlying183
    have H1 := hid (lit0K 188 2 hL hs)
    have HY : Hid (∀ j u, xs[j]? = some u → (w.alloc (.cells #[] 188)).cell? ((⟨g, 0, none⟩ : Addr).add j) = some u) := hid (fun j u hj => by
      rw [Addr.add_mid, Nat.zero_add]
      exact mem_cell H1.out (List.mem_cons_of_mem _ hm) j u hj)
    have HXL := hid ho.1
    have HX1 := hid h1
    have HN := hid hn
    have HL := hid hL
    clear ho hs hm h1 hn hL
    go_enter Tryz.func187, Tryz.ntmps187
    go_wp2_with (at_builtin; refine wpList_appRow Tryz.underlying183 infoPrc3 rfl (by decide) (by decide) rfl (.tmp 5) (.tmp 6) rfl H1.out HL.out rfl rfl HXL.out HY.out HX1.out HN.out ?_; intro v1 w1 h2; have H2 := hid h2; clear h2)
    go_ret
    exact ⟨_, rfl, H2.out⟩
set_option maxRecDepth 100000 in
set_option maxHeartbeats 2000000 in
theorem cCloneE {L : List HProp} (hL : ∀ B ∈ L, Stable B) {v : Value} {n : Nat} {xs : List Value} (hm : rowP 192 5 v n xs ∈ L) (h1 : ∀ u ∈ xs, u.oneCell' = true) (hn : n < 1000000) (hs : Sts W L w) :
    Calls Tryz.prog 188 #[v] w fun e w' => ∃ r, e = .returned r ∧ Sts W (rowP 192 5 r n xs :: L) w' := by
  have ho := mem_own hs hm
  rcases ho.2 with ⟨rfl, rfl⟩ | ⟨g, c, cur, hv, _⟩
  · have hq := Lib.run_eql_slice_nil (P := Tryz.prog) w 186 192 none 0 0 0 0 Tryz.underlying186
    have hx : xs = [] := List.eq_nil_of_length_eq_zero (by simp [ho.1])
    subst hx
    have HS := hid hs
    clear ho hs hm h1 hn hL
    go_enter Tryz.func188, Tryz.ntmps188
    go_wp2_with fail
    go_ret
    exact ⟨_, rfl, Sts.rowNilS 192 5 HS.out⟩
  · subst hv
    have hq := Lib.run_eql_slice_nil (P := Tryz.prog) w 186 192 (some ⟨g, 0, none⟩) n c 0 0 Tryz.underlying186
    have H1 := hid (lit0K 192 5 hL hs)
    have HY : Hid (∀ j u, xs[j]? = some u → (w.alloc (.cells #[] 192)).cell? ((⟨g, 0, none⟩ : Addr).add j) = some u) := hid (fun j u hj => by
      rw [Addr.add_mid, Nat.zero_add]
      exact mem_cell H1.out (List.mem_cons_of_mem _ hm) j u hj)
    have HXL := hid ho.1
    have HX1 := hid h1
    have HN := hid hn
    have HL := hid hL
    clear ho hs hm h1 hn hL
    go_enter Tryz.func188, Tryz.ntmps188
    go_wp2_with (at_builtin; refine wpList_appRow Tryz.underlying186 infoEnt3 rfl (by decide) (by decide) rfl (.tmp 5) (.tmp 6) rfl H1.out HL.out rfl rfl HXL.out HY.out HX1.out HN.out ?_; intro v1 w1 h2; have H2 := hid h2; clear h2)
    go_ret
    exact ⟨_, rfl, H2.out⟩
theorem Sts.rowStoresL {e : TypeId} {s g n cap : Nat} (hl : ∀ A ∈ l, Stable A) : ∀ (zs : List Value) (i : Nat) (xs : List Value) (w : World), i + zs.length ≤ xs.length → Sts W (rowP e s (.slice (some ⟨g, 0, none⟩) n cap) n xs :: l) w →
    Sts W (rowP e s (.slice (some ⟨g, 0, none⟩) n cap) n (xs.take i ++ zs ++ xs.drop (i + zs.length)) :: l) (w.setCells g i zs)
  | [], i, xs, w, _, h => by simpa [World.setCells] using h
  | z :: zs, i, xs, w, hi, h => by
    have hi' : i < xs.length := by simp at hi; omega
    have h1 := Sts.rowStoresL hl zs (i + 1) (xs.set i z) _ (by simp at hi ⊢; omega) (Sts.rowStoreC hl h i z)
    have e1 : (xs.set i z).take (i + 1) = xs.take i ++ [z] := by
      rw [List.set_eq_take_append_cons_drop, if_pos hi', List.take_append, List.take_of_length_le (by rw [List.length_take]; omega)]
      rw [List.length_take, Nat.min_eq_left (by omega), show i + 1 - i = 1 by omega]
      rfl
    have e2 : (xs.set i z).drop (i + 1 + zs.length) = xs.drop (i + (z :: zs).length) := by
      rw [List.drop_set_of_lt (by omega)]
      congr 1
      simp
      omega
    rw [e1, e2, List.append_assoc (xs.take i)] at h1
    exact h1
theorem effS_rowL {e : TypeId} {s g n cap : Nat} {xs : List Value} {L : Prop} {o : Oper} {a : Act} {D : WP} {K : Act → WP → WP → Prop} (hL : L) (hS : Sts W (rowP e s (.slice (some ⟨g, 0, none⟩) n cap) n xs :: l) w) (hl : ∀ B ∈ l, Stable B) (p v : Operand) (t : TypeId) (ho : o.op = .store t p v) (j : Nat) (vs : Array Value)
    (hp : a.eval p = .pointer (some ⟨g, j, none⟩)) (hv : a.eval v = .agg vs) (hi : (Tryz.prog.info? t).map (·.size) = some vs.size) (hj : j + vs.toList.length ≤ xs.length) (h1 : vs.all (·.oneCell') = true) (S' : WP) (h : ∀ w', Sts W (rowP e s (.slice (some ⟨g, 0, none⟩) n cap) n (xs.take j ++ vs.toList ++ xs.drop (j + vs.toList.length)) :: l) w' → S' w')
    (hk : K (a.put o.dst undef) (fun _ => True) S') : effUpon Tryz.prog L o.dst a D K ((execOp a.eval o).run Tryz.prog w) := by
  have ht : w.there g j vs.size := fun i hi' => by
    have hlt : j + i < xs.length := by rw [Array.length_toList] at hj; omega
    refine ⟨?_, (Sts.rowOwnS' hS).frozenAt _⟩
    rw [rowCellC hS (j + i) xs[j + i] (List.getElem?_eq_getElem hlt)]
    rfl
  have h2 : (execOp a.eval o).run Tryz.prog w = .ok .skip (w.setCells g j vs.toList) := by
    unfold execOp
    simp only [ho, hp, hv, Instr.storeAt, Instr.sureAddr, Sem.run_bind, Sem.run_pure, Result.andThen_ok, run_storeVar_mid w g j t vs ht hi h1]
  exact effS_skip (fun _ => True) S' hL h2 (h _ (Sts.rowStoresL hl vs.toList j xs w hj hS)) (fun _ _ => trivial) hk
/-- One item of a row of entries stored anew. -/
theorem set_ecl (A B : List EntV) (x y : EntV) (k : Nat) (hA : A.length = k) (hc : x.1.c = y.1.c) : ((A ++ x :: B).flatMap ecl).take (k * 5 + 1) ++ icl y ++ ((A ++ x :: B).flatMap ecl).drop (k * 5 + 1 + 4) = (A ++ y :: B).flatMap ecl := by
  have hl : (A.flatMap ecl).length = k * 5 := by rw [Arc.flat_len ecl 5 ecl_len, hA]
  have e0 : (A ++ x :: B).flatMap ecl = (A.flatMap ecl ++ [.int .i64 x.1.c]) ++ (icl x ++ B.flatMap ecl) := by
    rw [List.flatMap_append, List.flatMap_cons]
    simp [ecl, icl]
  have e1 : (A ++ x :: B).flatMap ecl = ((A.flatMap ecl ++ [.int .i64 x.1.c]) ++ icl x) ++ B.flatMap ecl := by rw [e0]; simp
  have t1 : ((A ++ x :: B).flatMap ecl).take (k * 5 + 1) = A.flatMap ecl ++ [.int .i64 x.1.c] := by
    rw [e0]; exact List.take_left' (by rw [List.length_append, hl]; rfl)
  have t2 : ((A ++ x :: B).flatMap ecl).drop (k * 5 + 1 + 4) = B.flatMap ecl := by
    rw [e1]; exact List.drop_left' (by rw [List.length_append, List.length_append, hl]; rfl)
  rw [t1, t2, List.flatMap_append, List.flatMap_cons, hc]
  simp [ecl, icl]
theorem ok_bounds {N : Nat} {M : List PrcV} (h : Arc.ok N (absA M)) (hN : N ≤ 900) : M.length < 1000 ∧ (∀ p ∈ M, p.2.2.length < 1000) ∧ ∀ p ∈ M, ∀ e ∈ p.2.2, e.1.d.length < 100000 := by
  refine ⟨by have := h.1; rw [absA_len] at this; omega, fun p hp => ?_, fun p hp e he => ?_⟩
  · have h2 := (h.2 _ (List.mem_map.2 ⟨p, hp, rfl⟩)).2.le
    rw [List.length_map] at h2
    omega
  · have h2 := (h.2 _ (List.mem_map.2 ⟨p, hp, rfl⟩)).2.all e.1 (List.mem_map.2 ⟨e, he, rfl⟩)
    omega
set_option maxRecDepth 100000 in
set_option maxHeartbeats 16000000 in
theorem cArcClone (hl : ∀ B ∈ l, Stable B) (q : Nat) (v : Value) (M : List PrcV) (hM : M.length < 1000) (hE : ∀ p ∈ M, p.2.2.length < 1000) (hD : ∀ p ∈ M, ∀ e ∈ p.2.2, e.1.d.length < 100000) (hs : Sts W (arcL q v M l) w) :
    Calls Tryz.prog 90 #[.pointer (some ⟨q, 0, none⟩)] w fun e w' => ∃ o, e = .returned (.pointer (some ⟨o, 0, none⟩)) ∧ Sts W (arcP o (absA M) :: arcL q v M l) w' := by
  have KV := hid (cArcValid q v hs)
  have HL := hid (arcL_stable q v M hl)
  have KC0 := (cCloneP HL.out (List.mem_cons_of_mem _ (List.mem_cons_self ..)) (pcl_one (arcL_slP hs)) (by omega) hs)
  have HSLP := hid (arcL_slP hs)
  have HSLE := hid (arcL_slE hs)
  have HE := hid hE
  have HD := hid hD
  obtain ⟨va, vc, rfl⟩ := own_slice' (Sts.rowOwnS' hs.tail)
  have c1 : w.cell? ⟨q, 1, none⟩ = some (.slice va M.length vc) := (Sts.boxCell hs 1 _ rfl).1
  obtain ⟨N, hN⟩ : ∃ N, N = M.length := ⟨_, rfl⟩
  have HN := hid hN
  have HN1 : Hid (N < 1000) := hid (by rw [hN]; exact hM)
  rw [← hN] at c1
  have KC := hid (show Calls Tryz.prog 187 #[.slice va N vc] w (fun e w' => ∃ r, e = .returned r ∧ Sts W (rowP 188 2 r N (M.flatMap pcl) :: arcL q (.slice va M.length vc) M l) w') from by rw [hN]; exact KC0)
  clear KC0
  clear hs hl hM hE hD hN
  go_enter Tryz.func90, Tryz.ntmps90
  go_wp2_with (go_at_call 91; refine KV.out.mono ?_; rintro e w1 ⟨rfl, rfl⟩)
  refine KC.out.mono ?_
  rintro e w1 ⟨r, rfl, h1⟩
  obtain ⟨oa, oc, hov⟩ : ∃ oa oc, r = .slice oa N oc := own_slice (Sts.rowOwnS' h1)
  subst hov
  have h2 := Sts.alloc (stabC (rowP_stable _ _ _ _ _) HL.out) h1 (.cells #[.bool true, .slice oa N oc] 185)
  have c2 := (Sts.boxCell h2 1 _ rfl).1
  have H2 := hid h2
  clear h1 h2 c1 KC KV
  go_wp2_with fail
  go_loopw [4, 5, 21] (fun _ _ ii wr => ∃ (i : Nat) (N' : List PrcV), i ≤ N ∧ N'.length = i ∧ absA N' = absA (M.take i) ∧ ii = .int .i64 (i : Int) ∧ Sts W (blkP w1.heap.size (.cells #[.bool true, .slice oa N oc] 185 (0, 0)) :: rowP 188 2 (.slice oa N oc) N ((N' ++ M.drop i).flatMap pcl) :: (N'.flatMap prcL ++ arcL q (.slice va M.length vc) M l)) wr) (fun _ _ ii _ => N - (intOf ii).toNat)
  case atStart => exact ⟨0, [], Nat.zero_le _, rfl, by simp [absA], rfl, by simpa using H2.out⟩
  case round =>
    clear H2 c2
    obtain ⟨i, N', hi, hNi, hab, rfl, hs⟩ := hrel
    by_cases hlt : i < N
    · have dk : decide ((i : Int) < (N : Int)) = true := decide_eq_true (by omega)
      have hiM : i < M.length := by rw [← HN.out]; exact hlt
      obtain ⟨p, hp⟩ : ∃ p, p = M[i] := ⟨_, rfl⟩
      have hpm : p ∈ M := by rw [hp]; exact List.getElem_mem hiM
      obtain ⟨g, c, cur, e1, _⟩ := own_ge (Sts.rowOwnS' hs.tail) (by omega)
      injection e1 with e1 e2 e3
      subst e1
      have e4 := e3.symm
      subst e4
      obtain ⟨es, hes⟩ : ∃ es, es = p.2.2 := ⟨_, rfl⟩
      obtain ⟨n, hn⟩ : ∃ n, n = es.length := ⟨_, rfl⟩
      obtain ⟨ea, ec, hev⟩ : ∃ ea ec, p.2.1 = .slice ea n ec := by
        have h := own_slice (mem_own hs (List.mem_cons_of_mem _ (List.mem_cons_of_mem _ (List.mem_append_right _ (arc_memE (l := l) hpm)))))
        rw [← hes, ← hn] at h
        exact h
      have hA : N' ++ M.drop i = N' ++ p :: M.drop (i + 1) := by rw [List.drop_eq_getElem_cons hiM, ← hp]
      have hAl : i < (N' ++ M.drop i).length := by rw [hA]; simp; omega
      have hAg : (N' ++ M.drop i)[i] = p := by
        have h : (N' ++ M.drop i)[i]? = some p := by rw [hA, List.getElem?_append_right (by omega), hNi, Nat.sub_self]; rfl
        exact (List.getElem?_eq_some_iff.1 h).2
      have HQ1 : Hid (((N' ++ M.drop i).flatMap pcl)[i * 2 + 1]? = some (.slice ea n ec)) := hid (by
        have h := Arc.flat_get pcl 2 pcl_len (N' ++ M.drop i) i hAl 1 (by decide)
        rw [h, hAg]
        show some p.2.1 = _
        rw [hev])
      have HR := hid (show ∀ B ∈ (N'.flatMap prcL ++ arcL q (.slice va M.length vc) M l), Stable B from fun B hB => (List.mem_append.1 hB).elim (prcL_stable N' B) (HL.out B))
      have HMEM := hid (show rowP 192 5 (.slice ea n ec) n (es.flatMap ecl) ∈ (N'.flatMap prcL ++ arcL q (.slice va M.length vc) M l) from by
        have h := arc_memE (q := q) (v := .slice va M.length vc) (l := l) hpm
        rw [hev, ← hes, ← hn] at h
        exact List.mem_append_right _ h)
      have hslE : ∀ e ∈ es, slV e.2 := fun e he => HSLE.out p hpm e (by rw [← hes]; exact he)
      have hnE : n < 1000 := by rw [hn, hes]; exact HE.out p hpm
      have KCE := hid (show ∀ y : World, Sts W (blkP w1.heap.size (.cells #[.bool true, .slice (some ⟨g, 0, none⟩) N c] 185 (0, 0)) :: rowP 188 2 (.slice (some ⟨g, 0, none⟩) N c) N ((N' ++ M.drop i).flatMap pcl) :: (N'.flatMap prcL ++ arcL q (.slice va M.length vc) M l)) y → Calls Tryz.prog 188 #[.slice ea n ec] y fun e w' => ∃ r, e = .returned r ∧ Sts W (rowP 192 5 r n (es.flatMap ecl) :: blkP w1.heap.size (.cells #[.bool true, .slice (some ⟨g, 0, none⟩) N c] 185 (0, 0)) :: rowP 188 2 (.slice (some ⟨g, 0, none⟩) N c) N ((N' ++ M.drop i).flatMap pcl) :: (N'.flatMap prcL ++ arcL q (.slice va M.length vc) M l)) w' from fun y hy =>
        cCloneE (stabC (blkP_stable _ _) (stabC (rowP_stable _ _ _ _ _) (HR.out))) (List.mem_cons_of_mem _ (List.mem_cons_of_mem _ HMEM.out)) (ecl_one hslE) (by omega) hy)
      have HXS : Hid (∀ r fs, ((N' ++ M.drop i).flatMap pcl).set (i * 2 + 1) r = ((N' ++ [(p.1, r, fs)]) ++ M.drop (i + 1)).flatMap pcl) := hid (fun r fs => by
        rw [Arc.flat_set pcl 2 pcl_len (N' ++ M.drop i) i hAl 1 (by decide) r (p.1, r, fs) (by rw [hAg]; rfl), hA, List.set_append_right _ _ (by omega), hNi, Nat.sub_self, List.set_cons_zero, List.append_assoc]
        rfl)
      have HAB : Hid (∀ r (fs : List EntV), fs.map (·.1) = es.map (·.1) → absA (N' ++ [(p.1, r, fs)]) = absA (M.take (i + 1))) := hid (fun r fs hf => by
        have h1 : absA (N' ++ [(p.1, r, fs)]) = absA N' ++ [(p.1, fs.map (·.1))] := by simp [absA]
        have h2 : absA (M.take (i + 1)) = absA (M.take i) ++ [(p.1, p.2.2.map (·.1))] := by
          rw [List.take_succ_eq_append_getElem hiM, ← hp]; simp [absA]
        rw [h1, h2, hab, hf, hes])
      have HDE : Hid (∀ e ∈ es, e.1.d.length < 100000) := hid (fun e he => HD.out p hpm e (by rw [← hes]; exact he))
      have HMD : Hid (∀ e ∈ es, rowP 5 1 e.2 e.1.d.length (u8s e.1.d) ∈ (N'.flatMap prcL ++ arcL q (.slice va M.length vc) M l)) := hid (fun e he => List.mem_append_right _ (arc_memD hpm (by rw [← hes]; exact he)))
      have p0 : (0 : Int) ≤ (i : Int) := Int.natCast_nonneg _
      have p1 : (i : Int) < (N : Int) := by omega
      have HI1 : Hid (i + 1 ≤ N) := hid hlt
      have HNI := hid hNi
      have HNE := hid hn
      have HN2 := hid hnE
      have HE8 : Hid (wrap64 ((i : Int) + 1) = ((i + 1 : Nat) : Int)) := hid (by have := HN1.out; unfold wrap64; omega)
      have HSL := hid hslE
      have HS := hid hs
      clear hs hi hNi hab hlt hiM hp hpm hes hn hev hA hAl hAg hslE hnE
      have q1 := (Sts.boxCell HS.out 1 _ rfl).1
      go_wp2_with fail
      refine wp_region_ordQS (fun i => i == 16) (.pure 0 (.pure 1 (.pure 2 (.pure 3 (.pure 4 (.pure 5 (.pure 6 (.pure 7 (.pure 8 (.pure 9 (.pure 10 (.pure 11 (.pure 12 (.eff 13 (.pure 14 (.pure 15 (.eff 16 .nil))))))))))))))))) (fun y => y.cell? ⟨w1.heap.size, 1, none⟩ = some (.slice (some ⟨g, 0, none⟩) N c) ∧ y.cell? ⟨g, i * 2 + 1, none⟩ = some (.slice ea n ec)) (fun y => Sts W (blkP w1.heap.size (.cells #[.bool true, .slice (some ⟨g, 0, none⟩) N c] 185 (0, 0)) :: rowP 188 2 (.slice (some ⟨g, 0, none⟩) N c) N ((N' ++ M.drop i).flatMap pcl) :: (N'.flatMap prcL ++ arcL q (.slice va M.length vc) M l)) y) (by kernel_rfl) (by kernel_rfl) (HS.out.drew (stabC (blkP_stable _ _) (stabC (rowP_stable _ _ _ _ _) (HR.out)))) (fun y hy => ⟨(Sts.boxCell hy 1 _ rfl).1, rowCellC hy.tail _ _ HQ1.out⟩) ?_
      iterate 13
        (apply ordq_pure (ho := rfl)
         · go_simp
         · intro x hx; obtain ⟨x1, x2⟩ := hx; go_simp; rfl
         apply ordq_norm
         · go_simp; rfl)
      apply ordq_eff (ho := rfl)
      · go_simp
      intro y hy
      refine eff_call (f := 188) (by go_simp) (KCE.out y hy) ?_
      rintro e w3 ⟨r, rfl, h3⟩
      obtain ⟨ra, rc, rfl⟩ := own_slice (Sts.rowOwnS' h3)
      refine ⟨_, rfl, (fun y => y.cell? ⟨w1.heap.size, 1, none⟩ = some (.slice (some ⟨g, 0, none⟩) N c) ∧ y.cell? ⟨g, i * 2 + 1, none⟩ = some (.slice ea n ec)), (fun y => Sts W (rowP 192 5 (.slice ra n rc) n (es.flatMap ecl) :: blkP w1.heap.size (.cells #[.bool true, .slice (some ⟨g, 0, none⟩) N c] 185 (0, 0)) :: rowP 188 2 (.slice (some ⟨g, 0, none⟩) N c) N ((N' ++ M.drop i).flatMap pcl) :: (N'.flatMap prcL ++ arcL q (.slice va M.length vc) M l)) y), h3, (fun y hy => ⟨(Sts.boxCell hy.tail 1 _ rfl).1, rowCellC hy.tail.tail _ _ HQ1.out⟩), (fun _ h => h), ?_⟩
      clear h3 hy y 
      apply ordq_norm
      · go_simp; rfl
      iterate 2
        (apply ordq_pure (ho := rfl)
         · go_simp
         · intro x hx; obtain ⟨x1, x2⟩ := hx; go_simp; rfl
         apply ordq_norm
         · go_simp; rfl)
      apply ordq_eff (ho := rfl)
      · go_simp
      intro y hy
      refine effS_rowC rfl (hy.perm (List.perm_middle (l₁ := [_, _]))) (stabC (rowP_stable _ _ _ _ _) (stabC (blkP_stable _ _) (HR.out))) (.tmp 39) (.tmp 37) 186 rfl (i * 2 + 1) (.slice ra n rc) _ ?_ ?_ szSlE HQ1.out rfl (fun y' => Sts W (rowP 188 2 (.slice (some ⟨g, 0, none⟩) N c) N (((N' ++ M.drop i).flatMap pcl).set (i * 2 + 1) (.slice ra n rc)) :: rowP 192 5 (.slice ra n rc) n (es.flatMap ecl) :: blkP w1.heap.size (.cells #[.bool true, .slice (some ⟨g, 0, none⟩) N c] 185 (0, 0)) :: (N'.flatMap prcL ++ arcL q (.slice va M.length vc) M l)) y') (fun y' hy' => hy') ?_
      · go_simp
      · go_simp
      apply ordq_norm
      · go_simp; rfl
      clear hy y
      refine ordq_nil fun z hz => ?_
      have HZ := hid hz
      clear hz HS
      have q1 := (Sts.boxCell HZ.out.tail.tail 1 _ rfl).1
      have q2 : z.cell? ⟨g, i * 2 + 1, none⟩ = some (.slice ra n rc) := by
        refine rowCellC HZ.out _ _ ?_
        rw [List.getElem?_set_self]
        exact (List.getElem?_eq_some_iff.1 HQ1.out).1
      have H3 := hid HZ.out.swap
      clear HZ
      go_wp2_with fail
      go_loopw [5, 49] (fun _ kk wr2 => ∃ (k : Nat) (fs : List EntV), k ≤ n ∧ fs.length = k ∧ fs.map (·.1) = (es.take k).map (·.1) ∧ kk = .int .i64 (k : Int) ∧ Sts W (rowP 192 5 (.slice ra n rc) n ((fs ++ es.drop k).flatMap ecl) :: rowP 188 2 (.slice (some ⟨g, 0, none⟩) N c) N (((N' ++ M.drop i).flatMap pcl).set (i * 2 + 1) (.slice ra n rc)) :: blkP w1.heap.size (.cells #[.bool true, .slice (some ⟨g, 0, none⟩) N c] 185 (0, 0)) :: (datL fs ++ (N'.flatMap prcL ++ arcL q (.slice va M.length vc) M l))) wr2) (fun _ kk _ => n - (intOf kk).toNat)
      case atStart => exact ⟨0, [], Nat.zero_le _, rfl, by simp, rfl, by simpa [datL] using H3.out⟩
      case round =>
        clear H3 q1 q2
        obtain ⟨k, fs, hk, hfk, hfm, rfl, hs2⟩ := hrel
        by_cases hlt2 : k < n
        · have dk2 : decide ((k : Int) < (n : Int)) = true := decide_eq_true (by omega)
          have hkE : k < es.length := by rw [← HNE.out]; exact hlt2
          obtain ⟨h, c9, cur9, e9, _⟩ := own_ge (Sts.rowOwnS' hs2) (by omega)
          injection e9 with e9 _ e8
          subst e9
          subst e8
          obtain ⟨x, hx⟩ : ∃ x, x = es[k] := ⟨_, rfl⟩
          have hxm : x ∈ es := by rw [hx]; exact List.getElem_mem hkE
          obtain ⟨X, hX⟩ : ∃ X, X = x.1 := ⟨_, rfl⟩
          have hmd := HMD.out x hxm
          have hdl := HDE.out x hxm
          obtain ⟨da, dc, hxv⟩ : ∃ da dc, x.2 = .slice da X.d.length dc := by
            rw [hX]
            exact own_slice (mem_own hs2 (List.mem_cons_of_mem _ (List.mem_cons_of_mem _ (List.mem_cons_of_mem _ (List.mem_append_right _ hmd)))))
          rw [hxv, ← hX] at hmd
          rw [← hX] at hdl
          have hdr : fs ++ es.drop k = fs ++ x :: es.drop (k + 1) := by rw [List.drop_eq_getElem_cons hkE, ← hx]
          have hEx : x = (X, .slice da X.d.length dc) := Prod.ext hX.symm hxv
          have hdrl : k < (fs ++ es.drop k).length := by rw [hdr]; simp; omega
          have hdg : (fs ++ es.drop k)[k] = x := by
            have h : (fs ++ es.drop k)[k]? = some x := by rw [hdr, List.getElem?_append_right (by omega), hfk, Nat.sub_self]; rfl
            exact (List.getElem?_eq_some_iff.1 h).2
          have HCL : Hid (∀ j v, ([.int .i64 (X.a : Int), .int .i64 (X.n : Int), .int .i64 (X.t : Int), .slice da X.d.length dc] : List Value)[j]? = some v → ((fs ++ es.drop k).flatMap ecl)[k * 5 + 1 + j]? = some v) := hid (fun j v hv => by
            have hj : j < 4 := (List.getElem?_eq_some_iff.1 hv).1
            have h := ecl_get (fs ++ es.drop k) k hdrl (1 + j) (by omega)
            rw [hdg, hEx, ← Nat.add_assoc] at h
            rw [h, Nat.add_comm 1 j]
            exact hv)
          have HLEN : Hid (k * 5 + 1 + 4 ≤ ((fs ++ es.drop k).flatMap ecl).length) := hid (by
            rw [Arc.flat_len ecl 5 ecl_len]
            omega)
          have HDP := hid (show ∀ (T : List HProp) (y : World), Sts W (rowP 192 5 (.slice (some ⟨h, 0, none⟩) n rc) n ((fs ++ es.drop k).flatMap ecl) :: rowP 188 2 (.slice (some ⟨g, 0, none⟩) N c) N (((N' ++ M.drop i).flatMap pcl).set (i * 2 + 1) (.slice (some ⟨h, 0, none⟩) n rc)) :: blkP w1.heap.size (.cells #[.bool true, .slice (some ⟨g, 0, none⟩) N c] 185 (0, 0)) :: T) y → y.cell? ⟨w1.heap.size, 1, none⟩ = some (.slice (some ⟨g, 0, none⟩) N c) ∧ y.cell? ⟨g, i * 2 + 1, none⟩ = some (.slice (some ⟨h, 0, none⟩) n rc) ∧ (loadVar 102 ⟨h, k * 5 + 1, none⟩).run Tryz.prog y = .ok (.agg (itmV X.a X.n X.t (.slice da X.d.length dc))) y from fun T y hy => ⟨(Sts.boxCell hy.tail.tail 1 _ rfl).1, rowCellC hy.tail _ _ (by rw [List.getElem?_set_self]; exact (List.getElem?_eq_some_iff.1 HQ1.out).1), run_loadVar_mid (P := Tryz.prog) y h (k * 5 + 1) 102 _ _ (fun j v hv => rowCellC hy _ _ (HCL.out j v hv)) Tryz.underlying102 rfl infoItm⟩)
          have KD := hid (show ∀ y : World, Sts W (rowP 192 5 (.slice (some ⟨h, 0, none⟩) n rc) n ((fs ++ es.drop k).flatMap ecl) :: rowP 188 2 (.slice (some ⟨g, 0, none⟩) N c) N (((N' ++ M.drop i).flatMap pcl).set (i * 2 + 1) (.slice (some ⟨h, 0, none⟩) n rc)) :: blkP w1.heap.size (.cells #[.bool true, .slice (some ⟨g, 0, none⟩) N c] 185 (0, 0)) :: (datL fs ++ (N'.flatMap prcL ++ arcL q (.slice va M.length vc) M l))) y → Calls Tryz.prog 94 #[.agg (itmV X.a X.n X.t (.slice da X.d.length dc))] y fun e w' => ∃ r, e = .returned (.agg (itmV X.a X.n X.t r)) ∧ New y w' 5 r (u8s X.d) from fun y hy => by
            have ho := mem_own hy (List.mem_cons_of_mem _ (List.mem_cons_of_mem _ (List.mem_cons_of_mem _ (List.mem_append_right _ hmd))))
            exact cArcDup y _ _ _ _ _ (Rd.of_own ho (u8s_len _)) (NilOk.own ho) (by omega))
          have HSET : Hid (∀ sa sc, ((fs ++ es.drop k).flatMap ecl).take (k * 5 + 1) ++ (itmV X.a X.n X.t (.slice sa X.d.length sc)).toList ++ ((fs ++ es.drop k).flatMap ecl).drop (k * 5 + 1 + 4) = ((fs ++ [(X, Value.slice sa X.d.length sc)]) ++ es.drop (k + 1)).flatMap ecl) := hid (fun sa sc => by
            have h := set_ecl fs (es.drop (k + 1)) x (X, Value.slice sa X.d.length sc) k hfk (by rw [hX])
            rw [hdr, List.append_assoc fs]
            exact h)
          have HTK : Hid ((es.take (k + 1)).map (·.1) = fs.map (·.1) ++ [X]) := hid (by rw [List.take_succ_eq_append_getElem hkE, List.map_append, ← hfm, hX, hx]; rfl)
          have i0 : (0 : Int) ≤ (k : Int) := Int.natCast_nonneg _
          have i1 : (k : Int) < (n : Int) := by omega
          have HK1 : Hid (k + 1 ≤ n) := hid hlt2
          have HFK := hid hfk
          have HE9 : Hid (wrap64 ((k : Int) + 1) = ((k + 1 : Nat) : Int)) := hid (by have := HN2.out; unfold wrap64; omega)
          have HI := hid hs2
          clear hs2 hk hfk hfm hlt2 hkE hx hxm hX hmd hdl hxv hdr hEx hdrl hdg
          go_wp2_with fail
          refine wp_region_ordQS (fun i => i == 24) (.pure 0 (.pure 1 (.pure 2 (.pure 3 (.pure 4 (.pure 5 (.pure 6 (.pure 7 (.pure 8 (.pure 9 (.pure 10 (.pure 11 (.pure 12 (.pure 13 (.pure 14 (.pure 15 (.pure 16 (.pure 17 (.pure 18 (.pure 19 (.pure 20 (.eff 21 (.pure 22 (.pure 23 (.eff 24 .nil))))))))))))))))))))))))) (fun y => y.cell? ⟨w1.heap.size, 1, none⟩ = some (.slice (some ⟨g, 0, none⟩) N c) ∧ y.cell? ⟨g, i * 2 + 1, none⟩ = some (.slice (some ⟨h, 0, none⟩) n rc) ∧ (loadVar 102 ⟨h, k * 5 + 1, none⟩).run Tryz.prog y = .ok (.agg (itmV X.a X.n X.t (.slice da X.d.length dc))) y) (fun y => Sts W (rowP 192 5 (.slice (some ⟨h, 0, none⟩) n rc) n ((fs ++ es.drop k).flatMap ecl) :: rowP 188 2 (.slice (some ⟨g, 0, none⟩) N c) N (((N' ++ M.drop i).flatMap pcl).set (i * 2 + 1) (.slice (some ⟨h, 0, none⟩) n rc)) :: blkP w1.heap.size (.cells #[.bool true, .slice (some ⟨g, 0, none⟩) N c] 185 (0, 0)) :: (datL fs ++ (N'.flatMap prcL ++ arcL q (.slice va M.length vc) M l))) y) (by kernel_rfl) (by kernel_rfl) (HI.out.drew (stabC (rowP_stable _ _ _ _ _) (stabC (rowP_stable _ _ _ _ _) (stabC (blkP_stable _ _) ((datL_stable fs HR.out)))))) (fun y hy => HDP.out _ y hy) ?_
          iterate 20
            (apply ordq_pure (ho := rfl)
             · go_simp
             · intro x hx; obtain ⟨x1, x2, x3⟩ := hx; go_simp; rfl
             apply ordq_norm
             · go_simp; rfl)
          apply ordq_pure (ho := rfl)
          · go_simp
          · exact fun x hx => exec_ldS (.tmp 71) 102 rfl rfl hx.2.2
          apply ordq_norm
          · go_simp; rfl
          apply ordq_eff (ho := rfl)
          · go_simp
          intro y hy
          refine eff_call (f := 94) (by go_simp) (KD.out y hy) ?_
          rintro e w3 ⟨r, rfl, hn⟩
          obtain ⟨sa, sc, hr⟩ : ∃ sa sc, r = .slice sa X.d.length sc := by
            obtain ⟨x, y, e⟩ := own_slice hn.1
            rw [u8s_len] at e
            exact ⟨x, y, e⟩
          subst hr
          have h3 := Sts.new (stabC (rowP_stable _ _ _ _ _) (stabC (rowP_stable _ _ _ _ _) (stabC (blkP_stable _ _) ((datL_stable fs HR.out))))) hy hn
          rw [u8s_len] at h3
          refine ⟨_, rfl, (fun y => y.cell? ⟨w1.heap.size, 1, none⟩ = some (.slice (some ⟨g, 0, none⟩) N c) ∧ y.cell? ⟨g, i * 2 + 1, none⟩ = some (.slice (some ⟨h, 0, none⟩) n rc) ∧ (loadVar 102 ⟨h, k * 5 + 1, none⟩).run Tryz.prog y = .ok (.agg (itmV X.a X.n X.t (.slice da X.d.length dc))) y), (fun y => Sts W (rowP 5 1 (.slice sa X.d.length sc) X.d.length (u8s X.d) :: rowP 192 5 (.slice (some ⟨h, 0, none⟩) n rc) n ((fs ++ es.drop k).flatMap ecl) :: rowP 188 2 (.slice (some ⟨g, 0, none⟩) N c) N (((N' ++ M.drop i).flatMap pcl).set (i * 2 + 1) (.slice (some ⟨h, 0, none⟩) n rc)) :: blkP w1.heap.size (.cells #[.bool true, .slice (some ⟨g, 0, none⟩) N c] 185 (0, 0)) :: (datL fs ++ (N'.flatMap prcL ++ arcL q (.slice va M.length vc) M l))) y), h3, (fun y hy => HDP.out _ y hy.tail), (fun _ h => h), ?_⟩
          clear h3 hy y hn
          apply ordq_norm
          · go_simp; rfl
          iterate 2
            (apply ordq_pure (ho := rfl)
             · go_simp
             · intro x hx; obtain ⟨x1, x2, x3⟩ := hx; go_simp; rfl
             apply ordq_norm
             · go_simp; rfl)
          apply ordq_eff (ho := rfl)
          · go_simp
          intro y hy
          refine effS_rowL rfl hy.swap (stabC (rowP_stable _ _ _ _ _) (stabC (rowP_stable _ _ _ _ _) (stabC (blkP_stable _ _) ((datL_stable fs HR.out))))) (.tmp 75) (.tmp 73) 102 rfl (k * 5 + 1) (itmV X.a X.n X.t (.slice sa X.d.length sc)) ?_ ?_ infoItm HLEN.out (by simp [itmV, Value.oneCell']) (fun y' => Sts W (rowP 192 5 (.slice (some ⟨h, 0, none⟩) n rc) n (((fs ++ es.drop k).flatMap ecl).take (k * 5 + 1) ++ (itmV X.a X.n X.t (.slice sa X.d.length sc)).toList ++ ((fs ++ es.drop k).flatMap ecl).drop (k * 5 + 1 + 4)) :: rowP 5 1 (.slice sa X.d.length sc) X.d.length (u8s X.d) :: rowP 188 2 (.slice (some ⟨g, 0, none⟩) N c) N (((N' ++ M.drop i).flatMap pcl).set (i * 2 + 1) (.slice (some ⟨h, 0, none⟩) n rc)) :: blkP w1.heap.size (.cells #[.bool true, .slice (some ⟨g, 0, none⟩) N c] 185 (0, 0)) :: (datL fs ++ (N'.flatMap prcL ++ arcL q (.slice va M.length vc) M l))) y') (fun y' hy' => hy') ?_
          · go_simp
          · go_simp
          apply ordq_norm
          · go_simp; rfl
          clear hy y
          refine ordq_nil fun z hz => ?_
          have HZ := hid hz
          clear hz HI
          have H9 := hid (show Sts W (rowP 192 5 (.slice (some ⟨h, 0, none⟩) n rc) n (((fs ++ [(X, Value.slice sa X.d.length sc)]) ++ es.drop (k + 1)).flatMap ecl) :: rowP 188 2 (.slice (some ⟨g, 0, none⟩) N c) N (((N' ++ M.drop i).flatMap pcl).set (i * 2 + 1) (.slice (some ⟨h, 0, none⟩) n rc)) :: blkP w1.heap.size (.cells #[.bool true, .slice (some ⟨g, 0, none⟩) N c] 185 (0, 0)) :: (datL (fs ++ [(X, Value.slice sa X.d.length sc)]) ++ (N'.flatMap prcL ++ arcL q (.slice va M.length vc) M l))) z from by
            have h1 := HZ.out
            rw [HSET.out] at h1
            have h2 := h1.perm (.cons _ (List.perm_middle (l₁ := _ :: _ :: datL fs)).symm)
            rw [datL_snoc, List.append_assoc (datL fs)]
            exact h2)
          clear HZ
          go_wp2_with fail
          go_roundw
          case rel => exact ⟨k + 1, fs ++ [(X, Value.slice sa X.d.length sc)], HK1.out, by rw [List.length_append, HFK.out]; rfl, by rw [HTK.out, List.map_append]; rfl, congrArg (Value.int .i64) HE9.out, H9.out⟩
          case measure =>
            rw [HE9.out]
            have := HK1.out
            simp [intOf]
            omega
        · obtain rfl : k = n := by omega
          have dk2 : decide ((k : Int) < (k : Int)) = false := decide_eq_false (by omega)
          have hfm2 : fs.map (·.1) = es.map (·.1) := by rw [hfm, HNE.out, List.take_of_length_le (Nat.le_refl _)]
          have HAB2 := hid (HAB.out (Value.slice ra k rc) fs hfm2)
          have H9 := hid (show Sts W (blkP w1.heap.size (.cells #[.bool true, .slice (some ⟨g, 0, none⟩) N c] 185 (0, 0)) :: rowP 188 2 (.slice (some ⟨g, 0, none⟩) N c) N (((N' ++ [(p.1, Value.slice ra k rc, fs)]) ++ M.drop (i + 1)).flatMap pcl) :: ((N' ++ [(p.1, Value.slice ra k rc, fs)]).flatMap prcL ++ arcL q (.slice va M.length vc) M l)) wr from by
            have h1 := hs2
            rw [HXS.out _ fs, show es.drop k = [] by rw [HNE.out]; exact List.drop_of_length_le (Nat.le_refl _), List.append_nil] at h1
            have h2 := ((h1).perm (List.perm_middle (l₁ := [_, _]))).perm (.cons _ (List.perm_middle (l₁ := [_])))
            have h3 := h2.perm (.cons _ (.cons _ (show List.Perm (rowP 192 5 (.slice ra k rc) k (fs.flatMap ecl) :: (datL fs ++ (N'.flatMap prcL ++ arcL q (.slice va M.length vc) M l))) (N'.flatMap prcL ++ ((rowP 192 5 (.slice ra k rc) k (fs.flatMap ecl) :: datL fs) ++ arcL q (.slice va M.length vc) M l)) from by
              rw [← List.cons_append, ← List.append_assoc, ← List.append_assoc]
              exact List.perm_append_comm.append_right _)))
            have e5 : (N' ++ [(p.1, Value.slice ra k rc, fs)]).flatMap prcL ++ arcL q (.slice va M.length vc) M l = N'.flatMap prcL ++ ((rowP 192 5 (.slice ra k rc) k (fs.flatMap ecl) :: datL fs) ++ arcL q (.slice va M.length vc) M l) := by
              rw [List.flatMap_append, List.append_assoc]
              simp only [List.flatMap_cons, List.flatMap_nil, List.append_nil, prcL, hfk]
            rw [e5]
            exact h3)
          clear hs2 hk hfk hfm hfm2 hlt2
          go_wp2_with fail
          go_roundw
          case rel => exact ⟨i + 1, N' ++ [(p.1, Value.slice ra k rc, fs)], HI1.out, by rw [List.length_append, HNI.out]; rfl, HAB2.out, congrArg (Value.int .i64) HE8.out, H9.out⟩
          case measure =>
            rw [HE8.out]
            have := HI1.out
            simp [intOf]
            omega
    · obtain rfl : i = N := by omega
      have dk : decide ((i : Int) < (i : Int)) = false := decide_eq_false (by omega)
      have hab2 : absA N' = absA M := by rw [hab, HN.out, List.take_of_length_le (Nat.le_refl _)]
      rw [show M.drop i = [] by rw [HN.out]; exact List.drop_of_length_le (Nat.le_refl _), List.append_nil] at hs
      have H9 := hid (show Sts W (arcP w1.heap.size (absA M) :: arcL q (.slice va M.length vc) M l) wr from by
        rw [← hab2]
        refine Sts.closeA (q := w1.heap.size) (v := .slice oa i oc) (M := N') ?_
        unfold arcL at hs ⊢
        rw [hNi]
        exact hs)
      clear hs hi hlt hNi hab hab2
      go_wp2_with fail
      go_ret
      exact ⟨_, rfl, H9.out⟩
theorem cArcCloneP (hl : ∀ B ∈ l, Stable B) (q N : Nat) (A : Arc.Arch) (hok : Arc.ok N A) (hN : N ≤ 900) (hs : Sts W (arcP q A :: l) w) :
    Calls Tryz.prog 90 #[.pointer (some ⟨q, 0, none⟩)] w fun e w' => ∃ o, e = .returned (.pointer (some ⟨o, 0, none⟩)) ∧ Sts W (arcP o A :: arcP q A :: l) w' := by
  obtain ⟨v, M, rfl, h⟩ := Sts.openA hs
  obtain ⟨h1, h2, h3⟩ := ok_bounds hok hN
  refine (cArcClone hl q v M h1 h2 h3 h).mono ?_
  rintro e w' ⟨o, rfl, h9⟩
  refine ⟨o, rfl, ?_⟩
  have h10 := Sts.closeA (l := arcP o (absA M) :: l) (q := q) (v := v) (M := M) (by
    have hp := h9.perm (show List.Perm (arcP o (absA M) :: arcL q v M l) (arcL q v M (arcP o (absA M) :: l)) from by
      unfold arcL
      exact (List.perm_middle (l₁ := blkP q _ :: rowP _ _ _ _ _ :: M.flatMap prcL)).symm)
    exact hp)
  exact h10.swap
theorem cArcItemsP (hl : ∀ B ∈ l, Stable B) (q N : Nat) (A : Arc.Arch) (hok : Arc.ok N A) (hN : N ≤ 900) (a : Nat) (hs : Sts W (arcP q A :: l) w) :
    Calls Tryz.prog 32 #[.pointer (some ⟨q, 0, none⟩), .int .i64 (a : Int)] w fun e w' => ∃ ov es, e = .returned ov ∧ es.map (·.1) = Arc.itms A a ∧ Sts W (itmL ov es (arcP q A :: l)) w' := by
  obtain ⟨v, M, rfl, h⟩ := Sts.openA hs
  obtain ⟨h1, h2, h3⟩ := ok_bounds hok hN
  refine (cArcItems hl q v M h1 h2 h3 a h).mono ?_
  rintro e w' ⟨ov, es, rfl, he, h9⟩
  refine ⟨ov, es, rfl, he, ?_⟩
  have hp := h9.perm (show List.Perm (itmL ov es (arcL q v M l)) (arcL q v M (itmL ov es l)) from by
    have e1 := arcL_app q v M l
    have e2 := arcL_app q v M (itmL ov es l)
    have e3 : ∀ m : List HProp, itmL ov es m = itmL ov es [] ++ m := fun m => by simp [itmL]
    rw [e1, e2, e3, e3 l, ← List.append_assoc, ← List.append_assoc]
    exact List.perm_append_comm.append_right _)
  have h10 := Sts.closeA hp
  have h11 := h10.perm (show List.Perm (arcP q (absA M) :: itmL ov es l) (itmL ov es (arcP q (absA M) :: l)) from by
    have e3 : ∀ m : List HProp, itmL ov es m = itmL ov es [] ++ m := fun m => by simp [itmL]
    rw [e3, e3 (arcP q (absA M) :: l)]
    exact List.perm_middle.symm)
  exact h11
theorem cArcLenP (hl : ∀ B ∈ l, Stable B) (q N : Nat) (A : Arc.Arch) (hok : Arc.ok N A) (hN : N ≤ 900) (hs : Sts W (arcP q A :: l) w) :
    Calls Tryz.prog 30 #[.pointer (some ⟨q, 0, none⟩)] w fun e w' => e = .returned (.int .i64 ((Arc.cnt A : Nat) : Int)) ∧ Sts W (arcP q A :: l) w' := by
  obtain ⟨v, M, rfl, h⟩ := Sts.openA hs
  obtain ⟨h1, h2, h3⟩ := ok_bounds hok hN
  refine (cArcLen hl q v M h1 h2 h).mono ?_
  rintro e w' ⟨rfl, h9⟩
  exact ⟨rfl, Sts.closeA h9⟩
end
end Go.Proofs.YtnklmadmenkdoaaGreat
