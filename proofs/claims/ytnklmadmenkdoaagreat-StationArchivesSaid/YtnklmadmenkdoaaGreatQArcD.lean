/- A packet of a known process comes into the archive. -/
import Derived.Test.YtnklmadmenkdoaaGreatQArcC
set_option linter.unusedVariables false
set_option linter.unusedSimpArgs false
namespace Go.Proofs.YtnklmadmenkdoaaGreat
open Go.RowKit Go.Proofs.Num
section
variable {W w : World} {l : List HProp}
theorem byCont {A B C : Type} {P S : A → B → C → World → Prop} {G : Prop} (main : (∀ a b c z, S a b c z → P a b c z) → G) (k : ∀ a b c z, S a b c z → P a b c z) : G := main k
set_option maxRecDepth 100000 in
set_option maxHeartbeats 16000000 in
theorem cAddOld {rest : List HProp} (hl : ∀ B ∈ rest, Stable B) (q g h N vc K kc f : Nat) (xs es : List Value) (m : Arc.Arch) (hx : ∀ k (hk : k < m.length), xs[k * 2]? = some (.int .i64 (m[k].1 : Int))) (hN : N = m.length) (hn : N < 1000) (ents : List Arc.Ent) (hK : K = ents.length) (hK1 : 1 ≤ K) (hK2 : K < 1000) (hes : ∀ i (hi : i < ents.length), es[i * 5]? = some (.int .i64 ents[i].c)) (hes1 : ∀ u ∈ es, u.oneCell' = true) (htop : 0 ≤ Arc.top ents) (htop2 : Arc.top ents < 100000000)
    (a n t : Nat) (da : Option Addr) (dc : Nat) (d : List Nat) (hf : f = Arc.find a m) (hyes : Arc.isA a m (Arc.find a m) = true) (hfx : xs[f * 2 + 1]? = some (.slice (some ⟨h, 0, none⟩) K kc)) (ha : a ≤ 2046) (hnn : n < 16384) (ht : t ≤ 1099511627776) (hd : d.length ≤ 4096) (hR : Rds W rest (.slice da d.length dc) (u8s d)) (hv : NilOk (.slice da d.length dc))
    (X : Int) (hX : X = Arc.ext (Arc.top ents).toNat n) (k : Nat) (hk : k = Arc.pos ents X K)
    (hno : Arc.has ents k X = false)
    (hs : Sts W (blkP q (.cells #[.bool true, .slice (some ⟨g, 0, none⟩) N vc] 185 (0, 0)) :: rowP 188 2 (.slice (some ⟨g, 0, none⟩) N vc) N xs :: rowP 192 5 (.slice (some ⟨h, 0, none⟩) K kc) K es :: rest) w) :
    Calls Tryz.prog 36 #[.pointer (some ⟨q, 0, none⟩), .agg (itmV a n t (.slice da d.length dc))] w fun e w' => e = .returned (.int .i64 0) ∧ ∃ v' dv', Sts W (blkP q (.cells #[.bool true, .slice (some ⟨g, 0, none⟩) N vc] 185 (0, 0)) :: rowP 188 2 (.slice (some ⟨g, 0, none⟩) N vc) N (xs.set (f * 2 + 1) v') :: rowP 192 5 v' (K + 1) (es.take (k * 5) ++ [.int .i64 X, .int .i64 (a : Int), .int .i64 (n : Int), .int .i64 (t : Int), dv'] ++ es.drop (k * 5)) :: rowP 5 1 dv' d.length (u8s d) :: rest) w' := by
  have KF := hid (fun (y : World) (L : List HProp) (hy : Sts W (blkP q (.cells #[.bool true, .slice (some ⟨g, 0, none⟩) m.length vc] 185 (0, 0)) :: rowP 188 2 (.slice (some ⟨g, 0, none⟩) m.length vc) m.length xs :: L) y) => cArcFind q (.slice (some ⟨g, 0, none⟩) m.length vc) xs m hx (hN ▸ hn) hy a)
  rw [hyes, ← hf, ← hN] at KF
  have hfN : f < N := by
    rcases Nat.lt_or_ge f N with h1 | h1
    · exact h1
    · rw [hf, hN] at h1; rw [Arc.isA_end a m _ h1] at hyes; cases hyes
  have fN : (f : Int) < (N : Int) := by omega
  obtain ⟨T, hT⟩ : ∃ T, T = (Arc.top ents).toNat := ⟨_, rfl⟩
  rw [← hT] at hX
  obtain ⟨J, hJ⟩ : ∃ J, J = K - 1 := ⟨_, rfl⟩
  have hJe : es[J * 5]? = some (.int .i64 (T : Int)) := by
    have h1 := hes J (by omega)
    have h2 : Arc.top ents = ents[J].c := by
      unfold Arc.top
      rw [List.getD_eq_getElem?_getD, show ents.length - 1 = J by omega, List.getElem?_eq_getElem (by omega)]; rfl
    rw [h1, ← h2, hT, Int.toNat_of_nonneg htop]
  have HS := hid (((Sts.alloc (stabC (blkP_stable _ _) (stabC (rowP_stable _ _ _ _ _) (stabC (rowP_stable _ _ _ _ _) hl))) hs (.cells (itmV a n t (.slice da d.length dc)) 102)).swap))
  have HL := hid hl
  have HES1 := hid hes1
  have HES := hid hes
  have HKL := hid hK
  have HK1 := hid hK1
  have KV := hid (fun (y : World) (hy : Sts W (blkP q (.cells #[.bool true, .slice (some ⟨g, 0, none⟩) N vc] 185 (0, 0)) :: blkP w.heap.size (.cells (itmV a n t (.slice da d.length dc)) 102 (0, 0)) :: rowP 188 2 (.slice (some ⟨g, 0, none⟩) N vc) N xs :: rowP 192 5 (.slice (some ⟨h, 0, none⟩) K kc) K es :: rest) y) => cArcValid q (.slice (some ⟨g, 0, none⟩) N vc) hy)
  have KR := hid (fun (y : World) => cArcRight y a n t da d.length dc ha hnn ht hd)
  have KE := hid (fun (y : World) => cArcExt y T n (by omega) hnn)
  rw [← hX] at KE
  have KD := hid (fun (y : World) (hy : Sts W (blkP q (.cells #[.bool true, .slice (some ⟨g, 0, none⟩) N vc] 185 (0, 0)) :: blkP w.heap.size (.cells (itmV a n t (.slice da d.length dc)) 102 (0, 0)) :: rowP 188 2 (.slice (some ⟨g, 0, none⟩) N vc) N xs :: rowP 192 5 (.slice (some ⟨h, 0, none⟩) K kc) K es :: rest) y) => cArcDup y a n t (.slice da d.length dc) d (hR _ _ (Sts.sub hy (.cons_cons _ (.cons _ (.cons _ (.cons _ (List.Sublist.refl _))))))) hv (by omega))
  have HDP := hid (show ∀ (T2 : List HProp) (y : World), Sts W (blkP q (.cells #[.bool true, .slice (some ⟨g, 0, none⟩) N vc] 185 (0, 0)) :: blkP w.heap.size (.cells (itmV a n t (.slice da d.length dc)) 102 (0, 0)) :: rowP 188 2 (.slice (some ⟨g, 0, none⟩) N vc) N xs :: rowP 192 5 (.slice (some ⟨h, 0, none⟩) K kc) K es :: T2) y → y.cell? ⟨g, f * 2 + 1, none⟩ = some (.slice (some ⟨h, 0, none⟩) K kc) ∧ y.cell? ⟨h, J * 5, none⟩ = some (.int .i64 (T : Int)) ∧ y.cell? ⟨w.heap.size, 1, none⟩ = some (.int .i64 (n : Int)) ∧ (loadVar 102 ⟨w.heap.size, 0, none⟩).run Tryz.prog y = .ok (.agg (itmV a n t (.slice da d.length dc))) y from fun T2 y hy => ⟨rowCellC (hy.perm (List.perm_middle (l₁ := [_, _]))) _ _ hfx, rowCellC (hy.perm (List.perm_middle (l₁ := [_, _, _]))) _ _ hJe, (Sts.boxCell hy.swap 1 _ rfl).1, ldItm (cs := itmV a n t (.slice da d.length dc)) rfl hy.swap⟩)
  have W1 : wrap64 ((K : Int) - 1) = (J : Int) := by unfold wrap64; omega
  have W2 : IntKind.i64.wrap ((K : Int) - 1) = (J : Int) := by rw [IntKind.wrap_i64]; omega
  have JK : (J : Int) < (K : Int) := by omega
  have JKn : J < K := by omega
  have HFN := hid hfN
  have HK2 := hid hK2
  have HKP := hid hk
  have HFX := hid hfx
  have HNO : Hid (∀ hi : k < ents.length, ents[k].c ≠ X) := hid (fun hi e => by unfold Arc.has at hno; rw [List.getD_eq_getElem?_getD, List.getElem?_eq_getElem hi] at hno; simp [hi, e] at hno)
  clear hl hx hes hes1 hn ha hnn ht hd hR hv hs hJ hT hJe htop htop2 hf hyes hN hfN hK hK1 hK2 hX hk hfx hno
  go_enter Tryz.func36, Tryz.ntmps36
  go_wp2_with fail
  refine (KV.out _ HS.out).mono ?_
  rintro e w1 ⟨rfl, rfl⟩
  have l0 := (HDP.out _ _ HS.out).2.2.2
  have p0 := (Sts.boxCell HS.out.swap 0 _ rfl).1
  go_wp2_with (first
    | (refine wpList_ldS rfl (.tmp 3) 102 rfl rfl (.agg (itmV a n t (.slice da d.length dc))) l0 ?_)
    | (go_at_call 97; refine (KR.out _).mono ?_; rintro e w2 ⟨rfl, h2⟩
       have H2 := hid (HS.out.quiet (stabC (blkP_stable _ _) (stabC (blkP_stable _ _) (stabC (rowP_stable _ _ _ _ _) (stabC (rowP_stable _ _ _ _ _) (HL.out))))) h2)
       have q0 := (Sts.boxCell H2.out.swap 0 _ rfl).1
       clear h2))
  refine (KF.out _ _ (H2.out.perm ((List.Perm.swap _ _ _).cons _))).mono ?_
  rintro e w3 ⟨rfl, jj, rfl⟩
  have H5 := hid (H2.out.quiet (stabC (blkP_stable _ _) (stabC (blkP_stable _ _) (stabC (rowP_stable _ _ _ _ _) (stabC (rowP_stable _ _ _ _ _) (HL.out))))) (below_drewN (Below.refl _ _) jj))
  have q5 := (Sts.boxCell H5.out 1 _ rfl).1
  clear H2 HS q0 l0 p0
  go_wp2_with fail
  apply byCont (S := fun (b8 : Nat) (ra : Option Addr) (rc : Nat) (z : World) => Sts W (blkP b8 (.cells #[.int .i64 X, .int .i64 (a : Int), .int .i64 (n : Int), .int .i64 (t : Int), .slice ra (u8s d).length rc] 192 (0, 0)) :: rowP 5 1 (.slice ra (u8s d).length rc) (u8s d).length (u8s d) :: blkP q (.cells #[.bool true, .slice (some ⟨g, 0, none⟩) N vc] 185 (0, 0)) :: blkP w.heap.size (.cells (itmV a n t (.slice da d.length dc)) 102 (0, 0)) :: rowP 188 2 (.slice (some ⟨g, 0, none⟩) N vc) N xs :: rowP 192 5 (.slice (some ⟨h, 0, none⟩) K kc) K es :: rest) z)
  case main =>
    intro HK
    refine wp_region_ordQ (.pure 0 (.pure 1 (.pure 2 (.pure 3 (.pure 4 (.pure 5 (.pure 6 (.pure 7 (.pure 8 (.pure 9 (.pure 10 (.pure 11 (.pure 12 (.pure 13 (.pure 14 (.pure 16 (.eff2 15 19 (.eff2 17 19 (.pure 18 (.eff 19 (.eff 20 .nil))) (.eff 17 (.pure 18 (.eff 20 .nil)))) (.eff 15 (.eff 17 (.pure 18 (.eff 20 .nil))))))))))))))))))))) (fun y => y.cell? ⟨g, f * 2 + 1, none⟩ = some (.slice (some ⟨h, 0, none⟩) K kc) ∧ y.cell? ⟨h, J * 5, none⟩ = some (.int .i64 (T : Int)) ∧ y.cell? ⟨w.heap.size, 1, none⟩ = some (.int .i64 (n : Int)) ∧ (loadVar 102 ⟨w.heap.size, 0, none⟩).run Tryz.prog y = .ok (.agg (itmV a n t (.slice da d.length dc))) y) (fun y => Sts W (blkP q (.cells #[.bool true, .slice (some ⟨g, 0, none⟩) N vc] 185 (0, 0)) :: blkP w.heap.size (.cells (itmV a n t (.slice da d.length dc)) 102 (0, 0)) :: rowP 188 2 (.slice (some ⟨g, 0, none⟩) N vc) N xs :: rowP 192 5 (.slice (some ⟨h, 0, none⟩) K kc) K es :: rest) y) (by kernel_rfl) (by kernel_rfl) (H5.out.drew (stabC (blkP_stable _ _) (stabC (blkP_stable _ _) (stabC (rowP_stable _ _ _ _ _) (stabC (rowP_stable _ _ _ _ _) (HL.out)))))) (fun y hy => HDP.out _ y hy) ?_
    iterate 15
      (apply ordq_pure (ho := rfl)
       · go_simp
       · intro x hx; obtain ⟨x1, x2, x3, x4⟩ := hx; go_simp; rfl
       apply ordq_norm
       · go_simp; rfl)
    apply ordq_pure (ho := rfl)
    · go_simp
    · exact fun x hx => exec_ldS (.tmp 3) 102 rfl rfl hx.2.2.2
    apply ordq_norm
    · go_simp; rfl
    refine ordq_eff2 ?_ ?_
    · apply ordq_eff (ho := rfl)
      · go_simp
      intro y hy
      refine eff_call (f := 100) (by go_simp) (KE.out y) ?_
      rintro e w3 ⟨rfl, rfl⟩
      have h3 := hy
      refine ⟨_, rfl, (fun y => y.cell? ⟨g, f * 2 + 1, none⟩ = some (.slice (some ⟨h, 0, none⟩) K kc) ∧ y.cell? ⟨h, J * 5, none⟩ = some (.int .i64 (T : Int)) ∧ y.cell? ⟨w.heap.size, 1, none⟩ = some (.int .i64 (n : Int)) ∧ (loadVar 102 ⟨w.heap.size, 0, none⟩).run Tryz.prog y = .ok (.agg (itmV a n t (.slice da d.length dc))) y), (fun y => Sts W (blkP q (.cells #[.bool true, .slice (some ⟨g, 0, none⟩) N vc] 185 (0, 0)) :: blkP w.heap.size (.cells (itmV a n t (.slice da d.length dc)) 102 (0, 0)) :: rowP 188 2 (.slice (some ⟨g, 0, none⟩) N vc) N xs :: rowP 192 5 (.slice (some ⟨h, 0, none⟩) K kc) K es :: rest) y), h3, (fun y hy => HDP.out _ y hy), (fun _ h => h), ?_⟩
      clear h3 hy y 
      apply ordq_norm
      · go_simp; rfl
      refine ordq_eff2 ?_ ?_
      · apply ordq_eff (ho := rfl)
        · go_simp
        intro y hy
        refine eff_call (f := 94) (by go_simp) (KD.out y hy) ?_
        rintro e w3 ⟨r, rfl, h3⟩
        obtain ⟨ra, rc, rfl⟩ := own_slice h3.1
        have h4 := Sts.new (stabC (blkP_stable _ _) (stabC (blkP_stable _ _) (stabC (rowP_stable _ _ _ _ _) (stabC (rowP_stable _ _ _ _ _) (HL.out))))) hy h3
        refine ⟨_, rfl, (fun y => y.cell? ⟨g, f * 2 + 1, none⟩ = some (.slice (some ⟨h, 0, none⟩) K kc) ∧ y.cell? ⟨h, J * 5, none⟩ = some (.int .i64 (T : Int)) ∧ y.cell? ⟨w.heap.size, 1, none⟩ = some (.int .i64 (n : Int)) ∧ (loadVar 102 ⟨w.heap.size, 0, none⟩).run Tryz.prog y = .ok (.agg (itmV a n t (.slice da d.length dc))) y), (fun y => Sts W (rowP 5 1 (.slice ra (u8s d).length rc) (u8s d).length (u8s d) :: blkP q (.cells #[.bool true, .slice (some ⟨g, 0, none⟩) N vc] 185 (0, 0)) :: blkP w.heap.size (.cells (itmV a n t (.slice da d.length dc)) 102 (0, 0)) :: rowP 188 2 (.slice (some ⟨g, 0, none⟩) N vc) N xs :: rowP 192 5 (.slice (some ⟨h, 0, none⟩) K kc) K es :: rest) y), h4, (fun y hy => HDP.out _ y hy.tail), (fun _ h => h), ?_⟩
        clear h4 hy y h3
        apply ordq_norm
        · go_simp; rfl
        iterate 1
          (apply ordq_pure (ho := rfl)
           · go_simp
           · intro x hx; go_simp; rfl
           apply ordq_norm
           · go_simp; rfl)
        apply ordq_eff (ho := rfl)
        · go_simp
        intro y hy
        refine eff_allocE (stabC (rowP_stable _ _ _ _ _) (stabC (blkP_stable _ _) (stabC (blkP_stable _ _) (stabC (rowP_stable _ _ _ _ _) (stabC (rowP_stable _ _ _ _ _) (HL.out)))))) hy rfl (fun z b hz => HDP.out _ z hz.tail.tail) ?_
        intro b8
        apply ordq_norm
        · go_simp; rfl
        clear hy y
        apply ordq_eff (ho := rfl)
        · go_simp
        intro y hy
        refine eff_aggS hy (stabC (rowP_stable _ _ _ _ _) (stabC (blkP_stable _ _) (stabC (blkP_stable _ _) (stabC (rowP_stable _ _ _ _ _) (stabC (rowP_stable _ _ _ _ _) (HL.out)))))) (.tmp 8) (.tmp 68) 192 rfl #[.int .i64 X, .int .i64 (a : Int), .int .i64 (n : Int), .int .i64 (t : Int), .slice ra (u8s d).length rc] ?_ ?_ szFE rfl rfl _ (fun z hz => HDP.out _ z hz.tail.tail) ?_
        · (go_simp; try rfl)
        · (go_simp; try rfl)
        apply ordq_norm
        · go_simp; rfl
        clear hy y
        exact ordq_nil fun z hz => HK b8 ra rc z hz
      · apply ordq_eff (ho := rfl)
        · go_simp
        intro y hy
        refine eff_allocE (stabC (blkP_stable _ _) (stabC (blkP_stable _ _) (stabC (rowP_stable _ _ _ _ _) (stabC (rowP_stable _ _ _ _ _) (HL.out))))) hy rfl (fun z b hz => HDP.out _ z hz.tail) ?_
        intro b8
        apply ordq_norm
        · go_simp; rfl
        clear hy y
        apply ordq_eff (ho := rfl)
        · go_simp
        intro y hy
        refine eff_call (f := 94) (by go_simp) (KD.out y hy.tail) ?_
        rintro e w3 ⟨r, rfl, h3⟩
        obtain ⟨ra, rc, rfl⟩ := own_slice h3.1
        have h4 := Sts.new (stabC (blkP_stable _ _) (stabC (blkP_stable _ _) (stabC (blkP_stable _ _) (stabC (rowP_stable _ _ _ _ _) (stabC (rowP_stable _ _ _ _ _) (HL.out)))))) hy h3
        refine ⟨_, rfl, (fun y => y.cell? ⟨g, f * 2 + 1, none⟩ = some (.slice (some ⟨h, 0, none⟩) K kc) ∧ y.cell? ⟨h, J * 5, none⟩ = some (.int .i64 (T : Int)) ∧ y.cell? ⟨w.heap.size, 1, none⟩ = some (.int .i64 (n : Int)) ∧ (loadVar 102 ⟨w.heap.size, 0, none⟩).run Tryz.prog y = .ok (.agg (itmV a n t (.slice da d.length dc))) y), (fun y => Sts W (rowP 5 1 (.slice ra (u8s d).length rc) (u8s d).length (u8s d) :: blkP b8 (.cells #[.int .i64 0, .int .i64 0, .int .i64 0, .int .i64 0, .slice none 0 0] 192 (0, 0)) :: blkP q (.cells #[.bool true, .slice (some ⟨g, 0, none⟩) N vc] 185 (0, 0)) :: blkP w.heap.size (.cells (itmV a n t (.slice da d.length dc)) 102 (0, 0)) :: rowP 188 2 (.slice (some ⟨g, 0, none⟩) N vc) N xs :: rowP 192 5 (.slice (some ⟨h, 0, none⟩) K kc) K es :: rest) y), h4, (fun y hy => HDP.out _ y hy.tail.tail), (fun _ h => h), ?_⟩
        clear h4 hy y h3
        apply ordq_norm
        · go_simp; rfl
        iterate 1
          (apply ordq_pure (ho := rfl)
           · go_simp
           · intro x hx; go_simp; rfl
           apply ordq_norm
           · go_simp; rfl)
        apply ordq_eff (ho := rfl)
        · go_simp
        intro y hy
        refine eff_aggS hy.swap (stabC (rowP_stable _ _ _ _ _) (stabC (blkP_stable _ _) (stabC (blkP_stable _ _) (stabC (rowP_stable _ _ _ _ _) (stabC (rowP_stable _ _ _ _ _) (HL.out)))))) (.tmp 8) (.tmp 68) 192 rfl #[.int .i64 X, .int .i64 (a : Int), .int .i64 (n : Int), .int .i64 (t : Int), .slice ra (u8s d).length rc] ?_ ?_ szFE rfl rfl _ (fun z hz => HDP.out _ z hz.tail.tail) ?_
        · (go_simp; try rfl)
        · (go_simp; try rfl)
        apply ordq_norm
        · go_simp; rfl
        clear hy y
        exact ordq_nil fun z hz => HK b8 ra rc z hz
    · apply ordq_eff (ho := rfl)
      · go_simp
      intro y hy
      refine eff_allocE (stabC (blkP_stable _ _) (stabC (blkP_stable _ _) (stabC (rowP_stable _ _ _ _ _) (stabC (rowP_stable _ _ _ _ _) (HL.out))))) hy rfl (fun z b hz => HDP.out _ z hz.tail) ?_
      intro b8
      apply ordq_norm
      · go_simp; rfl
      clear hy y
      apply ordq_eff (ho := rfl)
      · go_simp
      intro y hy
      refine eff_call (f := 100) (by go_simp) (KE.out y) ?_
      rintro e w3 ⟨rfl, rfl⟩
      have h3 := hy
      refine ⟨_, rfl, (fun y => y.cell? ⟨g, f * 2 + 1, none⟩ = some (.slice (some ⟨h, 0, none⟩) K kc) ∧ y.cell? ⟨h, J * 5, none⟩ = some (.int .i64 (T : Int)) ∧ y.cell? ⟨w.heap.size, 1, none⟩ = some (.int .i64 (n : Int)) ∧ (loadVar 102 ⟨w.heap.size, 0, none⟩).run Tryz.prog y = .ok (.agg (itmV a n t (.slice da d.length dc))) y), (fun y => Sts W (blkP b8 (.cells #[.int .i64 0, .int .i64 0, .int .i64 0, .int .i64 0, .slice none 0 0] 192 (0, 0)) :: blkP q (.cells #[.bool true, .slice (some ⟨g, 0, none⟩) N vc] 185 (0, 0)) :: blkP w.heap.size (.cells (itmV a n t (.slice da d.length dc)) 102 (0, 0)) :: rowP 188 2 (.slice (some ⟨g, 0, none⟩) N vc) N xs :: rowP 192 5 (.slice (some ⟨h, 0, none⟩) K kc) K es :: rest) y), h3, (fun y hy => HDP.out _ y hy.tail), (fun _ h => h), ?_⟩
      clear h3 hy y 
      apply ordq_norm
      · go_simp; rfl
      apply ordq_eff (ho := rfl)
      · go_simp
      intro y hy
      refine eff_call (f := 94) (by go_simp) (KD.out y hy.tail) ?_
      rintro e w3 ⟨r, rfl, h3⟩
      obtain ⟨ra, rc, rfl⟩ := own_slice h3.1
      have h4 := Sts.new (stabC (blkP_stable _ _) (stabC (blkP_stable _ _) (stabC (blkP_stable _ _) (stabC (rowP_stable _ _ _ _ _) (stabC (rowP_stable _ _ _ _ _) (HL.out)))))) hy h3
      refine ⟨_, rfl, (fun y => y.cell? ⟨g, f * 2 + 1, none⟩ = some (.slice (some ⟨h, 0, none⟩) K kc) ∧ y.cell? ⟨h, J * 5, none⟩ = some (.int .i64 (T : Int)) ∧ y.cell? ⟨w.heap.size, 1, none⟩ = some (.int .i64 (n : Int)) ∧ (loadVar 102 ⟨w.heap.size, 0, none⟩).run Tryz.prog y = .ok (.agg (itmV a n t (.slice da d.length dc))) y), (fun y => Sts W (rowP 5 1 (.slice ra (u8s d).length rc) (u8s d).length (u8s d) :: blkP b8 (.cells #[.int .i64 0, .int .i64 0, .int .i64 0, .int .i64 0, .slice none 0 0] 192 (0, 0)) :: blkP q (.cells #[.bool true, .slice (some ⟨g, 0, none⟩) N vc] 185 (0, 0)) :: blkP w.heap.size (.cells (itmV a n t (.slice da d.length dc)) 102 (0, 0)) :: rowP 188 2 (.slice (some ⟨g, 0, none⟩) N vc) N xs :: rowP 192 5 (.slice (some ⟨h, 0, none⟩) K kc) K es :: rest) y), h4, (fun y hy => HDP.out _ y hy.tail.tail), (fun _ h => h), ?_⟩
      clear h4 hy y h3
      apply ordq_norm
      · go_simp; rfl
      iterate 1
        (apply ordq_pure (ho := rfl)
         · go_simp
         · intro x hx; go_simp; rfl
         apply ordq_norm
         · go_simp; rfl)
      apply ordq_eff (ho := rfl)
      · go_simp
      intro y hy
      refine eff_aggS hy.swap (stabC (rowP_stable _ _ _ _ _) (stabC (blkP_stable _ _) (stabC (blkP_stable _ _) (stabC (rowP_stable _ _ _ _ _) (stabC (rowP_stable _ _ _ _ _) (HL.out)))))) (.tmp 8) (.tmp 68) 192 rfl #[.int .i64 X, .int .i64 (a : Int), .int .i64 (n : Int), .int .i64 (t : Int), .slice ra (u8s d).length rc] ?_ ?_ szFE rfl rfl _ (fun z hz => HDP.out _ z hz.tail.tail) ?_
      · (go_simp; try rfl)
      · (go_simp; try rfl)
      apply ordq_norm
      · go_simp; rfl
      clear hy y
      exact ordq_nil fun z hz => HK b8 ra rc z hz
  case k =>
    intro b8 ra rc z hz
    have HZ := hid (show Sts W (blkP b8 (.cells #[.int .i64 X, .int .i64 (a : Int), .int .i64 (n : Int), .int .i64 (t : Int), .slice ra (u8s d).length rc] 192 (0, 0)) :: rowP 5 1 (.slice ra (u8s d).length rc) (u8s d).length (u8s d) :: blkP q (.cells #[.bool true, .slice (some ⟨g, 0, none⟩) N vc] 185 (0, 0)) :: blkP w.heap.size (.cells (itmV a n t (.slice da d.length dc)) 102 (0, 0)) :: rowP 188 2 (.slice (some ⟨g, 0, none⟩) N vc) N xs :: rowP 192 5 (.slice (some ⟨h, 0, none⟩) K kc) K es :: rest) z from hz)
    clear hz H5
    have c0 := (HDP.out _ _ HZ.out.tail.tail).1
    go_wp2_with fail
    have HC := hid (show ∀ y : World, Sts W (blkP b8 (.cells #[.int .i64 X, .int .i64 (a : Int), .int .i64 (n : Int), .int .i64 (t : Int), .slice ra (u8s d).length rc] 192 (0, 0)) :: rowP 5 1 (.slice ra (u8s d).length rc) (u8s d).length (u8s d) :: blkP q (.cells #[.bool true, .slice (some ⟨g, 0, none⟩) N vc] 185 (0, 0)) :: blkP w.heap.size (.cells (itmV a n t (.slice da d.length dc)) 102 (0, 0)) :: rowP 188 2 (.slice (some ⟨g, 0, none⟩) N vc) N xs :: rowP 192 5 (.slice (some ⟨h, 0, none⟩) K kc) K es :: rest) y → y.cell? ⟨g, f * 2 + 1, none⟩ = some (.slice (some ⟨h, 0, none⟩) K kc) ∧ (∀ i (hi : i < ents.length), y.cell? ⟨h, i * 5, none⟩ = some (.int .i64 ents[i].c)) ∧ y.cell? ⟨b8, 0, none⟩ = some (.int .i64 X) from fun y hy => ⟨(HDP.out _ _ hy.tail.tail).1, fun i hi => rowCellC (hy.perm (List.perm_middle (l₁ := [_, _, _, _, _]))) _ _ (HES.out i hi), (Sts.boxCell hy 0 _ rfl).1⟩)
    go_loopw [9] (fun i wr => ∃ j : Nat, j ≤ K ∧ i = .int .i64 (j : Int) ∧ Arc.pos ents X j = k ∧ Sts W (blkP b8 (.cells #[.int .i64 X, .int .i64 (a : Int), .int .i64 (n : Int), .int .i64 (t : Int), .slice ra (u8s d).length rc] 192 (0, 0)) :: rowP 5 1 (.slice ra (u8s d).length rc) (u8s d).length (u8s d) :: blkP q (.cells #[.bool true, .slice (some ⟨g, 0, none⟩) N vc] 185 (0, 0)) :: blkP w.heap.size (.cells (itmV a n t (.slice da d.length dc)) 102 (0, 0)) :: rowP 188 2 (.slice (some ⟨g, 0, none⟩) N vc) N xs :: rowP 192 5 (.slice (some ⟨h, 0, none⟩) K kc) K es :: rest) wr) (fun i _ => (intOf i).toNat)
    case atStart => exact ⟨K, Nat.le_refl _, rfl, HKP.out.symm, HZ.out⟩
    case round =>
      obtain ⟨j, hj, rfl, hp, hw⟩ := hrel
      have HW := hid hw
      by_cases h0 : 0 < j
      · obtain ⟨jm, rfl⟩ : ∃ jm, j = jm + 1 := ⟨j - 1, by omega⟩
        have hjl : jm < ents.length := by have := HKL.out; omega
        have c4 : ∀ y : World, Sts W (blkP b8 (.cells #[.int .i64 X, .int .i64 (a : Int), .int .i64 (n : Int), .int .i64 (t : Int), .slice ra (u8s d).length rc] 192 (0, 0)) :: rowP 5 1 (.slice ra (u8s d).length rc) (u8s d).length (u8s d) :: blkP q (.cells #[.bool true, .slice (some ⟨g, 0, none⟩) N vc] 185 (0, 0)) :: blkP w.heap.size (.cells (itmV a n t (.slice da d.length dc)) 102 (0, 0)) :: rowP 188 2 (.slice (some ⟨g, 0, none⟩) N vc) N xs :: rowP 192 5 (.slice (some ⟨h, 0, none⟩) K kc) K es :: rest) y → y.cell? ⟨h, jm * 5, none⟩ = some (.int .i64 ents[jm].c) := fun y hy => (HC.out y hy).2.1 jm hjl
        have hps := Arc.pos_step ents X jm hjl
        obtain ⟨p, hpp⟩ : ∃ p, p = ents[jm].c := ⟨_, rfl⟩
        rw [← hpp] at c4 hps
        rw [hp] at hps
        obtain ⟨j, hjj⟩ : ∃ j, j = jm + 1 := ⟨_, rfl⟩
        have W3 : wrap64 ((j : Int) - 1) = (jm : Int) := by have := HK2.out; unfold wrap64; omega
        have W4 : IntKind.i64.wrap ((j : Int) - 1) = (jm : Int) := by have := HK2.out; rw [IntKind.wrap_i64]; omega
        have i0 : (0 : Int) < (j : Int) := by omega
        have i1 : (jm : Int) < (K : Int) := by omega
        have i2 : jm < K := by omega
        have i3 : 0 < j := by omega
        rw [← hjj]
        have HJJ := hid hjj
        have HJK : Hid (j ≤ K) := hid (by omega)
        have d0 : decide ((0 : Int) < (j : Int)) = true := decide_eq_true i0
        have C4 := hid c4
        clear hjj hj hjl hpp hp hw h0 c0 c4
        by_cases hle : X ≤ p
        · have d1 : decide (X ≤ p) = true := decide_eq_true hle
          rw [if_pos hle] at hps
          have HPS := hid hps
          clear hps hle
          go_wp2_with fail
          refine wp_region_ordQ (.pure 0 (.pure 1 (.pure 2 (.pure 3 (.pure 4 (.pure 5 (.pure 6 (.pure 7 (.pure 8 (.pure 9 (.pure 10 (.pure 11 (.pure 12 (.pure 13 (.pure 14 (.pure 15 .nil)))))))))))))))) (fun y => y.cell? ⟨g, f * 2 + 1, none⟩ = some (.slice (some ⟨h, 0, none⟩) K kc) ∧ y.cell? ⟨h, jm * 5, none⟩ = some (.int .i64 p) ∧ y.cell? ⟨b8, 0, none⟩ = some (.int .i64 X)) (fun y => Sts W (blkP b8 (.cells #[.int .i64 X, .int .i64 (a : Int), .int .i64 (n : Int), .int .i64 (t : Int), .slice ra (u8s d).length rc] 192 (0, 0)) :: rowP 5 1 (.slice ra (u8s d).length rc) (u8s d).length (u8s d) :: blkP q (.cells #[.bool true, .slice (some ⟨g, 0, none⟩) N vc] 185 (0, 0)) :: blkP w.heap.size (.cells (itmV a n t (.slice da d.length dc)) 102 (0, 0)) :: rowP 188 2 (.slice (some ⟨g, 0, none⟩) N vc) N xs :: rowP 192 5 (.slice (some ⟨h, 0, none⟩) K kc) K es :: rest) y) (by kernel_rfl) (by kernel_rfl) (HW.out.drew (stabC (blkP_stable _ _) (stabC (rowP_stable _ _ _ _ _) (stabC (blkP_stable _ _) (stabC (blkP_stable _ _) (stabC (rowP_stable _ _ _ _ _) (stabC (rowP_stable _ _ _ _ _) (HL.out)))))))) (fun y hy => ⟨(HC.out y hy).1, C4.out y hy, (HC.out y hy).2.2⟩) ?_
          iterate 16
            (apply ordq_pure (ho := rfl)
             · go_simp
             · intro x hx; obtain ⟨x1, x2, x3⟩ := hx; go_simp; rfl
             apply ordq_norm
             · go_simp; rfl)
          refine ordq_nil fun z hz => ?_
          have HV := hid hz
          clear hz HW
          go_wp2_with fail
          exact ⟨⟨jm, by omega, rfl, HPS.out.symm, HV.out⟩, by have := HJJ.out; simp [intOf]; omega⟩
        · have d1 : decide (X ≤ p) = false := decide_eq_false hle
          rw [if_neg hle] at hps
          have HPS := hid hps
          clear hps hle
          go_wp2_with fail
          refine wp_region_ordQ (.pure 0 (.pure 1 (.pure 2 (.pure 3 (.pure 4 (.pure 5 (.pure 6 (.pure 7 (.pure 8 (.pure 9 (.pure 10 (.pure 11 (.pure 12 (.pure 13 (.pure 14 (.pure 15 .nil)))))))))))))))) (fun y => y.cell? ⟨g, f * 2 + 1, none⟩ = some (.slice (some ⟨h, 0, none⟩) K kc) ∧ y.cell? ⟨h, jm * 5, none⟩ = some (.int .i64 p) ∧ y.cell? ⟨b8, 0, none⟩ = some (.int .i64 X)) (fun y => Sts W (blkP b8 (.cells #[.int .i64 X, .int .i64 (a : Int), .int .i64 (n : Int), .int .i64 (t : Int), .slice ra (u8s d).length rc] 192 (0, 0)) :: rowP 5 1 (.slice ra (u8s d).length rc) (u8s d).length (u8s d) :: blkP q (.cells #[.bool true, .slice (some ⟨g, 0, none⟩) N vc] 185 (0, 0)) :: blkP w.heap.size (.cells (itmV a n t (.slice da d.length dc)) 102 (0, 0)) :: rowP 188 2 (.slice (some ⟨g, 0, none⟩) N vc) N xs :: rowP 192 5 (.slice (some ⟨h, 0, none⟩) K kc) K es :: rest) y) (by kernel_rfl) (by kernel_rfl) (HW.out.drew (stabC (blkP_stable _ _) (stabC (rowP_stable _ _ _ _ _) (stabC (blkP_stable _ _) (stabC (blkP_stable _ _) (stabC (rowP_stable _ _ _ _ _) (stabC (rowP_stable _ _ _ _ _) (HL.out)))))))) (fun y hy => ⟨(HC.out y hy).1, C4.out y hy, (HC.out y hy).2.2⟩) ?_
          iterate 16
            (apply ordq_pure (ho := rfl)
             · go_simp
             · intro x hx; obtain ⟨x1, x2, x3⟩ := hx; go_simp; rfl
             apply ordq_norm
             · go_simp; rfl)
          refine ordq_nil fun z hz => ?_
          have HV := hid hz
          clear hz HW
          obtain rfl : j = k := HJJ.out.trans HPS.out.symm
          clear d0 i0 i1 i2 i3 W3 W4 HJJ C4 HPS d1
          by_cases hkK : j < K
          · have i0 : (j : Int) < (K : Int) := by omega
            obtain ⟨ck, hck⟩ : ∃ ck, ck = ents[j]'(by have := HKL.out; omega) := ⟨_, rfl⟩
            have e1 : (ck.c == X) = false := by rw [beq_eq_false_iff_ne, hck]; exact HNO.out _
            have C5 := hid (show ∀ y : World, Sts W (blkP b8 (.cells #[.int .i64 X, .int .i64 (a : Int), .int .i64 (n : Int), .int .i64 (t : Int), .slice ra (u8s d).length rc] 192 (0, 0)) :: rowP 5 1 (.slice ra (u8s d).length rc) (u8s d).length (u8s d) :: blkP q (.cells #[.bool true, .slice (some ⟨g, 0, none⟩) N vc] 185 (0, 0)) :: blkP w.heap.size (.cells (itmV a n t (.slice da d.length dc)) 102 (0, 0)) :: rowP 188 2 (.slice (some ⟨g, 0, none⟩) N vc) N xs :: rowP 192 5 (.slice (some ⟨h, 0, none⟩) K kc) K es :: rest) y → y.cell? ⟨h, j * 5, none⟩ = some (.int .i64 ck.c) from fun y hy => by rw [hck]; exact (HC.out y hy).2.1 j _)
            clear hck
            go_wp2_with fail
            refine wp_region_ordQ (.pure 0 (.pure 1 (.pure 2 (.pure 3 (.pure 4 (.pure 5 (.pure 6 (.pure 7 (.pure 8 (.pure 9 (.pure 10 (.pure 11 (.pure 12 (.pure 13 (.pure 14 (.pure 15 (.pure 16 (.pure 17 (.pure 18 (.pure 19 .nil)))))))))))))))))))) (fun y => y.cell? ⟨g, f * 2 + 1, none⟩ = some (.slice (some ⟨h, 0, none⟩) K kc) ∧ y.cell? ⟨h, j * 5, none⟩ = some (.int .i64 ck.c) ∧ y.cell? ⟨b8, 0, none⟩ = some (.int .i64 X)) (fun y => Sts W (blkP b8 (.cells #[.int .i64 X, .int .i64 (a : Int), .int .i64 (n : Int), .int .i64 (t : Int), .slice ra (u8s d).length rc] 192 (0, 0)) :: rowP 5 1 (.slice ra (u8s d).length rc) (u8s d).length (u8s d) :: blkP q (.cells #[.bool true, .slice (some ⟨g, 0, none⟩) N vc] 185 (0, 0)) :: blkP w.heap.size (.cells (itmV a n t (.slice da d.length dc)) 102 (0, 0)) :: rowP 188 2 (.slice (some ⟨g, 0, none⟩) N vc) N xs :: rowP 192 5 (.slice (some ⟨h, 0, none⟩) K kc) K es :: rest) y) (by kernel_rfl) (by kernel_rfl) (HV.out.drew (stabC (blkP_stable _ _) (stabC (rowP_stable _ _ _ _ _) (stabC (blkP_stable _ _) (stabC (blkP_stable _ _) (stabC (rowP_stable _ _ _ _ _) (stabC (rowP_stable _ _ _ _ _) (HL.out)))))))) (fun y hy => ⟨(HC.out y hy).1, C5.out y hy, (HC.out y hy).2.2⟩) ?_
            iterate 20
              (apply ordq_pure (ho := rfl)
               · go_simp
               · intro x hx; obtain ⟨x1, x2, x3⟩ := hx; go_simp; rfl
               apply ordq_norm
               · go_simp; rfl)
            refine ordq_nil fun z hz => ?_
            have HZ2 := hid hz
            clear hz HV
            clear i0 e1
            have HD18 := hid (show ∀ (T2 : List HProp) (y : World), Sts W (blkP b8 (.cells #[.int .i64 X, .int .i64 (a : Int), .int .i64 (n : Int), .int .i64 (t : Int), .slice ra (u8s d).length rc] 192 (0, 0)) :: rowP 5 1 (.slice ra (u8s d).length rc) (u8s d).length (u8s d) :: blkP q (.cells #[.bool true, .slice (some ⟨g, 0, none⟩) N vc] 185 (0, 0)) :: blkP w.heap.size (.cells (itmV a n t (.slice da d.length dc)) 102 (0, 0)) :: rowP 188 2 (.slice (some ⟨g, 0, none⟩) N vc) N xs :: T2) y → (loadVar 192 ⟨b8, 0, none⟩).run Tryz.prog y = .ok (.agg #[.int .i64 X, .int .i64 (a : Int), .int .i64 (n : Int), .int .i64 (t : Int), .slice ra (u8s d).length rc]) y from fun T2 y hy => ldEnt (cs := #[.int .i64 X, .int .i64 (a : Int), .int .i64 (n : Int), .int .i64 (t : Int), .slice ra (u8s d).length rc]) rfl hy)
            have c1 := (HC.out _ HZ2.out).1
            go_wp2_with fail
            refine wp_region_ordQS (fun i => i == 11) (.pure 0 (.pure 1 (.pure 2 (.pure 3 (.pure 4 (.pure 5 (.pure 6 (.eff 7 (.eff 8 (.pure 9 (.pure 10 (.eff 11 .nil)))))))))))) (fun y => y.cell? ⟨g, f * 2 + 1, none⟩ = some (.slice (some ⟨h, 0, none⟩) K kc) ∧ (loadVar 192 ⟨b8, 0, none⟩).run Tryz.prog y = .ok (.agg #[.int .i64 X, .int .i64 (a : Int), .int .i64 (n : Int), .int .i64 (t : Int), .slice ra (u8s d).length rc]) y) (fun y => Sts W (blkP b8 (.cells #[.int .i64 X, .int .i64 (a : Int), .int .i64 (n : Int), .int .i64 (t : Int), .slice ra (u8s d).length rc] 192 (0, 0)) :: rowP 5 1 (.slice ra (u8s d).length rc) (u8s d).length (u8s d) :: blkP q (.cells #[.bool true, .slice (some ⟨g, 0, none⟩) N vc] 185 (0, 0)) :: blkP w.heap.size (.cells (itmV a n t (.slice da d.length dc)) 102 (0, 0)) :: rowP 188 2 (.slice (some ⟨g, 0, none⟩) N vc) N xs :: rowP 192 5 (.slice (some ⟨h, 0, none⟩) K kc) K es :: rest) y) (by kernel_rfl) (by kernel_rfl) (HZ2.out.drew (stabC (blkP_stable _ _) (stabC (rowP_stable _ _ _ _ _) (stabC (blkP_stable _ _) (stabC (blkP_stable _ _) (stabC (rowP_stable _ _ _ _ _) (stabC (rowP_stable _ _ _ _ _) (HL.out)))))))) (fun y hy => ⟨(HC.out y hy).1, HD18.out _ y hy⟩) ?_
            iterate 6
              (apply ordq_pure (ho := rfl)
               · go_simp
               · intro x hx; obtain ⟨x1, x2⟩ := hx; go_simp; rfl
               apply ordq_norm
               · go_simp; rfl)
            apply ordq_pure (ho := rfl)
            · go_simp
            · exact fun x hx => exec_ldS (.tmp 8) 192 rfl rfl hx.2
            apply ordq_norm
            · go_simp; rfl
            apply ordq_eff (ho := rfl)
            · go_simp
            intro y hy
            refine eff_bldEb (stabC (blkP_stable _ _) (stabC (rowP_stable _ _ _ _ _) (stabC (blkP_stable _ _) (stabC (blkP_stable _ _) (stabC (rowP_stable _ _ _ _ _) (stabC (rowP_stable _ _ _ _ _) (HL.out))))))) hy (.tmp 144) rfl X (a : Int) (n : Int) (t : Int) ra (u8s d).length rc ?_ (fun z g hz => ⟨(HC.out z hz.tail).1, HD18.out _ z hz.tail⟩) ?_
            · go_simp
            intro g9
            apply ordq_norm
            · go_simp; rfl
            clear hy y
            apply ordq_eff (ho := rfl)
            · go_simp
            intro y hy
            refine eff_call (f := 102) (by go_simp) (cInsE (stabC (blkP_stable _ _) (stabC (rowP_stable _ _ _ _ _) (stabC (blkP_stable _ _) (stabC (blkP_stable _ _) (stabC (rowP_stable _ _ _ _ _) (HL.out)))))) j K g9 (.slice (some ⟨h, 0, none⟩) K kc) es #[.int .i64 X, .int .i64 (a : Int), .int .i64 (n : Int), .int .i64 (t : Int), .slice ra (u8s d).length rc] rfl (by intro u hu; simp at hu; rcases hu with rfl | rfl | rfl | rfl | rfl <;> rfl) HES1.out HJK.out HK2.out (hy.perm (List.perm_middle (l₁ := [_, _, _, _, _, _])))) ?_
            rintro e w3 ⟨vi, rfl, h3⟩
            obtain ⟨v2, c2, rfl⟩ := own_slice (Sts.rowOwnS' h3)
            refine ⟨_, rfl, (fun y => y.cell? ⟨g, f * 2 + 1, none⟩ = some (.slice (some ⟨h, 0, none⟩) K kc) ∧ (loadVar 192 ⟨b8, 0, none⟩).run Tryz.prog y = .ok (.agg #[.int .i64 X, .int .i64 (a : Int), .int .i64 (n : Int), .int .i64 (t : Int), .slice ra (u8s d).length rc]) y), (fun y => Sts W (rowP 192 5 (.slice v2 (K + 1) c2) (K + 1) (es.take (j * 5) ++ (#[.int .i64 X, .int .i64 (a : Int), .int .i64 (n : Int), .int .i64 (t : Int), .slice ra (u8s d).length rc] : Array Value).toList ++ es.drop (j * 5)) :: blkP b8 (.cells #[.int .i64 X, .int .i64 (a : Int), .int .i64 (n : Int), .int .i64 (t : Int), .slice ra (u8s d).length rc] 192 (0, 0)) :: rowP 5 1 (.slice ra (u8s d).length rc) (u8s d).length (u8s d) :: blkP q (.cells #[.bool true, .slice (some ⟨g, 0, none⟩) N vc] 185 (0, 0)) :: blkP w.heap.size (.cells (itmV a n t (.slice da d.length dc)) 102 (0, 0)) :: rowP 188 2 (.slice (some ⟨g, 0, none⟩) N vc) N xs :: rest) y), h3, (fun y hy => ⟨rowCellC (hy.perm (List.perm_middle (l₁ := [_, _, _, _, _]))) _ _ HFX.out, HD18.out _ y hy.tail⟩), (fun _ h => h), ?_⟩
            clear h3 hy y 
            apply ordq_norm
            · go_simp; rfl
            iterate 2
              (apply ordq_pure (ho := rfl)
               · go_simp
               · intro x hx; go_simp; rfl
               apply ordq_norm
               · go_simp; rfl)
            apply ordq_eff (ho := rfl)
            · go_simp
            intro y hy
            refine effS_rowC rfl (hy.perm (List.perm_middle (l₁ := [_, _, _, _, _]))) (stabC (rowP_stable _ _ _ _ _) (stabC (blkP_stable _ _) (stabC (rowP_stable _ _ _ _ _) (stabC (blkP_stable _ _) (stabC (blkP_stable _ _) (HL.out)))))) (.tmp 148) (.tmp 146) 186 rfl (f * 2 + 1) (.slice v2 (K + 1) c2) _ ?_ ?_ szSlE HFX.out rfl (fun y' => Sts W (rowP 188 2 (.slice (some ⟨g, 0, none⟩) N vc) N (xs.set (f * 2 + 1) (.slice v2 (K + 1) c2)) :: rowP 192 5 (.slice v2 (K + 1) c2) (K + 1) (es.take (j * 5) ++ (#[.int .i64 X, .int .i64 (a : Int), .int .i64 (n : Int), .int .i64 (t : Int), .slice ra (u8s d).length rc] : Array Value).toList ++ es.drop (j * 5)) :: blkP b8 (.cells #[.int .i64 X, .int .i64 (a : Int), .int .i64 (n : Int), .int .i64 (t : Int), .slice ra (u8s d).length rc] 192 (0, 0)) :: rowP 5 1 (.slice ra (u8s d).length rc) (u8s d).length (u8s d) :: blkP q (.cells #[.bool true, .slice (some ⟨g, 0, none⟩) N vc] 185 (0, 0)) :: blkP w.heap.size (.cells (itmV a n t (.slice da d.length dc)) 102 (0, 0)) :: rest) y') (fun y' hy' => hy') ?_
            · go_simp
            · go_simp
            apply ordq_norm
            · go_simp; rfl
            clear hy y
            refine ordq_nil fun z hz => ?_
            have HQ := hid hz
            clear hz HZ2
            go_wp2_with fail
            go_ret
            refine ⟨rfl, .slice v2 (K + 1) c2, .slice ra d.length rc, ?_⟩
            have h9 := Sts.sub (HQ.out.perm (List.perm_middle (l₁ := [_, _, _, _]))) (.cons_cons _ (.cons_cons _ (.cons_cons _ (.cons _ (.cons_cons _ (.cons _ (List.Sublist.refl _)))))))
            rw [u8s_len] at h9
            first
              | exact h9
              | (rw [List.append_assoc] at h9; exact h9)
              | (rw [List.append_assoc] at h9; simpa using h9)
          · have i0 : ¬ (j : Int) < (K : Int) := by omega
            have d2 : decide ((j : Int) < (K : Int)) = false := decide_eq_false i0
            have i1 : ¬ j < K := hkK
            have i2 : (K : Int) ≤ (j : Int) := by omega
            go_wp2_with fail
            refine wp_region_ordQ (.pure 0 (.pure 1 (.pure 2 (.pure 3 (.pure 4 (.pure 5 (.pure 6 (.pure 7 (.pure 8 (.pure 9 (.pure 10 (.pure 11 (.pure 12 (.pure 13 (.pure 14 (.pure 15 (.pure 16 (.pure 17 (.pure 18 (.pure 19 .nil)))))))))))))))))))) (fun y => y.cell? ⟨g, f * 2 + 1, none⟩ = some (.slice (some ⟨h, 0, none⟩) K kc)) (fun y => Sts W (blkP b8 (.cells #[.int .i64 X, .int .i64 (a : Int), .int .i64 (n : Int), .int .i64 (t : Int), .slice ra (u8s d).length rc] 192 (0, 0)) :: rowP 5 1 (.slice ra (u8s d).length rc) (u8s d).length (u8s d) :: blkP q (.cells #[.bool true, .slice (some ⟨g, 0, none⟩) N vc] 185 (0, 0)) :: blkP w.heap.size (.cells (itmV a n t (.slice da d.length dc)) 102 (0, 0)) :: rowP 188 2 (.slice (some ⟨g, 0, none⟩) N vc) N xs :: rowP 192 5 (.slice (some ⟨h, 0, none⟩) K kc) K es :: rest) y) (by kernel_rfl) (by kernel_rfl) (HV.out.drew (stabC (blkP_stable _ _) (stabC (rowP_stable _ _ _ _ _) (stabC (blkP_stable _ _) (stabC (blkP_stable _ _) (stabC (rowP_stable _ _ _ _ _) (stabC (rowP_stable _ _ _ _ _) (HL.out)))))))) (fun y hy => (HC.out y hy).1) ?_
            iterate 8
              (apply ordq_pure (ho := rfl)
               · go_simp
               · intro x hx; go_simp; rfl
               apply ordq_norm
               · go_simp; rfl)
            iterate 11
              (apply ordq_skip (ho := rfl)
               · go_simp
               apply ordq_norm
               · go_simp; rfl)
            iterate 1
              (apply ordq_pure (ho := rfl)
               · go_simp
               · intro x hx; go_simp; rfl
               apply ordq_norm
               · go_simp; rfl)
            refine ordq_nil fun z hz => ?_
            have HZ2 := hid hz
            clear hz HV
            clear i0 i1 i2 d2
            have HD18 := hid (show ∀ (T2 : List HProp) (y : World), Sts W (blkP b8 (.cells #[.int .i64 X, .int .i64 (a : Int), .int .i64 (n : Int), .int .i64 (t : Int), .slice ra (u8s d).length rc] 192 (0, 0)) :: rowP 5 1 (.slice ra (u8s d).length rc) (u8s d).length (u8s d) :: blkP q (.cells #[.bool true, .slice (some ⟨g, 0, none⟩) N vc] 185 (0, 0)) :: blkP w.heap.size (.cells (itmV a n t (.slice da d.length dc)) 102 (0, 0)) :: rowP 188 2 (.slice (some ⟨g, 0, none⟩) N vc) N xs :: T2) y → (loadVar 192 ⟨b8, 0, none⟩).run Tryz.prog y = .ok (.agg #[.int .i64 X, .int .i64 (a : Int), .int .i64 (n : Int), .int .i64 (t : Int), .slice ra (u8s d).length rc]) y from fun T2 y hy => ldEnt (cs := #[.int .i64 X, .int .i64 (a : Int), .int .i64 (n : Int), .int .i64 (t : Int), .slice ra (u8s d).length rc]) rfl hy)
            have c1 := (HC.out _ HZ2.out).1
            go_wp2_with fail
            refine wp_region_ordQS (fun i => i == 11) (.pure 0 (.pure 1 (.pure 2 (.pure 3 (.pure 4 (.pure 5 (.pure 6 (.eff 7 (.eff 8 (.pure 9 (.pure 10 (.eff 11 .nil)))))))))))) (fun y => y.cell? ⟨g, f * 2 + 1, none⟩ = some (.slice (some ⟨h, 0, none⟩) K kc) ∧ (loadVar 192 ⟨b8, 0, none⟩).run Tryz.prog y = .ok (.agg #[.int .i64 X, .int .i64 (a : Int), .int .i64 (n : Int), .int .i64 (t : Int), .slice ra (u8s d).length rc]) y) (fun y => Sts W (blkP b8 (.cells #[.int .i64 X, .int .i64 (a : Int), .int .i64 (n : Int), .int .i64 (t : Int), .slice ra (u8s d).length rc] 192 (0, 0)) :: rowP 5 1 (.slice ra (u8s d).length rc) (u8s d).length (u8s d) :: blkP q (.cells #[.bool true, .slice (some ⟨g, 0, none⟩) N vc] 185 (0, 0)) :: blkP w.heap.size (.cells (itmV a n t (.slice da d.length dc)) 102 (0, 0)) :: rowP 188 2 (.slice (some ⟨g, 0, none⟩) N vc) N xs :: rowP 192 5 (.slice (some ⟨h, 0, none⟩) K kc) K es :: rest) y) (by kernel_rfl) (by kernel_rfl) (HZ2.out.drew (stabC (blkP_stable _ _) (stabC (rowP_stable _ _ _ _ _) (stabC (blkP_stable _ _) (stabC (blkP_stable _ _) (stabC (rowP_stable _ _ _ _ _) (stabC (rowP_stable _ _ _ _ _) (HL.out)))))))) (fun y hy => ⟨(HC.out y hy).1, HD18.out _ y hy⟩) ?_
            iterate 6
              (apply ordq_pure (ho := rfl)
               · go_simp
               · intro x hx; obtain ⟨x1, x2⟩ := hx; go_simp; rfl
               apply ordq_norm
               · go_simp; rfl)
            apply ordq_pure (ho := rfl)
            · go_simp
            · exact fun x hx => exec_ldS (.tmp 8) 192 rfl rfl hx.2
            apply ordq_norm
            · go_simp; rfl
            apply ordq_eff (ho := rfl)
            · go_simp
            intro y hy
            refine eff_bldEb (stabC (blkP_stable _ _) (stabC (rowP_stable _ _ _ _ _) (stabC (blkP_stable _ _) (stabC (blkP_stable _ _) (stabC (rowP_stable _ _ _ _ _) (stabC (rowP_stable _ _ _ _ _) (HL.out))))))) hy (.tmp 144) rfl X (a : Int) (n : Int) (t : Int) ra (u8s d).length rc ?_ (fun z g hz => ⟨(HC.out z hz.tail).1, HD18.out _ z hz.tail⟩) ?_
            · go_simp
            intro g9
            apply ordq_norm
            · go_simp; rfl
            clear hy y
            apply ordq_eff (ho := rfl)
            · go_simp
            intro y hy
            refine eff_call (f := 102) (by go_simp) (cInsE (stabC (blkP_stable _ _) (stabC (rowP_stable _ _ _ _ _) (stabC (blkP_stable _ _) (stabC (blkP_stable _ _) (stabC (rowP_stable _ _ _ _ _) (HL.out)))))) j K g9 (.slice (some ⟨h, 0, none⟩) K kc) es #[.int .i64 X, .int .i64 (a : Int), .int .i64 (n : Int), .int .i64 (t : Int), .slice ra (u8s d).length rc] rfl (by intro u hu; simp at hu; rcases hu with rfl | rfl | rfl | rfl | rfl <;> rfl) HES1.out HJK.out HK2.out (hy.perm (List.perm_middle (l₁ := [_, _, _, _, _, _])))) ?_
            rintro e w3 ⟨vi, rfl, h3⟩
            obtain ⟨v2, c2, rfl⟩ := own_slice (Sts.rowOwnS' h3)
            refine ⟨_, rfl, (fun y => y.cell? ⟨g, f * 2 + 1, none⟩ = some (.slice (some ⟨h, 0, none⟩) K kc) ∧ (loadVar 192 ⟨b8, 0, none⟩).run Tryz.prog y = .ok (.agg #[.int .i64 X, .int .i64 (a : Int), .int .i64 (n : Int), .int .i64 (t : Int), .slice ra (u8s d).length rc]) y), (fun y => Sts W (rowP 192 5 (.slice v2 (K + 1) c2) (K + 1) (es.take (j * 5) ++ (#[.int .i64 X, .int .i64 (a : Int), .int .i64 (n : Int), .int .i64 (t : Int), .slice ra (u8s d).length rc] : Array Value).toList ++ es.drop (j * 5)) :: blkP b8 (.cells #[.int .i64 X, .int .i64 (a : Int), .int .i64 (n : Int), .int .i64 (t : Int), .slice ra (u8s d).length rc] 192 (0, 0)) :: rowP 5 1 (.slice ra (u8s d).length rc) (u8s d).length (u8s d) :: blkP q (.cells #[.bool true, .slice (some ⟨g, 0, none⟩) N vc] 185 (0, 0)) :: blkP w.heap.size (.cells (itmV a n t (.slice da d.length dc)) 102 (0, 0)) :: rowP 188 2 (.slice (some ⟨g, 0, none⟩) N vc) N xs :: rest) y), h3, (fun y hy => ⟨rowCellC (hy.perm (List.perm_middle (l₁ := [_, _, _, _, _]))) _ _ HFX.out, HD18.out _ y hy.tail⟩), (fun _ h => h), ?_⟩
            clear h3 hy y 
            apply ordq_norm
            · go_simp; rfl
            iterate 2
              (apply ordq_pure (ho := rfl)
               · go_simp
               · intro x hx; go_simp; rfl
               apply ordq_norm
               · go_simp; rfl)
            apply ordq_eff (ho := rfl)
            · go_simp
            intro y hy
            refine effS_rowC rfl (hy.perm (List.perm_middle (l₁ := [_, _, _, _, _]))) (stabC (rowP_stable _ _ _ _ _) (stabC (blkP_stable _ _) (stabC (rowP_stable _ _ _ _ _) (stabC (blkP_stable _ _) (stabC (blkP_stable _ _) (HL.out)))))) (.tmp 148) (.tmp 146) 186 rfl (f * 2 + 1) (.slice v2 (K + 1) c2) _ ?_ ?_ szSlE HFX.out rfl (fun y' => Sts W (rowP 188 2 (.slice (some ⟨g, 0, none⟩) N vc) N (xs.set (f * 2 + 1) (.slice v2 (K + 1) c2)) :: rowP 192 5 (.slice v2 (K + 1) c2) (K + 1) (es.take (j * 5) ++ (#[.int .i64 X, .int .i64 (a : Int), .int .i64 (n : Int), .int .i64 (t : Int), .slice ra (u8s d).length rc] : Array Value).toList ++ es.drop (j * 5)) :: blkP b8 (.cells #[.int .i64 X, .int .i64 (a : Int), .int .i64 (n : Int), .int .i64 (t : Int), .slice ra (u8s d).length rc] 192 (0, 0)) :: rowP 5 1 (.slice ra (u8s d).length rc) (u8s d).length (u8s d) :: blkP q (.cells #[.bool true, .slice (some ⟨g, 0, none⟩) N vc] 185 (0, 0)) :: blkP w.heap.size (.cells (itmV a n t (.slice da d.length dc)) 102 (0, 0)) :: rest) y') (fun y' hy' => hy') ?_
            · go_simp
            · go_simp
            apply ordq_norm
            · go_simp; rfl
            clear hy y
            refine ordq_nil fun z hz => ?_
            have HQ := hid hz
            clear hz HZ2
            go_wp2_with fail
            go_ret
            refine ⟨rfl, .slice v2 (K + 1) c2, .slice ra d.length rc, ?_⟩
            have h9 := Sts.sub (HQ.out.perm (List.perm_middle (l₁ := [_, _, _, _]))) (.cons_cons _ (.cons_cons _ (.cons_cons _ (.cons _ (.cons_cons _ (.cons _ (List.Sublist.refl _)))))))
            rw [u8s_len] at h9
            first
              | exact h9
              | (rw [List.append_assoc] at h9; exact h9)
              | (rw [List.append_assoc] at h9; simpa using h9)
      · have n0 : ¬ (0 : Int) < (j : Int) := by omega
        have n1 : (j : Int) ≤ 0 := by omega
        have d0 : decide ((0 : Int) < (j : Int)) = false := decide_eq_false n0
        have HJ0 : Hid (j = 0) := hid (by omega)
        have HP := hid hp
        have HJK : Hid (j ≤ K) := hid hj
        clear hj hw hp
        go_wp2_with fail
        refine wp_region_ordQ (.pure 0 (.pure 1 (.pure 2 (.pure 3 (.pure 4 (.pure 5 (.pure 6 (.pure 7 (.pure 8 (.pure 9 (.pure 10 (.pure 11 (.pure 12 (.pure 13 (.pure 14 (.pure 15 .nil)))))))))))))))) (fun y => True) (fun y => Sts W (blkP b8 (.cells #[.int .i64 X, .int .i64 (a : Int), .int .i64 (n : Int), .int .i64 (t : Int), .slice ra (u8s d).length rc] 192 (0, 0)) :: rowP 5 1 (.slice ra (u8s d).length rc) (u8s d).length (u8s d) :: blkP q (.cells #[.bool true, .slice (some ⟨g, 0, none⟩) N vc] 185 (0, 0)) :: blkP w.heap.size (.cells (itmV a n t (.slice da d.length dc)) 102 (0, 0)) :: rowP 188 2 (.slice (some ⟨g, 0, none⟩) N vc) N xs :: rowP 192 5 (.slice (some ⟨h, 0, none⟩) K kc) K es :: rest) y) (by kernel_rfl) (by kernel_rfl) (HW.out.drew (stabC (blkP_stable _ _) (stabC (rowP_stable _ _ _ _ _) (stabC (blkP_stable _ _) (stabC (blkP_stable _ _) (stabC (rowP_stable _ _ _ _ _) (stabC (rowP_stable _ _ _ _ _) (HL.out)))))))) (fun y hy => trivial) ?_
        iterate 3
          (apply ordq_pure (ho := rfl)
           · go_simp
           · intro x hx; go_simp; rfl
           apply ordq_norm
           · go_simp; rfl)
        iterate 12
          (apply ordq_skip (ho := rfl)
           · go_simp
           apply ordq_norm
           · go_simp; rfl)
        iterate 1
          (apply ordq_pure (ho := rfl)
           · go_simp
           · intro x hx; go_simp; rfl
           apply ordq_norm
           · go_simp; rfl)
        refine ordq_nil fun z hz => ?_
        have HV := hid hz
        clear hz HW
        have hj0 : j = 0 := HJ0.out
        have hp := HP.out
        rw [hj0] at hp
        obtain rfl : j = k := hj0.trans hp
        have hkK : j < K := by have := HK1.out; omega
        clear hp n0 n1 d0 h0 HP HJ0 hj0
        · have i0 : (j : Int) < (K : Int) := by omega
          obtain ⟨ck, hck⟩ : ∃ ck, ck = ents[j]'(by have := HKL.out; omega) := ⟨_, rfl⟩
          have e1 : (ck.c == X) = false := by rw [beq_eq_false_iff_ne, hck]; exact HNO.out _
          have C5 := hid (show ∀ y : World, Sts W (blkP b8 (.cells #[.int .i64 X, .int .i64 (a : Int), .int .i64 (n : Int), .int .i64 (t : Int), .slice ra (u8s d).length rc] 192 (0, 0)) :: rowP 5 1 (.slice ra (u8s d).length rc) (u8s d).length (u8s d) :: blkP q (.cells #[.bool true, .slice (some ⟨g, 0, none⟩) N vc] 185 (0, 0)) :: blkP w.heap.size (.cells (itmV a n t (.slice da d.length dc)) 102 (0, 0)) :: rowP 188 2 (.slice (some ⟨g, 0, none⟩) N vc) N xs :: rowP 192 5 (.slice (some ⟨h, 0, none⟩) K kc) K es :: rest) y → y.cell? ⟨h, j * 5, none⟩ = some (.int .i64 ck.c) from fun y hy => by rw [hck]; exact (HC.out y hy).2.1 j _)
          clear hck
          go_wp2_with fail
          refine wp_region_ordQ (.pure 0 (.pure 1 (.pure 2 (.pure 3 (.pure 4 (.pure 5 (.pure 6 (.pure 7 (.pure 8 (.pure 9 (.pure 10 (.pure 11 (.pure 12 (.pure 13 (.pure 14 (.pure 15 (.pure 16 (.pure 17 (.pure 18 (.pure 19 .nil)))))))))))))))))))) (fun y => y.cell? ⟨g, f * 2 + 1, none⟩ = some (.slice (some ⟨h, 0, none⟩) K kc) ∧ y.cell? ⟨h, j * 5, none⟩ = some (.int .i64 ck.c) ∧ y.cell? ⟨b8, 0, none⟩ = some (.int .i64 X)) (fun y => Sts W (blkP b8 (.cells #[.int .i64 X, .int .i64 (a : Int), .int .i64 (n : Int), .int .i64 (t : Int), .slice ra (u8s d).length rc] 192 (0, 0)) :: rowP 5 1 (.slice ra (u8s d).length rc) (u8s d).length (u8s d) :: blkP q (.cells #[.bool true, .slice (some ⟨g, 0, none⟩) N vc] 185 (0, 0)) :: blkP w.heap.size (.cells (itmV a n t (.slice da d.length dc)) 102 (0, 0)) :: rowP 188 2 (.slice (some ⟨g, 0, none⟩) N vc) N xs :: rowP 192 5 (.slice (some ⟨h, 0, none⟩) K kc) K es :: rest) y) (by kernel_rfl) (by kernel_rfl) (HV.out.drew (stabC (blkP_stable _ _) (stabC (rowP_stable _ _ _ _ _) (stabC (blkP_stable _ _) (stabC (blkP_stable _ _) (stabC (rowP_stable _ _ _ _ _) (stabC (rowP_stable _ _ _ _ _) (HL.out)))))))) (fun y hy => ⟨(HC.out y hy).1, C5.out y hy, (HC.out y hy).2.2⟩) ?_
          iterate 20
            (apply ordq_pure (ho := rfl)
             · go_simp
             · intro x hx; obtain ⟨x1, x2, x3⟩ := hx; go_simp; rfl
             apply ordq_norm
             · go_simp; rfl)
          refine ordq_nil fun z hz => ?_
          have HZ2 := hid hz
          clear hz HV
          clear i0 e1
          have HD18 := hid (show ∀ (T2 : List HProp) (y : World), Sts W (blkP b8 (.cells #[.int .i64 X, .int .i64 (a : Int), .int .i64 (n : Int), .int .i64 (t : Int), .slice ra (u8s d).length rc] 192 (0, 0)) :: rowP 5 1 (.slice ra (u8s d).length rc) (u8s d).length (u8s d) :: blkP q (.cells #[.bool true, .slice (some ⟨g, 0, none⟩) N vc] 185 (0, 0)) :: blkP w.heap.size (.cells (itmV a n t (.slice da d.length dc)) 102 (0, 0)) :: rowP 188 2 (.slice (some ⟨g, 0, none⟩) N vc) N xs :: T2) y → (loadVar 192 ⟨b8, 0, none⟩).run Tryz.prog y = .ok (.agg #[.int .i64 X, .int .i64 (a : Int), .int .i64 (n : Int), .int .i64 (t : Int), .slice ra (u8s d).length rc]) y from fun T2 y hy => ldEnt (cs := #[.int .i64 X, .int .i64 (a : Int), .int .i64 (n : Int), .int .i64 (t : Int), .slice ra (u8s d).length rc]) rfl hy)
          have c1 := (HC.out _ HZ2.out).1
          go_wp2_with fail
          refine wp_region_ordQS (fun i => i == 11) (.pure 0 (.pure 1 (.pure 2 (.pure 3 (.pure 4 (.pure 5 (.pure 6 (.eff 7 (.eff 8 (.pure 9 (.pure 10 (.eff 11 .nil)))))))))))) (fun y => y.cell? ⟨g, f * 2 + 1, none⟩ = some (.slice (some ⟨h, 0, none⟩) K kc) ∧ (loadVar 192 ⟨b8, 0, none⟩).run Tryz.prog y = .ok (.agg #[.int .i64 X, .int .i64 (a : Int), .int .i64 (n : Int), .int .i64 (t : Int), .slice ra (u8s d).length rc]) y) (fun y => Sts W (blkP b8 (.cells #[.int .i64 X, .int .i64 (a : Int), .int .i64 (n : Int), .int .i64 (t : Int), .slice ra (u8s d).length rc] 192 (0, 0)) :: rowP 5 1 (.slice ra (u8s d).length rc) (u8s d).length (u8s d) :: blkP q (.cells #[.bool true, .slice (some ⟨g, 0, none⟩) N vc] 185 (0, 0)) :: blkP w.heap.size (.cells (itmV a n t (.slice da d.length dc)) 102 (0, 0)) :: rowP 188 2 (.slice (some ⟨g, 0, none⟩) N vc) N xs :: rowP 192 5 (.slice (some ⟨h, 0, none⟩) K kc) K es :: rest) y) (by kernel_rfl) (by kernel_rfl) (HZ2.out.drew (stabC (blkP_stable _ _) (stabC (rowP_stable _ _ _ _ _) (stabC (blkP_stable _ _) (stabC (blkP_stable _ _) (stabC (rowP_stable _ _ _ _ _) (stabC (rowP_stable _ _ _ _ _) (HL.out)))))))) (fun y hy => ⟨(HC.out y hy).1, HD18.out _ y hy⟩) ?_
          iterate 6
            (apply ordq_pure (ho := rfl)
             · go_simp
             · intro x hx; obtain ⟨x1, x2⟩ := hx; go_simp; rfl
             apply ordq_norm
             · go_simp; rfl)
          apply ordq_pure (ho := rfl)
          · go_simp
          · exact fun x hx => exec_ldS (.tmp 8) 192 rfl rfl hx.2
          apply ordq_norm
          · go_simp; rfl
          apply ordq_eff (ho := rfl)
          · go_simp
          intro y hy
          refine eff_bldEb (stabC (blkP_stable _ _) (stabC (rowP_stable _ _ _ _ _) (stabC (blkP_stable _ _) (stabC (blkP_stable _ _) (stabC (rowP_stable _ _ _ _ _) (stabC (rowP_stable _ _ _ _ _) (HL.out))))))) hy (.tmp 144) rfl X (a : Int) (n : Int) (t : Int) ra (u8s d).length rc ?_ (fun z g hz => ⟨(HC.out z hz.tail).1, HD18.out _ z hz.tail⟩) ?_
          · go_simp
          intro g9
          apply ordq_norm
          · go_simp; rfl
          clear hy y
          apply ordq_eff (ho := rfl)
          · go_simp
          intro y hy
          refine eff_call (f := 102) (by go_simp) (cInsE (stabC (blkP_stable _ _) (stabC (rowP_stable _ _ _ _ _) (stabC (blkP_stable _ _) (stabC (blkP_stable _ _) (stabC (rowP_stable _ _ _ _ _) (HL.out)))))) j K g9 (.slice (some ⟨h, 0, none⟩) K kc) es #[.int .i64 X, .int .i64 (a : Int), .int .i64 (n : Int), .int .i64 (t : Int), .slice ra (u8s d).length rc] rfl (by intro u hu; simp at hu; rcases hu with rfl | rfl | rfl | rfl | rfl <;> rfl) HES1.out HJK.out HK2.out (hy.perm (List.perm_middle (l₁ := [_, _, _, _, _, _])))) ?_
          rintro e w3 ⟨vi, rfl, h3⟩
          obtain ⟨v2, c2, rfl⟩ := own_slice (Sts.rowOwnS' h3)
          refine ⟨_, rfl, (fun y => y.cell? ⟨g, f * 2 + 1, none⟩ = some (.slice (some ⟨h, 0, none⟩) K kc) ∧ (loadVar 192 ⟨b8, 0, none⟩).run Tryz.prog y = .ok (.agg #[.int .i64 X, .int .i64 (a : Int), .int .i64 (n : Int), .int .i64 (t : Int), .slice ra (u8s d).length rc]) y), (fun y => Sts W (rowP 192 5 (.slice v2 (K + 1) c2) (K + 1) (es.take (j * 5) ++ (#[.int .i64 X, .int .i64 (a : Int), .int .i64 (n : Int), .int .i64 (t : Int), .slice ra (u8s d).length rc] : Array Value).toList ++ es.drop (j * 5)) :: blkP b8 (.cells #[.int .i64 X, .int .i64 (a : Int), .int .i64 (n : Int), .int .i64 (t : Int), .slice ra (u8s d).length rc] 192 (0, 0)) :: rowP 5 1 (.slice ra (u8s d).length rc) (u8s d).length (u8s d) :: blkP q (.cells #[.bool true, .slice (some ⟨g, 0, none⟩) N vc] 185 (0, 0)) :: blkP w.heap.size (.cells (itmV a n t (.slice da d.length dc)) 102 (0, 0)) :: rowP 188 2 (.slice (some ⟨g, 0, none⟩) N vc) N xs :: rest) y), h3, (fun y hy => ⟨rowCellC (hy.perm (List.perm_middle (l₁ := [_, _, _, _, _]))) _ _ HFX.out, HD18.out _ y hy.tail⟩), (fun _ h => h), ?_⟩
          clear h3 hy y 
          apply ordq_norm
          · go_simp; rfl
          iterate 2
            (apply ordq_pure (ho := rfl)
             · go_simp
             · intro x hx; go_simp; rfl
             apply ordq_norm
             · go_simp; rfl)
          apply ordq_eff (ho := rfl)
          · go_simp
          intro y hy
          refine effS_rowC rfl (hy.perm (List.perm_middle (l₁ := [_, _, _, _, _]))) (stabC (rowP_stable _ _ _ _ _) (stabC (blkP_stable _ _) (stabC (rowP_stable _ _ _ _ _) (stabC (blkP_stable _ _) (stabC (blkP_stable _ _) (HL.out)))))) (.tmp 148) (.tmp 146) 186 rfl (f * 2 + 1) (.slice v2 (K + 1) c2) _ ?_ ?_ szSlE HFX.out rfl (fun y' => Sts W (rowP 188 2 (.slice (some ⟨g, 0, none⟩) N vc) N (xs.set (f * 2 + 1) (.slice v2 (K + 1) c2)) :: rowP 192 5 (.slice v2 (K + 1) c2) (K + 1) (es.take (j * 5) ++ (#[.int .i64 X, .int .i64 (a : Int), .int .i64 (n : Int), .int .i64 (t : Int), .slice ra (u8s d).length rc] : Array Value).toList ++ es.drop (j * 5)) :: blkP b8 (.cells #[.int .i64 X, .int .i64 (a : Int), .int .i64 (n : Int), .int .i64 (t : Int), .slice ra (u8s d).length rc] 192 (0, 0)) :: rowP 5 1 (.slice ra (u8s d).length rc) (u8s d).length (u8s d) :: blkP q (.cells #[.bool true, .slice (some ⟨g, 0, none⟩) N vc] 185 (0, 0)) :: blkP w.heap.size (.cells (itmV a n t (.slice da d.length dc)) 102 (0, 0)) :: rest) y') (fun y' hy' => hy') ?_
          · go_simp
          · go_simp
          apply ordq_norm
          · go_simp; rfl
          clear hy y
          refine ordq_nil fun z hz => ?_
          have HQ := hid hz
          clear hz HZ2
          go_wp2_with fail
          go_ret
          refine ⟨rfl, .slice v2 (K + 1) c2, .slice ra d.length rc, ?_⟩
          have h9 := Sts.sub (HQ.out.perm (List.perm_middle (l₁ := [_, _, _, _]))) (.cons_cons _ (.cons_cons _ (.cons_cons _ (.cons _ (.cons_cons _ (.cons _ (List.Sublist.refl _)))))))
          rw [u8s_len] at h9
          first
            | exact h9
            | (rw [List.append_assoc] at h9; exact h9)
            | (rw [List.append_assoc] at h9; simpa using h9)
end
end Go.Proofs.YtnklmadmenkdoaaGreat
