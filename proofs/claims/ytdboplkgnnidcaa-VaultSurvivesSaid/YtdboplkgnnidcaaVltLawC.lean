/- The law VaultSurvives: its walk. -/
import Derived.Test.YtdboplkgnnidcaaVltApart
set_option linter.unusedVariables false
set_option linter.unusedSimpArgs false
namespace Vlt
theorem saveV_cut (want : List Nat) (at' half : Nat) (b : List Nat) (cut : Int) (hh : 4 ≤ half) (hat : at' + 2 * half ≤ want.length) (hb : ∀ x ∈ b, x < 256) (hl : ¬ 4 * ((half : Int) - 3) < b.length) (hg : (newV want at' half).2.1 < 4294967295) :
    (saveV want at' half b cut).2.length = want.length ∧ (((saveV want at' half b cut).1 = 0 ∧ (newV (saveV want at' half b cut).2 at' half).2 = ((newV want at' half).2.1 + 1, b)) ∨
      ((saveV want at' half b cut).1 = 17 ∧ 0 ≤ cut ∧ (newV (saveV want at' half b cut).2 at' half).2 = (newV want at' half).2)) := by
  generalize hn : (wordsV ((newV want at' half).2.1 + 1) b).length = n
  have e : saveV want at' half b cut = (if doneV n cut < n + 1 then 17 else 0, wrote want (at' + oldV want at' half * half) (wordsV ((newV want at' half).2.1 + 1) b) (doneV n cut)) := by
    unfold saveV
    rw [if_neg hl, if_neg (by omega), hn]
  have hd : doneV n cut ≤ n + 1 ∧ (doneV n cut < n + 1 → 0 ≤ cut) := by unfold doneV; split <;> omega
  have := newV_wrote want at' half b hh hat hb hl ((newV want at' half).2.1 + 1) (doneV n cut) rfl (by rw [hn]; exact hd.1)
  rw [hn] at this
  rw [e]
  refine ⟨wrote_len _ _ _ _, ?_⟩
  simp only []
  by_cases h : doneV n cut < n + 1
  · right
    rw [if_pos h]
    rw [if_neg (by omega)] at this
    exact ⟨rfl, hd.2 h, this⟩
  · left
    rw [if_neg h]
    rw [if_pos (by omega)] at this
    exact ⟨rfl, this⟩
theorem newV_zeros (n : Nat) (h8 : 8 ≤ n) : (newV (List.replicate n 0) 0 (n / 2)).2.1 = 0 := by
  have hr : ∀ a, a < n → readV (List.replicate n 0) (n / 2) a = (0, []) := fun a ha => readV_zero _ _ _ (by simp [List.getElem?_replicate, ha])
  unfold newV
  rw [hr 0 (by omega), hr (0 + n / 2) (by omega)]
  rfl
end Vlt
namespace Go.Proofs.Ytdboplkgnnidcaa
open Go.RowKit Go.Proofs.Num
theorem wordP.clean {p : Nat} {want : List Nat} {w : World} {F : Nat → Prop} (h : wordP p 0 want w F) : ∃ up, heldP p 0 want up w F ∧ ∀ i, up.getD i false = false := by
  obtain ⟨up, ws, c, h1, h2, h3⟩ := h
  refine ⟨up, ⟨ws, c, h1, h2, h3⟩, fun i => ?_⟩
  have h0 : up.count true = 0 := by omega
  rw [List.getD_eq_getElem?_getD]
  cases e : up[i]? with
  | none => rfl
  | some b =>
    cases b with
    | false => rfl
    | true => exact absurd (List.mem_of_getElem? e) (List.count_eq_zero.1 h0)
def Marks (S : List (Int × Int)) (k : Nat) (up : List Bool) : Prop := ∀ i, up.getD i false = true → ∃ j, ∃ h : j < S.length, j < k ∧ S[j].1 = (i : Int)
def SurvAt (w : World) (q p half : Nat) (W2 : List Nat) (S : List (Int × Int)) (i : Value) (wr : World) : Prop := ∃ (k : Nat) (up : List Bool), k ≤ S.length ∧ i = .int .i64 k ∧ Marks S k up ∧ Sts w [heldP p k W2 up, vaultP q p 0 half] wr
theorem Marks.step {S : List (Int × Int)} {k : Nat} {up : List Bool} (h : Marks S k up) (hk : k < S.length) (i : Nat) (hi : S[k].1 = (i : Int)) : Marks S (k + 1) (up.set i true) := by
  intro x hx
  by_cases e : i = x
  · exact ⟨k, hk, by omega, by rw [hi, e]⟩
  · have : (up.set i true).getD x false = up.getD x false := by
      rw [List.getD_eq_getElem?_getD, List.getD_eq_getElem?_getD, List.getElem?_set_ne e]
    rw [this] at hx
    obtain ⟨j, hj, h1, h2⟩ := h x hx
    exact ⟨j, hj, by omega, h2⟩
theorem Marks.free {S : List (Int × Int)} {n : Int} {k : Nat} {up : List Bool} (h : Marks S k up) (ho : ApartOk S n S.length) (hk : k < S.length) (i : Nat) (hi : S[k].1 = (i : Int)) : up.getD i false = false := by
  cases e : up.getD i false with
  | false => rfl
  | true =>
    obtain ⟨j, hj, h1, h2⟩ := h i e
    exact absurd (by rw [h2, hi]) ((ho k hk hk).2.2 j h1)
set_option maxRecDepth 100000 in
theorem survives_few (w : World) (z cut : Int) (v1 v2 vU : Value) (b1 b2 : List Nat) (S : List (Int × Int)) (h1 : RdB w v1 b1) (h2 : RdB w v2 b2) (h : z < 8 ∨ 120 < z) :
    Calls Try.prog 10 #[.int .i64 z, .agg #[v1, v2, .int .i64 cut], vU] w fun e w' => e = .returned (.bool true) ∧ Below w.heap.size w w' := by
  have h' : decide (z < 8) = true ∨ (decide (z < 8) = false ∧ decide (120 < z) = true) := by
    simp only [decide_eq_true_eq, decide_eq_false_iff_not]; omega
  clear h
  have hB0 : Below w.heap.size w (w.alloc (.cells #[v1, v2, .int .i64 cut] 71)) := (Below.refl _ _).alloc (Nat.le_refl _) _
  have HB0 := hid hB0
  clear hB0 h1 h2
  rcases h' with h | ⟨h, h2⟩
  all_goals
    go_enter Try.func10, Try.ntmps10
    go_wp2_with fail
    go_quiet (fail)
    go_wp2_with fail
    refine (cAwake _).mono ?_
    rintro e w1 ⟨rfl, hb1⟩
    have H1 := hid ((below_drewN HB0.out _).trans (hb1.mono (by simp)))
    clear hb1
    go_wp2_with fail
    go_ret
    exact ⟨rfl, H1.out⟩
set_option maxRecDepth 100000 in
theorem survives_long (w : World) (n : Nat) (h8 : 8 ≤ n) (h120 : n ≤ 120) (cut : Int) (v1 v2 vU : Value) (b1 b2 : List Nat) (S : List (Int × Int)) (h1 : RdB w v1 b1) (h2 : RdB w v2 b2)
    (h : 4 * (((n / 2 : Nat) : Int) - 3) < b1.length ∨ 4 * (((n / 2 : Nat) : Int) - 3) < b2.length) :
    Calls Try.prog 10 #[.int .i64 n, .agg #[v1, v2, .int .i64 cut], vU] w fun e w' => e = .returned (.bool true) ∧ Below w.heap.size w w' := by
  obtain ⟨a1, c1, rfl, _⟩ := h1.open
  obtain ⟨a2, c2, rfl, _⟩ := h2.open
  have h' : decide (4 * ((n : Int) / 2 - 3) < (b1.length : Int)) = true ∨ (decide (4 * ((n : Int) / 2 - 3) < (b1.length : Int)) = false ∧ decide (4 * ((n : Int) / 2 - 3) < (b2.length : Int)) = true) := by
    simp only [decide_eq_true_eq, decide_eq_false_iff_not]; omega
  have hd1 : decide ((n : Int) < 8) = false := decide_eq_false (by omega)
  have hd2 : decide (120 < (n : Int)) = false := decide_eq_false (by omega)
  clear h
  have hB0 : Below w.heap.size w (w.alloc (.cells #[.slice a1 b1.length c1, .slice a2 b2.length c2, .int .i64 cut] 71)) := (Below.refl _ _).alloc (Nat.le_refl _) _
  have HB0 := hid hB0
  clear hB0 h1 h2
  rcases h' with h | ⟨h, h2⟩
  all_goals
    go_enter Try.func10, Try.ntmps10
    go_wp2_with fail
    go_quiet (fail)
    go_wp2_with fail
    refine (cAwake _).mono ?_
    rintro e w1 ⟨rfl, hb1⟩
    have H1 := hid ((below_drewN HB0.out _).trans (hb1.mono (by simp)))
    clear hb1
    go_wp2_with fail
    refine (cRefRoom _ n (by omega)).mono ?_
    rintro e w2 ⟨rfl, rfl⟩
    go_wp2_with fail
    try
      refine (cRefRoom _ n (by omega)).mono ?_
      rintro e w2 ⟨rfl, rfl⟩
      go_wp2_with fail
    go_ret
    exact ⟨rfl, H1.out⟩
set_option maxRecDepth 100000 in
set_option maxHeartbeats 1000000 in
theorem survives_main (w : World) (n : Nat) (h8 : 8 ≤ n) (h120 : n ≤ 120) (cut : Int) (v1 v2 vU : Value) (b1 b2 : List Nat) (S : List (Int × Int)) (h1 : RdB w v1 b1) (h2 : RdB w v2 b2) (hU : UpsAt w vU S)
    (hl1 : ¬ 4 * (((n / 2 : Nat) : Int) - 3) < b1.length) (hl2 : ¬ 4 * (((n / 2 : Nat) : Int) - 3) < b2.length) :
    Calls Try.prog 10 #[.int .i64 n, .agg #[v1, v2, .int .i64 cut], vU] w fun e w' => e = .returned (.bool true) ∧ Below w.heap.size w w' := by
  have R1 := hid h1
  have R2 := hid h2
  obtain ⟨a1, c1, rfl, _⟩ := h1.open
  obtain ⟨a2, c2, rfl, _⟩ := h2.open
  have HU : Hid (∀ y, Below w.heap.size w y → UpsAt y vU S) := hid (by
    intro y hy
    obtain ⟨a, cap, e, hm, hx⟩ := hU
    refine ⟨a, cap, e, hm, fun j hj => ?_⟩
    obtain ⟨b, off, e2, hb, h3, h4⟩ := hx j hj
    exact ⟨b, off, e2, by have := hy.size; omega, by rw [hy.cell hb]; exact h3, by rw [hy.cell hb]; exact h4⟩)
  obtain ⟨aU, cU, rfl, hmU, _⟩ := hU
  unfold maxLen at hmU
  have hdl1 : decide (4 * (((n / 2 : Nat) : Int) - 3) < (b1.length : Int)) = false := decide_eq_false (by omega)
  have hdl2 : decide (4 * (((n / 2 : Nat) : Int) - 3) < (b2.length : Int)) = false := decide_eq_false (by omega)
  have hd1 : decide ((n : Int) < 8) = false := decide_eq_false (by omega)
  have hd2 : decide (120 < (n : Int)) = false := decide_eq_false (by omega)
  have hB0 : Below w.heap.size w (w.alloc (.cells #[.slice a1 b1.length c1, .slice a2 b2.length c2, .int .i64 cut] 71)) := (Below.refl _ _).alloc (Nat.le_refl _) _
  have HB0 := hid hB0
  have HL1 := hid hl1
  have HL2 := hid hl2
  clear hB0 h1 h2 hl1 hl2
  have hC : ∀ w1 (p : Nat), Sts w [wordP p 0 (List.replicate n 0)] w1 → Calls Try.prog 28 #[.pointer (some ⟨p, 0, none⟩), .int .i64 (0 : Int), .int .i64 n] w1 (OpenEnd w p 0 0 (n / 2) (List.replicate n 0) []) :=
    fun w1 p hs => cOpen stab0 p 0 (List.replicate n 0) (by decide) (by simp; omega) hs 0 n h8 (by simp)
  have HC := hid hC
  clear hC
  go_enter Try.func10, Try.ntmps10
  go_wp2_with fail
  go_quiet (fail)
  go_wp2_with fail
  refine (cAwake _).mono ?_
  rintro e w1 ⟨rfl, hb1⟩
  have H1 := hid ((below_drewN HB0.out _).trans (hb1.mono (by simp)))
  clear hb1 HB0
  go_wp2_with fail
  refine (cRefRoom _ n (by omega)).mono ?_
  rintro e w2 ⟨rfl, rfl⟩
  go_wp2_with fail
  refine (cRefRoom _ n (by omega)).mono ?_
  rintro e w2 ⟨rfl, rfl⟩
  go_wp2_with fail
  refine (cApart w1 _ S n (HU.out _ H1.out)).mono ?_
  rintro e w2 ⟨ba, rfl, hap, hb2⟩
  have HAP := hid hap
  have H2 := hid (H1.out.trans (hb2.mono H1.out.size))
  clear hap hb2 H1
  cases ba with
  | false =>
    go_wp2_with fail
    go_ret
    exact ⟨rfl, H2.out⟩
  | true =>
    have HAQ := hid (HAP.out (by first | rfl | trivial))
    clear HAP
    have H3 := hid ((Sts.nil w).quiet stab0 H2.out).withEmp
    clear H2
    go_wp2_with fail
    refine (Sts.call stab0 H3.out (wNew n (by omega))).mono ?_
    rintro e w3 ⟨p, rfl, h3⟩
    have H4 : Hid (Sts w [wordP p 0 (List.replicate n 0)] w3) := hid (h3.weaken (fun F h => h.word))
    clear h3 H3
    go_wp2_with fail
    refine (HC.out w3 p H4.out).mono ?_
    rintro e w4 ⟨q, rfl, h4⟩
    have hgz := Vlt.newV_zeros n h8
    have hsv := Vlt.saveV_whole (List.replicate n 0) 0 (n / 2) b1 (-1) (by omega) (by simp; omega) R1.out.2 (by have := HL1.out; omega) (by rw [hgz]; omega) (by omega)
    have hsave := cSave stab0 q p 0 (n / 2) 0 (List.replicate n 0) (by decide) (by omega) (by simp; omega) (by simp; omega) h4 (.slice a1 b1.length c1) b1 (RdsB.arg R1.out) (-1)
    rw [hgz, List.length_replicate] at hsv
    have HSV := hid hsave
    clear hsave hgz h4 H4 HC
    unfold SaveEnd at HSV
    generalize Vlt.saveV (List.replicate n 0) 0 (n / 2) b1 (-1) = r at *
    obtain ⟨code, W1⟩ := r
    simp only [] at hsv HSV
    obtain ⟨rfl, hW1, hnew⟩ := hsv
    have HW1 := hid hW1
    have HNEW := hid hnew
    clear hW1 hnew
    go_wp2_with fail
    refine HSV.out.mono ?_
    rintro e w5 ⟨rfl, hs5⟩
    have hsv := Vlt.saveV_cut W1 0 (n / 2) b2 cut (by omega) (by rw [HW1.out]; omega) R2.out.2 (by have := HL2.out; omega) (by rw [HNEW.out]; simp only []; omega)
    rw [HNEW.out, HW1.out] at hsv
    have HSV2 := hid (cSave stab0 q p 0 (n / 2) 0 W1 (by decide) (by omega) (by rw [HW1.out]; omega) (by rw [HW1.out]; omega) hs5 (.slice a2 b2.length c2) b2 (RdsB.arg R2.out) cut)
    clear hs5 HSV
    unfold SaveEnd at HSV2
    generalize Vlt.saveV W1 0 (n / 2) b2 cut = r at *
    obtain ⟨f, W2⟩ := r
    simp only [] at hsv HSV2
    obtain ⟨hW2, hfin⟩ := hsv
    have HW2 := hid hW2
    have hb' : ∃ gf bf, (Vlt.newV W2 0 (n / 2)).2 = (gf, bf) ∧ gf ≠ 0 ∧ ((f = 0 ∧ bf = b2) ∨ (f = 17 ∧ 0 ≤ cut ∧ bf = b1)) := by
      rcases hfin with ⟨h1, h2⟩ | ⟨h1, h2, h3⟩
      · exact ⟨_, _, h2, by decide, Or.inl ⟨h1, rfl⟩⟩
      · exact ⟨_, _, h3, by decide, Or.inr ⟨h1, h2, rfl⟩⟩
    obtain ⟨gf, bf, hnew2, hgf, hcase⟩ := hb'
    have HNEW2 := hid hnew2
    have HCASE := hid hcase
    have HGF := hid hgf
    clear hfin hW2 hnew2 hcase hgf HNEW HW1
    go_wp2_with fail
    refine HSV2.out.mono ?_
    rintro e w6 ⟨rfl, hs6⟩
    have hs6' : ∃ up, Marks S 0 up ∧ Sts w [heldP p 0 W2 up, vaultP q p 0 (n / 2)] w6 := by
      obtain ⟨F, ⟨F1, F2, ha, hr, hd, hF⟩, hb, hn⟩ := hs6.swap
      obtain ⟨up, hu, hf⟩ := wordP.clean ha
      exact ⟨up, (fun i hi => by rw [hf i] at hi; cases hi), ⟨F, ⟨F1, F2, hu, hr, hd, hF⟩, hb, hn⟩⟩
    obtain ⟨up0, hm0, hs6'⟩ := hs6'
    have H6 := hid hs6'
    have HM0 := hid hm0
    clear hs6 hs6' hm0 HSV2
    have hmS : S.length ≤ 40 := HAQ.out.1
    go_wp2_with fail
    go_loopw [14] (fun i wr => SurvAt w q p (n / 2) W2 S i wr) (fun i _ => S.length - (intOf i).toNat)
    case atStart => exact ⟨0, up0, by omega, rfl, HM0.out, H6.out⟩
    case round =>
      obtain ⟨k, up, hk, rfl, hmk, hs⟩ := hrel
      clear HM0 H6
      have HMK := hid hmk
      have HS := hid hs
      clear hmk hs
      by_cases hlt : k < S.length
      · have hup := HU.out w (Below.refl _ _)
        obtain ⟨aU', cU', eU, _, hx⟩ := hup
        injection eU with e1 e2 e3
        subst e1
        clear e2 e3
        obtain ⟨b, off, rfl, hb, c0, c1⟩ := hx k hlt
        obtain ⟨⟨hx0, hx1⟩, ⟨hy0, hy1⟩, _⟩ := HAQ.out.2 k hlt hlt
        obtain ⟨x, hxx⟩ : ∃ x : Nat, S[k].1 = (x : Int) := ⟨S[k].1.toNat, by omega⟩
        obtain ⟨y, hyy⟩ : ∃ y : Nat, S[k].2 = (y : Int) := ⟨S[k].2.toNat, by omega⟩
        have HFREE := hid (Marks.free HMK.out HAQ.out.2 hlt x hxx)
        have HSTEP := hid (Marks.step HMK.out hlt x hxx)
        rw [hxx] at c0 hx1
        rw [hyy] at c1 hy1
        have HC0 := hid c0
        have HC1 := hid c1
        clear c0 c1 hxx hyy hx0 hy0 hx
        have HFL := hid (fun yw (hy : Sts w [heldP p k W2 up, vaultP q p 0 (n / 2)] yw) => Sts.callV (stab1 (blkP_stable _ _)) hy (hFlip (p := p) (K := k) up x y (by rw [HW2.out]; omega) (by omega) HFREE.out))
        go_wp2_with fail
        refine wp_region_ord (.pure 0 (.pure 1 (.pure 2 (.pure 3 (.pure 4 (.pure 5 (.pure 6 (.pure 7 (.pure 8 (.pure 9 (.pure 10 (.eff 11 .nil)))))))))))) (fun yw => Below w.heap.size w yw) (fun yw => Sts w [heldP p k W2 up, vaultP q p 0 (n / 2)] yw) (by kernel_rfl) (by kernel_rfl) (HS.out.drew (stabC (heldP_stable _ _ _ _) (stab1 (blkP_stable _ _)))) (fun _ h => h.below) ?_
        iterate 11
          (apply ord_pure (ho := rfl)
           · go_simp
           · intro yw hx; have c0 : yw.cell? ⟨b, off + k * 2, none⟩ = some (.int .i64 (x : Int)) := (by rw [hx.cell hb]; exact HC0.out); have c1 : yw.cell? ⟨b, off + k * 2 + 1, none⟩ = some (.int .i64 (y : Int)) := (by rw [hx.cell hb]; exact HC1.out); go_simp; rfl
           apply ord_norm
           · go_simp; rfl)
        apply ord_eff (ho := rfl)
        · go_simp
        intro yw hy
        refine eff_call (f := 26) (by go_simp) (HFL.out yw hy) ?_
        rintro e w7 ⟨rfl, hs7⟩
        refine ⟨_, rfl, (fun yw => Below w.heap.size w yw), (fun yw => Sts w [heldP p (k + 1) W2 (up.set x true), vaultP q p 0 (n / 2)] yw), hs7, (fun _ h => h.below), (fun _ h => h), ?_⟩
        clear hs7 hy
        apply ord_norm
        · go_simp; rfl
        refine ord_nil fun yw hy => ?_
        have HF := hid hy
        clear hy
        go_wp2_with fail
        go_roundw
        case rel => exact ⟨k + 1, up.set x true, by omega, by go_num, HSTEP.out, HF.out⟩
        case measure => simp [intOf]; omega
      · have hks : k ≤ 40 := by omega
        have HWD : Hid (Sts w [vaultP q p 0 (n / 2), wordP p k W2] wr) := hid (HS.out.weaken (fun F h => h.word)).swap
        have HLD := hid (cLoad stab0 q p 0 (n / 2) k W2 (by omega) (by omega) (by rw [HW2.out]; omega) (by rw [HW2.out]; omega) HWD.out)
        unfold LoadEnd at HLD
        rw [HNEW2.out] at HLD
        simp only [] at HLD
        rw [if_neg HGF.out, if_neg HGF.out] at HLD
        clear HS HWD
        rcases HCASE.out with ⟨rfl, hbf⟩ | ⟨rfl, hc0, hbf⟩
        · have HBF := hid hbf
          clear hbf
          go_wp2_with fail
          refine HLD.out.mono ?_
          rintro e w8 ⟨bv, rfl, hs8⟩
          rw [HBF.out] at hs8
          have HS8 := hid hs8.below
          have k1 := str8 (w := w8) (v := bv) (l := b2) ⟨Rd.of_own (Sts.rowOwn hs8) (u8s_len _), R2.out.2⟩
          have k2 := str8 (R2.out.below hs8.below)
          clear hs8 HLD
          generalize strB b2 = sb at *
          go_wp2_with fail
          go_ret
          exact ⟨rfl, HS8.out⟩
        · have HBF := hid hbf
          clear hbf
          have hdc : decide (0 ≤ cut) = true := decide_eq_true hc0
          go_wp2_with fail
          refine HLD.out.mono ?_
          rintro e w8 ⟨bv, rfl, hs8⟩
          rw [HBF.out] at hs8
          have HS8 := hid hs8.below
          have k1 := str8 (w := w8) (v := bv) (l := b1) ⟨Rd.of_own (Sts.rowOwn hs8) (u8s_len _), R1.out.2⟩
          have k2 := str8 (R1.out.below hs8.below)
          clear hs8 HLD
          generalize strB b1 = sb at *
          go_wp2_with fail
          go_ret
          exact ⟨rfl, HS8.out⟩
end Go.Proofs.Ytdboplkgnnidcaa
