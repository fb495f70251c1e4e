/- The law VaultNewest: its walk. -/
import Derived.Test.YtdboplkgnnidcaaVltAwake
import Derived.Test.YtdboplkgnnidcaaVltLaw
import Derived.Test.YtdboplkgnnidcaaOpenS
import Derived.BigQuiet
set_option linter.unusedVariables false
set_option linter.unusedSimpArgs false
namespace Vlt
theorem saveV_whole (want : List Nat) (at' half : Nat) (b : List Nat) (cut : Int) (hh : 4 ≤ half) (hat : at' + 2 * half ≤ want.length) (hb : ∀ x ∈ b, x < 256) (hl : ¬ 4 * ((half : Int) - 3) < b.length) (hg : (newV want at' half).2.1 < 4294967295) (hc : cut < 0) :
    (saveV want at' half b cut).1 = 0 ∧ (saveV want at' half b cut).2.length = want.length ∧ (newV (saveV want at' half b cut).2 at' half).2 = ((newV want at' half).2.1 + 1, b) := by
  have e : saveV want at' half b cut = (0, wrote want (at' + oldV want at' half * half) (wordsV ((newV want at' half).2.1 + 1) b) ((wordsV ((newV want at' half).2.1 + 1) b).length + 1)) := by
    have hd : ∀ n, doneV n cut = n + 1 := fun n => by unfold doneV; rw [if_neg (by omega)]
    unfold saveV
    rw [if_neg hl, if_neg (by omega), hd, if_neg (by omega)]
  rw [e]
  refine ⟨rfl, wrote_len _ _ _ _, ?_⟩
  have := newV_wrote want at' half b hh hat hb hl ((newV want at' half).2.1 + 1) ((wordsV ((newV want at' half).2.1 + 1) b).length + 1) rfl (Nat.le_refl _)
  rw [if_pos rfl] at this
  exact this
end Vlt
namespace Go.Proofs.Ytdboplkgnnidcaa
open Go.RowKit Go.Proofs.Num
/-- A slice of slices of bytes. -/
def RowsAt (w : World) (v : Value) (S : List (Value × List Nat)) : Prop := ∃ a cap, v = .slice a S.length cap ∧ S.length ≤ maxLen ∧ ∀ j, (h : j < S.length) → ∃ b off, a = some ⟨b, off, none⟩ ∧ b < w.heap.size ∧ w.cell? ⟨b, off + j, none⟩ = some S[j].1 ∧ RdB w S[j].1 S[j].2
set_option maxRecDepth 100000 in
theorem open_rows {H : Type} {enc : TypeId × Value → H} {w : World} {base : Nat} {spare : Nat → Bool} {held : Bool} {v : Value} {d : DataW H} {ps : List MemPlace}
    {r : Reach} {b0 : Nat} (hval : Value.okWide Try.prog w r b0 66 v) (h : DataW.Trod enc Try.prog w base spare held 66 v d ps) : ∃ S, RowsAt w v S := by
  obtain ⟨va, vl, vc, rfl⟩ := WideShapes.okWide_slice Try.underlying66 hval
  obtain ⟨fu, h⟩ := h
  rcases DataW.trod_slice Try.underlying66 h with ⟨hv, _⟩ | ⟨a, len, cap, elems, rest, n, _, hv, _, _, hlc, hcm, hlen, hel, _⟩
  · simp only [Value.cells, List.cons.injEq, and_true] at hv
    exact ⟨[], none, 0, hv, by simp, fun j hj => absurd hj (by simp)⟩
  · simp only [Value.cells, List.cons.injEq, and_true, Value.slice.injEq] at hv
    obtain ⟨rfl, rfl, rfl⟩ := hv
    have c1 : Try.prog.cellsOf 23 = 1 := by kernel_rfl
    have each : ∀ j, j < vl → ∃ s : Value × List Nat, w.cell? (a.add j) = some s.1 ∧ RdB w s.1 s.2 := by
      intro j hj
      have hE := hel j hj
      rw [c1, Nat.mul_one, List.getElem?_eq_getElem (by omega)] at hE
      obtain ⟨cs, hc, ht⟩ := Option.bind_eq_some_iff.1 hE
      obtain ⟨_, hl, hcell⟩ := World.cells?_some hc
      obtain ⟨lv, e3, ys, hy1, hy2⟩ := open_rowC Try.underlying23 Try.underlying5 (by kernel_rfl) ht
      subst e3
      obtain ⟨l, h3, hl3⟩ := nats_of (k := .u8) (fun x hx => wf8 (hy2 x hx))
      rw [h3] at hy1
      refine ⟨(lv, l), ?_, hy1, hl3⟩
      have := hcell 0 (by decide)
      simpa [Addr.add] using this
    rcases Nat.eq_zero_or_pos vl with rfl | hpos
    · exact ⟨[], some a, vc, rfl, by simp, fun j hj => absurd hj (by simp)⟩
    · obtain ⟨s0, q0, _⟩ := each 0 hpos
      have q1 : w.cell? a = some s0.1 := by simpa [Addr.add] using q0
      have hb := cell_lt q1
      have ha := spot_none q1
      obtain ⟨b, o, sp⟩ := a
      simp only at ha hb
      injection ha with _ _ ha
      subst ha
      obtain ⟨f, hf⟩ := Classical.axiomOfChoice (fun j : Fin vl => each j.1 j.2)
      refine ⟨List.ofFn f, some ⟨b, o, none⟩, vc, by simp, by simpa using Nat.le_trans hlc hcm, fun j hj => ⟨b, o, rfl, hb, ?_⟩⟩
      rw [List.length_ofFn] at hj
      obtain ⟨e0, hok⟩ := hf ⟨j, hj⟩
      rw [add_plain] at e0
      rw [List.getElem_ofFn]
      exact ⟨e0, hok⟩
theorem cRefRoom (w : World) (n : Nat) (hn : n ≤ 100000) : Calls Try.prog 37 #[.int .i64 n] w fun e w' => e = .returned (.int .i64 (4 * (((n / 2 : Nat) : Int) - 3))) ∧ w = w' := by
  go_enter Try.func37, Try.ntmps37
  go_wp2_with fail
  go_ret
  exact ⟨ret_int (by omega), rfl⟩
theorem cRefRoom' (w : World) (n : Nat) (hn : n ≤ 100000) : Calls Try.prog 37 #[.int .i64 n] w fun e w' => e = .returned (.int .i64 (4 * (((n / 2 : Nat) : Int) - 3))) ∧ w' = w :=
  (cRefRoom w n hn).mono fun _ _ ⟨h1, h2⟩ => ⟨h1, h2.symm⟩
def NewestAt (w : World) (q p n m : Nat) (i : Value) (wr : World) : Prop := ∃ (k : Nat) (W1 : List Nat), k ≤ m ∧ i = .int .i64 k ∧ W1.length = n ∧ (Vlt.newV W1 0 (n / 2)).2.1 = k ∧ Sts w [vaultP q p 0 (n / 2), wordP p 0 W1] wr
set_option maxRecDepth 100000 in
set_option maxHeartbeats 1000000 in
theorem newest_main (w : World) (n : Nat) (h8 : 8 ≤ n) (h120 : n ≤ 120) (v : Value) (S : List (Value × List Nat)) (hS : RowsAt w v S) (hm : S.length ≤ 10) :
    Calls Try.prog 9 #[.int .i64 n, v] w fun e w' => e = .returned (.bool true) ∧ Below w.heap.size w w' := by
  obtain ⟨a, cap, rfl, _, hx⟩ := hS
  have HX := hid hx
  clear hx
  have hd1 : decide ((n : Int) < 8) = false := decide_eq_false (by omega)
  have hd2 : decide (120 < (n : Int)) = false := decide_eq_false (by omega)
  have hd3 : decide (10 < (S.length : Int)) = false := decide_eq_false (by omega)
  have hC : ∀ w1 (p : Nat), Sts w [wordP p 0 (List.replicate n 0)] w1 → Calls Try.prog 28 #[.pointer (some ⟨p, 0, none⟩), .int .i64 (0 : Int), .int .i64 n] w1 (OpenEnd w p 0 0 (n / 2) (List.replicate n 0) []) :=
    fun w1 p hs => cOpen stab0 p 0 (List.replicate n 0) (by decide) (by simp; omega) hs 0 n h8 (by simp)
  have HC := hid hC
  clear hC
  have hz : (Vlt.newV (List.replicate n 0) 0 (n / 2)).2.1 = 0 := by
    have hr : ∀ a, a < n → Vlt.readV (List.replicate n 0) (n / 2) a = (0, []) := fun a ha => Vlt.readV_zero _ _ _ (by simp [List.getElem?_replicate, ha])
    unfold Vlt.newV
    rw [hr 0 (by omega), hr (0 + n / 2) (by omega)]
    rfl
  have HZ := hid hz
  clear hz
  go_enter Try.func9, Try.ntmps9
  go_wp2_with fail
  refine (cAwake w).mono ?_
  rintro e w1 ⟨rfl, hb1⟩
  have H1 := hid ((Sts.nil w).quiet stab0 hb1).withEmp
  clear hb1
  go_wp2_with fail
  refine (Sts.call stab0 H1.out (wNew n (by omega))).mono ?_
  rintro e w2 ⟨p, rfl, h2'⟩
  have H2 : Hid (Sts w [wordP p 0 (List.replicate n 0)] w2) := hid (h2'.weaken (fun F h => h.word))
  clear h2' H1
  go_wp2_with fail
  refine (HC.out w2 p H2.out).mono ?_
  rintro e w3 ⟨q, rfl, h3'⟩
  have H3 := hid h3'
  clear h3' H2 HC
  go_wp2_with fail
  go_loopw [7] (fun i wr => NewestAt w q p n S.length i wr) (fun i _ => S.length - (intOf i).toNat)
  case atStart => exact ⟨0, List.replicate n 0, by omega, rfl, by simp, HZ.out, H3.out⟩
  case round =>
    obtain ⟨k, W1, hk, rfl, hW1, hg, hs⟩ := hrel
    clear HZ H3
    by_cases hlt : k < S.length
    · obtain ⟨b, off, rfl, hb, hcell, hR⟩ := HX.out k hlt
      obtain ⟨a2, cap2, e2, _⟩ := hR.open
      rw [e2] at hcell hR
      clear e2
      have hcw := hcell
      rw [← hs.below.cell hb] at hcell
      have HCW := hid hcw
      have HR := hid hR
      have HW1 := hid hW1
      have HG := hid hg
      have HS := hid hs
      clear hcw hR hW1 hg hs
      generalize S[k].2 = bs at *
      have HRR := fun y => cRefRoom y n (by omega)
      by_cases hlong : 4 * (((n / 2 : Nat) : Int) - 3) < bs.length
      · have hdl : decide (4 * (((n / 2 : Nat) : Int) - 3) < (bs.length : Int)) = true := decide_eq_true hlong
        go_wp2_with fail
        go_quiet ((go_at_call 37; exact Calls.quiet_of_same (cRefRoom' _ n (by omega))))
        go_wp2_with fail
        go_ret
        exact ⟨rfl, below_drewN HS.out.below _⟩
      · have hdl : decide (4 * (((n / 2 : Nat) : Int) - 3) < (bs.length : Int)) = false := decide_eq_false hlong
        go_wp2_with fail
        go_quiet ((go_at_call 37; exact Calls.quiet_of_same (cRefRoom' _ n (by omega))))
        have hst2 : ∀ B ∈ [vaultP q p 0 (n / 2), wordP p 0 W1], Stable B := stabC (blkP_stable _ _) (stab1 (wordP_stable _ _ _))
        have hq : ∀ z, Sts w [vaultP q p 0 (n / 2), wordP p 0 W1] (wr.drewN z) := fun z => HS.out.quiet hst2 (below_drewN (Below.refl _ _) z)
        have HQ := hid hq
        have hcz : ∀ z, (wr.drewN z).cell? ⟨b, off + k, none⟩ = some (.slice a2 bs.length cap2) := fun z => by rw [(hq z).below.cell hb]; exact HCW.out
        clear hq HS
        go_wp2_with fail
        have hgb : (Vlt.newV W1 0 (n / 2)).2.1 < 4294967295 := by rw [HG.out]; omega
        have hsv := Vlt.saveV_whole W1 0 (n / 2) bs (-1) (by omega) (by rw [HW1.out]; omega) HR.out.2 (by omega) hgb (by omega)
        rw [HG.out, HW1.out] at hsv
        have hsave := cSave stab0 q p 0 (n / 2) 0 W1 (by decide) (by omega) (by rw [HW1.out]; omega) (by rw [HW1.out]; omega) (HQ.out nq) (.slice a2 bs.length cap2) bs (RdsB.arg HR.out) (-1)
        have HSV := hid hsave
        clear hsave hgb
        unfold SaveEnd at HSV
        generalize Vlt.saveV W1 0 (n / 2) bs (-1) = r at *
        obtain ⟨code, W2⟩ := r
        simp only [] at hsv HSV
        obtain ⟨rfl, hW2, hnew⟩ := hsv
        have HW2 := hid hW2
        have HNEW := hid hnew
        clear hW2 hnew HQ
        refine HSV.out.mono ?_
        rintro e w4 ⟨rfl, hs4⟩
        have HLD := hid (cLoad stab0 q p 0 (n / 2) 0 W2 (by decide) (by omega) (by rw [HW2.out]; omega) (by rw [HW2.out]; omega) hs4)
        unfold LoadEnd at HLD
        rw [HNEW.out] at HLD
        simp only [] at HLD
        rw [if_neg (by omega), if_neg (by omega)] at HLD
        clear hs4 HSV
        go_wp2_with fail
        refine HLD.out.mono ?_
        rintro e w5 ⟨bv, rfl, hs5⟩
        have HS5 := hid hs5
        clear hs5 HLD
        have hst5 : ∀ B ∈ [rowP 5 1 bv bs.length (u8s bs), vaultP q p 0 (n / 2), wordP p 0 W2], Stable B := stabC (rowP_stable _ _ _ _ _) (stabC (blkP_stable _ _) (stab1 (wordP_stable _ _ _)))
        have HGEN := hid (fun y (hy : Sts w [rowP 5 1 bv bs.length (u8s bs), vaultP q p 0 (n / 2), wordP p 0 W2] y) => cGeneration (stab1 (rowP_stable 5 1 bv bs.length (u8s bs))) q p 0 (n / 2) 0 W2 (by decide) (by omega) (by rw [HW2.out]; omega) (by rw [HW2.out]; omega) hy.third')
        rw [HNEW.out] at HGEN
        simp only [] at HGEN
        rw [show ((k + 1 : Nat) : Int) = (k : Int) + 1 by omega] at HGEN
        go_wp2_with fail
        refine wp_region_ord (.pure 0 (.pure 1 (.pure 2 (.pure 3 (.pure 4 (.pure 5 (.pure 6 (.pure 7 (.pure 8 (.pure 9 (.pure 10 (.pure 11 (.pure 12 (.pure 13 (.pure 15 (.pure 16 (.eff 14 (.pure 17 (.pure 18 .nil))))))))))))))))))) (fun y => Sts w [rowP 5 1 bv bs.length (u8s bs), vaultP q p 0 (n / 2), wordP p 0 W2] y) (fun y => Sts w [rowP 5 1 bv bs.length (u8s bs), vaultP q p 0 (n / 2), wordP p 0 W2] y) (by kernel_rfl) (by kernel_rfl) (HS5.out.drew hst5) (fun _ h => h) ?_
        obtain ⟨sb, hsb⟩ : ∃ sb, sb = strB bs := ⟨_, rfl⟩
        have HC3 : Hid (∀ x, Sts w [rowP 5 1 bv bs.length (u8s bs), vaultP q p 0 (n / 2), wordP p 0 W2] x → (convert 23 9 bv).run Try.prog x = .ok (.string sb) x) := hid (fun x hx => by rw [hsb]; exact str8 ⟨Rd.of_own (Sts.rowOwn hx) (u8s_len _), HR.out.2⟩)
        have HC4 : Hid (∀ x, Sts w [rowP 5 1 bv bs.length (u8s bs), vaultP q p 0 (n / 2), wordP p 0 W2] x → (convert 23 9 (.slice a2 bs.length cap2)).run Try.prog x = .ok (.string sb) x) := hid (fun x hx => by rw [hsb]; exact str8 (HR.out.below hx.below))
        clear hsb
        have hwk : IntKind.i64.wrap ((k : Int) + 1) = (k : Int) + 1 := w64 _ (by omega) (by omega)
        iterate 16
          (apply ord_pure (ho := rfl)
           · go_simp
           · intro x hx; have c3 := HC3.out x hx; have c4 := HC4.out x hx; have c5 : x.cell? ⟨b, off + k, none⟩ = some (.slice a2 bs.length cap2) := (by rw [hx.below.cell hb]; exact HCW.out); go_simp; rfl
           apply ord_norm
           · go_simp; rfl)
        apply ord_eff (ho := rfl)
        · go_simp
        intro y hy
        refine eff_call (f := 38) (by go_simp) (HGEN.out y hy) ?_
        rintro e w6 ⟨rfl, hs6⟩
        refine ⟨_, rfl, (fun y => Sts w [rowP 5 1 bv bs.length (u8s bs), vaultP q p 0 (n / 2), wordP p 0 W2] y), (fun y => Sts w [rowP 5 1 bv bs.length (u8s bs), vaultP q p 0 (n / 2), wordP p 0 W2] y), hs6.third, (fun _ h => h), (fun _ h => h), ?_⟩
        clear hs6 hy
        apply ord_norm
        · go_simp; rfl
        iterate 2
          (apply ord_pure (ho := rfl)
           · go_simp
           · intro x hx; go_simp; rfl
           apply ord_norm
           · go_simp; rfl)
        refine ord_nil fun y hy => ?_
        have HF := hid hy.tail
        clear hy
        go_wp2_with fail
        go_roundw
        case rel => exact ⟨k + 1, W2, by omega, by go_num, HW2.out, by rw [HNEW.out], HF.out⟩
        case measure => simp [intOf]; omega
    · go_wp2_with fail
      go_ret
      exact ⟨rfl, hs.below⟩
set_option maxRecDepth 100000 in
theorem newest_few (w : World) (z : Int) (v : Value) (S : List (Value × List Nat)) (hS : RowsAt w v S) (h : z < 8 ∨ 120 < z ∨ 10 < S.length) :
    Calls Try.prog 9 #[.int .i64 z, v] w fun e w' => e = .returned (.bool true) ∧ Below w.heap.size w w' := by
  obtain ⟨a, cap, rfl, _, hx⟩ := hS
  clear hx
  have h' : decide (z < 8) = true ∨ (decide (z < 8) = false ∧ decide (120 < z) = true) ∨ (decide (z < 8) = false ∧ decide (120 < z) = false ∧ decide ((10 : Int) < S.length) = true) := by
    simp only [decide_eq_true_eq, decide_eq_false_iff_not]; omega
  clear h
  rcases h' with h | ⟨h, h2⟩ | ⟨h, h2, h3⟩
  all_goals
    go_enter Try.func9, Try.ntmps9
    go_wp2_with fail
    refine (cAwake w).mono ?_
    rintro e w1 ⟨rfl, hb1⟩
    have H1 := hid hb1
    clear hb1
    go_wp2_with fail
    go_ret
    exact ⟨rfl, H1.out⟩
theorem newest (w : World) (z : Int) (v : Value) (S : List (Value × List Nat)) (hS : RowsAt w v S) :
    Calls Try.prog 9 #[.int .i64 z, v] w fun e w' => e = .returned (.bool true) ∧ Below w.heap.size w w' := by
  by_cases h : z < 8 ∨ 120 < z ∨ 10 < S.length
  · exact newest_few w z v S hS h
  · obtain ⟨m, rfl⟩ : ∃ m : Nat, z = m := ⟨z.toNat, by omega⟩
    exact newest_main w m (by omega) (by omega) v S hS (by omega)
end Go.Proofs.Ytdboplkgnnidcaa
