/- The contract of the vault's Save. -/
import Derived.Test.YtdboplkgnnidcaaVltOpen
set_option linter.unusedVariables false
set_option linter.unusedSimpArgs false
namespace Vlt
/-- The memory's words after k writes of the copy L at word a. -/
def wrote (want : List Nat) (a : Nat) (L : List Nat) : Nat → List Nat
  | 0 => want
  | k + 1 => if k = 0 then (wrote want a L k).set a 0 else if k < L.length then (wrote want a L k).set (a + k) (L.getD k 0) else (wrote want a L k).set a (L.getD 0 0)
theorem wrote_len (want : List Nat) (a : Nat) (L : List Nat) (k : Nat) : (wrote want a L k).length = want.length := by
  induction k with
  | zero => rfl
  | succ k ih =>
    unfold wrote
    split
    · simp [ih]
    · split <;> simp [ih]
/-- How many writes are done. -/
def doneV (n : Nat) (cut : Int) : Nat := if 0 ≤ cut ∧ cut ≤ n then cut.toNat else n + 1
/-- The error and the memory's words after a save. -/
def saveV (want : List Nat) (at' half : Nat) (b : List Nat) (cut : Int) : Nat × List Nat :=
  if 4 * ((half : Int) - 3) < b.length then (6, want)
  else if 4294967295 ≤ (newV want at' half).2.1 then (7, want)
  else (if doneV (wordsV ((newV want at' half).2.1 + 1) b).length cut < (wordsV ((newV want at' half).2.1 + 1) b).length + 1 then 17 else 0,
    wrote want (at' + oldV want at' half * half) (wordsV ((newV want at' half).2.1 + 1) b) (doneV (wordsV ((newV want at' half).2.1 + 1) b).length cut))
end Vlt
namespace Go.Proofs.Ytdboplkgnnidcaa
open Go.RowKit Go.Proofs.Num
/-- What Save leaves. -/
def SaveEnd (W : World) (q p at' half K : Nat) (want : List Nat) (l : List HProp) (b : List Nat) (cut : Int) (e : Ending) (w' : World) : Prop :=
  e = .returned (.int .i64 ((Vlt.saveV want at' half b cut).1 : Nat)) ∧ Sts W (vaultP q p at' half :: wordP p K (Vlt.saveV want at' half b cut).2 :: l) w'
section
variable {W w : World} {l : List HProp} (hl : ∀ B ∈ l, Stable B) (q p at' half K : Nat) (want : List Nat) (hK : K < 100000000000) (hh : 4 ≤ half) (hat : at' + 2 * half ≤ want.length) (hw : want.length ≤ 65536)
  (hs : Sts W (vaultP q p at' half :: wordP p K want :: l) w) (v : Value) (b : List Nat) (hb : RdsB W (wordP p K want :: l) v b)
include hl hK hh hat hw hs hb
set_option maxRecDepth 100000 in
theorem cSaveLong (cut : Int) (hlen : 4 * ((half : Int) - 3) < b.length) :
    Calls Try.prog 33 #[.pointer (some ⟨q, 0, none⟩), v, .int .i64 cut] w fun e w' => e = .returned (.int .i64 6) ∧ Sts W (vaultP q p at' half :: wordP p K want :: l) w' := by
  have hrd := hb.at hs
  obtain ⟨a, cap, rfl, _⟩ := hrd.open
  have c0 := (Sts.vault hs).c0
  have H1 := hid (cUsable w q p c0)
  have H2 := hid (cGeneration hl q p at' half K want hK hh hat hw hs)
  have hgb : (Vlt.newV want at' half).2.1 < 4294967296 := by
    obtain ⟨F, hF⟩ := hs.swap.head
    exact Vlt.newV_bound _ _ _ (wordP.val hF)
  clear hs c0 hrd hb
  generalize (Vlt.newV want at' half).2.1 = g at *
  go_enter Try.func33, Try.ntmps33
  go_wp2_with fail
  refine H1.out.mono ?_
  rintro e w1 ⟨rfl, rfl⟩
  go_wp2_with fail
  refine H2.out.mono ?_
  rintro e w1 ⟨rfl, hs1⟩
  have H3 := hid (cRoom w1 q p at' half (Sts.vault hs1) (by omega))
  have HS := hid hs1
  clear hs1
  have d1 : decide (4 * ((half : Int) - 3) < (b.length : Int)) = true := decide_eq_true hlen
  go_wp2_with fail
  refine H3.out.mono ?_
  rintro e w1 ⟨rfl, rfl⟩
  go_wp2_with fail
  go_ret
  exact ⟨rfl, HS.out⟩
set_option maxRecDepth 100000 in
theorem cSaveFull (cut : Int) (hlen : ¬ 4 * ((half : Int) - 3) < b.length) (hg : 4294967295 ≤ (Vlt.newV want at' half).2.1) :
    Calls Try.prog 33 #[.pointer (some ⟨q, 0, none⟩), v, .int .i64 cut] w fun e w' => e = .returned (.int .i64 7) ∧ Sts W (vaultP q p at' half :: wordP p K want :: l) w' := by
  have hrd := hb.at hs
  obtain ⟨a, cap, rfl, _⟩ := hrd.open
  have c0 := (Sts.vault hs).c0
  have H1 := hid (cUsable w q p c0)
  have H2 := hid (cGeneration hl q p at' half K want hK hh hat hw hs)
  have hgb : (Vlt.newV want at' half).2.1 < 4294967296 := by
    obtain ⟨F, hF⟩ := hs.swap.head
    exact Vlt.newV_bound _ _ _ (wordP.val hF)
  clear hs c0 hrd hb
  generalize (Vlt.newV want at' half).2.1 = g at *
  obtain ⟨z, hz⟩ : ∃ z : Int, z = (g : Int) := ⟨_, rfl⟩
  have g1 : (4294967295 : Int) ≤ z := by omega
  have g2 : z < 4294967296 := by omega
  rw [← hz] at H2
  clear hg hgb hz
  go_enter Try.func33, Try.ntmps33
  go_wp2_with fail
  refine H1.out.mono ?_
  rintro e w1 ⟨rfl, rfl⟩
  go_wp2_with fail
  refine H2.out.mono ?_
  rintro e w1 ⟨rfl, hs1⟩
  have H3 := hid (cRoom w1 q p at' half (Sts.vault hs1) (by omega))
  have HS := hid hs1
  clear hs1
  have d1 : decide (4 * ((half : Int) - 3) < (b.length : Int)) = false := decide_eq_false (by omega)
  go_wp2_with fail
  refine H3.out.mono ?_
  rintro e w1 ⟨rfl, rfl⟩
  go_wp2_with fail
  go_ret
  exact ⟨rfl, HS.out⟩
set_option maxRecDepth 100000 in
set_option maxHeartbeats 1000000 in
theorem cSaveDoes (cut : Int) (d a : Nat) (L : List Nat) (hlen : ¬ 4 * ((half : Int) - 3) < b.length) (hg : (Vlt.newV want at' half).2.1 < 4294967295) (ha : a = at' + Vlt.oldV want at' half * half)
    (hL : L = Vlt.wordsV ((Vlt.newV want at' half).2.1 + 1) b) (hd : (cut < 0 ∧ d = L.length + 1) ∨ ((L.length : Int) < cut ∧ d = L.length + 1) ∨ (cut = (d : Int) ∧ d ≤ L.length)) :
    Calls Try.prog 33 #[.pointer (some ⟨q, 0, none⟩), v, .int .i64 cut] w fun e w' => e = .returned (.int .i64 (if d < L.length + 1 then 17 else 0)) ∧ Sts W (vaultP q p at' half :: wordP p K (Vlt.wrote want a L d) :: l) w' := by
  have hrd := hb.at hs
  obtain ⟨ba, cap, rfl, _⟩ := hrd.open
  have c0 := (Sts.vault hs).c0
  have H1 := hid (cUsable w q p c0)
  have H2 := hid (cGeneration hl q p at' half K want hK hh hat hw hs)
  have hbt : b.length < 1000000 := by omega
  have hvb := hrd.2
  have hlt := Vlt.oldV_lt want at' half
  have hLl : L.length = Vlt.room b.length + 3 := by rw [hL, Vlt.wordsV_len]
  have hLb : L.length ≤ half := by unfold Vlt.room at hLl; omega
  have hL3 : 3 ≤ L.length := by omega
  have hoh : Vlt.oldV want at' half * half ≤ 1 * half := Nat.mul_le_mul_right _ (by omega)
  have hLv : ∀ x ∈ L, x < 4294967296 := by rw [hL]; exact words_lt _ _ (by omega) hvb hbt
  obtain ⟨z, hz⟩ : ∃ z : Int, z = ((Vlt.newV want at' half).2.1 : Nat) := ⟨_, rfl⟩
  have HC : ∀ y (hy : Sts W (vaultP q p at' half :: wordP p K want :: l) y), Calls Try.prog 54 #[.int .i64 (z + 1), .slice ba b.length cap] y fun e w' => ∃ r, e = .returned r ∧ New y w' 48 r (u32s L) := by
    intro y hy
    have := cVWords y ((Vlt.newV want at' half).2.1 + 1) (.slice ba b.length cap) b (by omega) (hb.at hy) hbt
    rw [← hL, show (((Vlt.newV want at' half).2.1 + 1 : Nat) : Int) = z + 1 by omega] at this
    exact this
  have HO : ∀ (lr : HProp) (hlr : Stable lr) y (hy : Sts W (vaultP q p at' half :: wordP p K want :: lr :: l) y), Calls Try.prog 47 #[.pointer (some ⟨q, 0, none⟩)] y (fun e w' => e = .returned (.int .i64 (a : Nat)) ∧ Sts W (vaultP q p at' half :: wordP p K want :: lr :: l) w') := by
    intro lr hlr y hy
    have := cOlderA (stabC hlr hl) q p at' half K want hK hh hat hw hy
    rw [show (at' : Int) + ((Vlt.oldV want at' half * half : Nat) : Int) = (a : Int) by omega] at this
    exact this
  have hal : a + half ≤ want.length := by omega
  have z1 : z < 4294967295 := by omega
  have z0 : 0 ≤ z := by omega
  rw [← hz] at H2
  have HC := hid HC
  have HO := hid HO
  have HLV := hid hLv
  clear hg ha hL hlt hLl hoh hLv hz hrd hvb hs c0
  obtain ⟨m, hm⟩ : ∃ m, m = L.length := ⟨_, rfl⟩
  have HM := hid hm
  rw [← hm] at hLb hL3 hd ⊢
  clear hm
  have hst2 : ∀ B ∈ vaultP q p at' half :: wordP p K want :: l, Stable B := stabC (blkP_stable _ _) (stabC (wordP_stable _ _ _) hl)
  have hLlen : (u32s L).length = m := by rw [u32s_len]; exact HM.out.symm
  have HLL := hid hLlen
  clear hLlen
  have hb' : b.length < 1000000 := hbt
  clear hb
  go_enter Try.func33, Try.ntmps33
  go_wp2_with fail
  refine H1.out.mono ?_
  rintro e w1 ⟨rfl, rfl⟩
  go_wp2_with fail
  refine H2.out.mono ?_
  rintro e w1 ⟨rfl, hs1⟩
  have H3 := hid (cRoom w1 q p at' half (Sts.vault hs1) (by omega))
  have HS := hid hs1
  have HC1 := hid (HC.out w1 hs1)
  clear hs1
  have d1 : decide (4 * ((half : Int) - 3) < (b.length : Int)) = false := decide_eq_false (by omega)
  go_wp2_with fail
  refine H3.out.mono ?_
  rintro e w1 ⟨rfl, rfl⟩
  go_wp2_with fail
  refine HC1.out.mono ?_
  rintro e w2 ⟨r, rfl, hN⟩
  have hs2 := Sts.new hst2 HS.out hN
  rw [HLL.out] at hs2
  obtain ⟨rg, cap2, rfl⟩ := own_nonnil (Sts.rowOwn hs2) (by omega)
  have hs3 := hs2.third'
  have HO1 := hid (HO.out _ (rowP_stable _ _ _ _ _) w2 hs3)
  clear hs2 hs3 hN
  go_wp2_with fail
  refine HO1.out.mono ?_
  rintro e w3 ⟨rfl, hs3⟩
  have HS3 := hid hs3
  clear hs3
  have d2 : decide ((4294967295 : Int) < z + 1) = false := decide_eq_false (by omega)
  have hd3 : cut < 0 ∧ d = m + 1 ∨ (m : Int) + 1 < cut ∧ d = m + 1 ∨ (cut = (m : Int) + 1 ∧ d = m + 1) ∨ (cut = (d : Int) ∧ d ≤ m) := by omega
  clear hd
  rcases hd3 with ⟨hc, hdm⟩ | ⟨hc, hdm⟩ | ⟨hc, hdm⟩ | ⟨hc, hdm⟩
  · subst hdm
    go_wp2_with fail
    go_loopw [43] (fun i wr => ∃ k : Nat, k ≤ (m + 1) ∧ i = .int .i64 k ∧ Sts W (vaultP q p at' half :: wordP p K (Vlt.wrote want a L k) :: rowP 48 1 (.slice (some ⟨rg, 0, none⟩) m cap2) m (u32s L) :: l) wr) (fun i _ => (m + 1) - (intOf i).toNat)
    case atStart => exact ⟨0, by omega, rfl, HS3.out⟩
    case round =>
      obtain ⟨k, hk, rfl, hs⟩ := hrel
      by_cases hlt : k < (m + 1)
      · have hwl := Vlt.wrote_len want a L k
        have hsc : Vlt.wrote want a L (k + 1) = if k = 0 then (Vlt.wrote want a L k).set a 0 else if k < L.length then (Vlt.wrote want a L k).set (a + k) (L.getD k 0) else (Vlt.wrote want a L k).set a (L.getD 0 0) := rfl
        rw [← HM.out] at hsc
        have HSC := hid hsc
        clear hsc
        generalize Vlt.wrote want a L k = cur at *
        have hcl : a + half ≤ cur.length := by rw [hwl]; exact hal
        clear hwl
        have hg0 : L.getD 0 0 < 4294967296 := by rw [List.getD_eq_getElem?_getD, List.getElem?_eq_getElem (by have := HM.out; omega)]; exact HLV.out _ (List.getElem_mem _)
        by_cases hk0 : k = 0
        · subst hk0
          rw [if_pos rfl] at HSC
          obtain ⟨c0, c1, c2⟩ := Sts.vault hs
          have HW := hid (Sts.callV (stabC (blkP_stable _ _) (stabC (rowP_stable _ _ _ _ _) hl)) hs.swap (wWrite (p := p) (K := K) a 0 (by omega) (by omega)))
          clear hs
          have hkz : ((0 : Nat) : Int) < ((m : Int) + 1 : Int) := by omega
          go_wp2_with fail
          refine HW.out.mono ?_
          rintro e w4 ⟨rfl, hs4⟩
          have HF := hid hs4.swap
          clear hs4 c0 c1 c2
          go_wp2_with fail
          go_roundw
          case rel => exact ⟨1, by omega, by go_num, by rw [HSC.out]; exact HF.out⟩
          case measure => (try simp [intOf]); (try omega)
        · have hkz : ((k : Int) == 0) = false := by simp; omega
          have hki : (k : Int) < ((m : Int) + 1 : Int) := by omega
          by_cases hkm : k < m
          · have hgk : L.getD k 0 < 4294967296 := by rw [List.getD_eq_getElem?_getD, List.getElem?_eq_getElem (by have := HM.out; omega)]; exact HLV.out _ (List.getElem_mem _)
            have HV : Hid ((u32s L)[k]? = some (.int .u32 (L.getD k 0 : Nat))) := hid (by simp [u32s, List.getD_eq_getElem?_getD, List.getElem?_eq_getElem (show k < L.length by have := HM.out; omega)])
            have HW := fun y (hy : Sts W (vaultP q p at' half :: wordP p K cur :: rowP 48 1 (.slice (some ⟨rg, 0, none⟩) m cap2) m (u32s L) :: l) y) => Sts.callV (stabC (blkP_stable _ _) (stabC (rowP_stable _ _ _ _ _) hl)) hy.swap (wWrite (p := p) (K := K) (a + k) (L.getD k 0) (by omega) hgk)
            rw [show (((a + k : Nat)) : Int) = (a : Int) + (k : Int) by omega] at HW
            have HW := hid HW
            have HS := hid hs
            rw [if_neg hk0, if_pos hkm] at HSC
            clear hs
            generalize L.getD k 0 = x at *
            have hw1 : IntKind.i64.wrap ((a : Int) + (k : Int)) = (a : Int) + (k : Int) := w64 _ (by omega) (by omega)
            have hst4 : ∀ B ∈ vaultP q p at' half :: wordP p K cur :: rowP 48 1 (.slice (some ⟨rg, 0, none⟩) m cap2) m (u32s L) :: l, Stable B := stabC (blkP_stable _ _) (stabC (wordP_stable _ _ _) (stabC (rowP_stable _ _ _ _ _) hl))
            go_wp2_with fail
            refine wp_region_ord (.pure 0 (.pure 1 (.pure 2 (.pure 3 (.pure 4 (.pure 5 (.pure 6 (.pure 7 (.pure 8 (.pure 9 (.pure 10 (.eff 11 .nil)))))))))))) (fun y => Sts W (vaultP q p at' half :: rowP 48 1 (.slice (some ⟨rg, 0, none⟩) m cap2) m (u32s L) :: l) y) (fun y => Sts W (vaultP q p at' half :: wordP p K cur :: rowP 48 1 (.slice (some ⟨rg, 0, none⟩) m cap2) m (u32s L) :: l) y) (by kernel_rfl) (by kernel_rfl) (HS.out.drew hst4) (fun _ h => h.swap.tail) ?_
            iterate 11
              (apply ord_pure (ho := rfl)
               · go_simp
               · intro x hx; obtain ⟨c0, c1, c2⟩ := Sts.vault hx; have cr := Sts.rowCell (Sts.swap hx) k (by omega) _ HV.out; go_simp; rfl
               apply ord_norm
               · go_simp; rfl)
            apply ord_eff (ho := rfl)
            · go_simp
            intro y hy
            refine eff_call (f := 29) (by go_simp) (HW.out y hy) ?_
            rintro e w4 ⟨rfl, hs4⟩
            refine ⟨_, rfl, (fun y => Sts W (vaultP q p at' half :: rowP 48 1 (.slice (some ⟨rg, 0, none⟩) m cap2) m (u32s L) :: l) y), (fun y => Sts W (wordP p K (cur.set (a + k) x) :: vaultP q p at' half :: rowP 48 1 (.slice (some ⟨rg, 0, none⟩) m cap2) m (u32s L) :: l) y), hs4, (fun _ h => h.tail), (fun _ h => h), ?_⟩
            clear hs4 hy
            apply ord_norm
            · go_simp; rfl
            refine ord_nil fun y hy => ?_
            have HF := hid hy.swap
            clear hy
            go_wp2_with fail
            go_roundw
            case rel => exact ⟨k + 1, by omega, by go_num, by rw [HSC.out]; exact HF.out⟩
            case measure => (try simp [intOf]); (try omega)
          · have HV : Hid ((u32s L)[0]? = some (.int .u32 (L.getD 0 0 : Nat))) := hid (by simp [u32s, List.getD_eq_getElem?_getD, List.getElem?_eq_getElem (show 0 < L.length by have := HM.out; omega)])
            have HW := hid (fun y (hy : Sts W (vaultP q p at' half :: wordP p K cur :: rowP 48 1 (.slice (some ⟨rg, 0, none⟩) m cap2) m (u32s L) :: l) y) => Sts.callV (stabC (blkP_stable _ _) (stabC (rowP_stable _ _ _ _ _) hl)) hy.swap (wWrite (p := p) (K := K) a (L.getD 0 0) (by omega) hg0))
            have HS := hid hs
            rw [if_neg hk0, if_neg hkm] at HSC
            clear hs
            generalize L.getD 0 0 = x at *
            have hm0 : 0 < m := by omega
            have hst4 : ∀ B ∈ vaultP q p at' half :: wordP p K cur :: rowP 48 1 (.slice (some ⟨rg, 0, none⟩) m cap2) m (u32s L) :: l, Stable B := stabC (blkP_stable _ _) (stabC (wordP_stable _ _ _) (stabC (rowP_stable _ _ _ _ _) hl))
            go_wp2_with fail
            refine wp_region_ord (.pure 0 (.pure 1 (.pure 2 (.pure 3 (.pure 4 (.pure 5 (.pure 6 (.pure 7 (.eff 8 .nil))))))))) (fun y => Sts W (vaultP q p at' half :: rowP 48 1 (.slice (some ⟨rg, 0, none⟩) m cap2) m (u32s L) :: l) y) (fun y => Sts W (vaultP q p at' half :: wordP p K cur :: rowP 48 1 (.slice (some ⟨rg, 0, none⟩) m cap2) m (u32s L) :: l) y) (by kernel_rfl) (by kernel_rfl) (HS.out.drew hst4) (fun _ h => h.swap.tail) ?_
            iterate 8
              (apply ord_pure (ho := rfl)
               · go_simp
               · intro x hx; obtain ⟨c0, c1, c2⟩ := Sts.vault hx; have cr := Sts.rowCell (Sts.swap hx) 0 (by omega) _ HV.out; go_simp; rfl
               apply ord_norm
               · go_simp; rfl)
            apply ord_eff (ho := rfl)
            · go_simp
            intro y hy
            refine eff_call (f := 29) (by go_simp) (HW.out y hy) ?_
            rintro e w4 ⟨rfl, hs4⟩
            refine ⟨_, rfl, (fun y => Sts W (vaultP q p at' half :: rowP 48 1 (.slice (some ⟨rg, 0, none⟩) m cap2) m (u32s L) :: l) y), (fun y => Sts W (wordP p K (cur.set a x) :: vaultP q p at' half :: rowP 48 1 (.slice (some ⟨rg, 0, none⟩) m cap2) m (u32s L) :: l) y), hs4, (fun _ h => h.tail), (fun _ h => h), ?_⟩
            clear hs4 hy
            apply ord_norm
            · go_simp; rfl
            refine ord_nil fun y hy => ?_
            have HF := hid hy.swap
            clear hy
            go_wp2_with fail
            go_roundw
            case rel => exact ⟨k + 1, by omega, by go_num, by rw [HSC.out]; exact HF.out⟩
            case measure => (try simp [intOf]); (try omega)
      · obtain rfl : k = m + 1 := by omega
        have HS := hid hs
        clear hs
        go_wp2_with fail
        go_ret
        exact ⟨rfl, HS.out.third.tail⟩
  · subst hdm
    have hc0 : 0 ≤ cut := by omega
    have hc1 : (m : Int) + 1 ≤ cut := by omega
    have hc2 : decide (cut < (m : Int) + 1) = false := decide_eq_false (by omega)
    go_wp2_with fail
    go_loopw [43] (fun i wr => ∃ k : Nat, k ≤ (m + 1) ∧ i = .int .i64 k ∧ Sts W (vaultP q p at' half :: wordP p K (Vlt.wrote want a L k) :: rowP 48 1 (.slice (some ⟨rg, 0, none⟩) m cap2) m (u32s L) :: l) wr) (fun i _ => (m + 1) - (intOf i).toNat)
    case atStart => exact ⟨0, by omega, rfl, HS3.out⟩
    case round =>
      obtain ⟨k, hk, rfl, hs⟩ := hrel
      by_cases hlt : k < (m + 1)
      · have hwl := Vlt.wrote_len want a L k
        have hsc : Vlt.wrote want a L (k + 1) = if k = 0 then (Vlt.wrote want a L k).set a 0 else if k < L.length then (Vlt.wrote want a L k).set (a + k) (L.getD k 0) else (Vlt.wrote want a L k).set a (L.getD 0 0) := rfl
        rw [← HM.out] at hsc
        have HSC := hid hsc
        clear hsc
        generalize Vlt.wrote want a L k = cur at *
        have hcl : a + half ≤ cur.length := by rw [hwl]; exact hal
        clear hwl
        have hg0 : L.getD 0 0 < 4294967296 := by rw [List.getD_eq_getElem?_getD, List.getElem?_eq_getElem (by have := HM.out; omega)]; exact HLV.out _ (List.getElem_mem _)
        by_cases hk0 : k = 0
        · subst hk0
          rw [if_pos rfl] at HSC
          obtain ⟨c0, c1, c2⟩ := Sts.vault hs
          have HW := hid (Sts.callV (stabC (blkP_stable _ _) (stabC (rowP_stable _ _ _ _ _) hl)) hs.swap (wWrite (p := p) (K := K) a 0 (by omega) (by omega)))
          clear hs
          have hkz : ((0 : Nat) : Int) < ((m : Int) + 1 : Int) := by omega
          go_wp2_with fail
          refine HW.out.mono ?_
          rintro e w4 ⟨rfl, hs4⟩
          have HF := hid hs4.swap
          clear hs4 c0 c1 c2
          go_wp2_with fail
          go_roundw
          case rel => exact ⟨1, by omega, by go_num, by rw [HSC.out]; exact HF.out⟩
          case measure => (try simp [intOf]); (try omega)
        · have hkz : ((k : Int) == 0) = false := by simp; omega
          have hki : (k : Int) < ((m : Int) + 1 : Int) := by omega
          by_cases hkm : k < m
          · have hgk : L.getD k 0 < 4294967296 := by rw [List.getD_eq_getElem?_getD, List.getElem?_eq_getElem (by have := HM.out; omega)]; exact HLV.out _ (List.getElem_mem _)
            have HV : Hid ((u32s L)[k]? = some (.int .u32 (L.getD k 0 : Nat))) := hid (by simp [u32s, List.getD_eq_getElem?_getD, List.getElem?_eq_getElem (show k < L.length by have := HM.out; omega)])
            have HW := fun y (hy : Sts W (vaultP q p at' half :: wordP p K cur :: rowP 48 1 (.slice (some ⟨rg, 0, none⟩) m cap2) m (u32s L) :: l) y) => Sts.callV (stabC (blkP_stable _ _) (stabC (rowP_stable _ _ _ _ _) hl)) hy.swap (wWrite (p := p) (K := K) (a + k) (L.getD k 0) (by omega) hgk)
            rw [show (((a + k : Nat)) : Int) = (a : Int) + (k : Int) by omega] at HW
            have HW := hid HW
            have HS := hid hs
            rw [if_neg hk0, if_pos hkm] at HSC
            clear hs
            generalize L.getD k 0 = x at *
            have hw1 : IntKind.i64.wrap ((a : Int) + (k : Int)) = (a : Int) + (k : Int) := w64 _ (by omega) (by omega)
            have hst4 : ∀ B ∈ vaultP q p at' half :: wordP p K cur :: rowP 48 1 (.slice (some ⟨rg, 0, none⟩) m cap2) m (u32s L) :: l, Stable B := stabC (blkP_stable _ _) (stabC (wordP_stable _ _ _) (stabC (rowP_stable _ _ _ _ _) hl))
            go_wp2_with fail
            refine wp_region_ord (.pure 0 (.pure 1 (.pure 2 (.pure 3 (.pure 4 (.pure 5 (.pure 6 (.pure 7 (.pure 8 (.pure 9 (.pure 10 (.eff 11 .nil)))))))))))) (fun y => Sts W (vaultP q p at' half :: rowP 48 1 (.slice (some ⟨rg, 0, none⟩) m cap2) m (u32s L) :: l) y) (fun y => Sts W (vaultP q p at' half :: wordP p K cur :: rowP 48 1 (.slice (some ⟨rg, 0, none⟩) m cap2) m (u32s L) :: l) y) (by kernel_rfl) (by kernel_rfl) (HS.out.drew hst4) (fun _ h => h.swap.tail) ?_
            iterate 11
              (apply ord_pure (ho := rfl)
               · go_simp
               · intro x hx; obtain ⟨c0, c1, c2⟩ := Sts.vault hx; have cr := Sts.rowCell (Sts.swap hx) k (by omega) _ HV.out; go_simp; rfl
               apply ord_norm
               · go_simp; rfl)
            apply ord_eff (ho := rfl)
            · go_simp
            intro y hy
            refine eff_call (f := 29) (by go_simp) (HW.out y hy) ?_
            rintro e w4 ⟨rfl, hs4⟩
            refine ⟨_, rfl, (fun y => Sts W (vaultP q p at' half :: rowP 48 1 (.slice (some ⟨rg, 0, none⟩) m cap2) m (u32s L) :: l) y), (fun y => Sts W (wordP p K (cur.set (a + k) x) :: vaultP q p at' half :: rowP 48 1 (.slice (some ⟨rg, 0, none⟩) m cap2) m (u32s L) :: l) y), hs4, (fun _ h => h.tail), (fun _ h => h), ?_⟩
            clear hs4 hy
            apply ord_norm
            · go_simp; rfl
            refine ord_nil fun y hy => ?_
            have HF := hid hy.swap
            clear hy
            go_wp2_with fail
            go_roundw
            case rel => exact ⟨k + 1, by omega, by go_num, by rw [HSC.out]; exact HF.out⟩
            case measure => (try simp [intOf]); (try omega)
          · have HV : Hid ((u32s L)[0]? = some (.int .u32 (L.getD 0 0 : Nat))) := hid (by simp [u32s, List.getD_eq_getElem?_getD, List.getElem?_eq_getElem (show 0 < L.length by have := HM.out; omega)])
            have HW := hid (fun y (hy : Sts W (vaultP q p at' half :: wordP p K cur :: rowP 48 1 (.slice (some ⟨rg, 0, none⟩) m cap2) m (u32s L) :: l) y) => Sts.callV (stabC (blkP_stable _ _) (stabC (rowP_stable _ _ _ _ _) hl)) hy.swap (wWrite (p := p) (K := K) a (L.getD 0 0) (by omega) hg0))
            have HS := hid hs
            rw [if_neg hk0, if_neg hkm] at HSC
            clear hs
            generalize L.getD 0 0 = x at *
            have hm0 : 0 < m := by omega
            have hst4 : ∀ B ∈ vaultP q p at' half :: wordP p K cur :: rowP 48 1 (.slice (some ⟨rg, 0, none⟩) m cap2) m (u32s L) :: l, Stable B := stabC (blkP_stable _ _) (stabC (wordP_stable _ _ _) (stabC (rowP_stable _ _ _ _ _) hl))
            go_wp2_with fail
            refine wp_region_ord (.pure 0 (.pure 1 (.pure 2 (.pure 3 (.pure 4 (.pure 5 (.pure 6 (.pure 7 (.eff 8 .nil))))))))) (fun y => Sts W (vaultP q p at' half :: rowP 48 1 (.slice (some ⟨rg, 0, none⟩) m cap2) m (u32s L) :: l) y) (fun y => Sts W (vaultP q p at' half :: wordP p K cur :: rowP 48 1 (.slice (some ⟨rg, 0, none⟩) m cap2) m (u32s L) :: l) y) (by kernel_rfl) (by kernel_rfl) (HS.out.drew hst4) (fun _ h => h.swap.tail) ?_
            iterate 8
              (apply ord_pure (ho := rfl)
               · go_simp
               · intro x hx; obtain ⟨c0, c1, c2⟩ := Sts.vault hx; have cr := Sts.rowCell (Sts.swap hx) 0 (by omega) _ HV.out; go_simp; rfl
               apply ord_norm
               · go_simp; rfl)
            apply ord_eff (ho := rfl)
            · go_simp
            intro y hy
            refine eff_call (f := 29) (by go_simp) (HW.out y hy) ?_
            rintro e w4 ⟨rfl, hs4⟩
            refine ⟨_, rfl, (fun y => Sts W (vaultP q p at' half :: rowP 48 1 (.slice (some ⟨rg, 0, none⟩) m cap2) m (u32s L) :: l) y), (fun y => Sts W (wordP p K (cur.set a x) :: vaultP q p at' half :: rowP 48 1 (.slice (some ⟨rg, 0, none⟩) m cap2) m (u32s L) :: l) y), hs4, (fun _ h => h.tail), (fun _ h => h), ?_⟩
            clear hs4 hy
            apply ord_norm
            · go_simp; rfl
            refine ord_nil fun y hy => ?_
            have HF := hid hy.swap
            clear hy
            go_wp2_with fail
            go_roundw
            case rel => exact ⟨k + 1, by omega, by go_num, by rw [HSC.out]; exact HF.out⟩
            case measure => (try simp [intOf]); (try omega)
      · obtain rfl : k = m + 1 := by omega
        have HS := hid hs
        clear hs
        go_wp2_with fail
        go_ret
        exact ⟨rfl, HS.out.third.tail⟩
  · subst hdm
    subst hc
    have h38 : decide ((0 : Int) ≤ (m : Int) + 1) = true := decide_eq_true (by omega)
    go_wp2_with fail
    go_loopw [43] (fun i wr => ∃ k : Nat, k ≤ (m + 1) ∧ i = .int .i64 k ∧ Sts W (vaultP q p at' half :: wordP p K (Vlt.wrote want a L k) :: rowP 48 1 (.slice (some ⟨rg, 0, none⟩) m cap2) m (u32s L) :: l) wr) (fun i _ => (m + 1) - (intOf i).toNat)
    case atStart => exact ⟨0, by omega, rfl, HS3.out⟩
    case round =>
      obtain ⟨k, hk, rfl, hs⟩ := hrel
      by_cases hlt : k < (m + 1)
      · have hwl := Vlt.wrote_len want a L k
        have hsc : Vlt.wrote want a L (k + 1) = if k = 0 then (Vlt.wrote want a L k).set a 0 else if k < L.length then (Vlt.wrote want a L k).set (a + k) (L.getD k 0) else (Vlt.wrote want a L k).set a (L.getD 0 0) := rfl
        rw [← HM.out] at hsc
        have HSC := hid hsc
        clear hsc
        generalize Vlt.wrote want a L k = cur at *
        have hcl : a + half ≤ cur.length := by rw [hwl]; exact hal
        clear hwl
        have hg0 : L.getD 0 0 < 4294967296 := by rw [List.getD_eq_getElem?_getD, List.getElem?_eq_getElem (by have := HM.out; omega)]; exact HLV.out _ (List.getElem_mem _)
        by_cases hk0 : k = 0
        · subst hk0
          rw [if_pos rfl] at HSC
          obtain ⟨c0, c1, c2⟩ := Sts.vault hs
          have HW := hid (Sts.callV (stabC (blkP_stable _ _) (stabC (rowP_stable _ _ _ _ _) hl)) hs.swap (wWrite (p := p) (K := K) a 0 (by omega) (by omega)))
          clear hs
          have hkz : ((0 : Nat) : Int) < ((m : Int) + 1 : Int) := by omega
          go_wp2_with fail
          refine HW.out.mono ?_
          rintro e w4 ⟨rfl, hs4⟩
          have HF := hid hs4.swap
          clear hs4 c0 c1 c2
          go_wp2_with fail
          go_roundw
          case rel => exact ⟨1, by omega, by go_num, by rw [HSC.out]; exact HF.out⟩
          case measure => (try simp [intOf]); (try omega)
        · have hkz : ((k : Int) == 0) = false := by simp; omega
          have hki : (k : Int) < ((m : Int) + 1 : Int) := by omega
          by_cases hkm : k < m
          · have hgk : L.getD k 0 < 4294967296 := by rw [List.getD_eq_getElem?_getD, List.getElem?_eq_getElem (by have := HM.out; omega)]; exact HLV.out _ (List.getElem_mem _)
            have HV : Hid ((u32s L)[k]? = some (.int .u32 (L.getD k 0 : Nat))) := hid (by simp [u32s, List.getD_eq_getElem?_getD, List.getElem?_eq_getElem (show k < L.length by have := HM.out; omega)])
            have HW := fun y (hy : Sts W (vaultP q p at' half :: wordP p K cur :: rowP 48 1 (.slice (some ⟨rg, 0, none⟩) m cap2) m (u32s L) :: l) y) => Sts.callV (stabC (blkP_stable _ _) (stabC (rowP_stable _ _ _ _ _) hl)) hy.swap (wWrite (p := p) (K := K) (a + k) (L.getD k 0) (by omega) hgk)
            rw [show (((a + k : Nat)) : Int) = (a : Int) + (k : Int) by omega] at HW
            have HW := hid HW
            have HS := hid hs
            rw [if_neg hk0, if_pos hkm] at HSC
            clear hs
            generalize L.getD k 0 = x at *
            have hw1 : IntKind.i64.wrap ((a : Int) + (k : Int)) = (a : Int) + (k : Int) := w64 _ (by omega) (by omega)
            have hst4 : ∀ B ∈ vaultP q p at' half :: wordP p K cur :: rowP 48 1 (.slice (some ⟨rg, 0, none⟩) m cap2) m (u32s L) :: l, Stable B := stabC (blkP_stable _ _) (stabC (wordP_stable _ _ _) (stabC (rowP_stable _ _ _ _ _) hl))
            go_wp2_with fail
            refine wp_region_ord (.pure 0 (.pure 1 (.pure 2 (.pure 3 (.pure 4 (.pure 5 (.pure 6 (.pure 7 (.pure 8 (.pure 9 (.pure 10 (.eff 11 .nil)))))))))))) (fun y => Sts W (vaultP q p at' half :: rowP 48 1 (.slice (some ⟨rg, 0, none⟩) m cap2) m (u32s L) :: l) y) (fun y => Sts W (vaultP q p at' half :: wordP p K cur :: rowP 48 1 (.slice (some ⟨rg, 0, none⟩) m cap2) m (u32s L) :: l) y) (by kernel_rfl) (by kernel_rfl) (HS.out.drew hst4) (fun _ h => h.swap.tail) ?_
            iterate 11
              (apply ord_pure (ho := rfl)
               · go_simp
               · intro x hx; obtain ⟨c0, c1, c2⟩ := Sts.vault hx; have cr := Sts.rowCell (Sts.swap hx) k (by omega) _ HV.out; go_simp; rfl
               apply ord_norm
               · go_simp; rfl)
            apply ord_eff (ho := rfl)
            · go_simp
            intro y hy
            refine eff_call (f := 29) (by go_simp) (HW.out y hy) ?_
            rintro e w4 ⟨rfl, hs4⟩
            refine ⟨_, rfl, (fun y => Sts W (vaultP q p at' half :: rowP 48 1 (.slice (some ⟨rg, 0, none⟩) m cap2) m (u32s L) :: l) y), (fun y => Sts W (wordP p K (cur.set (a + k) x) :: vaultP q p at' half :: rowP 48 1 (.slice (some ⟨rg, 0, none⟩) m cap2) m (u32s L) :: l) y), hs4, (fun _ h => h.tail), (fun _ h => h), ?_⟩
            clear hs4 hy
            apply ord_norm
            · go_simp; rfl
            refine ord_nil fun y hy => ?_
            have HF := hid hy.swap
            clear hy
            go_wp2_with fail
            go_roundw
            case rel => exact ⟨k + 1, by omega, by go_num, by rw [HSC.out]; exact HF.out⟩
            case measure => (try simp [intOf]); (try omega)
          · have HV : Hid ((u32s L)[0]? = some (.int .u32 (L.getD 0 0 : Nat))) := hid (by simp [u32s, List.getD_eq_getElem?_getD, List.getElem?_eq_getElem (show 0 < L.length by have := HM.out; omega)])
            have HW := hid (fun y (hy : Sts W (vaultP q p at' half :: wordP p K cur :: rowP 48 1 (.slice (some ⟨rg, 0, none⟩) m cap2) m (u32s L) :: l) y) => Sts.callV (stabC (blkP_stable _ _) (stabC (rowP_stable _ _ _ _ _) hl)) hy.swap (wWrite (p := p) (K := K) a (L.getD 0 0) (by omega) hg0))
            have HS := hid hs
            rw [if_neg hk0, if_neg hkm] at HSC
            clear hs
            generalize L.getD 0 0 = x at *
            have hm0 : 0 < m := by omega
            have hst4 : ∀ B ∈ vaultP q p at' half :: wordP p K cur :: rowP 48 1 (.slice (some ⟨rg, 0, none⟩) m cap2) m (u32s L) :: l, Stable B := stabC (blkP_stable _ _) (stabC (wordP_stable _ _ _) (stabC (rowP_stable _ _ _ _ _) hl))
            go_wp2_with fail
            refine wp_region_ord (.pure 0 (.pure 1 (.pure 2 (.pure 3 (.pure 4 (.pure 5 (.pure 6 (.pure 7 (.eff 8 .nil))))))))) (fun y => Sts W (vaultP q p at' half :: rowP 48 1 (.slice (some ⟨rg, 0, none⟩) m cap2) m (u32s L) :: l) y) (fun y => Sts W (vaultP q p at' half :: wordP p K cur :: rowP 48 1 (.slice (some ⟨rg, 0, none⟩) m cap2) m (u32s L) :: l) y) (by kernel_rfl) (by kernel_rfl) (HS.out.drew hst4) (fun _ h => h.swap.tail) ?_
            iterate 8
              (apply ord_pure (ho := rfl)
               · go_simp
               · intro x hx; obtain ⟨c0, c1, c2⟩ := Sts.vault hx; have cr := Sts.rowCell (Sts.swap hx) 0 (by omega) _ HV.out; go_simp; rfl
               apply ord_norm
               · go_simp; rfl)
            apply ord_eff (ho := rfl)
            · go_simp
            intro y hy
            refine eff_call (f := 29) (by go_simp) (HW.out y hy) ?_
            rintro e w4 ⟨rfl, hs4⟩
            refine ⟨_, rfl, (fun y => Sts W (vaultP q p at' half :: rowP 48 1 (.slice (some ⟨rg, 0, none⟩) m cap2) m (u32s L) :: l) y), (fun y => Sts W (wordP p K (cur.set a x) :: vaultP q p at' half :: rowP 48 1 (.slice (some ⟨rg, 0, none⟩) m cap2) m (u32s L) :: l) y), hs4, (fun _ h => h.tail), (fun _ h => h), ?_⟩
            clear hs4 hy
            apply ord_norm
            · go_simp; rfl
            refine ord_nil fun y hy => ?_
            have HF := hid hy.swap
            clear hy
            go_wp2_with fail
            go_roundw
            case rel => exact ⟨k + 1, by omega, by go_num, by rw [HSC.out]; exact HF.out⟩
            case measure => (try simp [intOf]); (try omega)
      · obtain rfl : k = m + 1 := by omega
        have HS := hid hs
        clear hs
        go_wp2_with fail
        go_ret
        exact ⟨rfl, HS.out.third.tail⟩
  · subst hc
    go_wp2_with fail
    go_loopw [43] (fun i wr => ∃ k : Nat, k ≤ d ∧ i = .int .i64 k ∧ Sts W (vaultP q p at' half :: wordP p K (Vlt.wrote want a L k) :: rowP 48 1 (.slice (some ⟨rg, 0, none⟩) m cap2) m (u32s L) :: l) wr) (fun i _ => d - (intOf i).toNat)
    case atStart => exact ⟨0, by omega, rfl, HS3.out⟩
    case round =>
      obtain ⟨k, hk, rfl, hs⟩ := hrel
      by_cases hlt : k < d
      · have hwl := Vlt.wrote_len want a L k
        have hsc : Vlt.wrote want a L (k + 1) = if k = 0 then (Vlt.wrote want a L k).set a 0 else if k < L.length then (Vlt.wrote want a L k).set (a + k) (L.getD k 0) else (Vlt.wrote want a L k).set a (L.getD 0 0) := rfl
        rw [← HM.out] at hsc
        have HSC := hid hsc
        clear hsc
        generalize Vlt.wrote want a L k = cur at *
        have hcl : a + half ≤ cur.length := by rw [hwl]; exact hal
        clear hwl
        have hg0 : L.getD 0 0 < 4294967296 := by rw [List.getD_eq_getElem?_getD, List.getElem?_eq_getElem (by have := HM.out; omega)]; exact HLV.out _ (List.getElem_mem _)
        by_cases hk0 : k = 0
        · subst hk0
          rw [if_pos rfl] at HSC
          obtain ⟨c0, c1, c2⟩ := Sts.vault hs
          have HW := hid (Sts.callV (stabC (blkP_stable _ _) (stabC (rowP_stable _ _ _ _ _) hl)) hs.swap (wWrite (p := p) (K := K) a 0 (by omega) (by omega)))
          clear hs
          have hkz : ((0 : Nat) : Int) < (((d : Nat) : Int) : Int) := by omega
          go_wp2_with fail
          refine HW.out.mono ?_
          rintro e w4 ⟨rfl, hs4⟩
          have HF := hid hs4.swap
          clear hs4 c0 c1 c2
          go_wp2_with fail
          go_roundw
          case rel => exact ⟨1, by omega, by go_num, by rw [HSC.out]; exact HF.out⟩
          case measure => (try simp [intOf]); (try omega)
        · have hkz : ((k : Int) == 0) = false := by simp; omega
          have hki : (k : Int) < (((d : Nat) : Int) : Int) := by omega
          by_cases hkm : k < m
          · have hgk : L.getD k 0 < 4294967296 := by rw [List.getD_eq_getElem?_getD, List.getElem?_eq_getElem (by have := HM.out; omega)]; exact HLV.out _ (List.getElem_mem _)
            have HV : Hid ((u32s L)[k]? = some (.int .u32 (L.getD k 0 : Nat))) := hid (by simp [u32s, List.getD_eq_getElem?_getD, List.getElem?_eq_getElem (show k < L.length by have := HM.out; omega)])
            have HW := fun y (hy : Sts W (vaultP q p at' half :: wordP p K cur :: rowP 48 1 (.slice (some ⟨rg, 0, none⟩) m cap2) m (u32s L) :: l) y) => Sts.callV (stabC (blkP_stable _ _) (stabC (rowP_stable _ _ _ _ _) hl)) hy.swap (wWrite (p := p) (K := K) (a + k) (L.getD k 0) (by omega) hgk)
            rw [show (((a + k : Nat)) : Int) = (a : Int) + (k : Int) by omega] at HW
            have HW := hid HW
            have HS := hid hs
            rw [if_neg hk0, if_pos hkm] at HSC
            clear hs
            generalize L.getD k 0 = x at *
            have hw1 : IntKind.i64.wrap ((a : Int) + (k : Int)) = (a : Int) + (k : Int) := w64 _ (by omega) (by omega)
            have hst4 : ∀ B ∈ vaultP q p at' half :: wordP p K cur :: rowP 48 1 (.slice (some ⟨rg, 0, none⟩) m cap2) m (u32s L) :: l, Stable B := stabC (blkP_stable _ _) (stabC (wordP_stable _ _ _) (stabC (rowP_stable _ _ _ _ _) hl))
            go_wp2_with fail
            refine wp_region_ord (.pure 0 (.pure 1 (.pure 2 (.pure 3 (.pure 4 (.pure 5 (.pure 6 (.pure 7 (.pure 8 (.pure 9 (.pure 10 (.eff 11 .nil)))))))))))) (fun y => Sts W (vaultP q p at' half :: rowP 48 1 (.slice (some ⟨rg, 0, none⟩) m cap2) m (u32s L) :: l) y) (fun y => Sts W (vaultP q p at' half :: wordP p K cur :: rowP 48 1 (.slice (some ⟨rg, 0, none⟩) m cap2) m (u32s L) :: l) y) (by kernel_rfl) (by kernel_rfl) (HS.out.drew hst4) (fun _ h => h.swap.tail) ?_
            iterate 11
              (apply ord_pure (ho := rfl)
               · go_simp
               · intro x hx; obtain ⟨c0, c1, c2⟩ := Sts.vault hx; have cr := Sts.rowCell (Sts.swap hx) k (by omega) _ HV.out; go_simp; rfl
               apply ord_norm
               · go_simp; rfl)
            apply ord_eff (ho := rfl)
            · go_simp
            intro y hy
            refine eff_call (f := 29) (by go_simp) (HW.out y hy) ?_
            rintro e w4 ⟨rfl, hs4⟩
            refine ⟨_, rfl, (fun y => Sts W (vaultP q p at' half :: rowP 48 1 (.slice (some ⟨rg, 0, none⟩) m cap2) m (u32s L) :: l) y), (fun y => Sts W (wordP p K (cur.set (a + k) x) :: vaultP q p at' half :: rowP 48 1 (.slice (some ⟨rg, 0, none⟩) m cap2) m (u32s L) :: l) y), hs4, (fun _ h => h.tail), (fun _ h => h), ?_⟩
            clear hs4 hy
            apply ord_norm
            · go_simp; rfl
            refine ord_nil fun y hy => ?_
            have HF := hid hy.swap
            clear hy
            go_wp2_with fail
            go_roundw
            case rel => exact ⟨k + 1, by omega, by go_num, by rw [HSC.out]; exact HF.out⟩
            case measure => (try simp [intOf]); (try omega)
          · have HV : Hid ((u32s L)[0]? = some (.int .u32 (L.getD 0 0 : Nat))) := hid (by simp [u32s, List.getD_eq_getElem?_getD, List.getElem?_eq_getElem (show 0 < L.length by have := HM.out; omega)])
            have HW := hid (fun y (hy : Sts W (vaultP q p at' half :: wordP p K cur :: rowP 48 1 (.slice (some ⟨rg, 0, none⟩) m cap2) m (u32s L) :: l) y) => Sts.callV (stabC (blkP_stable _ _) (stabC (rowP_stable _ _ _ _ _) hl)) hy.swap (wWrite (p := p) (K := K) a (L.getD 0 0) (by omega) hg0))
            have HS := hid hs
            rw [if_neg hk0, if_neg hkm] at HSC
            clear hs
            generalize L.getD 0 0 = x at *
            have hm0 : 0 < m := by omega
            have hst4 : ∀ B ∈ vaultP q p at' half :: wordP p K cur :: rowP 48 1 (.slice (some ⟨rg, 0, none⟩) m cap2) m (u32s L) :: l, Stable B := stabC (blkP_stable _ _) (stabC (wordP_stable _ _ _) (stabC (rowP_stable _ _ _ _ _) hl))
            go_wp2_with fail
            refine wp_region_ord (.pure 0 (.pure 1 (.pure 2 (.pure 3 (.pure 4 (.pure 5 (.pure 6 (.pure 7 (.eff 8 .nil))))))))) (fun y => Sts W (vaultP q p at' half :: rowP 48 1 (.slice (some ⟨rg, 0, none⟩) m cap2) m (u32s L) :: l) y) (fun y => Sts W (vaultP q p at' half :: wordP p K cur :: rowP 48 1 (.slice (some ⟨rg, 0, none⟩) m cap2) m (u32s L) :: l) y) (by kernel_rfl) (by kernel_rfl) (HS.out.drew hst4) (fun _ h => h.swap.tail) ?_
            iterate 8
              (apply ord_pure (ho := rfl)
               · go_simp
               · intro x hx; obtain ⟨c0, c1, c2⟩ := Sts.vault hx; have cr := Sts.rowCell (Sts.swap hx) 0 (by omega) _ HV.out; go_simp; rfl
               apply ord_norm
               · go_simp; rfl)
            apply ord_eff (ho := rfl)
            · go_simp
            intro y hy
            refine eff_call (f := 29) (by go_simp) (HW.out y hy) ?_
            rintro e w4 ⟨rfl, hs4⟩
            refine ⟨_, rfl, (fun y => Sts W (vaultP q p at' half :: rowP 48 1 (.slice (some ⟨rg, 0, none⟩) m cap2) m (u32s L) :: l) y), (fun y => Sts W (wordP p K (cur.set a x) :: vaultP q p at' half :: rowP 48 1 (.slice (some ⟨rg, 0, none⟩) m cap2) m (u32s L) :: l) y), hs4, (fun _ h => h.tail), (fun _ h => h), ?_⟩
            clear hs4 hy
            apply ord_norm
            · go_simp; rfl
            refine ord_nil fun y hy => ?_
            have HF := hid hy.swap
            clear hy
            go_wp2_with fail
            go_roundw
            case rel => exact ⟨k + 1, by omega, by go_num, by rw [HSC.out]; exact HF.out⟩
            case measure => (try simp [intOf]); (try omega)
      · obtain rfl : d = k := by omega
        have HS := hid hs
        clear hs
        go_wp2_with fail
        go_ret
        exact ⟨rfl, HS.out.third.tail⟩
end
end Go.Proofs.Ytdboplkgnnidcaa
