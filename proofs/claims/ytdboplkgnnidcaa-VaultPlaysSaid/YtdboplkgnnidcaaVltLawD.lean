/- An area of a memory and the memory; the contract of spacecraftlaw32.shows. The law VaultPlays: its walk. The arguments of VaultPlays, opened; the law for every input. -/
import Derived.Test.YtdboplkgnnidcaaVltRef
import Derived.Test.YtdboplkgnnidcaaVltAwake
import Derived.Test.YtdboplkgnnidcaaOpenG
set_option linter.unusedVariables false
set_option linter.unusedSimpArgs false
namespace Vlt
theorem readV_bytes (w : List Nat) (half a : Nat) : ∀ x ∈ (readV w half a).2, x < 256 := by
  unfold readV
  split
  · simp
  · simp only []
    split
    · intro x hx; exact Pat.bytesOf_lt _ _ (List.mem_of_mem_take hx)
    · simp
theorem newV_bytes (w : List Nat) (at' half : Nat) : ∀ x ∈ (newV w at' half).2.2, x < 256 := by
  unfold newV; split
  · exact readV_bytes _ _ _
  · exact readV_bytes _ _ _
section
variable (M : List Nat) (at' n : Nat) (h8 : 8 ≤ n) (hM : at' + n ≤ M.length)
include h8 hM
omit hM in
theorem readV_area (x : Nat) (hx : x + n / 2 ≤ n) : readV ((M.drop at').take n) (n / 2) x = readV M (n / 2) (at' + x) :=
  readV_shift _ _ _ _ _ (by omega) (fun i hi => by rw [List.getElem?_take_of_lt (by omega), List.getElem?_drop, Nat.add_assoc])
omit hM in
theorem newV_area : newV ((M.drop at').take n) 0 (n / 2) = newV M at' (n / 2) := by
  unfold newV
  rw [readV_area M at' n h8 0 (by omega), readV_area M at' n h8 (0 + n / 2) (by omega), Nat.zero_add, Nat.add_zero]
omit hM in
theorem oldV_area : oldV ((M.drop at').take n) 0 (n / 2) = oldV M at' (n / 2) := by
  unfold oldV; rw [newV_area M at' n h8]
omit h8 in
theorem set_area (C : List Nat) (hC : C.length = M.length) (x v : Nat) (hx : x < n) : (((C.set (at' + x) v).drop at').take n) = ((C.drop at').take n).set x v := by
  apply List.ext_getElem?
  intro i
  by_cases hi : i < n
  · rw [List.getElem?_take_of_lt hi, List.getElem?_drop]
    by_cases e : i = x
    · subst e
      rw [List.getElem?_set_self (by omega), List.getElem?_set_self (by rw [List.length_take, List.length_drop]; omega)]
    · rw [List.getElem?_set_ne (by omega), List.getElem?_set_ne (by omega), List.getElem?_take_of_lt hi, List.getElem?_drop]
  · rw [List.getElem?_take_eq_none (by omega), List.getElem?_eq_none (by rw [List.length_set, List.length_take]; omega)]
omit h8 in
theorem wrote_area (x : Nat) (L : List Nat) (k : Nat) (hL : x + L.length ≤ n) (h0 : 1 ≤ L.length) : ((wrote M (at' + x) L k).drop at').take n = wrote ((M.drop at').take n) x L k := by
  induction k with
  | zero => rfl
  | succ k ih =>
    have hl := wrote_len M (at' + x) L k
    unfold wrote
    by_cases e : k = 0
    · rw [if_pos e, if_pos e, set_area M at' n hM _ hl x 0 (by omega), ih]
    · rw [if_neg e, if_neg e]
      by_cases e2 : k < L.length
      · rw [if_pos e2, if_pos e2, Nat.add_assoc, set_area M at' n hM _ hl (x + k) _ (by omega), ih]
      · rw [if_neg e2, if_neg e2, set_area M at' n hM _ hl x _ (by omega), ih]
/-- A save changes the area as the specification says, and nothing else. -/
theorem saveV_area (b : List Nat) (cut : Int) : (saveV ((M.drop at').take n) 0 (n / 2) b cut).1 = (saveV M at' (n / 2) b cut).1 ∧ ((saveV M at' (n / 2) b cut).2.drop at').take n = (saveV ((M.drop at').take n) 0 (n / 2) b cut).2 ∧
    (saveV M at' (n / 2) b cut).2.length = M.length ∧ ∀ i, at' + n ≤ i → (saveV M at' (n / 2) b cut).2[i]? = M[i]? := by
  unfold saveV
  rw [newV_area M at' n h8, oldV_area M at' n h8]
  by_cases h1 : 4 * (((n / 2 : Nat) : Int) - 3) < b.length
  · rw [if_pos h1, if_pos h1]; exact ⟨rfl, rfl, rfl, fun _ _ => rfl⟩
  · rw [if_neg h1, if_neg h1]
    by_cases h2 : 4294967295 ≤ (newV M at' (n / 2)).2.1
    · rw [if_pos h2, if_pos h2]; exact ⟨rfl, rfl, rfl, fun _ _ => rfl⟩
    · rw [if_neg h2, if_neg h2]
      have hlen := wordsV_len ((newV M at' (n / 2)).2.1 + 1) b
      have hne := words_ne ((newV M at' (n / 2)).2.1 + 1) b
      have hr := room_le b.length (n / 2) h1
      have ho := oldV_lt M at' (n / 2)
      have hoh : oldV M at' (n / 2) * (n / 2) ≤ 1 * (n / 2) := Nat.mul_le_mul_right _ (by omega)
      generalize wordsV ((newV M at' (n / 2)).2.1 + 1) b = L at *
      generalize oldV M at' (n / 2) * (n / 2) = x at *
      refine ⟨rfl, ?_, wrote_len _ _ _ _, fun i hi => wrote_out _ _ _ _ _ hne (by omega)⟩
      simp only []
      rw [wrote_area M at' n hM x L _ (by omega) (by omega), Nat.zero_add]
end
end Vlt
namespace Go.Proofs.Ytdboplkgnnidcaa
open Go.RowKit Go.Proofs.Num
def ShowEnd (W : World) (q p at' n : Nat) (M : List Nat) (rv : Value) (l : List HProp) (e : Ending) (w' : World) : Prop :=
  e = .returned (.bool true) ∧ Sts W (vaultP q p at' (n / 2) :: wordP p 0 M :: rowP 48 1 rv n (u32s ((M.drop at').take n)) :: l) w'
set_option maxRecDepth 100000 in
set_option maxHeartbeats 1000000 in
theorem cShows {W w : World} {l : List HProp} (hl : ∀ B ∈ l, Stable B) (q p at' n : Nat) (M : List Nat) (rv : Value) (h8 : 8 ≤ n) (hM : at' + n ≤ M.length) (hw : M.length ≤ 1000)
    (hs : Sts W (vaultP q p at' (n / 2) :: wordP p 0 M :: rowP 48 1 rv n (u32s ((M.drop at').take n)) :: l) w) :
    Calls Try.prog 30 #[.pointer (some ⟨q, 0, none⟩), .int .i64 at', rv] w (ShowEnd W q p at' n M rv l) := by
  have hnv := Vlt.newV_area M at' n h8
  have hov := Vlt.oldV_area M at' n h8
  have hal : ((M.drop at').take n).length = n := by rw [List.length_take, List.length_drop]; omega
  have hval : ∀ x ∈ M, x < 4294967296 := by
    obtain ⟨F, hF⟩ := hs.tail.head
    exact wordP.val hF
  have hvc : ∀ x ∈ (M.drop at').take n, x < 4294967296 := fun x hx => hval x (List.mem_of_mem_drop (List.mem_of_mem_take hx))
  have hlR : ∀ B ∈ rowP 48 1 rv n (u32s ((M.drop at').take n)) :: l, Stable B := stabC (rowP_stable _ _ _ _ _) hl
  have hst0 : ∀ B ∈ vaultP q p at' (n / 2) :: wordP p 0 M :: rowP 48 1 rv n (u32s ((M.drop at').take n)) :: l, Stable B := stabC (blkP_stable _ _) (stabC (wordP_stable _ _ _) hlR)
  have hrd : ∀ (l' : List HProp) (y : World), Sts W (rowP 48 1 rv n (u32s ((M.drop at').take n)) :: l') y → RdW y rv ((M.drop at').take n) := fun l' y h => ⟨Rd.of_own (Sts.rowOwn h) (by rw [u32s_len]; exact hal), hvc⟩
  have hN0 := cRNewest w rv _ (hrd _ _ hs.third) (by rw [hal]; exact h8) (by rw [hal]; omega)
  unfold NewestEnd newK at hN0
  rw [hal, hnv] at hN0
  have HN0 := hid hN0
  have hnb := Vlt.newV_bound M at' (n / 2) hval
  have hni := Vlt.newV_lt M at' (n / 2)
  have hO := fun y (hy : RdW y rv ((M.drop at').take n)) => cROlder y rv _ hy (by rw [hal]; exact h8) (by rw [hal]; omega)
  rw [hal, hov] at hO
  have HO := hid hO
  have HRD := hid hrd
  obtain ⟨gr, capr, rfl⟩ := own_nonnil (Sts.rowOwn hs.third) (by omega)
  have hcr := (Rd.of_own (Sts.rowOwn hs.third) (by rw [u32s_len]; exact hal)).cap
  obtain ⟨u1, hcr1, hcr2⟩ := hcr
  clear u1
  unfold maxLen at hcr2
  have HS := hid hs
  have hon := Vlt.oldV_lt M at' (n / 2)
  clear hnv hov hal hval hvc hN0 hrd hO hs
  generalize hcg : (M.drop at').take n = c at *
  have HCG := hid hcg
  clear hcg
  generalize hovg : Vlt.oldV M at' (n / 2) = o at *
  generalize hnvg : Vlt.newV M at' (n / 2) = nv at *
  have HNV := hid hnvg
  clear hnvg
  obtain ⟨idx, gen, bb⟩ := nv
  simp only [] at HN0 hnb hni
  obtain ⟨half, hhf⟩ : ∃ half, half = n / 2 := ⟨_, rfl⟩
  have hi2 : (n : Int) / 2 = (half : Int) := by omega
  have hhb : half ≤ 1000 := by omega
  have hh4 : 4 ≤ half := by omega
  have hat : at' + 2 * half ≤ M.length := by omega
  have hoh : o * half ≤ 1 * half := Nat.mul_le_mul_right _ (by omega)
  have hzc : ((o * half : Nat) : Int) = (o : Int) * (half : Int) := Int.natCast_mul _ _
  have hp0 : 0 ≤ (o : Int) * (half : Int) := by rw [← hzc]; omega
  have hp1 : (o : Int) * (half : Int) ≤ 1000000 := by rw [← hzc]; omega
  rw [← hhf] at HS HNV hovg
  have HHF := hid hhf
  clear hhf
  have hst1 : ∀ B ∈ vaultP q p at' half :: wordP p 0 M :: rowP 48 1 (.slice (some ⟨gr, 0, none⟩) n capr) n (u32s c) :: l, Stable B := stabC (blkP_stable _ _) (stabC (wordP_stable _ _ _) hlR)
  have HOA := hid (fun lr (hlr : ∀ B ∈ lr, Stable B) y (hy : Sts W (vaultP q p at' half :: wordP p 0 M :: lr) y) => cOlderA hlr q p at' half 0 M (by decide) hh4 hat (by omega) hy)
  rw [hovg, hzc] at HOA
  have HGE := hid (fun lr (hlr : ∀ B ∈ lr, Stable B) y (hy : Sts W (vaultP q p at' half :: wordP p 0 M :: lr) y) => cGeneration hlr q p at' half 0 M (by decide) hh4 hat (by omega) hy)
  rw [HNV.out] at HGE
  simp only [] at HGE
  have HLD := hid (fun lr (hlr : ∀ B ∈ lr, Stable B) y (hy : Sts W (vaultP q p at' half :: wordP p 0 M :: lr) y) => cLoad hlr q p at' half 0 M (by decide) hh4 hat (by omega) hy)
  unfold LoadEnd at HLD
  rw [HNV.out] at HLD
  simp only [] at HLD
  have HRR := hid (fun y => cRefRoom y n (by omega))
  rw [← HHF.out] at HRR
  clear hovg hst0 hzc hoh
  go_enter Try.func30, Try.ntmps30
  go_wp2_with fail
  refine HN0.out.mono ?_
  rintro e w1 ⟨bv, rfl, hN⟩
  have HS1 : Hid (Sts W (vaultP q p at' half :: wordP p 0 M :: rowP 5 1 bv (u8s bb).length (u8s bb) :: rowP 48 1 (.slice (some ⟨gr, 0, none⟩) n capr) n (u32s c) :: l) w1) :=
    hid ((HS.out.new hst1 hN).third')
  have HBB : Hid (∀ x ∈ bb, x < 256) := hid (by have h := Vlt.newV_bytes M at' half; rw [HNV.out] at h; exact h)
  have hlB : ∀ B ∈ rowP 5 1 bv (u8s bb).length (u8s bb) :: rowP 48 1 (.slice (some ⟨gr, 0, none⟩) n capr) n (u32s c) :: l, Stable B := stabC (rowP_stable _ _ _ _ _) hlR
  clear hN HN0
  have HL1 := hid (HLD.out _ hlB w1 HS1.out)
  clear HLD
  by_cases hg : gen = 0
  · rw [if_pos hg, if_pos hg] at HL1
    rw [if_pos hg]
    subst hg
    go_wp2_with fail
    refine HL1.out.mono ?_
    rintro e w2 ⟨x, rfl, hs2⟩
    obtain ⟨xa, xc, rfl⟩ : ∃ xa xc, x = .slice xa 0 xc := by
      obtain ⟨xa, xc, e⟩ := (Rd.of_own (Sts.rowOwn hs2) rfl).eq
      exact ⟨xa, xc, e⟩
    have HS2 := hid hs2.tail
    clear hs2 HS1
    go_wp2_with fail
    refine (HGE.out _ hlB w2 HS2.out).mono ?_
    rintro e w3 ⟨rfl, hs3⟩
    have HS3 := hid hs3
    clear hs3 HS2
    have HO3 := hid (HOA.out _ hlB w3 HS3.out)
    go_wp2_with fail
    refine HO3.out.mono ?_
    rintro e w4 ⟨rfl, hs4⟩
    have HO4 := hid (HO.out w4 (HRD.out _ _ (hs4.tail.tail.tail)))
    have HS4 := hid hs4
    clear hs4 HS3
    go_wp2_with fail
    refine HO4.out.mono ?_
    rintro e w5 ⟨rfl, hb5⟩
    have hs5 := HS4.out.quiet (stabC (blkP_stable _ _) (stabC (wordP_stable _ _ _) hlB)) hb5
    have HR5 := hid (cRoom w5 q p at' half (Sts.vault hs5) (by omega))
    have HS5 := hid hs5
    clear hs5 hb5 HS4
    go_wp2_with fail
    refine HR5.out.mono ?_
    rintro e w6 ⟨rfl, rfl⟩
    go_wp2_with fail
    refine (HRR.out w5).mono ?_
    rintro e w6 ⟨rfl, rfl⟩
    go_wp2_with fail
    go_ret
    refine ⟨rfl, ?_⟩
    rw [← HHF.out, HCG.out]
    exact Sts.tail (HS5.out.third)
  · rw [if_neg hg, if_neg hg] at HL1
    rw [if_neg hg]
    have hi0 : decide ((idx : Int) < 0) = false := decide_eq_false (by omega)
    go_wp2_with fail
    refine HL1.out.mono ?_
    rintro e w2 ⟨x, rfl, hs2⟩
    have k1 := str8 (w := w2) (v := x) (l := bb) ⟨Rd.of_own (Sts.rowOwn hs2) (u8s_len _), HBB.out⟩
    have k2 := str8 (w := w2) (v := bv) (l := bb) ⟨Rd.of_own (Sts.rowOwn hs2.tail.tail.tail) rfl, HBB.out⟩
    have HS2 := hid hs2.tail
    clear hs2 HS1
    generalize strB bb = sb at *
    go_wp2_with fail
    clear k1 k2
    refine (HGE.out _ hlB w2 HS2.out).mono ?_
    rintro e w3 ⟨rfl, hs3⟩
    have HS3 := hid hs3
    clear hs3 HS2
    have HO3 := hid (HOA.out _ hlB w3 HS3.out)
    go_wp2_with fail
    refine HO3.out.mono ?_
    rintro e w4 ⟨rfl, hs4⟩
    have HO4 := hid (HO.out w4 (HRD.out _ _ (hs4.tail.tail.tail)))
    have HS4 := hid hs4
    clear hs4 HS3
    go_wp2_with fail
    refine HO4.out.mono ?_
    rintro e w5 ⟨rfl, hb5⟩
    have hs5 := HS4.out.quiet (stabC (blkP_stable _ _) (stabC (wordP_stable _ _ _) hlB)) hb5
    have HR5 := hid (cRoom w5 q p at' half (Sts.vault hs5) (by omega))
    have HS5 := hid hs5
    clear hs5 hb5 HS4
    go_wp2_with fail
    refine HR5.out.mono ?_
    rintro e w6 ⟨rfl, rfl⟩
    go_wp2_with fail
    refine (HRR.out w5).mono ?_
    rintro e w6 ⟨rfl, rfl⟩
    go_wp2_with fail
    go_ret
    refine ⟨rfl, ?_⟩
    rw [← HHF.out, HCG.out]
    exact Sts.tail (HS5.out.third)
end Go.Proofs.Ytdboplkgnnidcaa
namespace Vlt
structure Act1 where
  kind : Int
  bv : Go.Value
  b : List Nat
  cut : Int
end Vlt
namespace Go.Proofs.Ytdboplkgnnidcaa
open Go.RowKit Go.Proofs.Num
def ActE (w : World) (cs : List Value) (s : Vlt.Act1) : Prop := cs = [.int .i64 s.kind, s.bv, .int .i64 s.cut] ∧ RdB w s.bv s.b
abbrev ActsAt (w : World) (v : Value) (S : List Vlt.Act1) : Prop := SliceOf w 3 ActE v S
def FillAt (w : World) (p N a n : Nat) (raw : List Nat) (i : Value) (wr : World) : Prop := ∃ k : Nat, k ≤ n ∧ i = .int .i64 k ∧ Sts w [wordP p 0 (Vlt.rput (List.replicate N 0) a raw k)] wr
def PlayAt (w : World) (p N a n m : Nat) (vv rv i : Value) (wr : World) : Prop := ∃ (k : Nat) (M : List Nat) (q : Nat), k ≤ m ∧ i = .int .i64 k ∧ vv = .pointer (some ⟨q, 0, none⟩) ∧ M.length = N ∧ M[a + n]? = some 0 ∧
  Sts w [vaultP q p a (n / 2), wordP p 0 M, rowP 48 1 rv n (u32s ((M.drop a).take n))] wr
theorem rput_in (c : List Nat) (a : Nat) (L : List Nat) (ha : a + L.length ≤ c.length) (k : Nat) (hk : k ≤ L.length) : (∀ i, i < k → (Vlt.rput c a L k)[a + i]? = L[i]?) ∧ ∀ i, i < a ∨ a + k ≤ i → (Vlt.rput c a L k)[i]? = c[i]? := by
  induction k with
  | zero => exact ⟨fun i h => by omega, fun i _ => rfl⟩
  | succ k ih =>
    obtain ⟨h1, h2⟩ := ih (by omega)
    constructor
    · intro i hi
      show ((Vlt.rput c a L k).set (a + k) (L.getD k 0))[a + i]? = L[i]?
      by_cases e : i = k
      · subst e
        rw [List.getElem?_set_self (by rw [Vlt.rput_len]; omega)]
        simp [List.getD_eq_getElem?_getD, show i < L.length by omega]
      · rw [List.getElem?_set_ne (by omega)]; exact h1 i (by omega)
    · intro i hi
      show ((Vlt.rput c a L k).set (a + k) (L.getD k 0))[i]? = c[i]?
      rw [List.getElem?_set_ne (by omega)]; exact h2 i (by omega)
set_option maxRecDepth 100000 in
theorem vplays_few (w : World) (z : Int) (vr vs : Value) (raw : List Nat) (S : List Vlt.Act1) (hr : RdW w vr raw) (hS : ActsAt w vs S) (h : z < 0 ∨ 40 < z ∨ raw.length < 8 ∨ 120 < raw.length ∨ 12 < S.length) :
    Calls Try.prog 8 #[.int .i64 z, vr, vs] w fun e w' => e = .returned (.bool true) ∧ Below w.heap.size w w' := by
  obtain ⟨a1, c1, rfl, hy1⟩ := hr.open
  obtain ⟨a2, c2, rfl, hy2, hy3⟩ := hS
  have h' : decide (z < 0) = true ∨ (decide (z < 0) = false ∧ decide (40 < z) = true) ∨ (decide (z < 0) = false ∧ decide (40 < z) = false ∧ decide ((raw.length : Int) < 8) = true) ∨ (decide (z < 0) = false ∧ decide (40 < z) = false ∧ decide ((raw.length : Int) < 8) = false ∧ decide (120 < (raw.length : Int)) = true) ∨
      (decide (z < 0) = false ∧ decide (40 < z) = false ∧ decide ((raw.length : Int) < 8) = false ∧ decide (120 < (raw.length : Int)) = false ∧ decide (12 < (S.length : Int)) = true) := by
    simp only [decide_eq_true_eq, decide_eq_false_iff_not]; omega
  clear h hy1 hy2 hy3 hr
  rcases h' with h | ⟨h, h2⟩ | ⟨h, h2, h3⟩ | ⟨h, h2, h3, h4⟩ | ⟨h, h2, h3, h4, h5⟩
  all_goals
    go_enter Try.func8, Try.ntmps8
    go_wp2_with fail
    refine (cAwake _).mono ?_
    rintro e w1 ⟨rfl, hb1⟩
    have H1 := hid hb1
    clear hb1
    go_wp2_with fail
    go_ret
    exact ⟨rfl, H1.out⟩
set_option maxRecDepth 100000 in
set_option maxHeartbeats 4000000 in
theorem vplays_main (w : World) (a : Nat) (ha40 : a ≤ 40) (vr vs : Value) (raw : List Nat) (S : List Vlt.Act1) (hr : RdW w vr raw) (hS : ActsAt w vs S) (h8 : 8 ≤ raw.length) (h120 : raw.length ≤ 120) (hm12 : S.length ≤ 12) :
    Calls Try.prog 8 #[.int .i64 a, vr, vs] w fun e w' => e = .returned (.bool true) ∧ Below w.heap.size w w' := by
  have HRW := hid hr
  have HACT := hid hS
  obtain ⟨a1, c1, rfl, hx1⟩ := hr.open
  obtain ⟨b1, o1, rfl, hb1, hy1⟩ := hx1 0 (by omega)
  clear hy1
  obtain ⟨a2, c2, rfl, hy2, hy3⟩ := hS
  obtain ⟨hq0, hcap1, hcap2⟩ := hr.1.cap
  rw [u32s_len] at hq0
  unfold maxLen at hcap2 hy2
  have HX1 : Hid (∀ j x, raw[j]? = some x → b1 < w.heap.size ∧ w.cell? ⟨b1, o1 + j, none⟩ = some (.int .u32 (x : Nat))) := hid (by
    intro j x hj
    have hl : j < raw.length := by
      rcases Nat.lt_or_ge j raw.length with h | h
      · exact h
      · rw [List.getElem?_eq_none h] at hj; cases hj
    obtain ⟨ba, oa, ea2, hba, hca⟩ := hx1 j hl
    injection ea2 with ea2
    injection ea2 with k1 k2 _
    subst k1
    subst k2
    rw [List.getElem?_eq_getElem hl] at hj
    injection hj with hj
    subst hj
    exact ⟨hba, hca⟩)
  clear hx1 hy3 hr hq0
  have HRV := hid HRW.out.2
  generalize hn : raw.length = n at *
  have HN := hid hn
  clear hn
  obtain ⟨N, hN⟩ : ∃ N, N = a + n + 2 := ⟨_, rfl⟩
  have hNa : N ≤ a + n + 2 := by omega
  have hNb : a + n + 2 ≤ N := by omega
  have HNE := hid hN
  clear hN
  have k1 : decide ((a : Int) < 0) = false := decide_eq_false (by omega)
  have k2 : decide (40 < (a : Int)) = false := decide_eq_false (by omega)
  have k3 : decide ((n : Int) < 8) = false := decide_eq_false (by omega)
  have k4 : decide (120 < (n : Int)) = false := decide_eq_false (by omega)
  have k5 : decide (12 < (S.length : Int)) = false := decide_eq_false (by omega)
  obtain ⟨i0, hi0, hz0, hz1, hz2⟩ := info_parts info32
  go_enter Try.func8, Try.ntmps8
  go_wp2_with fail
  refine (cAwake _).mono ?_
  rintro e w1 ⟨rfl, hb1'⟩
  have H1 := hid ((Sts.nil w).quiet stab0 hb1').withEmp
  clear hb1'
  have hnw := Sts.call stab0 H1.out (wNew N (by omega))
  rw [show (N : Int) = (a : Int) + (n : Int) + 2 by omega] at hnw
  have HNW := hid hnw
  clear hnw
  go_wp2_with fail
  refine HNW.out.mono ?_
  rintro e w2 ⟨p, rfl, h2'⟩
  have H2 : Hid (Sts w [wordP p 0 (List.replicate N 0)] w2) := hid (h2'.weaken (fun F h => h.word))
  clear h2' H1 HNW
  go_wp2_with fail
  go_loopw [8] (fun i wr => FillAt w p N a n raw i wr) (fun i _ => n - (intOf i).toNat)
  case atStart => exact ⟨0, by omega, rfl, H2.out⟩
  case round =>
    obtain ⟨k, hk, rfl, hs⟩ := hrel
    clear H2
    by_cases hlt : k < n
    · have hkr : k < raw.length := by rw [HN.out]; exact hlt
      obtain ⟨hb, hcell⟩ := HX1.out k _ (List.getElem?_eq_getElem hkr)
      rw [← hs.below.cell hb] at hcell
      have hxb := HRV.out _ (List.getElem_mem hkr)
      have hgd : raw.getD k 0 = raw[k] := by simp [List.getD_eq_getElem?_getD, hkr]
      have HST : Hid (Vlt.rput (List.replicate N 0) a raw (k + 1) = (Vlt.rput (List.replicate N 0) a raw k).set (a + k) raw[k]) := hid (by rw [← hgd]; rfl)
      have hlen := Vlt.rput_len (List.replicate N 0) a raw k
      rw [List.length_replicate] at hlen
      have HW := hid (Sts.callV stab0 hs (wWrite (p := p) (K := 0) (a + k) raw[k] (by rw [hlen]; omega) hxb))
      rw [show (((a + k : Nat)) : Int) = (a : Int) + (k : Int) by omega] at HW
      clear hgd hlen hs
      generalize raw[k] = x at *
      generalize Vlt.rput (List.replicate N 0) a raw k = cur at *
      go_wp2_with fail
      refine HW.out.mono ?_
      rintro e w3 ⟨rfl, hs3⟩
      have HF := hid hs3
      clear hs3
      go_wp2_with fail
      go_roundw
      case rel => exact ⟨k + 1, by omega, by go_num, by rw [HST.out]; exact HF.out⟩
      case measure => simp [intOf]; omega
    · obtain rfl : k = n := by omega
      have hin := rput_in (List.replicate N 0) a raw (by rw [HN.out, List.length_replicate]; omega) k (by rw [HN.out]; exact Nat.le_refl _)
      have hM0l := Vlt.rput_len (List.replicate N 0) a raw k
      rw [List.length_replicate] at hM0l
      have harea : ((Vlt.rput (List.replicate N 0) a raw k).drop a).take k = raw := by
        apply List.ext_getElem?
        intro i
        by_cases hi : i < k
        · rw [List.getElem?_take_of_lt hi, List.getElem?_drop]; exact hin.1 i hi
        · rw [List.getElem?_take_eq_none (by omega), List.getElem?_eq_none (by rw [HN.out]; omega)]
      have hlast : (Vlt.rput (List.replicate N 0) a raw k)[a + k]? = some 0 := by
        rw [hin.2 (a + k) (Or.inr (Nat.le_refl _))]; simp [List.getElem?_replicate]; omega
      have HAR := hid harea
      have HLA := hid hlast
      have HML0 := hid hM0l
      have HOP := hid (cOpen stab0 p 0 (Vlt.rput (List.replicate N 0) a raw k) (by decide) (by rw [hM0l]; omega) hs a k h8 (by rw [hM0l]; omega))
      clear hin harea hlast hM0l hs
      generalize Vlt.rput (List.replicate N 0) a raw k = M0 at *
      go_wp2_with fail
      refine HOP.out.mono ?_
      rintro e w3 ⟨q, rfl, hs3⟩
      have HCN : Hid (∀ j u, (u32s raw)[j]? = some u → (w3.alloc (.cells #[] 48)).cell? ((⟨b1, o1, none⟩ : Addr).add j) = some u) := by
        refine hid (fun j u hj => ?_)
        have hbel := hs3.below.alloc hs3.below.size (.cells #[] 48)
        have hlt : j < raw.length := by
          rcases Nat.lt_or_ge j (u32s raw).length with h | h
          · rw [u32s_len] at h; exact h
          · rw [List.getElem?_eq_none h] at hj; cases hj
        obtain ⟨hba, hca⟩ := HX1.out j _ (List.getElem?_eq_getElem hlt)
        rw [plain_add, hbel.cell hba, hca]
        simp only [u32s, List.getElem?_map, List.getElem?_eq_getElem hlt] at hj
        simpa using hj
      have hst3 : ∀ B ∈ [vaultP q p a (k / 2), wordP p 0 M0], Stable B := stabC (blkP_stable _ _) (stab1 (wordP_stable _ _ _))
      have hso : Sts w [rowP 48 1 (.slice (some ⟨w3.heap.size, 0, none⟩) 0 0) 0 (u32s []), vaultP q p a (k / 2), wordP p 0 M0] (w3.alloc (.cells #[] 48)) :=
        (hs3.alloc hst3 (.cells #[] 48)).weaken (fun F h => blkP.row h (by simp))
      have HSO0 := hid hso
      have HNU : Hid ((u32s raw).length = k * 1) := hid (by rw [u32s_len, HN.out, Nat.mul_one])
      clear hso hs3 HOP
      go_wp2_with (at_builtin; refine wpList_append_own_at _ rfl (.tmp 74) (.tmp 75) 22 rfl 0 48 i0 (.int .u32 0) 1 4 Try.underlying22 hi0 hz0 hz1 hz2 rfl (by decide) (.slice (some ⟨w3.heap.size, 0, none⟩) 0 0) 0 (u32s []) rfl (Sts.rowOwn HSO0.out) ⟨b1, o1, none⟩ k c1 (u32s raw) rfl HNU.out HCN.out (u32s_one raw) (by unfold maxLen; omega) (by omega) (Nat.zero_le _) ?_; intro v1 w5 hown hgr _ hblk)
      have hso := Sts.grown hst3 HSO0.out hgr hown (by
        intro q' hq
        rcases hblk with h | h
        · exact Or.inl (h ▸ hq)
        · rw [h] at hq; injection hq with hq; exact Or.inr (by omega))
      rw [Nat.zero_add, show u32s [] ++ u32s raw = u32s raw from rfl] at hso
      have HSO : Hid (Sts w [vaultP q p a (k / 2), wordP p 0 M0, rowP 48 1 v1 k (u32s ((M0.drop a).take k))] w5) := hid (by rw [HAR.out]; exact hso.third')
      clear hso hown hgr hblk HSO0 HCN
      obtain ⟨n, rfl⟩ : ∃ n, n = k := ⟨_, rfl⟩
      go_loopw [9, 11, 12] (fun vv rv i wr => PlayAt w p N a n S.length vv rv i wr) (fun _ _ i _ => S.length - (intOf i).toNat)
      case atStart => exact ⟨0, M0, q, by omega, rfl, rfl, HML0.out, HLA.out, HSO.out⟩
      case round =>
        obtain ⟨k, M, q', hk', rfl, rfl, hML, hM0, hs⟩ := hrel
        have HML := hid hML
        have HM0 := hid hM0
        have HS := hid hs
        clear hML hM0 hs HSO HLA HML0 HAR
        by_cases hlt : k < S.length
        · obtain ⟨aS', cS', eS, _, hx⟩ := HACT.out
          injection eS with e1 e2 e3
          subst e1
          clear e2 e3
          obtain ⟨b, off, cs, rfl, hb, hcl, hcells, hE⟩ := hx k hlt
          obtain ⟨hce, hR⟩ := hE
          subst hce
          obtain ⟨ab, cb, eb, _⟩ := hR.open
          have d0 := hcells 0 (by simp)
          have d1 := hcells 1 (by simp)
          have d2 := hcells 2 (by simp)
          simp only [List.getElem_cons_zero, List.getElem_cons_succ, Nat.add_zero] at d0 d1 d2
          rw [eb] at d1 hR
          clear eb hcells hcl hx
          generalize S[k].kind = kind at *
          generalize S[k].cut = cut at *
          generalize S[k].b = bs at *
          have HD0 := hid d0
          have HD1 := hid d1
          have HD2 := hid d2
          have HR := hid hR
          clear hR d0 d1 d2
          by_cases h600 : 600 < bs.length
          · have d6 : decide (600 < (bs.length : Int)) = true := decide_eq_true (by omega)
            have c0 : wr.cell? ⟨b, off + k * 3, none⟩ = some (.int .i64 kind) := by rw [HS.out.below.cell hb]; exact HD0.out
            have c1 : wr.cell? ⟨b, off + k * 3 + 1, none⟩ = some (.slice ab bs.length cb) := by rw [HS.out.below.cell hb]; exact HD1.out
            have c2 : wr.cell? ⟨b, off + k * 3 + 2, none⟩ = some (.int .i64 cut) := by rw [HS.out.below.cell hb]; exact HD2.out
            go_wp2_with fail
            go_ret
            exact ⟨rfl, HS.out.below⟩
          · have d6 : decide (600 < (bs.length : Int)) = false := decide_eq_false (by omega)
            have c0 : wr.cell? ⟨b, off + k * 3, none⟩ = some (.int .i64 kind) := by rw [HS.out.below.cell hb]; exact HD0.out
            have c1 : wr.cell? ⟨b, off + k * 3 + 1, none⟩ = some (.slice ab bs.length cb) := by rw [HS.out.below.cell hb]; exact HD1.out
            have c2 : wr.cell? ⟨b, off + k * 3 + 2, none⟩ = some (.int .i64 cut) := by rw [HS.out.below.cell hb]; exact HD2.out
            have HSH := hid (cShows stab0 q' p a n M u11 h8 (by have := HML.out; omega) (by have := HML.out; omega) HS.out)
            go_wp2_with fail
            refine HSH.out.mono ?_
            rintro e w6 ⟨rfl, hs6⟩
            have HS6 := hid hs6
            clear hs6 HS HSH c0 c1 c2
            have c0 : w6.cell? ⟨b, off + k * 3, none⟩ = some (.int .i64 kind) := by rw [HS6.out.below.cell hb]; exact HD0.out
            have c1 : w6.cell? ⟨b, off + k * 3 + 1, none⟩ = some (.slice ab bs.length cb) := by rw [HS6.out.below.cell hb]; exact HD1.out
            have c2 : w6.cell? ⟨b, off + k * 3 + 2, none⟩ = some (.int .i64 cut) := by rw [HS6.out.below.cell hb]; exact HD2.out
            by_cases hk1 : kind = 1
            · subst hk1
              have HLD := hid (cLoad (stab1 (rowP_stable 48 1 u11 n (u32s ((M.drop a).take n)))) q' p a (n / 2) 0 M (by decide) (by omega) (by have := HML.out; omega) (by have := HML.out; omega) HS6.out)
              have HLD2 := hid (HLD.out.mono (R' := fun e w' => ∃ x z, e = .returned (.tuple #[x, .int .i64 z]) ∧ Sts w [vaultP q' p a (n / 2), wordP p 0 M, rowP 48 1 u11 n (u32s ((M.drop a).take n))] w') (fun e w' ⟨x, he, hs⟩ => ⟨x, _, he, hs.tail⟩))
              clear HLD
              go_wp2_with fail
              refine HLD2.out.mono ?_
              rintro e w7 ⟨x, z, rfl, hs7⟩
              have HX := hid hs7
              clear hs7 HLD2 HS6 c0 c1 c2
              go_wp2_with fail
              have HWD := hid (cLWords (l := [vaultP q' p a (n / 2), rowP 48 1 u11 n (u32s ((M.drop a).take n))]) (stabC (blkP_stable _ _) (stab1 (rowP_stable _ _ _ _ _))) p 0 M (by decide) a n (by have := HML.out; omega) (by have := HML.out; omega) (Sts.swap HX.out))
              have HVM : Hid (∀ x ∈ (M.drop a).take n, x < 4294967296) := hid (by
                obtain ⟨F, hF⟩ := HX.out.tail.head
                exact fun x hx => wordP.val hF x (List.mem_of_mem_drop (List.mem_of_mem_take hx)))
              have HAL : Hid (((M.drop a).take n).length = n) := hid (by rw [List.length_take, List.length_drop]; have := HML.out; omega)
              clear HX
              refine HWD.out.mono ?_
              rintro e w8 ⟨r8, rfl, hs8⟩
              have HSM := hid (cLSame w8 r8 u11 _ _ ⟨Rd.of_own (Sts.rowOwn hs8) (by rw [u32s_len]; exact HAL.out), HVM.out⟩ ⟨Rd.of_own (Sts.rowOwn (hs8.tail.tail.tail)) (by rw [u32s_len]; exact HAL.out), HVM.out⟩ (by have := HAL.out; omega))
              have HS8 := hid hs8
              clear hs8 HWD
              rw [decide_eq_true rfl] at HSM
              go_wp2_with fail
              refine HSM.out.mono ?_
              rintro e w9 ⟨rfl, hb9⟩
              have HS9 := hid ((HS8.out.tail).quiet (stabC (wordP_stable _ _ _) (stabC (blkP_stable _ _) (stab1 (rowP_stable _ _ _ _ _)))) hb9)
              clear hb9 HS8
              go_wp2_with fail
              go_roundw
              case rel => exact ⟨k + 1, M, q', by omega, by go_num, rfl, HML.out, HM0.out, Sts.swap HS9.out⟩
              case measure => simp [intOf]; omega
            · have hk1b : (kind == 1) = false := by simpa using hk1
              by_cases hk2 : kind = 2
              · subst hk2
                have HOP2 := hid (cOpen (l := [vaultP q' p a (n / 2), rowP 48 1 u11 n (u32s ((M.drop a).take n))]) (stabC (blkP_stable _ _) (stab1 (rowP_stable _ _ _ _ _))) p 0 M (by decide) (by have := HML.out; omega) HS6.out.swap a n h8 (by have := HML.out; omega))
                go_wp2_with fail
                refine HOP2.out.mono ?_
                rintro e w7 ⟨q2, rfl, hs7⟩
                have HX : Hid (Sts w [vaultP q2 p a (n / 2), wordP p 0 M, rowP 48 1 u11 n (u32s ((M.drop a).take n))] w7) := hid (hs7.third.tail)
                clear hs7 HOP2 HS6 c0 c1 c2
                go_wp2_with fail
                have HWD := hid (cLWords (l := [vaultP q2 p a (n / 2), rowP 48 1 u11 n (u32s ((M.drop a).take n))]) (stabC (blkP_stable _ _) (stab1 (rowP_stable _ _ _ _ _))) p 0 M (by decide) a n (by have := HML.out; omega) (by have := HML.out; omega) (Sts.swap HX.out))
                have HVM : Hid (∀ x ∈ (M.drop a).take n, x < 4294967296) := hid (by
                  obtain ⟨F, hF⟩ := HX.out.tail.head
                  exact fun x hx => wordP.val hF x (List.mem_of_mem_drop (List.mem_of_mem_take hx)))
                have HAL : Hid (((M.drop a).take n).length = n) := hid (by rw [List.length_take, List.length_drop]; have := HML.out; omega)
                clear HX
                refine HWD.out.mono ?_
                rintro e w8 ⟨r8, rfl, hs8⟩
                have HSM := hid (cLSame w8 r8 u11 _ _ ⟨Rd.of_own (Sts.rowOwn hs8) (by rw [u32s_len]; exact HAL.out), HVM.out⟩ ⟨Rd.of_own (Sts.rowOwn (hs8.tail.tail.tail)) (by rw [u32s_len]; exact HAL.out), HVM.out⟩ (by have := HAL.out; omega))
                have HS8 := hid hs8
                clear hs8 HWD
                rw [decide_eq_true rfl] at HSM
                go_wp2_with fail
                refine HSM.out.mono ?_
                rintro e w9 ⟨rfl, hb9⟩
                have HS9 := hid ((HS8.out.tail).quiet (stabC (wordP_stable _ _ _) (stabC (blkP_stable _ _) (stab1 (rowP_stable _ _ _ _ _)))) hb9)
                clear hb9 HS8
                go_wp2_with fail
                go_roundw
                case rel => exact ⟨k + 1, M, q2, by omega, by go_num, rfl, HML.out, HM0.out, Sts.swap HS9.out⟩
                case measure => simp [intOf]; omega
              · have hk2b : (kind == 2) = false := by simpa using hk2
                have har := Vlt.saveV_area M a n h8 (by have := HML.out; omega) bs cut
                have hal : ((M.drop a).take n).length = n := by rw [List.length_take, List.length_drop]; have := HML.out; omega
                have hvc : ∀ x ∈ (M.drop a).take n, x < 4294967296 := by
                  obtain ⟨F, hF⟩ := HS6.out.tail.head
                  exact fun x hx => wordP.val hF x (List.mem_of_mem_drop (List.mem_of_mem_take hx))
                have hrs := fun y (hy : Sts w [vaultP q' p a (n / 2), wordP p 0 M, rowP 48 1 u11 n (u32s ((M.drop a).take n))] y) => cRSave y u11 (.slice ab bs.length cb) ((M.drop a).take n) bs cut ⟨Rd.of_own (Sts.rowOwn hy.third) (by rw [u32s_len]; exact hal), hvc⟩ (HR.out.below hy.below) (by rw [hal]; exact h8) (by rw [hal]; omega)
                unfold RSaveEnd at hrs
                rw [hal] at hrs
                have hsvl : (Vlt.saveV M a (n / 2) bs cut).2.length = N := by rw [har.2.2.1]; exact HML.out
                have hsv0 : (Vlt.saveV M a (n / 2) bs cut).2[a + n]? = some 0 := by rw [har.2.2.2 _ (Nat.le_refl _)]; exact HM0.out
                have hsave := fun r c2 y (hy : Sts w [vaultP q' p a (n / 2), wordP p 0 M, rowP 48 1 r n (u32s c2)] y) => cSave (stab1 (rowP_stable 48 1 r n (u32s c2))) q' p a (n / 2) 0 M (by decide) (by omega) (by have := HML.out; omega) (by have := HML.out; omega) hy (.slice ab bs.length cb) bs (RdsB.arg HR.out) cut
                unfold SaveEnd at hsave
                obtain ⟨e1, e2, _, _⟩ := har
                rw [e1] at hrs
                have hcl2 : (Vlt.saveV ((M.drop a).take n) 0 (n / 2) bs cut).2.length = n := by rw [← e2, List.length_take, List.length_drop]; omega
                generalize Vlt.saveV ((M.drop a).take n) 0 (n / 2) bs cut = sv at *
                generalize Vlt.saveV M a (n / 2) bs cut = sm at *
                obtain ⟨f0, c2'⟩ := sv
                obtain ⟨f, M2⟩ := sm
                simp only [] at hrs hsave e1 e2 hsvl hsv0 hcl2
                have HRS := hid hrs
                have HSV := hid hsave
                have HM2 := hid e2
                have HML2 := hid hsvl
                have HM02 := hid hsv0
                have HCL2 := hid hcl2
                clear hrs hsave e1 e2 hsvl hsv0 hcl2 hal hvc
                go_wp2_with fail
                refine wp_region_ord (.pure 0 (.pure 1 (.pure 2 (.pure 3 (.pure 4 (.pure 5 (.pure 6 (.pure 7 (.pure 8 (.pure 9 (.pure 10 (.eff 11 (.pure 12 (.pure 13 (.pure 14 (.pure 15 (.pure 16 .nil))))))))))))))))) (fun y => Below w.heap.size w y) (fun y => Sts w [vaultP q' p a (n / 2), wordP p 0 M, rowP 48 1 u11 n (u32s ((M.drop a).take n))] y) (by kernel_rfl) (by kernel_rfl) (HS6.out.drew (stabC (blkP_stable _ _) (stabC (wordP_stable _ _ _) (stab1 (rowP_stable _ _ _ _ _))))) (fun _ h => h.below) ?_
                clear c0 c1 c2
                iterate 11
                  (apply ord_pure (ho := rfl)
                   · go_simp
                   · intro yw hx; have c1 : yw.cell? ⟨b, off + k * 3 + 1, none⟩ = some (.slice ab bs.length cb) := (by rw [hx.cell hb]; exact HD1.out); have c2 : yw.cell? ⟨b, off + k * 3 + 2, none⟩ = some (.int .i64 cut) := (by rw [hx.cell hb]; exact HD2.out); go_simp; rfl
                   apply ord_norm
                   · go_simp; rfl)
                apply ord_eff (ho := rfl)
                · go_simp
                intro yw hy
                refine eff_call (f := 32) (by go_simp) (HRS.out yw hy) ?_
                rintro e w7 ⟨r, rfl, hor⟩
                have hs7 : Sts w [vaultP q' p a (n / 2), wordP p 0 M, rowP 48 1 r n (u32s c2')] w7 := by
                  rcases hor with ⟨h1, h2, h3⟩ | h1
                  · rw [h1, h2]; exact hy.quiet (stabC (blkP_stable _ _) (stabC (wordP_stable _ _ _) (stab1 (rowP_stable _ _ _ _ _)))) h3
                  · have h4 := (Sts.tail hy.third).new (stabC (blkP_stable _ _) (stab1 (wordP_stable _ _ _))) h1
                    rw [u32s_len, HCL2.out] at h4
                    exact h4.third'
                refine ⟨_, rfl, (fun y => Below w.heap.size w y), (fun y => Sts w [vaultP q' p a (n / 2), wordP p 0 M, rowP 48 1 r n (u32s c2')] y), hs7, (fun _ h => h.below), (fun _ h => h), ?_⟩
                clear hs7 hor hy
                apply ord_norm
                · go_simp; rfl
                iterate 5
                  (apply ord_pure (ho := rfl)
                   · go_simp
                   · intro x hx; go_simp; rfl
                   apply ord_norm
                   · go_simp; rfl)
                refine ord_nil fun yw hy => ?_
                have HS7 := hid hy
                clear hy HS6
                go_wp2_with fail
                refine wp_region_ord (.pure 0 (.pure 1 (.pure 2 (.pure 3 (.pure 4 (.pure 5 (.pure 6 (.pure 7 (.pure 8 (.pure 9 (.pure 10 (.pure 12 (.eff 11 (.pure 13 .nil)))))))))))))) (fun y => Below w.heap.size w y) (fun y => Sts w [vaultP q' p a (n / 2), wordP p 0 M, rowP 48 1 r n (u32s c2')] y) (by kernel_rfl) (by kernel_rfl) (HS7.out.drew (stabC (blkP_stable _ _) (stabC (wordP_stable _ _ _) (stab1 (rowP_stable _ _ _ _ _))))) (fun _ h => h.below) ?_
                iterate 12
                  (apply ord_pure (ho := rfl)
                   · go_simp
                   · intro yw hx; have c1 : yw.cell? ⟨b, off + k * 3 + 1, none⟩ = some (.slice ab bs.length cb) := (by rw [hx.cell hb]; exact HD1.out); have c2 : yw.cell? ⟨b, off + k * 3 + 2, none⟩ = some (.int .i64 cut) := (by rw [hx.cell hb]; exact HD2.out); go_simp; rfl
                   apply ord_norm
                   · go_simp; rfl)
                apply ord_eff (ho := rfl)
                · go_simp
                intro yw hy
                refine eff_call (f := 33) (by go_simp) (HSV.out r c2' yw hy) ?_
                rintro e w7 ⟨rfl, hs7⟩
                refine ⟨_, rfl, (fun y => Below w.heap.size w y), (fun y => Sts w [vaultP q' p a (n / 2), wordP p 0 M2, rowP 48 1 r n (u32s c2')] y), hs7, (fun _ h => h.below), (fun _ h => h), ?_⟩
                clear hs7 hy
                apply ord_norm
                · go_simp; rfl
                apply ord_pure (ho := rfl)
                · go_simp
                · intro x hx; go_simp; rfl
                apply ord_norm
                · go_simp; rfl
                refine ord_nil fun yw hy => ?_
                have HX : Hid (Sts w [vaultP q' p a (n / 2), wordP p 0 M2, rowP 48 1 r n (u32s ((M2.drop a).take n))] yw) := hid (by rw [HM2.out]; exact hy)
                clear hy HS7 HRS HSV HML HM0
                have HML := HML2
                have HM0 := HM02
                clear HML2 HM02
                go_wp2_with fail
                have HWD := hid (cLWords (l := [vaultP q' p a (n / 2), rowP 48 1 r n (u32s ((M2.drop a).take n))]) (stabC (blkP_stable _ _) (stab1 (rowP_stable _ _ _ _ _))) p 0 M2 (by decide) a n (by have := HML.out; omega) (by have := HML.out; omega) (Sts.swap HX.out))
                have HVM : Hid (∀ x ∈ (M2.drop a).take n, x < 4294967296) := hid (by
                  obtain ⟨F, hF⟩ := HX.out.tail.head
                  exact fun x hx => wordP.val hF x (List.mem_of_mem_drop (List.mem_of_mem_take hx)))
                have HAL : Hid (((M2.drop a).take n).length = n) := hid (by rw [List.length_take, List.length_drop]; have := HML.out; omega)
                clear HX
                refine HWD.out.mono ?_
                rintro e w8 ⟨r8, rfl, hs8⟩
                have HSM := hid (cLSame w8 r8 r _ _ ⟨Rd.of_own (Sts.rowOwn hs8) (by rw [u32s_len]; exact HAL.out), HVM.out⟩ ⟨Rd.of_own (Sts.rowOwn (hs8.tail.tail.tail)) (by rw [u32s_len]; exact HAL.out), HVM.out⟩ (by have := HAL.out; omega))
                have HS8 := hid hs8
                clear hs8 HWD
                rw [decide_eq_true rfl] at HSM
                go_wp2_with fail
                refine HSM.out.mono ?_
                rintro e w9 ⟨rfl, hb9⟩
                have HS9 := hid ((HS8.out.tail).quiet (stabC (wordP_stable _ _ _) (stabC (blkP_stable _ _) (stab1 (rowP_stable _ _ _ _ _)))) hb9)
                clear hb9 HS8
                go_wp2_with fail
                go_roundw
                case rel => exact ⟨k + 1, M2, q', by omega, by go_num, rfl, HML.out, HM0.out, Sts.swap HS9.out⟩
                case measure => simp [intOf]; omega
        · obtain rfl : k = S.length := by omega
          have hend := Sts.callV (l := [vaultP q' p a (n / 2), rowP 48 1 u11 n (u32s ((M.drop a).take n))]) (stabC (blkP_stable _ _) (stab1 (rowP_stable _ _ _ _ _))) HS.out.swap (wRead (p := p) (K := 0) (by decide) (a + n) (by have := HML.out; omega))
          rw [show M.getD (a + n) 0 = 0 by rw [List.getD_eq_getElem?_getD, HM0.out]; rfl, show (((a + n : Nat)) : Int) = (a : Int) + (n : Int) by omega] at hend
          have HEND := hid hend
          clear hend HS
          go_wp2_with fail
          refine HEND.out.mono ?_
          rintro e w6 ⟨rfl, hs6⟩
          have HSH := hid (cShows stab0 q' p a n M u11 h8 (by have := HML.out; omega) (by have := HML.out; omega) hs6.swap)
          clear hs6 HEND
          go_wp2_with fail
          refine HSH.out.mono ?_
          rintro e w7 ⟨rfl, hs7⟩
          have HS7 := hid hs7.below
          clear hs7
          go_wp2_with fail
          go_ret
          exact ⟨rfl, HS7.out⟩
end Go.Proofs.Ytdboplkgnnidcaa
namespace Go.Proofs.Ytdboplkgnnidcaa
open Go.RowKit Go.Proofs.Num Go.ChangeShapes
theorem vplays (w : World) (z : Int) (vr vs : Value) (raw : List Nat) (S : List Vlt.Act1) (hr : RdW w vr raw) (hS : ActsAt w vs S) :
    Calls Try.prog 8 #[.int .i64 z, vr, vs] w fun e w' => e = .returned (.bool true) ∧ Below w.heap.size w w' := by
  by_cases h : z < 0 ∨ 40 < z ∨ raw.length < 8 ∨ 120 < raw.length ∨ 12 < S.length
  · exact vplays_few w z vr vs raw S hr hS h
  · obtain ⟨a, rfl⟩ : ∃ m : Nat, z = m := ⟨z.toNat, by omega⟩
    exact vplays_main w a (by omega) vr vs raw S hr hS (by omega) (by omega) (by omega)
set_option maxRecDepth 100000 in
theorem open_acts {H : Type} {enc : TypeId × Value → H} {w : World} {base : Nat} {spare : Nat → Bool} {held : Bool} {v : Value} {d : DataW H} {ps : List MemPlace}
    {r : Reach} {b0 : Nat} (hval : Value.okWide Try.prog w r b0 53 v) (h : DataW.Trod enc Try.prog w base spare held 53 v d ps) : ∃ S, ActsAt w v S := by
  refine open_slice (E := ActE) (size := 3) Try.underlying53 (by kernel_rfl) (by decide) ?_ hval h
  intro n cs x h hl
  match cs, hl with
  | [u0, u1, u2], _ =>
    obtain ⟨xs, m, _, _, _, hlen, hf⟩ := DataW.trod_struct Try.underlying56 h
    match xs, hlen with
    | [x0, x1, x2], _ =>
      have g0 : DataW.trod enc Try.prog w base spare held m 3 (([u0, u1, u2].drop 0).take (Try.prog.cellsOf 3)) = some x0 := hf 0 _ rfl
      have g1 : DataW.trod enc Try.prog w base spare held m 23 (([u0, u1, u2].drop 1).take (Try.prog.cellsOf 23)) = some x1 := hf 1 _ rfl
      have g2 : DataW.trod enc Try.prog w base spare held m 3 (([u0, u1, u2].drop 2).take (Try.prog.cellsOf 3)) = some x2 := hf 2 _ rfl
      rw [show Try.prog.cellsOf 23 = 1 by kernel_rfl] at g1
      rw [show Try.prog.cellsOf 3 = 1 by kernel_rfl] at g0 g2
      obtain ⟨n0, e0, _, _⟩ := DataW.trod_int Try.underlying3 g0
      obtain ⟨v1, e1, ys1, hy1, hz1⟩ := open_rowC Try.underlying23 Try.underlying5 (by kernel_rfl) g1
      obtain ⟨n2, e2, _, _⟩ := DataW.trod_int Try.underlying3 g2
      obtain ⟨l1, h1, hl1⟩ := nats_of (k := .u8) (fun x hx => wf8 (hz1 x hx))
      rw [h1] at hy1
      simp at e0 e1 e2
      exact ⟨⟨n0, v1, l1, n2⟩, by rw [e0, e1, e2], hy1, hl1⟩
end Go.Proofs.Ytdboplkgnnidcaa
