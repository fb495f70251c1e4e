/- The contract of masks. -/
import Derived.Test.YtdboplkgnnidcaaEccProg
import Derived.Test.YtdboplkgnnidcaaMem
set_option linter.unusedVariables false
namespace Ecc
/-- The positions below p whose k-th bit is one. -/
def msk (k : Nat) : Nat → Nat
  | 0 => 0
  | p + 1 => if p.testBit k then msk k p ||| 2 ^ p else msk k p
theorem msk_lt (k p : Nat) : msk k p < 2 ^ p := by
  induction p with
  | zero => simp [msk]
  | succ p ih =>
    have h : msk k p < 2 ^ (p + 1) := by rw [Nat.pow_succ]; omega
    simp only [msk]; split
    · exact Nat.or_lt_two_pow h (Nat.pow_lt_pow_right (by decide) (by omega))
    · exact h
end Ecc
namespace Go.Proofs.Ytdboplkgnnidcaa
open Go.RowKit Go.Proofs.Num
def mv (p k : Nat) (j : Nat) : Value := .int .u64 (Ecc.msk j (if j < k then p + 1 else p) : Nat)
theorem mv_val (p k : Nat) : mv p k k = .int .u64 (Ecc.msk k p : Nat) := by simp [mv]
theorem mv_yes (p k : Nat) (h : p.testBit k = true) (v : Value) (hv : v = .int .u64 (Ecc.msk k (p + 1) : Nat)) (j : Nat) (_ : j < 6) : (if j = k then v else mv p k j) = mv p (k + 1) j := by
  by_cases e : j = k
  · subst e; simp [mv, hv]
  · simp only [e, if_false, mv]; congr 3; by_cases hj : j < k
    · simp [hj, show j < k + 1 by omega]
    · simp [hj, show ¬ j < k + 1 by omega]
theorem mv_no (p k : Nat) (h : p.testBit k = false) (j : Nat) (_ : j < 6) : mv p k j = mv p (k + 1) j := by
  simp only [mv]
  by_cases e : j = k
  · subst e; simp [Ecc.msk, h]
  · by_cases hj : j < k
    · simp [hj, show j < k + 1 by omega]
    · simp [hj, show ¬ j < k + 1 by omega]
theorem mv_end (p : Nat) (j : Nat) (hj : j < 6) : mv p 6 j = mv (p + 1) 0 j := by simp [mv, hj]
/-- What the loops of masks keep. -/
structure MR (w wr : World) (p k : Nat) : Prop where
  below : Below w.heap.size w wr
  size : wr.heap.size = w.heap.size + 2
  m : Arr wr (w.heap.size + 1) 6 (mv p k)
  r : Arr wr w.heap.size 6 (fun _ => .int .u64 0)
theorem bit_test (p k : Nat) (hp : p < 39) : (bits .and .i64 ((p : Int) / 2 ^ k) 1 == 1) = p.testBit k := by
  have e : (p : Int) / 2 ^ k = ((p / 2 ^ k : Nat) : Int) := by simp
  have hl : p / 2 ^ k ≤ 64 := by have := Nat.div_le_self p (2 ^ k); omega
  rw [e, and1 _ hl, ← Ecc.bit_int]; simp
theorem mask_step (p k : Nat) (hp : p < 39) (h : p.testBit k = true) : Value.int .u64 (bits .or .u64 ((Ecc.msk k p : Nat) : Int) (IntKind.u64.wrap (2 ^ p))) = Value.int .u64 (Ecc.msk k (p + 1) : Nat) := by
  have h1 : Ecc.msk k p < 2 ^ 39 := Nat.lt_of_lt_of_le (Ecc.msk_lt k p) (Nat.pow_le_pow_right (by decide) (by omega))
  have h2 : 2 ^ p < 2 ^ 39 := Nat.pow_lt_pow_right (by decide) hp
  rw [u64pow p (by omega), u64_or_nat _ _ (by omega) (by omega)]
  simp [Ecc.msk, h]
set_option maxRecDepth 100000 in
theorem c42 (w : World) :
    Calls Try.prog 74 #[] w fun e w' => e = .returned (.agg #[.int .u64 (Ecc.msk 0 39 : Nat), .int .u64 (Ecc.msk 1 39 : Nat), .int .u64 (Ecc.msk 2 39 : Nat), .int .u64 (Ecc.msk 3 39 : Nat), .int .u64 (Ecc.msk 4 39 : Nat), .int .u64 (Ecc.msk 5 39 : Nat)]) ∧ Below w.heap.size w w' := by
  go_enter Try.func74, Try.ntmps74
  go_wp2
  go_loopw [2] (fun i wr => ∃ p : Nat, 1 ≤ p ∧ p ≤ 39 ∧ i = .int .i64 p ∧ MR w wr p 0) (fun i _ => 39 - (intOf i).toNat)
  case atStart =>
    refine ⟨1, by omega, by omega, rfl, ?_, ?_, ?_, ?_⟩
    · exact ((Below.refl _ _).alloc (Nat.le_refl _) _).alloc (by simp) _
    · simp
    · refine Arr.of_block (t := 111) (c := #[Value.int IntKind.u64 0, Value.int IntKind.u64 0, Value.int IntKind.u64 0, Value.int IntKind.u64 0, Value.int IntKind.u64 0, Value.int IntKind.u64 0]) (heap_new _ _ (by simp)) ?_
      intro j hj
      match j, hj with
      | 0, _ | 1, _ | 2, _ | 3, _ | 4, _ | 5, _ => simp [mv, Ecc.msk]
    · refine Arr.of_block (t := 111) (c := #[Value.int IntKind.u64 0, Value.int IntKind.u64 0, Value.int IntKind.u64 0, Value.int IntKind.u64 0, Value.int IntKind.u64 0, Value.int IntKind.u64 0]) ((heap_old _ _ (by simp)).trans (heap_new _ _ rfl)) ?_
      intro j hj
      match j, hj with
      | 0, _ | 1, _ | 2, _ | 3, _ | 4, _ | 5, _ => rfl
  case round =>
    obtain ⟨p, hp1, hp, rfl, hm⟩ := hrel
    by_cases hlt : p < 39
    · go_wp2
      obtain ⟨wo, rfl⟩ : ∃ wo : World, wo = wr := ⟨_, rfl⟩
      go_loopw [8] (fun i wr => ∃ k : Nat, k ≤ 6 ∧ i = .int .i64 k ∧ MR w wr p k) (fun i _ => 6 - (intOf i).toNat)
      case atStart => exact ⟨0, by omega, rfl, hm⟩
      case round =>
        obtain ⟨k, hk, rfl, hm⟩ := hrel
        by_cases hkl : k < 6
        · have ht := bit_test p k hlt
          cases hb : p.testBit k
          · rw [hb] at ht
            go_wp2
            go_roundw
            case rel => exact ⟨k + 1, by omega, by go_num, hm.below, hm.size, hm.m.congr (mv_no p k hb), hm.r⟩
            case measure => simp [intOf]; omega
          · rw [hb] at ht
            have hc := hm.m.cell hkl
            have hf := hm.m.free hkl
            rw [mv_val] at hc
            go_wp2
            go_region
            all_goals
              go_wp2
              go_roundw
              case rel =>
                refine ⟨k + 1, by omega, by go_num, ?_, ?_, ?_, ?_⟩
                · exact (hm.below.setCell (by simp) _).drew
                · exact (size_set _ _ _).trans hm.size
                · exact ((hm.m.set hkl _).drew).congr (fun j hj => mv_yes p k hb _ (by rw [mask_step p k hlt hb]) j hj)
                · exact (hm.r.other (by simp) _).drew
              case measure => simp [intOf]; omega
        · obtain rfl : k = 6 := by omega
          go_wp2
          go_roundw
          case rel => exact ⟨p + 1, by omega, by omega, by go_num, hm.below, hm.size, hm.m.congr (mv_end p), hm.r⟩
          case measure => simp [intOf]; omega
    · obtain rfl : p = 39 := by omega
      have hs := hm.size
      have m0 : wr.cell? ⟨w.heap.size + 1, 0, none⟩ = some (.int .u64 (Ecc.msk 0 39 : Nat)) := hm.m.cell (j := 0) (by omega)
      have m1 : wr.cell? ⟨w.heap.size + 1, 1, none⟩ = some (.int .u64 (Ecc.msk 1 39 : Nat)) := hm.m.cell (j := 1) (by omega)
      have m2 : wr.cell? ⟨w.heap.size + 1, 2, none⟩ = some (.int .u64 (Ecc.msk 2 39 : Nat)) := hm.m.cell (j := 2) (by omega)
      have m3 : wr.cell? ⟨w.heap.size + 1, 3, none⟩ = some (.int .u64 (Ecc.msk 3 39 : Nat)) := hm.m.cell (j := 3) (by omega)
      have m4 : wr.cell? ⟨w.heap.size + 1, 4, none⟩ = some (.int .u64 (Ecc.msk 4 39 : Nat)) := hm.m.cell (j := 4) (by omega)
      have m5 : wr.cell? ⟨w.heap.size + 1, 5, none⟩ = some (.int .u64 (Ecc.msk 5 39 : Nat)) := hm.m.cell (j := 5) (by omega)
      have r0 := hm.r.cell (j := 0) (by omega)
      have r1 := hm.r.cell (j := 1) (by omega)
      have r2 := hm.r.cell (j := 2) (by omega)
      have r3 := hm.r.cell (j := 3) (by omega)
      have r4 := hm.r.cell (j := 4) (by omega)
      have r5 := hm.r.cell (j := 5) (by omega)
      have f0 := hm.r.free (j := 0) (by omega)
      have f1 := hm.r.free (j := 1) (by omega)
      have f2 := hm.r.free (j := 2) (by omega)
      have f3 := hm.r.free (j := 3) (by omega)
      have f4 := hm.r.free (j := 4) (by omega)
      have f5 := hm.r.free (j := 5) (by omega)
      have hb := hm.below
      clear hm hp1 hp hlt
      go_wp2
      refine bodyPost_ret (v := .agg #[.int .u64 (Ecc.msk 0 39 : Nat), .int .u64 (Ecc.msk 1 39 : Nat), .int .u64 (Ecc.msk 2 39 : Nat), .int .u64 (Ecc.msk 3 39 : Nat), .int .u64 (Ecc.msk 4 39 : Nat), .int .u64 (Ecc.msk 5 39 : Nat)]) ?_ rfl ⟨rfl, ?_⟩
      · simp [results, Try.results74, go_sem, r0, r1, r2, r3, r4, r5]
      · exact (((((hb.setCell (by simp) _).setCell (by simp) _).setCell (by simp) _).setCell (by simp) _).setCell (by simp) _).setCell (by simp) _
end Go.Proofs.Ytdboplkgnnidcaa
