/- A new archive; how many packets an archive holds. -/
import Derived.Test.YtnklmadmenkdoaaGreatQStdN
set_option linter.unusedVariables false
set_option linter.unusedSimpArgs false
namespace Go.Proofs.Num
theorem stars_mem : ∀ {l : List HProp} {w : World} {F : Nat → Prop} {B : HProp}, stars l w F → B ∈ l → ∃ G, B w G
  | A :: l, w, F, B, ⟨F1, F2, a, r, _⟩, h => by
    rcases List.mem_cons.1 h with rfl | h
    · exact ⟨F1, a⟩
    · exact stars_mem r h
end Go.Proofs.Num
namespace Arc
/-- How many packets there are. -/
def cnt (m : Arch) : Nat := (m.map fun p => p.2.length).sum
end Arc
namespace Go.Proofs.YtnklmadmenkdoaaGreat
open Go.RowKit Go.Proofs.Num
section
variable {W w : World} {l : List HProp}
set_option maxRecDepth 100000 in
theorem cArcNewP (hl : ∀ B ∈ l, Stable B) (hs : Sts W l w) : Calls Tryz.prog 34 #[] w fun e w' => ∃ q, e = .returned (.pointer (some ⟨q, 0, none⟩)) ∧ Sts W (arcP q [] :: l) w' := by
  have H := hid (Sts.alloc hl hs (.cells #[.bool true, .slice none 0 0] 185))
  clear hs hl
  go_enter Tryz.func34, Tryz.ntmps34
  go_wp2
  go_ret
  exact ⟨_, rfl, Sts.closeA (M := []) ((Sts.rowNilS 188 2 H.out).swap)⟩
theorem own_slice' {e : TypeId} {s n : Nat} {v : Value} {xs : List Value} (h : w.ownsRow 0 e s v n xs) : ∃ a c, v = .slice a n c := by
  rcases h.2 with ⟨h1, h2⟩ | ⟨g, c, cur, h1, _⟩
  · exact ⟨none, 0, by rw [h1, h2]⟩
  · exact ⟨_, c, h1⟩
theorem pcl_get : ∀ (M : List PrcV) (k : Nat) (hk : k < M.length), (M.flatMap pcl)[k * 2]? = some (.int .i64 (M[k].1 : Int)) ∧ (M.flatMap pcl)[k * 2 + 1]? = some M[k].2.1
  | p :: M, 0, _ => ⟨rfl, rfl⟩
  | p :: M, k + 1, hk => by
    have h := pcl_get M k (by simpa using hk)
    have e : ∀ i, ((p :: M).flatMap pcl)[i + 2]? = (M.flatMap pcl)[i]? := fun i => by
      rw [List.flatMap_cons, List.getElem?_append_right (by rw [pcl_len]; omega), pcl_len]; congr 1
    rw [show (k + 1) * 2 = k * 2 + 2 by omega, show k * 2 + 2 + 1 = k * 2 + 1 + 2 by omega, e, e]
    exact h
set_option maxRecDepth 100000 in
theorem szPrcV : ∀ w, (Go.sizeOf 188).run Tryz.prog w = .ok 2 w := fun w => by first | rfl | simp [go_sem] | kernel_rfl
set_option maxRecDepth 100000 in
set_option maxHeartbeats 4000000 in
theorem cArcLen (hl : ∀ B ∈ l, Stable B) (q : Nat) (v : Value) (M : List PrcV) (hM : M.length < 1000) (hE : ∀ p ∈ M, p.2.2.length < 1000) (hs : Sts W (arcL q v M l) w) :
    Calls Tryz.prog 30 #[.pointer (some ⟨q, 0, none⟩)] w fun e w' => e = .returned (.int .i64 ((Arc.cnt (absA M) : Nat) : Int)) ∧ Sts W (arcL q v M l) w' := by
  have KV := hid (cArcValid q v hs)
  have HL := hid (arcL_stable q v M hl)
  have HV := hid (show ∀ (y : World), Sts W (arcL q v M l) y → ∀ k (hk : k < M.length), ∃ g c a ec, v = .slice (some ⟨g, 0, none⟩) M.length c ∧ y.cell? ⟨g, k * 2, none⟩ = some (.int .i64 (M[k].1 : Int)) ∧ y.cell? ⟨g, k * 2 + 1, none⟩ = some (.slice a M[k].2.2.length ec) from fun y hy k hk => by
    have hr := Sts.rowOwnS' hy.tail
    rcases hr.2 with ⟨_, h0⟩ | ⟨g, c, cur, hv, _⟩
    · omega
    obtain ⟨F, hF⟩ := hy.tail.tail
    obtain ⟨G, hG⟩ := stars_mem (B := rowP 192 5 M[k].2.1 M[k].2.2.length (M[k].2.2.flatMap ecl)) hF.1 (List.mem_append_left _ (List.mem_flatMap.2 ⟨M[k], List.getElem_mem hk, List.mem_cons_self ..⟩))
    obtain ⟨a, ec, e⟩ : ∃ a ec, M[k].2.1 = .slice a M[k].2.2.length ec := by
      rcases hG.1.2 with ⟨h1, h2⟩ | ⟨g2, c2, cur2, h1, _⟩
      · exact ⟨none, 0, by rw [h1, h2]⟩
      · exact ⟨_, c2, h1⟩
    have hg := pcl_get M k hk
    subst hv
    refine ⟨g, c, a, ec, rfl, rowCellC hy.tail (k * 2) _ hg.1, ?_⟩
    rw [← e]
    exact rowCellC hy.tail (k * 2 + 1) _ hg.2)
  obtain ⟨va, vc, rfl⟩ := own_slice' (Sts.rowOwnS' hs.tail)
  have c1 : w.cell? ⟨q, 1, none⟩ = some (.slice va M.length vc) := (Sts.boxCell hs 1 _ rfl).1
  obtain ⟨N, hN⟩ : ∃ N, N = M.length := ⟨_, rfl⟩
  obtain ⟨C, hC⟩ : ∃ C : Nat → Nat, C = fun k => Arc.cnt ((absA M).take k) := ⟨_, rfl⟩
  have hC0 : C 0 = 0 := by rw [hC]; rfl
  have hCN : Arc.cnt (absA M) = C M.length := by rw [hC]; simp only; rw [List.take_of_length_le (by simp [absA])]
  have HCS := hid (show ∀ k (hk : k < M.length), C (k + 1) = C k + M[k].2.2.length from fun k hk => by
    rw [hC]
    simp only [Arc.cnt]
    rw [List.take_succ_eq_append_getElem (by simpa [absA] using hk), List.map_append, List.sum_append]
    simp [absA])
  have HCB := hid (show ∀ k, k ≤ M.length → C k ≤ k * 1000 from fun k => by
    induction k with
    | zero => intro _; rw [hC0]; exact Nat.le_refl _
    | succ k ih =>
      intro hk
      have h1 := ih (by omega)
      have h2 := HCS.out k (by omega)
      have h3 := hE M[k] (List.getElem_mem (by omega))
      omega)
  rw [hCN]
  have HS := hid hs
  have HC0 := hid hC0
  have HM := hid hM
  clear hs hC hCN hC0 hM hE hl
  rw [← hN] at c1
  have HN := hid hN
  clear hN
  go_enter Tryz.func30, Tryz.ntmps30
  go_wp2_with (go_at_call 91; refine KV.out.mono ?_; rintro e w1 ⟨rfl, rfl⟩)
  go_loopw [3, 5, 14] (fun s _ i wr => ∃ k : Nat, k ≤ N ∧ i = .int .i64 (k : Int) ∧ s = .int .i64 ((C k : Nat) : Int) ∧ Sts W (arcL q (.slice va M.length vc) M l) wr) (fun _ _ i _ => N - (intOf i).toNat)
  case atStart => exact ⟨0, Nat.zero_le _, rfl, by rw [HC0.out]; rfl, HS.out⟩
  case round =>
    clear HS c1 KV
    obtain ⟨k, hk, rfl, rfl, hs⟩ := hrel
    by_cases hlt : k < N
    · have dk : decide ((k : Int) < (N : Int)) = true := decide_eq_true (by omega)
      have hkM : k < M.length := by rw [← HN.out]; exact hlt
      obtain ⟨g, c, a, ec, ev, q0, q1⟩ := HV.out wr hs k hkM
      injection ev with ev1 _ ev3
      subst ev1
      subst ev3
      obtain ⟨n, hn⟩ : ∃ n, n = M[k].2.2.length := ⟨_, rfl⟩
      obtain ⟨A, hA⟩ : ∃ A : Int, A = (M[k].1 : Int) := ⟨_, rfl⟩
      rw [← hn] at q1
      rw [← hA] at q0
      obtain ⟨S, hS⟩ : ∃ S : Nat, S = C k := ⟨_, rfl⟩
      rw [← hS]
      have HSN : Hid (C (k + 1) = S + n) := hid (by rw [HCS.out k hkM, hS, hn])
      have hb := HCB.out (k + 1) (by omega)
      have HB := hid hb
      have HE8 : Hid (wrap64 ((k : Int) + 1) = ((k + 1 : Nat) : Int)) := hid (by have := HM.out; unfold wrap64; omega)
      have HE9 : Hid (wrap64 ((S : Int) + (n : Int)) = ((C (k + 1) : Nat) : Int)) := hid (by have := HM.out; have := HSN.out; unfold wrap64; omega)
      have HA := hid (Sts.alloc HL.out hs (.cells #[.int .i64 0, .slice none 0 0] 188))
      have p0 : (0 : Int) ≤ (k : Int) := Int.natCast_nonneg _
      have p1 : (k : Int) < (N : Int) := by omega
      have HK : Hid (k + 1 ≤ N) := hid hlt
      clear hs hk hlt hkM hn hA hS hb
      go_wp2_with (first
        | (refine wpList_aggS HA.out HL.out rfl (.tmp 5) (.tmp 17) 188 rfl #[.int .i64 A, .slice a n ec] rfl rfl szPrcV rfl rfl ?_; intro w5 h5; have r1 : w5.cell? ⟨wr.heap.size, 1, none⟩ = some (.slice a n ec) := (Sts.boxCell h5 1 _ rfl).1; have H5 := hid h5; clear h5))
      go_roundw
      case rel => exact ⟨k + 1, HK.out, congrArg (Value.int .i64) HE8.out, congrArg (Value.int .i64) HE9.out, H5.out.tail⟩
      case measure =>
        rw [HE8.out]
        have := HK.out
        simp [intOf]
        omega
    · obtain rfl : k = N := by omega
      have dk : decide ((k : Int) < (k : Int)) = false := decide_eq_false (by omega)
      have HS := hid hs
      clear hs hk hlt
      go_wp2_with fail
      go_ret
      exact ⟨by rw [← HN.out]; rfl, HS.out⟩
end
end Go.Proofs.YtnklmadmenkdoaaGreat
