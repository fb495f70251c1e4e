/- The law MemoryPlays: its walk. -/
import Derived.Test.YtigefaacknlkoaaMemPlay
import Derived.Test.YtigefaacknlkoaaMemLives
set_option linter.unusedVariables false
namespace Go.Proofs.Ytigefaacknlkoaa
open Go.RowKit Go.Proofs.Num
theorem s29 (z : Int) (n : Nat) (hz : clamp z = n) : HSpec Try.prog 29 #[.int .i64 z] emp (fun g : Nat => .agg #[.slice (some ⟨g, 0, none⟩) n n, .int .i64 0]) (fun g => rowP 23 1 (.slice (some ⟨g, 0, none⟩) n n) n (u64s (zeros n))) := by
  intro w F hF
  refine (c29 w z n hz).mono ?_
  rintro e w' ⟨g, he, ho, hb, hg⟩
  refine ⟨g, fun k => k = g, he, ⟨ho, fun k => ?_⟩, Keep.of_below hb, fun k hk => ?_⟩
  · show k = g ↔ some g = some k
    exact ⟨fun h => by rw [h], fun h => by injection h with h; exact h.symm⟩
  · subst hk; exact Or.inr hg
theorem ref_made {w : World} {F : Nat → Prop} {r g n : Nat} (hn : n ≤ 65536)
    (h : star (blkP r (.cells #[.slice (some ⟨g, 0, none⟩) n n, .int .i64 0] 44 (0, 0))) (rowP 23 1 (.slice (some ⟨g, 0, none⟩) n n) n (u64s (zeros n))) w F) : refP r (zeros n) 0 w F := by
  obtain ⟨F1, F2, ⟨hb, hF1⟩, ⟨ho, hF2⟩, hd, hF⟩ := h
  have hF2' : ∀ k, F2 k ↔ k = g := fun k => by
    rw [hF2 k]; show some g = some k ↔ k = g
    exact ⟨fun h => by injection h with h; exact h.symm, fun h => by rw [h]⟩
  refine ⟨g, n, ⟨?_, ?_, ?_, zeros_wds n, by rw [zeros_len]; exact hn⟩, fun k => by rw [hF k, hF1 k, hF2' k]⟩
  · rw [zeros_len]; exact hb
  · rw [zeros_len]; exact ho
  · intro e; exact hd r ((hF1 r).2 rfl) ((hF2' r).2 e.symm)
theorem clamp_in (z : Int) : clamp z ≤ 65536 := by unfold clamp; split <;> (try split) <;> omega
set_option maxRecDepth 100000 in
theorem plays_long (w : World) (z : Int) (a : Option Addr) (len cap : Nat) (h : 100 < len) :
    Calls Try.prog 9 #[.int .i64 z, .slice a len cap] w fun e w' => e = .returned (.bool true) ∧ Below w.heap.size w w' := by
  have h1 : decide ((100 : Int) < len) = true := by simp; omega
  go_enter Try.func9, Try.ntmps9
  go_wp2_with (go_at_call 26; refine (c26 _).mono ?_; rintro e w1 ⟨rfl, hb⟩)
  go_ret
  exact ⟨rfl, hb⟩
set_option maxRecDepth 100000 in
theorem plays_mid (w : World) (z : Int) (a : Option Addr) (len cap : Nat) (h : ¬ 100 < len) (h2 : 200 < z) (h3 : z ≤ 65536) :
    Calls Try.prog 9 #[.int .i64 z, .slice a len cap] w fun e w' => e = .returned (.bool true) ∧ Below w.heap.size w w' := by
  have h1 : decide ((100 : Int) < len) = false := by simp; omega
  go_enter Try.func9, Try.ntmps9
  go_wp2_with (go_at_call 26; refine (c26 _).mono ?_; rintro e w1 ⟨rfl, hb⟩)
  go_ret
  exact ⟨rfl, hb⟩
set_option maxRecDepth 100000 in
theorem plays_great (w : World) (z : Int) (a : Option Addr) (len cap : Nat) (h : ¬ 100 < len) (h2 : 65536 < z) :
    Calls Try.prog 9 #[.int .i64 z, .slice a len cap] w fun e w' => e = .returned (.bool true) ∧ Below w.heap.size w w' := by
  have h1 : decide ((100 : Int) < len) = false := by simp; omega
  obtain ⟨n, hn⟩ : ∃ n : Nat, n = clamp z := ⟨_, rfl⟩
  have K27 := hid (s27 z n hn.symm)
  have hz : ((zeros n).length : Int) = 65536 := by rw [zeros_len, hn]; unfold clamp; rw [if_neg (by omega), if_pos (by omega)]; rfl
  clear hn
  have h0 := Sts.withEmp (Sts.nil w)
  have hz0 : ¬ z < 0 := by omega
  go_enter Try.func9, Try.ntmps9
  go_wp2_with fail
  refine (Sts.call stab0 h0 K27.out).mono ?_; rintro e w1 ⟨p, rfl, h1⟩
  go_wp2_with fail
  refine (Sts.callV stab0 h1 (s28 p 0 (zeros n))).mono ?_; rintro e w2 ⟨rfl, h2⟩
  rw [hz]
  go_wp2_with fail
  refine (c26 w2).mono ?_; rintro e w3 ⟨rfl, h3⟩
  go_wp2_with fail
  go_ret
  exact ⟨rfl, h2.below.trans (h3.mono h2.below.size)⟩
theorem sts_refc1 {W w : World} {A : HProp} {l : List HProp} {r c : Nat} {ws : List Nat} (h : Sts W (A :: refP r ws c :: l) w) : w.cell? ⟨r, 1, none⟩ = some (.int .i64 c) := by
  obtain ⟨F, hF⟩ := h.tail.head
  exact refP_c1 hF
set_option maxHeartbeats 1000000 in
set_option maxRecDepth 100000 in
theorem plays_main (w : World) (z : Int) (v : Value) (S : List Ecc.Step) (hS : StepsAt w v S) (h : ¬ 100 < S.length) (h2 : ¬ 200 < z) :
    Calls Try.prog 9 #[.int .i64 z, v] w fun e w' => e = .returned (.bool true) ∧ Below w.heap.size w w' := by
  obtain ⟨A, cap, rfl, hcells⟩ := hS.open
  have hwf := hS.wf
  have hCells := hid hcells
  clear hS hcells
  have h1 : decide ((100 : Int) < S.length) = false := by simp; omega
  have h3 : ¬ 65536 < z := by omega
  obtain ⟨n, hn⟩ : ∃ n : Nat, n = clamp z := ⟨_, rfl⟩
  have hn2 : n ≤ 200 := by rw [hn]; unfold clamp; split <;> (try split) <;> omega
  have hn3 : n ≤ 65536 := by omega
  have K27 := hid (s27 z n hn.symm)
  have K29 := hid (s29 z n hn.symm)
  have hZ : (z < 0 ∧ ((zeros n).length : Int) = 0) ∨ (0 ≤ z ∧ ((zeros n).length : Int) = z) := by
    rw [zeros_len, hn]; unfold clamp; split
    · left; constructor <;> simp_all
    · right; constructor <;> omega
  clear hn
  have h0 := Sts.withEmp (Sts.nil w)
  rcases hZ with ⟨hz0, hz⟩ | ⟨hz0, hz⟩
  all_goals
    have hzb : ¬ 200 < z := h2
    go_enter Try.func9, Try.ntmps9
    go_wp2_with fail
    refine (Sts.call stab0 h0 K27.out).mono ?_; rintro e w1 ⟨p, rfl, h1⟩
    go_wp2_with fail
    refine (Sts.callV stab0 h1 (s28 p 0 (zeros n))).mono ?_; rintro e w2 ⟨rfl, h2⟩
    rw [hz]
    go_wp2_with fail
    refine (Sts.call (stab1 (memP_stable _ _ _)) (Sts.withEmp h2) K29.out).mono ?_; rintro e w3 ⟨g, rfl, h3⟩
    have H3 := hid h3
    go_wp2_with fail
    go_loopw [7] (fun a wr => ∃ k : Nat, k ≤ S.length ∧ a = .int .i64 k ∧ Sts w [memP p (Ecc.play (zeros n) 0 (S.take k)).1 (Ecc.play (zeros n) 0 (S.take k)).2, refP w3.heap.size (Ecc.play (zeros n) 0 (S.take k)).1 (Ecc.play (zeros n) 0 (S.take k)).2] wr) (fun a _ => S.length - (intOf a).toNat)
    case atStart =>
      have a0 := h3.alloc (st2 (rowP_stable _ _ _ _ _) (memP_stable _ _ _) stab0) (.cells #[.slice (some ⟨g, 0, none⟩) n n, .int .i64 0] 44 (0, 0))
      have a3 := a0.join (C := refP w3.heap.size (zeros n) 0) (fun F hF => ref_made hn3 hF)
      exact ⟨0, by omega, rfl, a3.swap⟩
    case round =>
      obtain ⟨k, hk, rfl, hs⟩ := hrel
      by_cases hlt : k < S.length
      · obtain ⟨b, off, rfl, hb, hc⟩ := hCells.out k hlt
        have hbb := hs.below
        have hsd := hs.drew (st2 (memP_stable _ _ _) (refP_stable _ _ _) stab0)
        have hplay := hid (Ecc.play_take (zeros n) 0 S k hlt)
        have hcnt := Ecc.play_cnt (zeros n) 0 (S.take k)
        have hc9 : (Ecc.play (zeros n) 0 (S.take k)).2 < 100000000000 := by
          rw [zeros_len, List.length_take] at hcnt
          have h5 : min k S.length ≤ 100 := by omega
          have : min k S.length * (n + 1) ≤ 100 * 201 := Nat.mul_le_mul h5 (by omega)
          omega
        obtain ⟨hwk, hwv⟩ := hwf _ (List.getElem_mem hlt)
        have hC : StepCells w b (off + k * 4) S[k] := hc
        clear hc hCells
        generalize Ecc.play (zeros n) 0 (S.take k) = P at *
        obtain ⟨P', hP'⟩ : ∃ P', P' = Ecc.play (zeros n) 0 (S.take (k + 1)) := ⟨_, rfl⟩
        rw [← hP'] at hplay
        have HP := hid hP'
        clear hP'
        generalize S[k] = s at *
        obtain ⟨sk, sa, sn, sv⟩ := s
        obtain ⟨vs, vc⟩ := P
        simp only at hs hsd hcnt hc9 hwk hwv
        have K30 := hid (fun w' h => c30 w w' p w3.heap.size vc vs [] sk sv sa sn hwk hwv hc9 stab0 h)
        have hplay2 := hplay.out
        simp only at hplay2
        rw [← hplay2] at K30
        obtain ⟨ws', vc'⟩ := P'
        have K31 := hid (fun w' (h : Sts w [memP p ws' vc', refP w3.heap.size ws' vc'] w') => Sts.callV (stab1 (refP_stable _ _ _)) h (s31 p vc' ws'))
        have HD := hid hsd
        obtain ⟨d0, d1, d2, d3⟩ := hC.below hb hbb
        have HC := hid hC
        have H0 := hid hs
        simp only at d0 d1 d2 d3 K30
        clear hs hsd hC hcnt hbb h0 h1 h2 h3 H3 K27 K29
        generalize w3.heap.size = r at *
        go_wp2_with fail
        go_region_with
          (first
            | (go_at_call 30; refine (K30.out _ HD.out).mono ?_; rintro e w4 ⟨rfl, h4⟩; have x4 := sts_refc1 h4; obtain ⟨m0, m1, m2, m3⟩ := HC.out.below hb h4.below)
            | (go_at_call 31; refine (K31.out _ h4).mono ?_; rintro e w5 ⟨rfl, h5⟩; have x5 := sts_refc1 h5; obtain ⟨q0, q1, q2, q3⟩ := HC.out.below hb h5.below))
        all_goals
          go_wp2_with fail
          go_roundw
        case rel => exact ⟨k + 1, by omega, by go_num, by rw [← HP.out]; exact h5⟩
        case measure => simp [intOf]; omega
        case rel => exact ⟨k + 1, by omega, by go_num, by rw [← HP.out]; exact h5⟩
        case measure => simp [intOf]; omega
      · clear hCells
        generalize Ecc.play (zeros n) 0 (S.take k) = P at *
        generalize w3.heap.size = r at *
        have hb := hs.below
        go_wp2_with fail
        refine (c26 wr).mono ?_; rintro e w6 ⟨rfl, h6⟩
        go_wp2_with fail
        go_ret
        exact ⟨rfl, hb.trans (h6.mono hb.size)⟩
theorem plays (z : Int) (v : Value) (S : List Ecc.Step) (w : World) (hS : StepsAt w v S) :
    Calls Try.prog 9 #[.int .i64 z, v] w fun e w' => e = .returned (.bool true) ∧ Below w.heap.size w w' := by
  by_cases h : 100 < S.length
  · obtain ⟨A, cap, rfl, _⟩ := hS.open
    exact plays_long w z A _ cap h
  · by_cases h2 : 200 < z
    · obtain ⟨A, cap, rfl, _⟩ := hS.open
      by_cases h3 : 65536 < z
      · exact plays_great w z A _ cap h h3
      · exact plays_mid w z A _ cap h h2 (by omega)
    · exact plays_main w z v S hS h h2
end Go.Proofs.Ytigefaacknlkoaa
