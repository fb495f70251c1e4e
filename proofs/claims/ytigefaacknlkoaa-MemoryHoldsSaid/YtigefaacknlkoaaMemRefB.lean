/- The contracts of the specification's memory: Scrub, New. -/
import Derived.Test.YtigefaacknlkoaaMemRef
set_option linter.unusedVariables false
namespace Ecc
theorem mread_in (ws : List Nat) (c j : Nat) (h : j < ws.length) :
    (mread ws c (j : Int)).2.1 = (if (rpr ws c j).1 = 2 then 13 else 0) ∧ (mread ws c (j : Int)).2.2 = (rpr ws c j).2 := by
  have ho : out ws (j : Int) = false := by simp [out]; omega
  unfold mread
  rw [ho]
  simp only [Int.toNat_natCast, Bool.false_eq_true, if_false]
  split
  · rename_i h2; exact ⟨rfl, (rpr_bad ws c j h2).symm⟩
  · exact ⟨rfl, rfl⟩
end Ecc
namespace Go.Proofs.Ytigefaacknlkoaa
open Go.RowKit Go.Proofs.Num
section
variable (w : World) (r c g cap : Nat) (ws : List Nat)
/-- What Scrub's loop keeps of the specification's memory. -/
def Scrubbing (r g : Nat) (w : World) (vs : List Nat) (sx : Nat) (wr : World) : Prop :=
  ∃ g' cap', RefO wr r vs sx g' cap' ∧ Keep (fun k => k = r) w wr ∧ (g' = g ∨ w.heap.size ≤ g')
set_option maxRecDepth 100000 in
theorem c49i (i : Nat) (n : Int) (hm : RefO w r ws c g cap) (hi : i < ws.length) (hf : c < 100000000000) :
    Calls Try.prog 49 #[.pointer (some ⟨r, 0, none⟩), .int .i64 i, .int .i64 n] w
      (LeftR r g w (.tuple #[.int .i64 ((Ecc.mscrub ws c i n).1 : Nat), .int .i64 ((Ecc.mscrub ws c i n).2.1 : Nat)]) (Ecc.mscrub ws c i n).2.2.1 (Ecc.mscrub ws c i n).2.2.2) := by
  unfold Ecc.mscrub
  rw [out_nat ws i hi]
  simp only [Int.toNat_natCast, Bool.false_eq_true, if_false]
  have hlen := hm.few
  have HK : (n < 0 ∧ Ecc.rounds ws n ≤ 0) ∨ (0 ≤ n ∧ n ≤ ws.length ∧ (Ecc.rounds ws n : Int) ≤ n ∧ n ≤ Ecc.rounds ws n) ∨ ((ws.length : Int) < n ∧ Ecc.rounds ws n ≤ ws.length ∧ ws.length ≤ Ecc.rounds ws n) := by
    unfold Ecc.rounds; omega
  have hKl : Ecc.rounds ws n ≤ ws.length := by unfold Ecc.rounds; omega
  generalize Ecc.rounds ws n = K at *
  have c1 := hm.c1
  go_enter Try.func49, Try.ntmps49
  go_wp2_with fail
  refine (c54y w r c g cap ws i hm hi).mono ?_; rintro e w1 ⟨rfl, rfl⟩
  go_wp2_with fail
  go_region
  go_wp2_with fail
  go_loopw [8, 10] (fun b i' wr => ∃ k : Nat, k ≤ K ∧ i' = .int .i64 k ∧ b = .int .i64 ((Ecc.scr ws c i k).2.1 : Nat) ∧ Scrubbing r g w (Ecc.scr ws c i k).2.2.1 (Ecc.scr ws c i k).2.2.2 wr) (fun _ i' _ => K - (intOf i').toNat)
  case atStart => exact ⟨0, by omega, rfl, rfl, g, cap, hm.drew, (Keep.refl _ _).drew, Or.inl rfl⟩
  case round =>
    obtain ⟨k, hk, rfl, rfl, g1, cap1, hmr, hkr, hg1⟩ := hrel
    have hl := Ecc.scr_len ws c i k
    have hcnt := Ecc.scr_cnt ws c i k
    have hsucc := hid (Ecc.scr_succ ws c i k)
    have hc0 := hmr.c0
    rw [hl] at hc0
    by_cases hlt : k < K
    · have t1 : (k : Int) < n := by omega
      have t2 : k < ws.length := by omega
      have hjl : (i + k) % ws.length < ws.length := Nat.mod_lt _ (by omega)
      have e1 : ((i : Int) + k).tmod ws.length = ((i + k) % ws.length : Nat) := by rw [Int.tmod_eq_emod_of_nonneg (by omega)]; simp
      have e2 : ((i : Int) + k) % ws.length = ((i + k) % ws.length : Nat) := by simp
      generalize (i + k) % ws.length = j at *
      generalize Ecc.scr ws c i k = S at *
      obtain ⟨s1, s2, vs, sx⟩ := S
      simp only at hl hcnt hmr hc0 hsucc ⊢
      have k50 := c50 wr r sx g1 cap1 vs j hmr (by omega)
      have hin := Ecc.mread_in vs sx j (by rw [hl]; exact hjl)
      rw [hin.1, hin.2] at k50
      clear hin
      generalize (Ecc.mread vs sx (j : Int)).1 = d at *
      generalize Ecc.rpr vs sx j = q at *
      obtain ⟨r1, r2, r3⟩ := q
      simp only at k50 hsucc
      clear HK hl
      by_cases hr2 : r1 = 2
      · subst hr2
        simp only [if_true, if_neg (show ¬ 2 = 1 by decide)] at hsucc k50
        have k50 := hid k50
        go_wp2_with fail
        refine k50.out.mono ?_; rintro e w2 ⟨rfl, g2, cap2, hm2, hk2, hg2⟩
        go_wp2_with fail
        go_roundw
        case rel => exact ⟨k + 1, by omega, by go_num, val_int (by rw [hsucc.out]; simp), g2, cap2, by rw [hsucc.out]; exact hm2, hkr.trans_same hk2, by have := hkr.size; omega⟩
        case measure => simp [intOf]; omega
      · simp only [if_neg hr2] at hsucc k50
        have k50 := hid k50
        go_wp2_with fail
        refine k50.out.mono ?_; rintro e w2 ⟨rfl, g2, cap2, hm2, hk2, hg2⟩
        go_wp2_with fail
        go_roundw
        case rel => exact ⟨k + 1, by omega, by go_num, val_int (by rw [hsucc.out]), g2, cap2, by rw [hsucc.out]; exact hm2, hkr.trans_same hk2, by have := hkr.size; omega⟩
        case measure => simp [intOf]; omega
    · obtain rfl : k = K := by omega
      have hc1 := hmr.c1
      have hfin : wrap64 (((Ecc.scr ws c i k).2.2.2 : Nat) - (c : Int)) = ((Ecc.scr ws c i k).1 : Nat) := by rw [hcnt.1]; unfold wrap64; omega
      have hfin2 : (((Ecc.scr ws c i k).2.2.2 : Nat) - (c : Int)) = ((Ecc.scr ws c i k).1 : Nat) := by rw [hcnt.1]; omega
      have hs1 : (Ecc.scr ws c i k).1 ≤ k := by omega
      clear hsucc hl hcnt
      generalize Ecc.scr ws c i k = S at *
      obtain ⟨s1, s2, vs, sx⟩ := S
      simp only at hmr hc1 hfin hfin2 hs1 ⊢
      by_cases t1 : (k : Int) < n
      · have t2 : ws.length ≤ k := by omega
        have t3 : decide ((k : Int) < ws.length) = false := by simp; omega
        clear HK
        go_wp2_with fail
        go_ret2
        exact ⟨rfl, g1, cap1, hmr, hkr, hg1⟩
      · have t3 : decide ((k : Int) < n) = false := by simp; omega
        clear HK
        go_wp2_with fail
        go_ret2
        exact ⟨rfl, g1, cap1, hmr, hkr, hg1⟩
theorem c49o (i n : Int) (hm : RefO w r ws c g cap) (hi : i < 0 ∨ (ws.length : Int) ≤ i) :
    Calls Try.prog 49 #[.pointer (some ⟨r, 0, none⟩), .int .i64 i, .int .i64 n] w
      (LeftR r g w (.tuple #[.int .i64 ((Ecc.mscrub ws c i n).1 : Nat), .int .i64 ((Ecc.mscrub ws c i n).2.1 : Nat)]) (Ecc.mscrub ws c i n).2.2.1 (Ecc.mscrub ws c i n).2.2.2) := by
  unfold Ecc.mscrub
  rw [out_yes ws i hi, if_pos rfl]
  go_enter Try.func49, Try.ntmps49
  go_wp2_with fail
  refine (c54n w r c g cap ws i hm hi).mono ?_; rintro e w1 ⟨rfl, rfl⟩
  go_wp2_with fail
  go_ret2
  exact ⟨rfl, g, cap, hm, Keep.refl _ _, Or.inl rfl⟩
theorem c49 (i n : Int) (hm : RefO w r ws c g cap) (hf : c < 100000000000) :
    Calls Try.prog 49 #[.pointer (some ⟨r, 0, none⟩), .int .i64 i, .int .i64 n] w
      (LeftR r g w (.tuple #[.int .i64 ((Ecc.mscrub ws c i n).1 : Nat), .int .i64 ((Ecc.mscrub ws c i n).2.1 : Nat)]) (Ecc.mscrub ws c i n).2.2.1 (Ecc.mscrub ws c i n).2.2.2) := by
  by_cases hi : i < 0 ∨ (ws.length : Int) ≤ i
  · exact c49o w r c g cap ws i n hm hi
  · obtain ⟨m, rfl⟩ := Int.eq_ofNat_of_zero_le (show 0 ≤ i by omega)
    exact c49i w r c g cap ws m n hm (by omega) hf
end
/-- What the specification's New hands back. -/
def MadeR (w : World) (n : Nat) (e : Ending) (w' : World) : Prop :=
  ∃ g, e = .returned (.agg #[.slice (some ⟨g, 0, none⟩) n n, .int .i64 0]) ∧ w'.ownsRow 0 23 1 (.slice (some ⟨g, 0, none⟩) n n) n (u64s (zeros n)) ∧ Below w.heap.size w w' ∧ w.heap.size ≤ g
set_option maxRecDepth 100000 in
theorem c29 (w : World) (z : Int) (n : Nat) (hz : clamp z = n) : Calls Try.prog 29 #[.int .i64 z] w (MadeR w n) := by
  obtain ⟨i0, hi, hz0, hz1, hz2⟩ := info_parts info23
  have hn : n ≤ 65536 := by rw [← hz]; unfold clamp; split <;> (try split) <;> omega
  have HZ : (z < 0 ∧ n = 0) ∨ (0 ≤ z ∧ z ≤ 65536 ∧ z = n) ∨ (65536 < z ∧ n = 65536) := by
    rw [← hz]; unfold clamp; split <;> (try split) <;> omega
  clear hz
  rcases HZ with ⟨h, hN⟩ | ⟨h0, h1, hN⟩ | ⟨h, hN⟩
  all_goals
    have HN := hid hN
    clear hN
    go_enter Try.func29, Try.ntmps29
    go_wp2_with (first | (at_make; refine wpList_make_full _ rfl (.tmp 5) (.tmp 5) 42 rfl 0 23 i0 (.int .u64 0) 1 Try.underlying42 hi hz0 hz1 .i64 .i64 _ _ n rfl rfl (by have := HN.out; omega) (by have := HN.out; omega) (by rw [hz2]; omega) (by unfold maxLen; omega) (Nat.zero_le _) ?_; intro w1 hown hgr; have hblk := (hgr.block w.heap.size (by simp) (by simp)).trans (heap_new w (.cells #[.slice none 0 0, .int .i64 0] 44) rfl); have d0 := cell_blk (j := 0) hblk rfl; have d1 := cell_blk (j := 1) hblk rfl; have f0 := free_blk (j := 0) hblk; have f1 := free_blk (j := 1) hblk; rw [rep_u64s] at hown; have hsz := hgr.size))
    have hblk : w1.heap[w.heap.size]? = some (.cells #[.slice none 0 0, .int .i64 0] 44 (0, 0)) := by assumption
    have hown' : w1.ownsRow 0 23 1 (.slice (some ⟨w.heap.size + 1, 0, none⟩) n n) n (u64s (zeros n)) := by simpa using hown
    refine bodyPost_ret (v := .agg #[.slice (some ⟨w.heap.size + 1, 0, none⟩) n n, .int .i64 0]) ?_ rfl ⟨w.heap.size + 1, rfl, ?_, ?_, by omega⟩
    · simp [results, Try.results29, go_sem, d0, d1]
    · have k : Keep (fun k => k = w.heap.size) w1 _ := ((Keep.refl (fun k => k = w.heap.size) w1).setCell (p := ⟨w.heap.size, 0, none⟩) (fun _ => rfl) (.slice (some ⟨w.heap.size + 1, 0, none⟩) n n)).setCell (p := ⟨w.heap.size, 1, none⟩) (fun _ => rfl) (.int .i64 0)
      exact k.ownsRow hown' (by intro k hk; have h : some (w.heap.size + 1) = some k := hk; injection h with h; omega)
    · exact ((((Below.refl _ _).alloc (Nat.le_refl _) _).grown hgr (by simp) (by intro k hk; simp at hk)).setCell (Nat.le_refl _) _).setCell (Nat.le_refl _) _
end Go.Proofs.Ytigefaacknlkoaa
