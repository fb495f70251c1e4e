/- The contracts of the program's functions (package memory): Scrub, Clone. -/
import Derived.Test.YtigefaacknlkoaaMemFnsB
set_option linter.unusedVariables false
namespace Go.Proofs.Ytigefaacknlkoaa
open Go.RowKit Go.Proofs.Num
section
variable (w : World) (p fx g cap : Nat) (ws : List Nat)
set_option maxRecDepth 100000 in
theorem c35i (i : Nat) (n : Int) (hm : MemO w p ws fx g cap) (hi : i < ws.length) (hf : fx < 100000000000) :
    Calls Try.prog 35 #[.pointer (some ⟨p, 0, none⟩), .int .i64 i, .int .i64 n] w
      (Left p g cap w (.tuple #[.int .i64 ((Ecc.mscrub ws fx i n).1 : Nat), .int .i64 ((Ecc.mscrub ws fx i n).2.1 : Nat)]) (Ecc.mscrub ws fx i n).2.2.1 (Ecc.mscrub ws fx i n).2.2.2) := by
  unfold Ecc.mscrub
  rw [out_nat ws i hi]
  simp only [Int.toNat_natCast, Bool.false_eq_true, if_false]
  have hlen := hm.few
  have HK : (n < 0 ∧ Ecc.rounds ws n ≤ 0) ∨ (0 ≤ n ∧ n ≤ ws.length ∧ (Ecc.rounds ws n : Int) ≤ n ∧ n ≤ Ecc.rounds ws n) ∨ ((ws.length : Int) < n ∧ Ecc.rounds ws n ≤ ws.length ∧ ws.length ≤ Ecc.rounds ws n) := by
    unfold Ecc.rounds; omega
  have hKl : Ecc.rounds ws n ≤ ws.length := by unfold Ecc.rounds; omega
  generalize Ecc.rounds ws n = K at *
  have c1 := hm.c1
  rcases HK with ⟨h0, hK0⟩ | ⟨h0, h1, h2, h3⟩ | ⟨h0, h1, h2⟩
  all_goals
    go_enter Try.func35, Try.ntmps35
    go_wp2_with fail
    refine (c51i w p fx g cap ws i hm hi).mono ?_; rintro e w1 ⟨rfl, rfl⟩
    go_wp2_with fail
    go_loopw [8, 9, 23] (fun a b c wr => ∃ k : Nat, k ≤ K ∧ c = .int .i64 k ∧ a = .int .i64 ((Ecc.scr ws fx i k).1 : Nat) ∧ b = .int .i64 ((Ecc.scr ws fx i k).2.1 : Nat) ∧
        MemO wr p (Ecc.scr ws fx i k).2.2.1 (Ecc.scr ws fx i k).2.2.2 g cap ∧ Keep (ft p g) w wr) (fun _ _ c _ => K - (intOf c).toNat)
    case atStart => exact ⟨0, by omega, rfl, rfl, rfl, hm, Keep.refl _ _⟩
    case round =>
      obtain ⟨k, hk, rfl, rfl, rfl, hmr, hkr⟩ := hrel
      have hl := Ecc.scr_len ws fx i k
      have hcnt := Ecc.scr_cnt ws fx i k
      have hsucc := hid (Ecc.scr_succ ws fx i k)
      by_cases hlt : k < K
      · have hjl : (i + k) % ws.length < ws.length := Nat.mod_lt _ (by omega)
        have e1 : ((i : Int) + k).tmod ws.length = ((i + k) % ws.length : Nat) := by rw [Int.tmod_eq_emod_of_nonneg (by omega)]; simp
        have e2 : ((i : Int) + k) % ws.length = ((i + k) % ws.length : Nat) := by simp
        have hc1 := hmr.c1
        rw [hl] at hc1
        have k52 := hid (c52 wr p _ g cap _ ((i + k) % ws.length) hmr (by rw [hl]; exact hjl) (by omega))
        generalize (i + k) % ws.length = j at *
        generalize Ecc.scr ws fx i k = S at *
        obtain ⟨s1, s2, vs, sx⟩ := S
        simp only at hl hcnt hmr hc1 k52 hsucc ⊢
        generalize Ecc.rpr vs sx j = r at *
        obtain ⟨r1, r2, r3⟩ := r
        simp only at k52 hsucc
        clear hl
        first
        | (exfalso; omega)
        | (by_cases hr1 : r1 = 1
           · subst hr1
             simp only [if_true, if_neg (show ¬ 1 = 2 by decide)] at hsucc
             go_wp2_with fail
             refine k52.out.mono ?_; rintro e w2 ⟨rfl, hm2, hk2⟩
             go_wp2_with fail
             go_roundw
             case rel => exact ⟨k + 1, by omega, by go_num, val_int (by rw [hsucc.out]; simp), val_int (by rw [hsucc.out]), by rw [hsucc.out]; exact hm2, hkr.trans_same hk2⟩
             case measure => simp [intOf]; omega
           · have hb1 : ((r1 : Int) == 1) = false := by simp; omega
             by_cases hr2 : r1 = 2
             · subst hr2
               simp only [if_true, if_neg (show ¬ 2 = 1 by decide)] at hsucc
               go_wp2_with fail
               refine k52.out.mono ?_; rintro e w2 ⟨rfl, hm2, hk2⟩
               go_wp2_with fail
               go_roundw
               case rel => exact ⟨k + 1, by omega, by go_num, val_int (by rw [hsucc.out]), val_int (by rw [hsucc.out]; simp), by rw [hsucc.out]; exact hm2, hkr.trans_same hk2⟩
               case measure => simp [intOf]; omega
             · have hb2 : ((r1 : Int) == 2) = false := by simp; omega
               simp only [if_neg hr1, if_neg hr2] at hsucc
               go_wp2_with fail
               refine k52.out.mono ?_; rintro e w2 ⟨rfl, hm2, hk2⟩
               go_wp2_with fail
               go_roundw
               case rel => exact ⟨k + 1, by omega, by go_num, val_int (by rw [hsucc.out]), val_int (by rw [hsucc.out]), by rw [hsucc.out]; exact hm2, hkr.trans_same hk2⟩
               case measure => simp [intOf]; omega)
      · go_wp2_with fail
        go_ret2
        obtain rfl : k = K := by omega
        exact ⟨rfl, hmr, hkr⟩
theorem c35o (i n : Int) (hm : MemO w p ws fx g cap) (hi : i < 0 ∨ (ws.length : Int) ≤ i) :
    Calls Try.prog 35 #[.pointer (some ⟨p, 0, none⟩), .int .i64 i, .int .i64 n] w
      (Left p g cap w (.tuple #[.int .i64 ((Ecc.mscrub ws fx i n).1 : Nat), .int .i64 ((Ecc.mscrub ws fx i n).2.1 : Nat)]) (Ecc.mscrub ws fx i n).2.2.1 (Ecc.mscrub ws fx i n).2.2.2) := by
  unfold Ecc.mscrub
  rw [out_yes ws i hi, if_pos rfl]
  go_enter Try.func35, Try.ntmps35
  go_wp2_with fail
  refine (c51o w p fx g cap ws i hm hi).mono ?_; rintro e w1 ⟨rfl, rfl⟩
  go_wp2_with fail
  go_ret2
  exact ⟨rfl, hm, Keep.refl _ _⟩
theorem c35 (i n : Int) (hm : MemO w p ws fx g cap) (hf : fx < 100000000000) :
    Calls Try.prog 35 #[.pointer (some ⟨p, 0, none⟩), .int .i64 i, .int .i64 n] w
      (Left p g cap w (.tuple #[.int .i64 ((Ecc.mscrub ws fx i n).1 : Nat), .int .i64 ((Ecc.mscrub ws fx i n).2.1 : Nat)]) (Ecc.mscrub ws fx i n).2.2.1 (Ecc.mscrub ws fx i n).2.2.2) := by
  by_cases hi : i < 0 ∨ (ws.length : Int) ≤ i
  · exact c35o w p fx g cap ws i n hm hi
  · obtain ⟨m, rfl⟩ := Int.eq_ofNat_of_zero_le (show 0 ≤ i by omega)
    exact c35i w p fx g cap ws m n hm (by omega) hf
/-- Clone: another memory, in new blocks. -/
def Cloned (w : World) (ws : List Nat) (fx : Nat) (e : Ending) (w' : World) : Prop :=
  ∃ p' g' cap', e = .returned (.pointer (some ⟨p', 0, none⟩)) ∧ MemO w' p' ws fx g' cap' ∧ Below w.heap.size w w' ∧ w.heap.size ≤ p' ∧ w.heap.size ≤ g'
theorem c36 (hm : MemO w p ws fx g cap) : Calls Try.prog 36 #[.pointer (some ⟨p, 0, none⟩)] w (Cloned w ws fx) := by
  have c0 := hm.c0
  have c1 := hm.c1
  have c2 := hm.c2
  have hp := hm.lt
  go_enter Try.func36, Try.ntmps36
  go_wp2_with fail
  refine (c46y _ _ (by assumption)).mono ?_; rintro e w1 ⟨rfl, rfl⟩
  go_wp2_with fail
  refine (c53 _ ws g cap hm.few (hm.own.alloc _)).mono ?_; rintro e w1 ⟨g', cap', rfl, hown, hb, hg'⟩
  have hblk := (hb.block w.heap.size (by simp)).trans (heap_new w (.cells #[.bool true, .slice (some ⟨g, 0, none⟩) ws.length cap, .int .i64 fx] 65) rfl)
  have d1 := cell_blk (j := 1) hblk rfl
  have f1 := free_blk (j := 1) hblk
  have hg2 : w.heap.size + 1 ≤ g' := by simpa using hg'
  go_wp2_with fail
  go_ret
  refine ⟨w.heap.size, g', cap', rfl, ⟨?_, ?_, by omega, hm.wds, hm.few⟩, ?_, Nat.le_refl _, by omega⟩
  · exact set_blk hblk
  · exact ((Keep.refl (fun k => k = w.heap.size) w1).setCell (p := ⟨w.heap.size, 1, none⟩) (fun _ => rfl) _).ownsRow hown (by intro k hk; have h : some g' = some k := hk; injection h with h; omega)
  · exact (((Below.refl _ _).alloc (Nat.le_refl _) _).trans (hb.mono (by simp))).setCell (Nat.le_refl _) _
end
end Go.Proofs.Ytigefaacknlkoaa
