/- The contracts of the program's functions (package memory), the rest. -/
import Derived.Test.YtdboplkgnnidcaaMemFns
import Derived.Test.YtdboplkgnnidcaaQuietTail
import Derived.WalkSpells
set_option linter.unusedVariables false
namespace Go.Proofs.Ytdboplkgnnidcaa
open Go.RowKit Go.Proofs.Num
theorem k14_0 (w : World) : Calls Try.prog 42 #[.int .u32 0] w fun e w' => e = .returned (.int .u64 0) ∧ Below w.heap.size w w' := by
  have h := c14 0 w (by decide); rw [show Ecc.enc 0 = 0 by decide +kernel] at h; exact h
section
variable (w : World) (p fx g cap : Nat) (ws : List Nat)
theorem c34i (i : Nat) (b : Int) (hm : MemO w p ws fx g cap) (hi : i < ws.length) (hb0 : 0 ≤ b) (hb1 : b ≤ 38) :
    Calls Try.prog 26 #[.pointer (some ⟨p, 0, none⟩), .int .i64 i, .int .i64 b] w
      (Left p g cap w (.int .i64 ((Ecc.mflip ws i b).1 : Nat)) (Ecc.mflip ws i b).2 fx) := by
  have hx := hm.wds.get i
  have k23 := hid fun w => c23 _ b w hx
  have hl := Ecc.flp_lt _ b hx
  have h39 : ¬ 39 ≤ b := by omega
  unfold Ecc.mflip
  rw [out_nat ws i hi, show decide (b < 0) = false by simpa using hb0, show decide (38 < b) = false by simpa using hb1]
  simp only [Int.toNat_natCast, Bool.false_eq_true, Bool.or_self, if_false]
  have c1 := hm.c1
  have fg := hm.fg i
  have cg := hm.cg hi
  generalize ws.getD i 0 = y at *
  generalize Ecc.flp y b = x at *
  go_enter Try.func26, Try.ntmps26
  go_wp2_with fail
  refine (c51i w p fx g cap ws i hm hi).mono ?_; rintro e w1 ⟨rfl, rfl⟩
  go_wp2_with fail
  have C1 : ∀ w', w' = w.drew → w'.cell? ⟨p, 1, none⟩ = some (.slice (some ⟨g, 0, none⟩) ws.length cap) := fun w' h => h ▸ c1
  have C2 : ∀ w', w' = w.drew → w'.cell? ⟨g, i, none⟩ = some (.int .u64 (y : Nat)) := fun w' h => h ▸ cg
  refine wp_region_quiet_tail (fun w' => w' = w.drew) 15 (by kernel_rfl) (by kernel_rfl) rfl ?_
  simp only [List.take_succ_cons, List.take_zero, List.drop_succ_cons, List.drop_zero]
  repeat (
    refine quiet_want (by rfl) (fun K hK => ?_)
    first
      | (apply quiet_val
         · intro w' hw'
           have D1 := C1 w' hw'
           have D2 := C2 w' hw'
           go_simp
           rfl)
      | (refine quiet_call (.int .u64 (x : Nat)) 45 #[.int .u64 (y : Nat), .int .i64 b] (fun w' => ?_) (fun w' hw' => ?_) ?_
         · go_simp
         · exact (k23.out w').mono fun e w2 h => ⟨h.1, h.2 ▸ hw'⟩)
    refine hK _ ?_
    clear hK K)
  refine wpQuiet_nil ?_
  rintro w2 rfl
  go_wp2_with fail
  go_ret
  exact ⟨rfl, (hm.setW hl).drew, ((Keep.refl _ _).setCell (fun _ => Or.inr rfl) _).drew⟩
theorem c34o (i b : Int) (hm : MemO w p ws fx g cap) (hi : i < 0 ∨ (ws.length : Int) ≤ i) :
    Calls Try.prog 26 #[.pointer (some ⟨p, 0, none⟩), .int .i64 i, .int .i64 b] w
      (Left p g cap w (.int .i64 ((Ecc.mflip ws i b).1 : Nat)) (Ecc.mflip ws i b).2 fx) := by
  unfold Ecc.mflip
  rw [out_yes ws i hi]
  simp only [Bool.true_or, if_true]
  go_enter Try.func26, Try.ntmps26
  go_wp2_with fail
  refine (c51o w p fx g cap ws i hm hi).mono ?_; rintro e w1 ⟨rfl, rfl⟩
  go_wp2_with fail
  go_ret
  exact ⟨rfl, hm, Keep.refl _ _⟩
theorem c34b (i : Nat) (b : Int) (hm : MemO w p ws fx g cap) (hi : i < ws.length) (hb : b < 0 ∨ 38 < b) :
    Calls Try.prog 26 #[.pointer (some ⟨p, 0, none⟩), .int .i64 i, .int .i64 b] w
      (Left p g cap w (.int .i64 ((Ecc.mflip ws i b).1 : Nat)) (Ecc.mflip ws i b).2 fx) := by
  have e : Ecc.mflip ws i b = (1, ws) := by
    unfold Ecc.mflip; rw [if_pos]; rcases hb with hb | hb <;> simp [hb]
  rw [e]
  by_cases h0 : b < 0
  · clear hb
    go_enter Try.func26, Try.ntmps26
    go_wp2_with fail
    refine (c51i w p fx g cap ws i hm hi).mono ?_; rintro e w1 ⟨rfl, rfl⟩
    go_wp2_with fail
    go_ret
    exact ⟨rfl, hm, Keep.refl _ _⟩
  · have h1 : 39 ≤ b := by omega
    clear hb
    go_enter Try.func26, Try.ntmps26
    go_wp2_with fail
    refine (c51i w p fx g cap ws i hm hi).mono ?_; rintro e w1 ⟨rfl, rfl⟩
    go_wp2_with fail
    go_ret
    exact ⟨rfl, hm, Keep.refl _ _⟩
theorem c34 (i b : Int) (hm : MemO w p ws fx g cap) :
    Calls Try.prog 26 #[.pointer (some ⟨p, 0, none⟩), .int .i64 i, .int .i64 b] w
      (Left p g cap w (.int .i64 ((Ecc.mflip ws i b).1 : Nat)) (Ecc.mflip ws i b).2 fx) := by
  by_cases hi : i < 0 ∨ (ws.length : Int) ≤ i
  · exact c34o w p fx g cap ws i b hm hi
  · obtain ⟨n, rfl⟩ := Int.eq_ofNat_of_zero_le (show 0 ≤ i by omega)
    by_cases hb : b < 0 ∨ 38 < b
    · exact c34b w p fx g cap ws n b hm (by omega) hb
    · exact c34i w p fx g cap ws n b hm (by omega) (by omega) (by omega)
end
section
theorem info23 : (Try.prog.info? 82).map (fun i => (i.zero, i.size, i.bytes)) = some (some (.int .u64 0), 1, 8) := by kernel_rfl
theorem u64s_one (ws : List Nat) : ∀ u ∈ u64s ws, u.oneCell' = true := by
  intro u hu; simp only [u64s, List.mem_map] at hu; obtain ⟨x, _, rfl⟩ := hu; rfl
theorem own_base {w : World} {b c : Nat} {e : TypeId} {s n : Nat} {v : Value} {xs : List Value} (h : w.ownsRow b e s v n xs) (hc : c ≤ b) : w.ownsRow c e s v n xs := by
  obtain ⟨h1, h2⟩ := h
  refine ⟨h1, ?_⟩
  rcases h2 with h2 | ⟨g, cap, cur, hv, hg, r⟩
  · exact Or.inl h2
  · exact Or.inr ⟨g, cap, cur, hv, by omega, r⟩
theorem own_some {w : World} {b : Nat} {e : TypeId} {s n : Nat} {v : Value} {xs : List Value} (h : w.ownsRow b e s v n xs) (hv : v ≠ .slice none 0 0) :
    ∃ g cap, v = .slice (some ⟨g, 0, none⟩) n cap ∧ b ≤ g := by
  rcases h.2 with ⟨h2, _⟩ | ⟨g, cap, cur, hv', hg, r⟩
  · exact absurd h2 hv
  · exact ⟨g, cap, hv', hg⟩
/-- What a copy of a slice of words is: a new row. -/
def Copied (w : World) (ws : List Nat) (e : Ending) (w' : World) : Prop :=
  ∃ g cap, e = .returned (.slice (some ⟨g, 0, none⟩) ws.length cap) ∧ w'.ownsRow 0 82 1 (.slice (some ⟨g, 0, none⟩) ws.length cap) ws.length (u64s ws) ∧ Below w.heap.size w w' ∧ w.heap.size ≤ g
def zeros (n : Nat) : List Nat := List.replicate n 0
theorem zeros_len (n : Nat) : (zeros n).length = n := by simp [zeros]
theorem zeros_set (n i : Nat) : (zeros n).set i 0 = zeros n := by
  simp [zeros]
theorem zeros_get (n k : Nat) : (zeros n).getD k 0 = 0 := by
  unfold zeros; by_cases h : k < n <;> simp [List.getD, h]
theorem zeros_wds (n : Nat) : Ecc.Words (zeros n) := by
  intro x hx; simp [zeros] at hx; omega
theorem rep_u64s (n : Nat) : (madeCells (Value.int IntKind.u64 0).cells (n * 1)).toList = u64s (zeros n) := by
  show (madeCells #[Value.int IntKind.u64 0] (n * 1)).toList = _
  rw [toList_madeCells_one]; simp [u64s, zeros]
theorem own_lt {w : World} {b g cap n : Nat} {e : TypeId} {s : Nat} {xs : List Value} (h : w.ownsRow b e s (.slice (some ⟨g, 0, none⟩) n cap) n xs) : g < w.heap.size := (h.lt g rfl).2
/-- What New's loop keeps. -/
structure NewR (w : World) (p g n : Nat) (wr : World) : Prop where
  m : MemO wr p (zeros n) 0 g n
  b : Below w.heap.size w wr
theorem NewR.drew {w wr : World} {p g n : Nat} (h : NewR w p g n wr) : NewR w p g n wr.drew := ⟨h.m.drew, h.b.drew⟩
theorem NewR.call {w wr w' : World} {p g n : Nat} (h : NewR w p g n wr) (k : Below wr.heap.size wr w') : NewR w p g n w' := ⟨h.m.below k, h.b.trans (k.mono h.b.size)⟩
theorem NewR.c1 {w wr : World} {p g n : Nat} (h : NewR w p g n wr) : wr.cell? ⟨p, 1, none⟩ = some (.slice (some ⟨g, 0, none⟩) n n) := by
  have := h.m.c1; rwa [zeros_len] at this
theorem NewR.set {w wr : World} {p g n i : Nat} (h : NewR w p g n wr) (hg : w.heap.size ≤ g) : NewR w p g n (wr.setCell ⟨g, i, none⟩ (.int .u64 0)) := by
  have h1 := h.m.setW (i := i) (x := 0) (by decide)
  rw [zeros_set] at h1
  exact ⟨h1, h.b.setCell hg _⟩
def clamp (z : Int) : Nat := if z < 0 then 0 else if 65536 < z then 65536 else z.toNat
set_option maxRecDepth 100000 in
theorem c27 (w : World) (z : Int) (n : Nat) (hz : clamp z = n) :
    Calls Try.prog 20 #[.int .i64 z] w fun e w' => ∃ p g, e = .returned (.pointer (some ⟨p, 0, none⟩)) ∧ MemO w' p (zeros n) 0 g n ∧ Below w.heap.size w w' ∧ w.heap.size ≤ p ∧ w.heap.size ≤ g := by
  obtain ⟨i0, hi, hz0, hz1, hz2⟩ := info_parts info23
  have hn : n ≤ 65536 := by rw [← hz]; unfold clamp; split <;> (try split) <;> omega
  have HZ : (z < 0 ∧ n = 0) ∨ (0 ≤ z ∧ z ≤ 65536 ∧ z = n) ∨ (65536 < z ∧ n = 65536) := by
    rw [← hz]; unfold clamp; split <;> (try split) <;> omega
  clear hz
  have fin : ∀ w1 : World, w1.ownsRow 0 82 1 (.slice (some ⟨w.heap.size, 0, none⟩) n n) n (u64s (zeros n)) → w.grownBy w1 none →
      NewR w w1.heap.size w.heap.size n (w1.alloc (.cells #[.bool true, .slice (some ⟨w.heap.size, 0, none⟩) n n, .int .i64 0] 81)) ∧ w.heap.size < w1.heap.size := by
    intro w1 hown hgr
    have hlt := own_lt hown
    refine ⟨⟨⟨?_, ?_, by omega, zeros_wds n, by rw [zeros_len]; exact hn⟩, ?_⟩, hlt⟩
    · rw [zeros_len]; exact heap_new _ _ rfl
    · rw [zeros_len]; exact hown.alloc _
    · exact ((Below.refl _ _).grown hgr (Nat.le_refl _) (by intro k hk; simp at hk)).alloc hgr.size _
  have FIN := hid fin
  clear fin
  rcases HZ with ⟨h, hN⟩ | ⟨h0, h1, hN⟩ | ⟨h, hN⟩
  all_goals
    have HN := hid hN
    clear hN
    go_enter Try.func20, Try.ntmps20
    go_wp2_with (first | (at_make; refine wpList_make_full _ rfl (.tmp 7) (.tmp 7) 79 rfl 0 82 i0 (.int .u64 0) 1 Try.underlying79 hi hz0 hz1 .i64 .i64 _ _ n rfl rfl (by have := HN.out; omega) (by have := HN.out; omega) (by rw [hz2]; omega) (by unfold maxLen; omega) (Nat.zero_le _) ?_; intro w1 hown hgr))
    rw [rep_u64s] at hown
    obtain ⟨hR, hlt⟩ := FIN.out w1 hown hgr
    clear hown hgr
    generalize w1.heap.size = p at *
    generalize hW : w1.alloc _ = W0
    rw [hW] at hR
    clear hW
    go_loopw [16] (fun i wr => ∃ k : Nat, k ≤ n ∧ i = .int .i64 k ∧ NewR w p w.heap.size n wr) (fun i _ => n - (intOf i).toNat)
    case atStart => exact ⟨0, by omega, rfl, hR⟩
    case round =>
      obtain ⟨k, hk, rfl, hr⟩ := hrel
      by_cases hlt2 : k < n
      · have C1 : ∀ w', NewR w p w.heap.size n w' → w'.cell? ⟨p, 1, none⟩ = some (.slice (some ⟨w.heap.size, 0, none⟩) n n) := fun w' h => h.c1
        go_wp2_with fail
        refine wp_region_quiet_tail (NewR w p w.heap.size n) 7 (by kernel_rfl) (by kernel_rfl) hr.drew ?_
        simp only [List.take_succ_cons, List.take_zero, List.drop_succ_cons, List.drop_zero]
        repeat (
          refine quiet_want (by rfl) (fun K hK => ?_)
          first
            | (apply quiet_val
               · intro w' hw'
                 have D1 := C1 w' hw'
                 go_simp
                 rfl)
            | (refine quiet_call (.int .u64 0) 42 #[.int .u32 0] (fun w' => ?_) (fun w' hw' => ?_) ?_
               · go_simp
               · exact (k14_0 w').mono fun e w2 h => ⟨h.1, hw'.call h.2⟩)
          refine hK _ ?_
          clear hK K)
        refine wpQuiet_nil ?_
        intro w2 hw2
        have D2 := hw2.m.cg (i := k) (by rw [zeros_len]; exact hlt2)
        rw [zeros_get] at D2
        have D3 := hw2.m.fg k
        clear C1
        go_wp2_with fail
        go_roundw
        case rel => exact ⟨k + 1, by omega, by go_num, hw2.set (Nat.le_refl _)⟩
        case measure => simp [intOf]; omega
      · go_wp2_with fail
        go_ret
        exact ⟨p, w.heap.size, rfl, hr.m, hr.b, by omega, Nat.le_refl _⟩
end
end Go.Proofs.Ytdboplkgnnidcaa
