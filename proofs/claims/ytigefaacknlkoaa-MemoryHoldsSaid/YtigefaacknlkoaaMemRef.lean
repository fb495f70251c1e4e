/- The contracts of the specification's memory. -/
import Derived.Test.YtigefaacknlkoaaMemFnsB
set_option linter.unusedVariables false
namespace Go.Proofs.Ytigefaacknlkoaa
open Go.RowKit Go.Proofs.Num
/-- Block r is a memory of the specification with the words ws, which lie in block g, and c repairs. -/
structure RefO (w : World) (r : Nat) (ws : List Nat) (c g cap : Nat) : Prop where
  blk : w.heap[r]? = some (.cells #[.slice (some ⟨g, 0, none⟩) ws.length cap, .int .i64 c] 44 (0, 0))
  own : w.ownsRow 0 23 1 (.slice (some ⟨g, 0, none⟩) ws.length cap) ws.length (u64s ws)
  ne : g ≠ r
  wds : Ecc.Words ws
  few : ws.length ≤ 65536
section
variable {w w' : World} {r c g cap : Nat} {ws : List Nat}
theorem RefO.c0 (h : RefO w r ws c g cap) : w.cell? ⟨r, 0, none⟩ = some (.slice (some ⟨g, 0, none⟩) ws.length cap) := cell_blk h.blk rfl
theorem RefO.c1 (h : RefO w r ws c g cap) : w.cell? ⟨r, 1, none⟩ = some (.int .i64 c) := cell_blk h.blk rfl
theorem RefO.f (h : RefO w r ws c g cap) (j : Nat) : w.frozen? ⟨r, j, none⟩ = false := free_blk h.blk
theorem RefO.cg (h : RefO w r ws c g cap) {i : Nat} (hi : i < ws.length) : w.cell? ⟨g, i, none⟩ = some (.int .u64 (ws.getD i 0 : Nat)) := by
  rw [h.own.cellAt i (by omega), u64s_get ws i hi]
theorem RefO.keep {S : Nat → Prop} (h : RefO w r ws c g cap) (k : Keep S w w') (hp : ¬ S r) (hg : ¬ S g) : RefO w' r ws c g cap :=
  ⟨k.heap h.blk hp, k.ownsRow h.own (by intro i hi; simp [Value.ownBlock] at hi; subst hi; exact hg), h.ne, h.wds, h.few⟩
theorem RefO.below (h : RefO w r ws c g cap) (k : Below w.heap.size w w') : RefO w' r ws c g cap := h.keep (S := fun _ => False) (Keep.of_below k) (fun h => h) (fun h => h)
theorem RefO.drew (h : RefO w r ws c g cap) : RefO w.drew r ws c g cap := ⟨h.blk, h.own, h.ne, h.wds, h.few⟩
theorem RefO.setC (h : RefO w r ws c g cap) (n : Nat) : RefO (w.setCell ⟨r, 1, none⟩ (.int .i64 (n : Nat))) r ws n g cap := by
  refine ⟨set_blk h.blk, ?_, h.ne, h.wds, h.few⟩
  exact ((Keep.refl (fun k => k = r) w).setCell (p := ⟨r, 1, none⟩) (fun _ => rfl) _).ownsRow h.own (by intro i hi; simp [Value.ownBlock] at hi; subst hi; exact h.ne)
theorem RefO.lt (h : RefO w r ws c g cap) : r < w.heap.size := lt_of_heap h.blk
theorem RefO.ltg (h : RefO w r ws c g cap) : g < w.heap.size := own_lt h.own
end
/-- What a call leaves of the specification's memory: its row of words is the old one, or a new one. -/
def LeftR (r g : Nat) (w : World) (v : Value) (ws : List Nat) (c : Nat) (e : Ending) (w' : World) : Prop :=
  e = .returned v ∧ ∃ g' cap', RefO w' r ws c g' cap' ∧ Keep (fun k => k = r) w w' ∧ (g' = g ∨ w.heap.size ≤ g')
section
variable (w : World) (r c g cap : Nat) (ws : List Nat)
theorem c54y (i : Nat) (hm : RefO w r ws c g cap) (hi : i < ws.length) : Calls Try.prog 54 #[.pointer (some ⟨r, 0, none⟩), .int .i64 i] w fun e w' => e = .returned (.bool true) ∧ w = w' := by
  have c0 := hm.c0
  go_enter Try.func54, Try.ntmps54
  go_wp2
  go_ret
  exact ⟨rfl, rfl⟩
theorem c54n (i : Int) (hm : RefO w r ws c g cap) (hi : i < 0 ∨ (ws.length : Int) ≤ i) : Calls Try.prog 54 #[.pointer (some ⟨r, 0, none⟩), .int .i64 i] w fun e w' => e = .returned (.bool false) ∧ w = w' := by
  have c0 := hm.c0
  by_cases h0 : i < 0
  · have h0b : decide (0 ≤ i) = false := by simp; omega
    clear hi
    go_enter Try.func54, Try.ntmps54
    go_wp2
    go_ret
    exact ⟨rfl, rfl⟩
  · have h1 : (ws.length : Int) ≤ i := by omega
    have h2 : 0 ≤ i := by omega
    clear hi
    go_enter Try.func54, Try.ntmps54
    go_wp2
    go_ret
    exact ⟨ret_bool (by simpa using h1), rfl⟩
theorem c55 (i x : Nat) (hm : RefO w r ws c g cap) (hi : i < ws.length) (hx : x < 18446744073709551616) :
    Calls Try.prog 55 #[.pointer (some ⟨r, 0, none⟩), .int .i64 i, .int .u64 x] w (LeftR r g w (.tuple #[]) (ws.set i x) c) := by
  have c0 := hm.c0
  obtain ⟨i0, hi0, hz0, hz1, hz2⟩ := info_parts info23
  have hlen := hm.few
  have hr := hm.lt
  have hown : (w.alloc (.cells #[] 23)).ownsRow w.heap.size 23 1 (.slice (some ⟨w.heap.size, 0, none⟩) 0 0) 0 [] :=
    World.ownsRow_lit w #[] 0 (Nat.le_refl _) (by unfold maxLen; omega) rfl
  have HN := hid ((hm.own.alloc (.cells #[] 23)).cells rfl)
  go_enter Try.func55, Try.ntmps55
  go_wp2_with (at_builtin; refine wpList_append_own _ rfl (.tmp 7) (.tmp 11) 42 rfl w.heap.size 23 i0 (.int .u64 0) 1 8 Try.underlying42 hi0 hz0 hz1 hz2 rfl (by decide) (.slice (some ⟨w.heap.size, 0, none⟩) 0 0) 0 [] rfl hown ⟨g, 0, none⟩ ws.length cap (u64s ws) rfl (by simp [u64s]) HN.out (u64s_one ws) (by unfold maxLen; omega) (by omega) (by simp) ?_; intro v' w1 hown1 hgr1 hiff; simp only [Nat.zero_add, List.nil_append] at hown1; obtain ⟨g', cap', rfl, hg'⟩ := own_some hown1 (by intro e; have h := (hiff.1 e).1; injection h with h1; cases h1); have hb : Below w.heap.size w w1 := ((Below.refl _ _).alloc (Nat.le_refl _) _).grown hgr1 (by simp) (by intro k hk; have h : some w.heap.size = some k := hk; injection h with h; omega); have d0 := hown1.cellAt i (by omega); rw [u64s_get ws i hi] at d0; have d1 := hown1.frozenAt i; have hblk := (hb.block r hr).trans hm.blk; have d2 := cell_blk (j := 0) hblk rfl; have d3 := free_blk (j := 0) hblk; generalize ws.getD i 0 = y at d0; clear hiff hgr1)
  go_end0
  have hb : Below w.heap.size w w1 := by assumption
  have hown1 : w1.ownsRow w.heap.size 23 1 (.slice (some ⟨g', 0, none⟩) ws.length cap') ws.length (u64s ws) := by assumption
  have hblk : w1.heap[r]? = some (.cells #[.slice (some ⟨g, 0, none⟩) ws.length cap, .int .i64 c] 44 (0, 0)) := by assumption
  have hg' : w.heap.size ≤ g' := by assumption
  have hst := (own_base hown1 (Nat.zero_le _)).stored i (.int .u64 (x : Nat))
  rw [u64s_set] at hst
  refine ⟨rfl, g', cap', ⟨?_, ?_, by omega, hm.wds.set i x hx, by simpa using hlen⟩, ?_, Or.inr hg'⟩
  · have h2 : (w1.setCell ⟨g', i, none⟩ (.int .u64 (x : Nat))).heap[r]? = some (.cells #[.slice (some ⟨g, 0, none⟩) ws.length cap, .int .i64 c] 44 (0, 0)) := by
      rw [Below.heap_setCell _ _ _ _ (by simp; omega)]; exact hblk
    have h3 := set_blk (j := 0) (v := .slice (some ⟨g', 0, none⟩) ws.length cap') h2
    simpa using h3
  · have := ((Keep.refl (fun k => k = r) _).setCell (p := ⟨r, 0, none⟩) (fun _ => rfl) (.slice (some ⟨g', 0, none⟩) ws.length cap')).ownsRow hst.1 (by intro k hk; have h : some g' = some k := hk; injection h with h; omega)
    simpa using this
  · exact ((Keep.of_below (S := fun k => k = r) hb).setCell (p := ⟨g', i, none⟩) (by intro h; simp at h; omega) _).setCell (p := ⟨r, 0, none⟩) (fun _ => rfl) _
theorem c47i (i v : Nat) (hm : RefO w r ws c g cap) (hi : i < ws.length) (hv : v < 4294967296) :
    Calls Try.prog 47 #[.pointer (some ⟨r, 0, none⟩), .int .i64 i, .int .u32 v] w (LeftR r g w (.int .i64 ((Ecc.mwrite ws i v).1 : Nat)) (Ecc.mwrite ws i v).2 c) := by
  have hl : Ecc.enc v < 18446744073709551616 := Nat.lt_trans (Ecc.enc_lt v) (by decide)
  have k17 := hid fun w => c17 v w
  unfold Ecc.mwrite
  rw [out_nat ws i hi]
  simp only [Int.toNat_natCast, Bool.false_eq_true, if_false]
  generalize Ecc.enc v = x at *
  have k55 := hid (c55 w r c g cap ws i x hm hi hl)
  go_enter Try.func47, Try.ntmps47
  go_wp2_with fail
  refine (c54y w r c g cap ws i hm hi).mono ?_; rintro e w1 ⟨rfl, rfl⟩
  go_wp2_with fail
  refine (k17.out _).mono ?_; rintro e w1 ⟨rfl, rfl⟩
  go_wp2_with fail
  refine k55.out.mono ?_; rintro e w1 ⟨rfl, hR⟩
  go_wp2_with fail
  go_ret
  exact ⟨rfl, hR⟩
theorem c47o (i : Int) (v : Nat) (hm : RefO w r ws c g cap) (hi : i < 0 ∨ (ws.length : Int) ≤ i) :
    Calls Try.prog 47 #[.pointer (some ⟨r, 0, none⟩), .int .i64 i, .int .u32 v] w (LeftR r g w (.int .i64 ((Ecc.mwrite ws i v).1 : Nat)) (Ecc.mwrite ws i v).2 c) := by
  unfold Ecc.mwrite
  rw [out_yes ws i hi, if_pos rfl]
  go_enter Try.func47, Try.ntmps47
  go_wp2_with fail
  refine (c54n w r c g cap ws i hm hi).mono ?_; rintro e w1 ⟨rfl, rfl⟩
  go_wp2_with fail
  go_ret
  exact ⟨rfl, g, cap, hm, Keep.refl _ _, Or.inl rfl⟩
theorem c47 (i : Int) (v : Nat) (hm : RefO w r ws c g cap) (hv : v < 4294967296) :
    Calls Try.prog 47 #[.pointer (some ⟨r, 0, none⟩), .int .i64 i, .int .u32 v] w (LeftR r g w (.int .i64 ((Ecc.mwrite ws i v).1 : Nat)) (Ecc.mwrite ws i v).2 c) := by
  by_cases hi : i < 0 ∨ (ws.length : Int) ≤ i
  · exact c47o w r c g cap ws i v hm hi
  · obtain ⟨n, rfl⟩ := Int.eq_ofNat_of_zero_le (show 0 ≤ i by omega)
    exact c47i w r c g cap ws n v hm (by omega) hv
theorem c48i (i : Nat) (b : Int) (hm : RefO w r ws c g cap) (hi : i < ws.length) (hb0 : 0 ≤ b) (hb1 : b ≤ 38) :
    Calls Try.prog 48 #[.pointer (some ⟨r, 0, none⟩), .int .i64 i, .int .i64 b] w (LeftR r g w (.int .i64 ((Ecc.mflip ws i b).1 : Nat)) (Ecc.mflip ws i b).2 c) := by
  have hx := hm.wds.get i
  have k24 := hid fun w => c24 _ b w hx
  have hl := Ecc.flp_lt _ b hx
  unfold Ecc.mflip
  rw [out_nat ws i hi, show decide (b < 0) = false by simpa using hb0, show decide (38 < b) = false by simpa using hb1]
  simp only [Int.toNat_natCast, Bool.false_eq_true, Bool.or_self, if_false]
  have c0 := hm.c0
  have cg := hm.cg hi
  generalize ws.getD i 0 = y at *
  generalize Ecc.flp y b = x at *
  have k55 := hid (c55 w r c g cap ws i x hm hi hl)
  go_enter Try.func48, Try.ntmps48
  go_wp2_with fail
  refine (c54y w r c g cap ws i hm hi).mono ?_; rintro e w1 ⟨rfl, rfl⟩
  go_wp2_with fail
  refine (k24.out _).mono ?_; rintro e w1 ⟨rfl, rfl⟩
  go_wp2_with fail
  refine k55.out.mono ?_; rintro e w1 ⟨rfl, hR⟩
  go_wp2_with fail
  go_ret
  exact ⟨rfl, hR⟩
theorem c48o (i b : Int) (hm : RefO w r ws c g cap) (hi : i < 0 ∨ (ws.length : Int) ≤ i) :
    Calls Try.prog 48 #[.pointer (some ⟨r, 0, none⟩), .int .i64 i, .int .i64 b] w (LeftR r g w (.int .i64 ((Ecc.mflip ws i b).1 : Nat)) (Ecc.mflip ws i b).2 c) := by
  unfold Ecc.mflip
  rw [out_yes ws i hi]
  simp only [Bool.true_or, if_true]
  go_enter Try.func48, Try.ntmps48
  go_wp2_with fail
  refine (c54n w r c g cap ws i hm hi).mono ?_; rintro e w1 ⟨rfl, rfl⟩
  go_wp2_with fail
  go_ret
  exact ⟨rfl, g, cap, hm, Keep.refl _ _, Or.inl rfl⟩
theorem c48b (i : Nat) (b : Int) (hm : RefO w r ws c g cap) (hi : i < ws.length) (hb : b < 0 ∨ 38 < b) :
    Calls Try.prog 48 #[.pointer (some ⟨r, 0, none⟩), .int .i64 i, .int .i64 b] w (LeftR r g w (.int .i64 ((Ecc.mflip ws i b).1 : Nat)) (Ecc.mflip ws i b).2 c) := by
  have e : Ecc.mflip ws i b = (1, ws) := by
    unfold Ecc.mflip; rw [if_pos]; rcases hb with hb | hb <;> simp [hb]
  rw [e]
  by_cases h0 : b < 0
  · clear hb
    go_enter Try.func48, Try.ntmps48
    go_wp2_with fail
    refine (c54y w r c g cap ws i hm hi).mono ?_; rintro e w1 ⟨rfl, rfl⟩
    go_wp2_with fail
    go_ret
    exact ⟨rfl, g, cap, hm, Keep.refl _ _, Or.inl rfl⟩
  · have h1 : 38 < b := by omega
    clear hb
    go_enter Try.func48, Try.ntmps48
    go_wp2_with fail
    refine (c54y w r c g cap ws i hm hi).mono ?_; rintro e w1 ⟨rfl, rfl⟩
    go_wp2_with fail
    go_ret
    exact ⟨rfl, g, cap, hm, Keep.refl _ _, Or.inl rfl⟩
theorem c48 (i b : Int) (hm : RefO w r ws c g cap) :
    Calls Try.prog 48 #[.pointer (some ⟨r, 0, none⟩), .int .i64 i, .int .i64 b] w (LeftR r g w (.int .i64 ((Ecc.mflip ws i b).1 : Nat)) (Ecc.mflip ws i b).2 c) := by
  by_cases hi : i < 0 ∨ (ws.length : Int) ≤ i
  · exact c48o w r c g cap ws i b hm hi
  · obtain ⟨n, rfl⟩ := Int.eq_ofNat_of_zero_le (show 0 ≤ i by omega)
    by_cases hb : b < 0 ∨ 38 < b
    · exact c48b w r c g cap ws n b hm (by omega) hb
    · exact c48i w r c g cap ws n b hm (by omega) (by omega) (by omega)
set_option maxRecDepth 100000 in
theorem c50i (i : Nat) (hm : RefO w r ws c g cap) (hi : i < ws.length) (hf : c < 1000000000000) :
    Calls Try.prog 50 #[.pointer (some ⟨r, 0, none⟩), .int .i64 i] w
      (LeftR r g w (.tuple #[.int .u32 ((Ecc.mread ws c i).1 : Nat), .int .i64 ((Ecc.mread ws c i).2.1 : Nat)]) (Ecc.mread ws c i).2.2.1 (Ecc.mread ws c i).2.2.2) := by
  have hx := hm.wds.get i
  have k21 := hid fun w => c21 _ w hx
  have hrl := Ecc.rep_lt _ hx
  have hle := Ecc.rep_le2 (ws.getD i 0)
  have hfst := Ecc.rpr_fst ws c i
  have hd := Ecc.dec_rep (ws.getD i 0)
  have k20 := hid fun w => c20 _ w hrl
  unfold Ecc.mread
  rw [out_nat ws i hi]
  simp only [Int.toNat_natCast, Bool.false_eq_true, if_false]
  rw [hfst]
  unfold Ecc.rpr
  have c0 := hm.c0
  have cg := hm.cg hi
  generalize ws.getD i 0 = y at *
  clear hfst
  generalize Ecc.rep y = q at *
  obtain ⟨x, f⟩ := q
  simp only at hrl hle hd k21 k20 ⊢
  by_cases h2 : f = 2
  · subst h2
    rw [if_pos rfl]
    go_enter Try.func50, Try.ntmps50
    go_wp2_with fail
    refine (c54y w r c g cap ws i hm hi).mono ?_; rintro e w1 ⟨rfl, rfl⟩
    go_wp2_with fail
    refine (k21.out _).mono ?_; rintro e w1 ⟨rfl, rfl⟩
    go_wp2_with fail
    go_ret2
    exact ⟨rfl, g, cap, hm, Keep.refl _ _, Or.inl rfl⟩
  · have hb2 : ((f : Int) == 2) = false := by simp; omega
    rw [if_neg h2]
    rw [hd h2] at k20
    by_cases h1 : f = 1
    · subst h1
      rw [if_pos rfl]
      have k55 := hid (c55 w r c g cap ws i x hm hi hrl)
      go_enter Try.func50, Try.ntmps50
      go_wp2_with fail
      refine (c54y w r c g cap ws i hm hi).mono ?_; rintro e w1 ⟨rfl, rfl⟩
      go_wp2_with fail
      refine (k21.out _).mono ?_; rintro e w1 ⟨rfl, rfl⟩
      go_wp2_with fail
      refine k55.out.mono ?_; rintro e w1 ⟨rfl, g', cap', hm1, hk1, hg1⟩
      have d1 := hm1.c1
      have f1 := hm1.f 1
      go_wp2_with fail
      refine (k20.out _).mono ?_; rintro e w2 ⟨rfl, rfl⟩
      go_wp2_with fail
      go_ret2
      exact ⟨rfl, g', cap', hm1.setC (c + 1), hk1.setCell (fun _ => rfl) _, hg1⟩
    · have hb1 : ((f : Int) == 1) = false := by simp; omega
      rw [if_neg h1]
      go_enter Try.func50, Try.ntmps50
      go_wp2_with fail
      refine (c54y w r c g cap ws i hm hi).mono ?_; rintro e w1 ⟨rfl, rfl⟩
      go_wp2_with fail
      refine (k21.out _).mono ?_; rintro e w1 ⟨rfl, rfl⟩
      go_wp2_with fail
      refine (k20.out _).mono ?_; rintro e w1 ⟨rfl, rfl⟩
      go_wp2_with fail
      go_ret2
      exact ⟨rfl, g, cap, hm, Keep.refl _ _, Or.inl rfl⟩
theorem c50o (i : Int) (hm : RefO w r ws c g cap) (hi : i < 0 ∨ (ws.length : Int) ≤ i) :
    Calls Try.prog 50 #[.pointer (some ⟨r, 0, none⟩), .int .i64 i] w
      (LeftR r g w (.tuple #[.int .u32 ((Ecc.mread ws c i).1 : Nat), .int .i64 ((Ecc.mread ws c i).2.1 : Nat)]) (Ecc.mread ws c i).2.2.1 (Ecc.mread ws c i).2.2.2) := by
  unfold Ecc.mread
  rw [out_yes ws i hi, if_pos rfl]
  go_enter Try.func50, Try.ntmps50
  go_wp2_with fail
  refine (c54n w r c g cap ws i hm hi).mono ?_; rintro e w1 ⟨rfl, rfl⟩
  go_wp2_with fail
  go_ret2
  exact ⟨rfl, g, cap, hm, Keep.refl _ _, Or.inl rfl⟩
theorem c50 (i : Int) (hm : RefO w r ws c g cap) (hf : c < 1000000000000) :
    Calls Try.prog 50 #[.pointer (some ⟨r, 0, none⟩), .int .i64 i] w
      (LeftR r g w (.tuple #[.int .u32 ((Ecc.mread ws c i).1 : Nat), .int .i64 ((Ecc.mread ws c i).2.1 : Nat)]) (Ecc.mread ws c i).2.2.1 (Ecc.mread ws c i).2.2.2) := by
  by_cases hi : i < 0 ∨ (ws.length : Int) ≤ i
  · exact c50o w r c g cap ws i hm hi
  · obtain ⟨n, rfl⟩ := Int.eq_ofNat_of_zero_le (show 0 ≤ i by omega)
    exact c50i w r c g cap ws n hm (by omega) hf
end
end Go.Proofs.Ytigefaacknlkoaa
