/- ranges.width, Size, Has and Missing. -/
import Derived.Test.YtfjadhkhmhnccaaRngF
set_option linter.unusedVariables false
set_option linter.unusedSimpArgs false
namespace Rng
/-- The number of the elements. -/
def sizeV (l : List R) : Int := (l.map fun r => r.2 - r.1).sum
theorem sizeV_snoc (l : List R) (r : R) : sizeV (l ++ [r]) = sizeV l + (r.2 - r.1) := by simp [sizeV]
def hasB (l : List R) (n : Int) : Bool := l.any fun r => decide (r.1 ≤ n) && decide (n < r.2)
def missV (l : List R) (t : Int) : List R := (ofV l).foldl remV (ofV [(0, t)])
theorem valid_in {l : List R} (h : Valid l) {a b : Int} (hm : ∀ m, Mem m l → a ≤ m ∧ m < b) : ∀ r ∈ l, a ≤ r.1 ∧ r.1 < r.2 ∧ r.2 ≤ b := fun r hr => by
  have h1 := h.1 r hr
  have h2 := hm r.1 ⟨r, hr, by omega, by omega⟩
  have h3 := hm (r.2 - 1) ⟨r, hr, by omega, by omega⟩
  omega
theorem valid_len : ∀ {l : List R}, Valid l → ∀ {a b : Int}, a ≤ b → (∀ r ∈ l, a ≤ r.1 ∧ r.1 < r.2 ∧ r.2 ≤ b) → (l.length : Int) ≤ b - a
  | [], _, a, b, hab, _ => by simp; omega
  | x :: l, h, a, b, hab, hr => by
    obtain ⟨h1, h2, h3⟩ := valid_cons.1 h
    have hx := hr x (by simp)
    have ih := valid_len h3 (a := x.2) (b := b) hx.2.2 (fun r hm => by
      have := h2 r hm; have := hr r (by simp [hm]); omega)
    simp only [List.length_cons]
    omega
theorem valid_len' {l : List R} (h : Valid l) {b : Int} (hb : 0 ≤ b) (hm : ∀ m, Mem m l → 0 ≤ m ∧ m < b) : (l.length : Int) ≤ b := by
  have := valid_len h hb (valid_in h hm)
  omega
theorem cut_mem (l : List R) (r : R) (hr : r.1 < r.2) (m : Int) : Mem m (l.flatMap (cut r)) ↔ Mem m l ∧ ¬ (r.1 ≤ m ∧ m < r.2) := by
  unfold Mem
  constructor
  · rintro ⟨x, hx, h1, h2⟩
    obtain ⟨y, hy, hxy⟩ := List.mem_flatMap.1 hx
    simp only [cut, List.mem_cons, List.not_mem_nil, or_false] at hxy
    rcases hxy with rfl | rfl
    · simp only [] at h1 h2; exact ⟨⟨y, hy, by omega, by omega⟩, by omega⟩
    · simp only [] at h1 h2; exact ⟨⟨y, hy, by omega, by omega⟩, by omega⟩
  · rintro ⟨⟨x, hx, h1, h2⟩, h3⟩
    by_cases c : m < r.1
    · exact ⟨(x.1, min x.2 r.1), List.mem_flatMap.2 ⟨x, hx, by simp [cut]⟩, by simp only []; omega, by simp only []; omega⟩
    · exact ⟨(max x.1 r.2, x.2), List.mem_flatMap.2 ⟨x, hx, by simp [cut]⟩, by simp only []; omega, by simp only []; omega⟩
theorem remV_mem (l : List R) (r : R) : Valid (remV l r) ∧ ∀ m, Mem m (remV l r) ↔ Mem m l ∧ ¬ (r.1 ≤ m ∧ m < r.2) := by
  unfold remV
  by_cases c : r.2 ≤ r.1
  · rw [if_pos c]; exact ⟨(ofV_spec l).1, fun m => by rw [(ofV_spec l).2 m]; exact ⟨fun h => ⟨h, by omega⟩, fun h => h.1⟩⟩
  · rw [if_neg c]
    refine ⟨(ofV_spec _).1, fun m => ?_⟩
    rw [(ofV_spec _).2 m, cut_mem _ _ (by omega) m, (ofV_spec l).2 m]
theorem foldRem_mem : ∀ (d : List R) (o : List R), Valid o → Valid (d.foldl remV o) ∧ ∀ m, Mem m (d.foldl remV o) ↔ Mem m o ∧ ¬ Mem m d
  | [], o, h => ⟨h, fun m => ⟨fun h => ⟨h, mem_nil⟩, fun h => h.1⟩⟩
  | r :: d, o, h => by
    obtain ⟨h1, h2⟩ := remV_mem o r
    obtain ⟨i1, i2⟩ := foldRem_mem d (remV o r) h1
    refine ⟨i1, fun m => ?_⟩
    rw [List.foldl_cons, i2 m, h2 m, mem_cons]
    constructor
    · rintro ⟨⟨q1, q2⟩, q3⟩; exact ⟨q1, fun h => h.elim q2 q3⟩
    · rintro ⟨q1, q2⟩; exact ⟨⟨q1, fun h => q2 (Or.inl h)⟩, fun h => q2 (Or.inr h)⟩
theorem missV_mem (l : List R) (t : Int) : Valid (missV l t) ∧ ∀ m, Mem m (missV l t) ↔ (0 ≤ m ∧ m < t) ∧ ¬ Mem m l := by
  obtain ⟨h1, h2⟩ := foldRem_mem (ofV l) (ofV [(0, t)]) (ofV_spec _).1
  refine ⟨h1, fun m => ?_⟩
  unfold missV
  rw [h2 m, (ofV_spec _).2 m, (ofV_spec _).2 m, mem_cons]
  constructor
  · rintro ⟨q1 | q1, q2⟩
    · exact ⟨q1, q2⟩
    · exact absurd q1 mem_nil
  · rintro ⟨q1, q2⟩; exact ⟨Or.inl q1, q2⟩
theorem ofV_in {l : List R} {a b : Int} (h : ∀ r ∈ l, a ≤ r.1 ∧ r.2 ≤ b) : ∀ r ∈ ofV l, a ≤ r.1 ∧ r.1 < r.2 ∧ r.2 ≤ b :=
  valid_in (ofV_spec l).1 fun m hm => by
    obtain ⟨r, hr, h1, h2⟩ := ((ofV_spec l).2 m).1 hm
    have := h r hr; omega
theorem sizeV_take {l : List R} {b : Int} (h : ∀ r ∈ l, 0 ≤ r.1 ∧ r.1 < r.2 ∧ r.2 ≤ b) : ∀ k, k ≤ l.length → 0 ≤ sizeV (l.take k) ∧ sizeV (l.take k) ≤ k * b
  | 0, _ => by simp [sizeV]
  | k + 1, hk => by
    obtain ⟨i1, i2⟩ := sizeV_take h k (by omega)
    have hr := h _ (List.getElem_mem (show k < l.length by omega))
    rw [List.take_add_one, List.getElem?_eq_getElem (by omega)]
    simp only [Option.toList]
    rw [sizeV_snoc]
    refine ⟨by omega, ?_⟩
    have : ((k + 1 : Nat) : Int) * b = k * b + b := by rw [Int.natCast_add, Int.add_mul]; simp
    omega
end Rng
namespace Go.Proofs.Ytfjadhkhmhnccaa
open Go.RowKit Go.Proofs.Num
theorem cWidthR (w : World) (f t : Int) (h : 0 ≤ f ∧ f < t ∧ t ≤ 1000000000) : Calls Try.prog 121 #[.agg #[.int .i64 f, .int .i64 t]] w fun e w' => e = .returned (.int .u64 (t - f)) ∧ Below w.heap.size w w' := by
  have HB := hid ((Below.refl w.heap.size w).alloc (Nat.le_refl _))
  go_enter Try.func121, Try.ntmps121
  go_wp2_with fail
  go_ret
  exact ⟨rfl, HB.out _⟩
set_option maxRecDepth 100000 in
set_option maxHeartbeats 1000000 in
theorem cSizeR (w : World) (v : Value) (l : List Rng.R) (h : RdR w v l) (hn : l.length < 1000000) (hb : ∀ r ∈ l, 0 ≤ r.1 ∧ r.2 ≤ 1000000000) :
    Calls Try.prog 117 #[v] w fun e w' => e = .returned (.int .i64 (Rng.sizeV (Rng.ofV l))) ∧ Below w.heap.size w w' := by
  have HN := hid (cNormal w v l h hn)
  have hol := Rng.ofV_len l
  have hin := Rng.ofV_in hb
  generalize Rng.ofV l = d at *
  have hdl : d.length < 1000000 := by omega
  have HIN := hid hin
  have HTK := hid (Rng.sizeV_take hin)
  clear h hn hb hol hin
  go_enter Try.func117, Try.ntmps117
  go_wp2_with (first | (go_at_call 118; refine HN.out.mono ?_; rintro e w1 ⟨r1, rfl, hN⟩; have HRD := hid hN.rd; have HB1 := hid hN.below; obtain ⟨a2, c2, rfl⟩ := hN.rd.eq; clear hN HN))
  go_loopw [3, 9] (fun vs i wr => ∃ k : Nat, k ≤ d.length ∧ i = .int .i64 k ∧ vs = .int .u64 (Rng.sizeV (d.take k)) ∧ Below w1.heap.size w1 wr) (fun _ i _ => d.length - (intOf i).toNat)
  case atStart => exact ⟨0, by omega, rfl, rfl, Below.refl _ _⟩
  case round =>
    obtain ⟨k, hk, rfl, rfl, hbel⟩ := hrel
    have HB := hid hbel
    clear hbel
    obtain ⟨z0, z1⟩ := HTK.out k hk
    by_cases hlt : k < d.length
    · obtain ⟨_, _, heq, _, hx⟩ := HRD.out
      obtain ⟨b, off, h0, hb, c0, c1⟩ := hx k hlt
      injection heq with e1 e2 e3
      subst e1
      subst h0
      clear e2 e3 hx
      rw [← HB.out.cell hb] at c0 c1
      have HA := hid (HB.out.alloc HB.out.size)
      have HIK := HIN.out _ (List.getElem_mem hlt)
      have HT : Hid (Rng.sizeV (d.take (k + 1)) = Rng.sizeV (d.take k) + (d[k].2 - d[k].1)) := hid (by rw [List.take_add_one, List.getElem?_eq_getElem hlt]; exact Rng.sizeV_snoc _ _)
      obtain ⟨z2, z3⟩ := HTK.out (k + 1) hlt
      rw [HT.out] at z2 z3
      obtain ⟨x, hx⟩ : ∃ x, x = d[k] := ⟨_, rfl⟩
      rw [← hx] at c0 c1 HIK HT z2 z3
      clear hx
      obtain ⟨f, t⟩ := x
      simp only [] at c0 c1 HIK HT z2 z3
      generalize Rng.sizeV (d.take k) = S at *
      have hS : S + (t - f) ≤ 1000000000000000 := by
        have : ((k + 1 : Nat) : Int) * 1000000000 ≤ 1000000 * 1000000000 := by omega
        omega
      clear z3 z1
      go_wp2_with (first | (go_at_call 121; refine (cWidthR _ f t HIK).mono ?_; rintro e w2 ⟨rfl, hw2⟩; have HB2 := hid ((HA.out _).trans (hw2.mono (HA.out _).size)); clear hw2))
      go_roundw
      case rel => exact ⟨k + 1, by omega, by go_num, by rw [HT.out], HB2.out⟩
      case measure => simp [intOf]; omega
    · obtain rfl : k = d.length := by omega
      rw [List.take_length] at z0 z1
      have z1' : Rng.sizeV d ≤ 1000000000000000 := by omega
      have hd : d.take d.length = d := List.take_length
      rw [hd]
      clear z1 hd
      go_wp2_with fail
      go_ret
      exact ⟨by rw [show min (Rng.sizeV d) 9223372036854775807 = Rng.sizeV d by omega]; rfl, HB1.out.trans (HB.out.mono HB1.out.size)⟩
set_option maxRecDepth 100000 in
theorem cHas1 (w : World) (f t n : Int) (b : Nat) (hn : w.cell? ⟨b, 0, none⟩ = some (.int .i64 n)) (hb : b < w.heap.size) : ∀ c, c = Value.pointer (some ⟨b, 0, none⟩) → Calls Try.prog 128 #[.agg #[.int .i64 f, .int .i64 t], c] w fun e w' => e = .returned (.bool (decide (f ≤ n) && decide (n < t))) ∧ Below w.heap.size w w' := by
  rintro c rfl
  have HB := hid ((Below.refl w.heap.size w).alloc (Nat.le_refl _))
  have q : ∀ o, (w.alloc o).cell? ⟨b, 0, none⟩ = some (.int .i64 n) := fun o => by rw [(((Below.refl w.heap.size w).alloc (Nat.le_refl _)) o).cell hb]; exact hn
  have q' := q (.cells #[.int .i64 f, .int .i64 t] 81)
  clear q hn
  rcases Bool.eq_false_or_eq_true (decide (f ≤ n)) with d1 | d1
  all_goals
    rw [d1]
    simp only [Bool.true_and, Bool.false_and]
    go_enter Try.func128, Try.ntmps128
    go_wp2_with fail
    go_ret
    exact ⟨rfl, HB.out _⟩
set_option maxRecDepth 100000 in
theorem cIndexH (w : World) (v : Value) (l : List Rng.R) (h : RdR w v l) (hn : l.length < 1000000) (n : Int) (c : Nat) (hc : w.cell? ⟨c, 0, none⟩ = some (.int .i64 n)) (hcb : c < w.heap.size) : Calls Try.prog 129 #[v, .func (.func 128) #[] #[.pointer (some ⟨c, 0, none⟩)]] w fun e w' => Below w.heap.size w w' ∧ ∃ i, e = .returned (.int .i64 i) ∧ decide (i ≥ 0) = Rng.hasB l n := by
  obtain ⟨a, cap, rfl, hcap, hx⟩ := h
  have HX := hid hx
  have HCN := hid hc
  clear hx hcap hc
  go_enter Try.func129, Try.ntmps129
  go_wp2_with fail
  go_loopw [8] (fun i wr => ∃ k : Nat, k ≤ l.length ∧ i = .int .i64 k ∧ Rng.hasB (l.take k) n = false ∧ Below w.heap.size w wr) (fun i _ => l.length - (intOf i).toNat)
  case atStart => exact ⟨0, by omega, rfl, rfl, Below.refl _ _⟩
  case round =>
    obtain ⟨k, hk, rfl, hpre, hbel⟩ := hrel
    have HB := hid hbel
    have HP := hid hpre
    clear hbel hpre
    by_cases hlt : k < l.length
    · obtain ⟨b, off, rfl, hb, c0, c1⟩ := HX.out k hlt
      rw [← HB.out.cell hb] at c0 c1
      have HCW : Hid (wr.cell? ⟨c, 0, none⟩ = some (.int .i64 n)) := hid (by rw [HB.out.cell hcb]; exact HCN.out)
      have HCR : Hid (c < wr.heap.size) := hid (by have := HB.out.size; omega)
      have HT : Hid (l.take (k + 1) = l.take k ++ [l[k]]) := hid (by rw [List.take_add_one, List.getElem?_eq_getElem hlt]; rfl)
      have HM : Hid (l[k] ∈ l) := hid (List.getElem_mem hlt)
      obtain ⟨x, hx⟩ : ∃ x, x = l[k] := ⟨_, rfl⟩
      rw [← hx] at c0 c1 HT HM
      clear hx
      obtain ⟨f, t⟩ := x
      simp only [] at c0 c1
      have hcall := fun c' hc' => cHas1 wr f t n c HCW.out HCR.out c' hc'
      cases hd : (decide (f ≤ n) && decide (n < t)) with
      | true =>
        rw [hd] at hcall
        have HC := hid hcall
        have HD := hid hd
        clear hcall hd
        go_wp2_with (first | (go_at_call 128; refine (HC.out _ rfl).mono ?_; rintro e w2 ⟨rfl, hw2⟩; have HB2 := hid (HB.out.trans (hw2.mono HB.out.size)); clear hw2))
        go_ret
        refine ⟨HB2.out, _, rfl, ?_⟩
        rw [show Rng.hasB l n = true from List.any_eq_true.2 ⟨_, HM.out, HD.out⟩]
        simp
      | false =>
        rw [hd] at hcall
        have HC := hid hcall
        have HD := hid hd
        clear hcall hd
        go_wp2_with (first | (go_at_call 128; refine (HC.out _ rfl).mono ?_; rintro e w2 ⟨rfl, hw2⟩; have HB2 := hid (HB.out.trans (hw2.mono HB.out.size)); clear hw2))
        go_roundw
        case rel =>
          refine ⟨k + 1, by omega, by go_num, ?_, HB2.out⟩
          have h1 := HP.out
          have h2 := HD.out
          unfold Rng.hasB at h1 ⊢
          rw [HT.out, List.any_append, h1]
          simpa using h2
        case measure => simp [intOf]; omega
    · obtain rfl : k = l.length := by omega
      go_wp2_with fail
      go_ret
      refine ⟨HB.out, _, rfl, ?_⟩
      have := HP.out
      rw [List.take_length] at this
      rw [this]
      rfl
theorem cContH (w : World) (v : Value) (l : List Rng.R) (h : RdR w v l) (hn : l.length < 1000000) (n : Int) (c : Nat) (hc : w.cell? ⟨c, 0, none⟩ = some (.int .i64 n)) (hcb : c < w.heap.size) : Calls Try.prog 127 #[v, .func (.func 128) #[] #[.pointer (some ⟨c, 0, none⟩)]] w fun e w' => e = .returned (.bool (Rng.hasB l n)) ∧ Below w.heap.size w w' := by
  have HC := hid (cIndexH w v l h hn n c hc hcb)
  clear h hc
  go_enter Try.func127, Try.ntmps127
  go_wp2_with (first | (go_at_call 129; refine HC.out.mono ?_; rintro e w2 ⟨hw2, i, rfl, hi⟩; have HB2 := hid hw2; have HI := hid hi; clear hw2 hi))
  go_ret
  exact ⟨by rw [← HI.out]; rfl, HB2.out⟩
theorem cHasR (w : World) (v : Value) (l : List Rng.R) (h : RdR w v l) (hn : l.length < 1000000) (n : Int) : Calls Try.prog 120 #[v, .int .i64 n] w fun e w' => e = .returned (.bool (Rng.hasB l n)) ∧ Below w.heap.size w w' := by
  have hb := (Below.refl w.heap.size w).alloc (Nat.le_refl _) (.cells #[.int .i64 n] 3)
  have HS := hid ((Sts.nil w).alloc stab0 (.cells #[.int .i64 n] 3))
  have HC := hid (cContH (w.alloc (.cells #[.int .i64 n] 3)) v l (h.below hb) hn n w.heap.size (Sts.boxCell HS.out 0 _ rfl).1 (by show _ < (w.heap.push _).size; simp))
  have HB := hid hb
  clear h hb HS
  go_enter Try.func120, Try.ntmps120
  go_wp2_with (first | (go_at_call 127; refine HC.out.mono ?_; rintro e w2 ⟨rfl, hw2⟩; have HB2 := hid (HB.out.trans (hw2.mono HB.out.size)); clear hw2))
  go_ret
  exact ⟨rfl, HB2.out⟩
set_option maxRecDepth 100000 in
set_option maxHeartbeats 2000000 in
theorem cMissingR (w : World) (v : Value) (l : List Rng.R) (h : RdR w v l) (hn : l.length < 1000000) (t : Nat) (ht : t ≤ 100000) :
    Calls Try.prog 87 #[v, .int .i64 (t : Int)] w fun e w' => ∃ r, e = .returned r ∧ NewR w w' r (Rng.missV l t) := by
  have hB0 := (Sts.nil w).alloc stab0 (.cells #[.int .i64 0, .int .i64 (t : Int)] 81)
  have HB := hid hB0
  have hrd : RdR (w.alloc (.cells #[.int .i64 0, .int .i64 (t : Int)] 81)) (.slice (some ⟨w.heap.size, 0, none⟩) 1 1) [(0, (t : Int))] := by
    refine ⟨_, 1, rfl, ⟨by simp, by unfold maxLen; omega⟩, fun j hj => ?_⟩
    have : j = 0 := by simp at hj; exact hj
    subst this
    exact ⟨w.heap.size, 0, rfl, by show _ < (w.heap.push _).size; simp, (Sts.boxCell HB.out 0 _ rfl).1, (Sts.boxCell HB.out 1 _ rfl).1⟩
  have HN1 := hid (cNormal _ _ _ hrd (by simp))
  have HRV := hid (h.below hB0.below)
  clear h hB0 hrd
  have hol := Rng.ofV_len l
  have HMV : Hid (Rng.missV l t = (Rng.ofV l).foldl Rng.remV (Rng.ofV [(0, (t : Int))])) := hid rfl
  have HBD : Hid (∀ k, ((((Rng.ofV l).take k).foldl Rng.remV (Rng.ofV [(0, (t : Int))])).length : Int) ≤ t) := hid fun k => by
    obtain ⟨h1, h2⟩ := Rng.foldRem_mem ((Rng.ofV l).take k) (Rng.ofV [(0, (t : Int))]) (Rng.ofV_spec _).1
    refine Rng.valid_len' h1 (by omega) fun m hm => ?_
    obtain ⟨⟨r, hr, h3, h4⟩, _⟩ := (h2 m).1 hm |>.imp_left ((Rng.ofV_spec _).2 m).1
    simp at hr; subst hr; exact ⟨h3, h4⟩
  have HNN : Hid (∀ y, Below (w.alloc (.cells #[.int .i64 0, .int .i64 (t : Int)] 81)).heap.size (w.alloc (.cells #[.int .i64 0, .int .i64 (t : Int)] 81)) y → Calls Try.prog 118 #[v] y fun e w' => ∃ r, e = .returned r ∧ NewR y w' r (Rng.ofV l)) := hid fun y hy => cNormal y v l (HRV.out.below hy) hn
  rw [HMV.out]
  clear HMV HRV
  generalize Rng.ofV [(0, (t : Int))] = o0 at *
  generalize Rng.ofV l = d at *
  have hdl : d.length < 1000000 := by omega
  clear hol
  go_enter Try.func87, Try.ntmps87
  go_wp2_with (first | (go_at_call 118; first | (refine HN1.out.mono ?_; rintro e w1 ⟨r1, rfl, hN⟩; have H1 := hid (Sts.newR (stabC (blkP_stable _ _) stab0) HB.out hN).swap.tail; have HN2 := hid (HNN.out w1 hN.below); clear hN HN1) | (refine HN2.out.mono ?_; rintro e w2 ⟨r2, rfl, hN⟩; have H2 := hid (Sts.newR (stab1 (rowP_stable _ _ _ _ _)) H1.out hN); obtain ⟨a2, c2, rfl⟩ := hN.rd.eq; clear hN HN2)))
  clear HNN HB
  go_loopw [5, 15] (fun vo i wr => ∃ k : Nat, k ≤ d.length ∧ i = .int .i64 k ∧ Sts w [rowP 81 2 (.slice a2 d.length c2) d.length (Fil.rcells d), rowP 81 2 vo ((d.take k).foldl Rng.remV o0).length (Fil.rcells ((d.take k).foldl Rng.remV o0))] wr) (fun _ i _ => d.length - (intOf i).toNat)
  case atStart => exact ⟨0, by omega, rfl, H2.out⟩
  case round =>
    obtain ⟨k, hk, rfl, hS⟩ := hrel
    have HS := hid hS
    clear hS H1 H2
    by_cases hlt : k < d.length
    · obtain ⟨_, _, heq, _, hx⟩ := (Sts.isNewR HS.out rfl).rd
      obtain ⟨b, off, h0, hb, c0, c1⟩ := hx k hlt
      injection heq with e1 e2 e3
      subst e1
      subst h0
      clear e2 e3 hx
      have HT : Hid ((d.take (k + 1)).foldl Rng.remV o0 = Rng.remV ((d.take k).foldl Rng.remV o0) d[k]) := hid (by rw [List.take_add_one, List.getElem?_eq_getElem hlt, List.foldl_append]; rfl)
      have hbd := HBD.out k
      obtain ⟨x, hx⟩ : ∃ x, x = d[k] := ⟨_, rfl⟩
      rw [← hx] at c0 c1 HT
      clear hx
      obtain ⟨f, g⟩ := x
      simp only [] at c0 c1 HT
      have hSL : ∀ B ∈ [rowP 81 2 (.slice (some ⟨b, off, none⟩) d.length c2) d.length (Fil.rcells d), rowP 81 2 u5 ((d.take k).foldl Rng.remV o0).length (Fil.rcells ((d.take k).foldl Rng.remV o0))], Stable B := stabC (rowP_stable _ _ _ _ _) (stab1 (rowP_stable _ _ _ _ _))
      have HSL := hid hSL
      have hA := Sts.box hSL HS.out (.cells #[.int .i64 f, .int .i64 g] 81)
      have HRM := hid (cRemoveR (wr.alloc (.cells #[.int .i64 f, .int .i64 g] 81)) u5 _ f g (Sts.isNewR hA.swap rfl).rd (by omega))
      have HA := hid hA
      clear hA hSL hbd
      go_wp2_with (first | (go_at_call 106; refine HRM.out.mono ?_; rintro e w2 ⟨r2, rfl, hN⟩; have HZ := hid ((Sts.newR HSL.out HA.out hN).third'.swap.tail); clear hN HRM))
      go_roundw
      case rel => exact ⟨k + 1, by omega, by go_num, by rw [HT.out]; exact HZ.out⟩
      case measure => simp [intOf]; omega
    · obtain rfl : k = d.length := by omega
      rw [List.take_length] at HS
      go_wp2_with fail
      go_ret
      exact ⟨_, rfl, Sts.isNewR HS.out.tail rfl⟩
end Go.Proofs.Ytfjadhkhmhnccaa
