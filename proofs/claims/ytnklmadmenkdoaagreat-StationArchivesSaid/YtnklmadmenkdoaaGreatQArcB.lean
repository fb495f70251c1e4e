/- The archive: its small functions. A packet of a new process comes into the archive. -/
import Derived.Test.YtnklmadmenkdoaaGreatQSdpTk
import Derived.Test.YtnklmadmenkdoaaGreatQArcP
import Derived.Test.YtnklmadmenkdoaaGreatQArcS
set_option linter.unusedVariables false
set_option linter.unusedSimpArgs false
namespace Arc
theorem find_step (a : Nat) : ∀ (m : Arch) (k : Nat) (hk : k < m.length), k ≤ find a m → (a ≤ m[k].1 → find a m = k) ∧ (m[k].1 < a → k + 1 ≤ find a m)
  | [], k, hk, _ => by simp at hk
  | p :: m, 0, hk, _ => by
    unfold find
    refine ⟨fun h => if_pos h, fun h => ?_⟩
    rw [if_neg (by simp at h; omega)]
    omega
  | p :: m, k + 1, hk, h => by
    unfold find at h ⊢
    by_cases hp : a ≤ p.1
    · rw [if_pos hp] at h; omega
    · rw [if_neg hp] at h ⊢
      have := find_step a m k (by simpa using hk) (by omega)
      exact ⟨fun h => by rw [this.1 (by simpa using h)], fun h => by have := this.2 (by simpa using h); omega⟩
theorem pos_step (l : List Ent) (x : Int) (k : Nat) (hk : k < l.length) : pos l x (k + 1) = if x ≤ l[k].c then pos l x k else k + 1 := by
  rw [pos, List.getD_eq_getElem?_getD, List.getElem?_eq_getElem hk]; rfl
theorem isA_at (a : Nat) (m : Arch) (k : Nat) (hk : k < m.length) : isA a m k = (m[k].1 == a) := by
  unfold isA; rw [List.getElem?_eq_getElem hk]
theorem isA_end (a : Nat) (m : Arch) (k : Nat) (hk : m.length ≤ k) : isA a m k = false := by
  unfold isA; rw [List.getElem?_eq_none hk]
theorem dist_int (x y : Nat) (hx : x < 16384) (hy : y < 16384) : ((y : Int) + -(x : Int)) % 16384 = (dist x y : Int) := by
  unfold dist; omega
theorem ext_le (g n : Nat) (h : dist (g % 16384) n ≤ 8192) : ext g n = (g : Int) + (dist (g % 16384) n : Int) := by unfold ext; rw [if_pos h]
theorem ext_gt (g n : Nat) (h : ¬ dist (g % 16384) n ≤ 8192) : ext g n = (g : Int) - (dist n (g % 16384) : Int) := by unfold ext; rw [if_neg h]
end Arc
namespace Go.Proofs.YtnklmadmenkdoaaGreat
open Go.RowKit Go.Proofs.Num
variable {W w : World} {l : List HProp}
abbrev itmV (a n t : Nat) (d : Value) : Array Value := #[.int .i64 (a : Int), .int .i64 (n : Int), .int .i64 (t : Int), d]
set_option maxRecDepth 100000 in
theorem szItm : ∀ w, (Go.sizeOf 102).run Tryz.prog w = .ok 4 w := fun w => by first | rfl | simp [go_sem] | kernel_rfl
theorem infoItm : (Tryz.prog.info? 102).map (·.size) = some 4 := by kernel_rfl
theorem ldItm {b : Nat} {cs : Array Value} (hs : cs.size = 4) (h : Sts W (blkP b (.cells cs 102 (0, 0)) :: l) w) : (loadVar 102 ⟨b, 0, none⟩).run Tryz.prog w = .ok (.agg cs) w := by
  have hb : w.heap[b]? = some (.cells cs 102 (0, 0)) := by obtain ⟨F, hF⟩ := h.head; exact hF.1
  exact run_loadVar_row (P := Tryz.prog) w b 102 102 cs (0, 0) _ hb Tryz.underlying102 rfl (by rw [infoItm, hs])
set_option maxRecDepth 100000 in
theorem cArcValid (q : Nat) (v : Value) (h : Sts W (blkP q (.cells #[.bool true, v] 185 (0, 0)) :: l) w) : Calls Tryz.prog 91 #[.pointer (some ⟨q, 0, none⟩)] w fun e w' => e = .returned (.bool true) ∧ w = w' := by
  have c0 := (Sts.boxCell h 0 _ rfl).1
  clear h
  go_enter Tryz.func91, Tryz.ntmps91
  go_wp2
  go_ret
  exact ⟨rfl, rfl⟩
set_option maxRecDepth 100000 in
set_option maxHeartbeats 2000000 in
theorem cArcRight (w : World) (a n t : Nat) (ra : Option Addr) (k rc : Nat) (ha : a ≤ 2046) (hn : n < 16384) (ht : t ≤ 1099511627776) (hk : k ≤ 4096) :
    Calls Tryz.prog 97 #[.agg (itmV a n t (.slice ra k rc))] w fun e w' => e = .returned (.bool true) ∧ Below w.heap.size w w' := by
  have b1 : (0 : Int) ≤ (a : Int) := by omega
  have b2 : (a : Int) ≤ 2046 := by omega
  have b3 : (0 : Int) ≤ (n : Int) := by omega
  have b4 : (n : Int) < 16384 := by omega
  have b5 : (0 : Int) ≤ (t : Int) := by omega
  have b6 : (t : Int) ≤ 1099511627776 := by omega
  have b7 : (k : Int) ≤ 4096 := by omega
  have d1 : decide ((0 : Int) ≤ (a : Int)) = true := decide_eq_true b1
  have d2 : decide ((a : Int) ≤ 2046) = true := decide_eq_true b2
  have d3 : decide ((0 : Int) ≤ (n : Int)) = true := decide_eq_true b3
  have d4 : decide ((n : Int) < 16384) = true := decide_eq_true b4
  have d5 : decide ((0 : Int) ≤ (t : Int)) = true := decide_eq_true b5
  have d6 : decide ((t : Int) ≤ 1099511627776) = true := decide_eq_true b6
  have d7 : decide ((k : Int) ≤ 4096) = true := decide_eq_true b7
  clear ha hn ht hk
  go_enter Tryz.func97, Tryz.ntmps97
  go_wp2
  go_ret
  exact ⟨rfl, (Below.refl _ _).alloc (Nat.le_refl _) _⟩
set_option maxRecDepth 100000 in
set_option maxHeartbeats 2000000 in
theorem cArcExt (w : World) (g n : Nat) (hg : g < 100000000) (hn : n < 16384) : Calls Tryz.prog 100 #[.int .i64 (g : Int), .int .i64 (n : Int)] w fun e w' => e = .returned (.int .i64 (Arc.ext g n)) ∧ w = w' := by
  have hgm : g % 16384 < 16384 := Nat.mod_lt _ (by decide)
  have K1 := hid (cSerDist14 (w := w) (g % 16384) n hgm hn)
  have K2 := hid (cSerDist14 (w := w) n (g % 16384) hn hgm)
  rw [Arc.dist_int _ _ hgm hn] at K1
  rw [Arc.dist_int _ _ hn hgm] at K2
  have l1 := Arc.dist_lt (g % 16384) n
  have l2 := Arc.dist_lt n (g % 16384)
  have HR1 := hid (Arc.ext_le g n)
  have HR2 := hid (Arc.ext_gt g n)
  obtain ⟨M, hM⟩ : ∃ M, M = g % 16384 := ⟨_, rfl⟩
  obtain ⟨A, hA⟩ : ∃ A, A = Arc.dist (g % 16384) n := ⟨_, rfl⟩
  obtain ⟨B, hB⟩ : ∃ B, B = Arc.dist n (g % 16384) := ⟨_, rfl⟩
  rw [← hA] at K1 l1 HR1 HR2
  rw [← hB] at K2 l2 HR2
  have e1 : bits .and .i64 (g : Int) 16383 = (M : Int) := by
    have h1 : bits .and .i64 (g : Int) ((16383 : Nat) : Int) = ((g &&& 16383 : Nat) : Int) := i64_and _ _ (by omega) (by omega)
    rw [hM, show g % 16384 = g &&& 16383 from (Nat.and_two_pow_sub_one_eq_mod g 14).symm]
    exact h1
  rw [← hM] at K1 K2
  have w1 : wrap64 ((g : Int) + (A : Int)) = (g : Int) + (A : Int) := by unfold wrap64; omega
  have w2 : wrap64 ((g : Int) - (B : Int)) = (g : Int) - (B : Int) := by unfold wrap64; omega
  have W1 := hid w1
  have W2 := hid w2
  clear w1 w2 hg hn hgm l1 l2 hM hA hB
  by_cases hle : (A : Int) ≤ 8192
  · have d1 : decide ((A : Int) ≤ 8192) = true := decide_eq_true hle
    go_enter Tryz.func100, Tryz.ntmps100
    go_wp2_with fail
    refine K1.out.mono ?_
    rintro e w1 ⟨rfl, rfl⟩
    go_wp2_with fail
    go_ret
    exact ⟨congrArg (fun x => Ending.returned (.int .i64 x)) (W1.out.trans (HR1.out (by omega)).symm), rfl⟩
  · have d1 : decide ((A : Int) ≤ 8192) = false := decide_eq_false hle
    go_enter Tryz.func100, Tryz.ntmps100
    go_wp2_with fail
    refine K1.out.mono ?_
    rintro e w1 ⟨rfl, rfl⟩
    go_wp2_with fail
    refine K2.out.mono ?_
    rintro e w1 ⟨rfl, rfl⟩
    go_wp2_with fail
    go_ret
    exact ⟨congrArg (fun x => Ending.returned (.int .i64 x)) (W2.out.trans (HR2.out (by omega)).symm), rfl⟩
set_option maxRecDepth 100000 in
set_option maxHeartbeats 2000000 in
theorem cArcDup (w : World) (a n t : Nat) (v : Value) (d : List Nat) (hR : Rd w v (u8s d)) (hv : NilOk v) (hd : d.length < 100000000) :
    Calls Tryz.prog 94 #[.agg (itmV a n t v)] w fun e w' => ∃ r, e = .returned (.agg (itmV a n t r)) ∧ New w w' 5 r (u8s d) := by
  obtain ⟨sv, sn, sc, rfl⟩ : ∃ sv sn sc, v = .slice sv sn sc := by obtain ⟨x, y, rfl, _⟩ := hR; exact ⟨_, _, _, rfl⟩
  have HS0 := Sts.alloc (stabC (blkP_stable _ _) stab0) (Sts.alloc stab0 (Sts.nil w) (.cells (itmV a n t (.slice sv sn sc)) 102)) (.cells #[.int .i64 0, .int .i64 0, .int .i64 0, .slice none 0 0] 102)
  rw [size_alloc] at HS0
  have HS := hid HS0
  have HC := hid (fun (y : World) (h : Below w.heap.size w y) => cClone8 y (.slice sv sn sc) d (hR.below h) hv hd)
  clear hR hv hd HS0
  go_enter Tryz.func94, Tryz.ntmps94
  go_wp2_with fail
  refine (HC.out _ HS.out.below).mono ?_
  rintro e y1 ⟨r, rfl, hn, _⟩
  obtain ⟨ra, rc, rfl⟩ := own_slice hn.1
  have h1 := (Sts.new (stabC (blkP_stable _ _) (stabC (blkP_stable _ _) stab0)) HS.out hn).third
  have q3 := Sts.boxCell h1 3 _ rfl
  have HSL : Hid (∀ B ∈ [rowP 5 1 (.slice ra (u8s d).length rc) (u8s d).length (u8s d), blkP (w.heap.size + 1) (.cells #[.int .i64 0, .int .i64 0, .int .i64 0, .slice none 0 0] 102 (0, 0))], Stable B) := hid (stabC (rowP_stable _ _ _ _ _) (stabC (blkP_stable _ _) stab0))
  have HT : Hid (Sts w (blkP w.heap.size (.cells (itmV a n t (.slice ra (u8s d).length rc)) 102 (0, 0)) :: [rowP 5 1 (.slice ra (u8s d).length rc) (u8s d).length (u8s d), blkP (w.heap.size + 1) (.cells #[.int .i64 0, .int .i64 0, .int .i64 0, .slice none 0 0] 102 (0, 0))]) (y1.setCell ⟨w.heap.size, 3, none⟩ (.slice ra (u8s d).length rc))) := hid (Sts.store HSL.out h1 (j := 3) (.slice ra (u8s d).length rc))
  have q3a := q3.1
  have q3f := q3.2
  clear h1 hn HC HS q3
  go_wp2_with (first
    | (refine wpList_ldS rfl (.tmp 1) 102 rfl rfl (.agg (itmV a n t (.slice ra (u8s d).length rc))) (ldItm (cs := itmV a n t (.slice ra (u8s d).length rc)) rfl HT.out) ?_)
    | (refine wpList_aggS HT.out.third (stabC (blkP_stable _ _) (stabC (rowP_stable _ _ _ _ _) stab0)) rfl (.tmp 2) (.tmp 7) 102 rfl (itmV a n t (.slice ra (u8s d).length rc)) rfl rfl szItm rfl rfl ?_; intro w7 h7; have H7 := hid h7; clear h7))
  exact post_cell1 H7.out Tryz.results94 rfl rfl (ldItm rfl H7.out) ⟨_, rfl, by
    exact New.of_sts (Sts.sub H7.out (.cons _ (.cons _ (List.Sublist.refl _)))) rfl⟩
set_option maxRecDepth 100000 in
set_option maxHeartbeats 2000000 in
theorem cArcFind (q : Nat) (v : Value) (xs : List Value) (m : Arc.Arch) (hx : ∀ k (hk : k < m.length), xs[k * 2]? = some (.int .i64 (m[k].1 : Int))) (hn : m.length < 1000) (h : Sts W (blkP q (.cells #[.bool true, v] 185 (0, 0)) :: rowP 188 2 v m.length xs :: l) w) (a : Nat) :
    Calls Tryz.prog 98 #[.pointer (some ⟨q, 0, none⟩), .int .i64 (a : Int)] w fun e w' => e = .returned (.tuple #[.int .i64 (Arc.find a m : Int), .bool (Arc.isA a m (Arc.find a m))]) ∧ ∃ j, w' = w.drewN j := by
  have c1 : w.cell? ⟨q, 1, none⟩ = some v := (Sts.boxCell h 1 v rfl).1
  obtain ⟨g, n, c, rfl, hcz, HC⟩ : ∃ g n c, v = .slice g n c ∧ n = m.length ∧ Hid (∀ k (hk : k < m.length), ∃ b, g = some ⟨b, 0, none⟩ ∧ w.cell? ⟨b, k * 2, none⟩ = some (.int .i64 (m[k].1 : Int))) := by
    have ho := Sts.rowOwnS' h.tail
    rcases ho.2 with ⟨hv, h0⟩ | ⟨b, cap, cur, hv, _⟩
    · exact ⟨none, 0, 0, hv, h0.symm, hid (fun k hk => by omega)⟩
    · subst hv
      refine ⟨some ⟨b, 0, none⟩, m.length, cap, rfl, rfl, hid (fun k hk => ⟨b, rfl, ?_⟩)⟩
      rw [ho.cellAt (k * 2) (by have := ho.1; omega)]
      exact hx k hk
  subst hcz
  have HF := hid (Arc.find_step a m)
  have HFL := hid (Arc.find_le a m)
  have HIA := hid (Arc.isA_at a m)
  have HIE := hid (Arc.isA_end a m)
  have HN := hid hn
  have HX := hid hx
  obtain ⟨N, hN⟩ : ∃ N, N = m.length := ⟨_, rfl⟩
  rw [← hN] at c1
  have HNM := hid hN
  clear h hx hn hN
  go_enter Tryz.func98, Tryz.ntmps98
  go_wp2
  go_loopw [12] (fun i wr => ∃ k : Nat, k ≤ Arc.find a m ∧ i = .int .i64 (k : Int) ∧ wr = w) (fun i _ => N - (intOf i).toNat)
  case atStart => exact ⟨0, Nat.zero_le _, rfl, rfl⟩
  case round =>
    obtain ⟨k, hk, rfl, hw⟩ := hrel
    by_cases hkn : k < N
    · have kn : (k : Int) < (N : Int) := by omega
      have hkm : k < m.length := by rw [← HNM.out]; exact hkn
      obtain ⟨b, rfl, q0⟩ := HC.out k hkm
      have hst := HF.out k hkm hk
      have hia := HIA.out k hkm
      obtain ⟨p, hp⟩ : ∃ p, p = m[k].1 := ⟨_, rfl⟩
      rw [← hp] at q0 hst hia
      have KN := hid hkn
      have KW : Hid (wrap64 ((k : Int) + 1) = ((k + 1 : Nat) : Int)) := hid (by have := HN.out; unfold wrap64; omega)
      clear hp hkn
      by_cases hpa : a ≤ p
      · have d1 : decide ((a : Int) ≤ (p : Int)) = true := decide_eq_true (by omega)
        have q1 : ∀ j, (w.drewN j).cell? ⟨b, k * 2, none⟩ = some (.int .i64 (p : Int)) := fun j => by simpa using q0
        have q2 : ∀ j, (w.drewN j).cell? ⟨q, 1, none⟩ = some (.slice (some ⟨b, 0, none⟩) N c) := fun j => by simpa using c1
        have HE := hid (hst.1 hpa)
        have HI := hid hia
        clear hst hia hk hkm
        go_wp2_with fail
        go_quiet (fail)
        go_wp2_with fail
        go_ret2
        refine ⟨?_, _, rfl⟩
        show Ending.returned (.tuple #[.int .i64 (k : Int), .bool ((p : Int) == (a : Int))]) = _
        rw [HE.out, HI.out, show ((p : Int) == (a : Int)) = (p == a) by rw [Bool.eq_iff_iff]; simp; omega]
      · have d1 : decide ((a : Int) ≤ (p : Int)) = false := decide_eq_false (by omega)
        have HE := hid (hst.2 (by omega))
        clear hst hia hk hkm
        go_wp2_with fail
        rw [KW.out]
        exact ⟨⟨k + 1, HE.out, rfl, by trivial⟩, by have := KN.out; simp [intOf]; omega⟩
    · have kn : ¬ (k : Int) < (N : Int) := by omega
      have HKN : Hid (Arc.find a m = N ∧ k = N) := hid (by have h1 := HFL.out; have h2 := HNM.out; omega)
      clear hk hkn
      go_wp2_with fail
      go_ret2
      refine ⟨?_, 0, by trivial⟩
      show Ending.returned (.tuple #[.int .i64 (N : Int), .bool false]) = _
      rw [HKN.out.1, HIE.out N (Nat.le_of_eq HNM.out.symm)]
end Go.Proofs.YtnklmadmenkdoaaGreat
namespace Go.Proofs.YtnklmadmenkdoaaGreat
open Go.RowKit Go.Proofs.Num
set_option maxRecDepth 100000 in
theorem szSlP : ∀ w, (Go.sizeOf 183).run Tryz.prog w = .ok 1 w := fun w => by first | rfl | simp [go_sem] | kernel_rfl
set_option maxRecDepth 100000 in
theorem szSlE : ∀ w, (Go.sizeOf 186).run Tryz.prog w = .ok 1 w := fun w => by first | rfl | simp [go_sem] | kernel_rfl
set_option maxRecDepth 100000 in
theorem exec_bldE {o : Oper} {a : Act} {w : World} (x : Operand) (ho : o.op = .buildSlice 186 1 #[(0, x)]) (i1 i2 i3 i4 : Int) (a1 : Option Addr) (n1 c1 : Nat) (hx : a.eval x = .agg #[.int .i64 i1, .int .i64 i2, .int .i64 i3, .int .i64 i4, .slice a1 n1 c1]) :
    (execOp a.eval o).run Tryz.prog w = .ok (.value (.slice (some ⟨w.heap.size, 0, none⟩) 1 1)) (w.alloc (.cells #[.int .i64 i1, .int .i64 i2, .int .i64 i3, .int .i64 i4, .slice a1 n1 c1] 192)) := by
  have key : ∀ u, u = Value.agg #[.int .i64 i1, .int .i64 i2, .int .i64 i3, .int .i64 i4, .slice a1 n1 c1] → (Instr.buildSlice 186 1 #[(0, u)]).run Tryz.prog w = .ok (.slice (some ⟨w.heap.size, 0, none⟩) 1 1) (w.alloc (.cells #[.int .i64 i1, .int .i64 i2, .int .i64 i3, .int .i64 i4, .slice a1 n1 c1] 192)) := by
    rintro u rfl
    kernel_rfl
  unfold execOp
  simp only [ho]
  rw [show Array.map (fun x => (x.fst, a.eval x.snd)) #[((0 : Nat), x)] = #[(0, a.eval x)] by simp]
  simp only [Sem.run_bind, key _ hx, Result.andThen]
  rfl
set_option maxRecDepth 100000 in
theorem exec_bldP {o : Oper} {a : Act} {w : World} (x : Operand) (ho : o.op = .buildSlice 183 1 #[(0, x)]) (i1 : Int) (a1 : Option Addr) (n1 c1 : Nat) (hx : a.eval x = .agg #[.int .i64 i1, .slice a1 n1 c1]) :
    (execOp a.eval o).run Tryz.prog w = .ok (.value (.slice (some ⟨w.heap.size, 0, none⟩) 1 1)) (w.alloc (.cells #[.int .i64 i1, .slice a1 n1 c1] 188)) := by
  have key : ∀ u, u = Value.agg #[.int .i64 i1, .slice a1 n1 c1] → (Instr.buildSlice 183 1 #[(0, u)]).run Tryz.prog w = .ok (.slice (some ⟨w.heap.size, 0, none⟩) 1 1) (w.alloc (.cells #[.int .i64 i1, .slice a1 n1 c1] 188)) := by
    rintro u rfl
    kernel_rfl
  unfold execOp
  simp only [ho]
  rw [show Array.map (fun x => (x.fst, a.eval x.snd)) #[((0 : Nat), x)] = #[(0, a.eval x)] by simp]
  simp only [Sem.run_bind, key _ hx, Result.andThen]
  rfl
section
variable {W w : World} {l : List HProp}
theorem eff_bldE {L : Prop} {o : Oper} {a : Act} {D : WP} {K : Act → WP → WP → Prop} (hl : ∀ B ∈ l, Stable B) (hS : Sts W l w) (x : Operand) (ho : o.op = .buildSlice 186 1 #[(0, x)]) (i1 i2 i3 i4 : Int) (a1 : Option Addr) (n1 c1 : Nat) (hx : a.eval x = .agg #[.int .i64 i1, .int .i64 i2, .int .i64 i3, .int .i64 i4, .slice a1 n1 c1])
    (hD : ∀ z g, Sts W (rowP 192 5 (.slice (some ⟨g, 0, none⟩) 1 1) 1 [.int .i64 i1, .int .i64 i2, .int .i64 i3, .int .i64 i4, .slice a1 n1 c1] :: l) z → D z)
    (hk : ∀ g, K (a.put o.dst (.slice (some ⟨g, 0, none⟩) 1 1)) D (fun z => Sts W (rowP 192 5 (.slice (some ⟨g, 0, none⟩) 1 1) 1 [.int .i64 i1, .int .i64 i2, .int .i64 i3, .int .i64 i4, .slice a1 n1 c1] :: l) z)) : effUpon Tryz.prog L o.dst a D K ((execOp a.eval o).run Tryz.prog w) := by
  have h := (hS.alloc hl (.cells #[.int .i64 i1, .int .i64 i2, .int .i64 i3, .int .i64 i4, .slice a1 n1 c1] 192)).weaken (fun F h => blkP.rowK h (s := 5) rfl)
  rw [exec_bldE x ho i1 i2 i3 i4 a1 n1 c1 hx]
  exact eff_value D _ rfl h (fun z hz => hD z _ hz) (fun _ h => h) (hk _)
theorem eff_bldEb {L : Prop} {o : Oper} {a : Act} {D : WP} {K : Act → WP → WP → Prop} (hl : ∀ B ∈ l, Stable B) (hS : Sts W l w) (x : Operand) (ho : o.op = .buildSlice 186 1 #[(0, x)]) (i1 i2 i3 i4 : Int) (a1 : Option Addr) (n1 c1 : Nat) (hx : a.eval x = .agg #[.int .i64 i1, .int .i64 i2, .int .i64 i3, .int .i64 i4, .slice a1 n1 c1])
    (hD : ∀ z g, Sts W (blkP g (.cells #[.int .i64 i1, .int .i64 i2, .int .i64 i3, .int .i64 i4, .slice a1 n1 c1] 192 (0, 0)) :: l) z → D z)
    (hk : ∀ g, K (a.put o.dst (.slice (some ⟨g, 0, none⟩) 1 1)) D (fun z => Sts W (blkP g (.cells #[.int .i64 i1, .int .i64 i2, .int .i64 i3, .int .i64 i4, .slice a1 n1 c1] 192 (0, 0)) :: l) z)) : effUpon Tryz.prog L o.dst a D K ((execOp a.eval o).run Tryz.prog w) := by
  have h := hS.alloc hl (.cells #[.int .i64 i1, .int .i64 i2, .int .i64 i3, .int .i64 i4, .slice a1 n1 c1] 192)
  rw [exec_bldE x ho i1 i2 i3 i4 a1 n1 c1 hx]
  exact eff_value D _ rfl h (fun z hz => hD z _ hz) (fun _ h => h) (hk _)
theorem eff_bldP {L : Prop} {o : Oper} {a : Act} {D : WP} {K : Act → WP → WP → Prop} (hl : ∀ B ∈ l, Stable B) (hS : Sts W l w) (x : Operand) (ho : o.op = .buildSlice 183 1 #[(0, x)]) (i1 : Int) (a1 : Option Addr) (n1 c1 : Nat) (hx : a.eval x = .agg #[.int .i64 i1, .slice a1 n1 c1])
    (hD : ∀ z g, Sts W (blkP g (.cells #[.int .i64 i1, .slice a1 n1 c1] 188 (0, 0)) :: l) z → D z)
    (hk : ∀ g, K (a.put o.dst (.slice (some ⟨g, 0, none⟩) 1 1)) D (fun z => Sts W (blkP g (.cells #[.int .i64 i1, .slice a1 n1 c1] 188 (0, 0)) :: l) z)) : effUpon Tryz.prog L o.dst a D K ((execOp a.eval o).run Tryz.prog w) := by
  have h := hS.alloc hl (.cells #[.int .i64 i1, .slice a1 n1 c1] 188)
  rw [exec_bldP x ho i1 a1 n1 c1 hx]
  exact eff_value D _ rfl h (fun z hz => hD z _ hz) (fun _ h => h) (hk _)
set_option maxRecDepth 100000 in
set_option maxHeartbeats 4000000 in
theorem cAddNew {rest : List HProp} (hl : ∀ B ∈ rest, Stable B) (q : Nat) (v : Value) (xs : List Value) (m : Arc.Arch) (hx : ∀ k (hk : k < m.length), xs[k * 2]? = some (.int .i64 (m[k].1 : Int))) (hx1 : ∀ u ∈ xs, u.oneCell' = true) (hn : m.length < 1000) (a n t : Nat) (da : Option Addr) (dc : Nat) (d : List Nat)
    (hno : Arc.isA a m (Arc.find a m) = false) (ha : a ≤ 2046) (hnn : n < 16384) (ht : t ≤ 1099511627776) (hd : d.length ≤ 4096) (hR : Rds W rest (.slice da d.length dc) (u8s d)) (hv : NilOk (.slice da d.length dc))
    (hs : Sts W (blkP q (.cells #[.bool true, v] 185 (0, 0)) :: rowP 188 2 v m.length xs :: rest) w) :
    Calls Tryz.prog 36 #[.pointer (some ⟨q, 0, none⟩), .agg (itmV a n t (.slice da d.length dc))] w fun e w' => e = .returned (.int .i64 0) ∧ ∃ v' ev dv', Sts W (blkP q (.cells #[.bool true, v'] 185 (0, 0)) :: rowP 188 2 v' (m.length + 1) (xs.take (Arc.find a m * 2) ++ [.int .i64 (a : Int), ev] ++ xs.drop (Arc.find a m * 2)) :: rowP 192 5 ev 1 [.int .i64 (n : Int), .int .i64 (a : Int), .int .i64 (n : Int), .int .i64 (t : Int), dv'] :: rowP 5 1 dv' d.length (u8s d) :: rest) w' := by
  obtain ⟨va, vc, rfl⟩ := own_slice (Sts.rowOwnS' hs.tail)
  have KF := hid (fun (y : World) (L : List HProp) (hy : Sts W (blkP q (.cells #[.bool true, .slice va m.length vc] 185 (0, 0)) :: rowP 188 2 (.slice va m.length vc) m.length xs :: L) y) => cArcFind q (.slice va m.length vc) xs m hx hn hy a)
  rw [hno] at KF
  obtain ⟨K, hK⟩ : ∃ K, K = Arc.find a m := ⟨_, rfl⟩
  have HKN := hid (Arc.find_le a m)
  rw [← hK] at KF HKN ⊢
  obtain ⟨N, hN⟩ : ∃ N, N = m.length := ⟨_, rfl⟩
  rw [← hN] at KF HKN hs hn ⊢
  have HS := hid ((Sts.alloc (stabC (blkP_stable _ _) (stabC (rowP_stable _ _ _ _ _) hl)) hs (.cells (itmV a n t (.slice da d.length dc)) 102)).swap)
  have HL := hid hl
  have HX1 := hid hx1
  have HNN := hid hn
  have KV := hid (fun (y : World) (hy : Sts W (blkP q (.cells #[.bool true, .slice va N vc] 185 (0, 0)) :: blkP w.heap.size (.cells (itmV a n t (.slice da d.length dc)) 102 (0, 0)) :: rowP 188 2 (.slice va N vc) N xs :: rest) y) => cArcValid q (.slice va N vc) hy)
  have KR := hid (fun (y : World) => cArcRight y a n t da d.length dc ha hnn ht hd)
  have KD := hid (fun (y : World) (hy : Sts W (blkP q (.cells #[.bool true, .slice va N vc] 185 (0, 0)) :: blkP w.heap.size (.cells (itmV a n t (.slice da d.length dc)) 102 (0, 0)) :: rowP 188 2 (.slice va N vc) N xs :: rest) y) => cArcDup y a n t (.slice da d.length dc) d (hR _ _ (Sts.sub hy (.cons_cons _ (.cons _ (.cons _ (List.Sublist.refl _)))))) hv (by omega))
  have HDP := hid (show ∀ (T : List HProp) (y : World), Sts W (blkP q (.cells #[.bool true, .slice va N vc] 185 (0, 0)) :: blkP w.heap.size (.cells (itmV a n t (.slice da d.length dc)) 102 (0, 0)) :: T) y → y.cell? ⟨q, 1, none⟩ = some (.slice va N vc) ∧ y.cell? ⟨w.heap.size, 0, none⟩ = some (.int .i64 (a : Int)) ∧ y.cell? ⟨w.heap.size, 1, none⟩ = some (.int .i64 (n : Int)) ∧ (loadVar 102 ⟨w.heap.size, 0, none⟩).run Tryz.prog y = .ok (.agg (itmV a n t (.slice da d.length dc))) y from fun T y hy => ⟨(Sts.boxCell hy 1 _ rfl).1, (Sts.boxCell hy.swap 0 _ rfl).1, (Sts.boxCell hy.swap 1 _ rfl).1, ldItm (cs := itmV a n t (.slice da d.length dc)) rfl hy.swap⟩)
  clear hl hx hx1 hn hno ha hnn ht hd hR hv hs hK hN
  go_enter Tryz.func36, Tryz.ntmps36
  go_wp2_with fail
  refine (KV.out _ HS.out).mono ?_
  rintro e w1 ⟨rfl, rfl⟩
  go_wp2_with (first
    | (refine wpList_ldS rfl (.tmp 3) 102 rfl rfl (.agg (itmV a n t (.slice da d.length dc))) (HDP.out _ _ HS.out).2.2.2 ?_)
    | (go_at_call 97; refine (KR.out _).mono ?_; rintro e w2 ⟨rfl, h2⟩
       have H2 := hid (HS.out.quiet (stabC (blkP_stable _ _) (stabC (blkP_stable _ _) (stabC (rowP_stable _ _ _ _ _) (HL.out)))) h2)
       obtain ⟨q0, q1, q2, q3⟩ := HDP.out _ _ H2.out
       clear h2))
  refine (KF.out _ _ (H2.out.perm ((List.Perm.swap _ _ _).cons _))).mono ?_
  rintro e w3 ⟨rfl, j, rfl⟩
  have H5 := hid (H2.out.quiet (stabC (blkP_stable _ _) (stabC (blkP_stable _ _) (stabC (rowP_stable _ _ _ _ _) (HL.out)))) (below_drewN (Below.refl _ _) j))
  clear H2 HS q0 q1 q2 q3
  go_wp2_with fail
  refine wp_region_ordQS (fun i => i == 19) (.pure 0 (.pure 1 (.pure 2 (.pure 3 (.pure 4 (.pure 5 (.pure 6 (.pure 7 (.pure 8 (.pure 9 (.pure 10 (.eff 11 (.pure 12 (.eff 13 (.pure 14 (.eff 15 (.eff 16 (.pure 17 (.pure 18 (.eff 19 .nil)))))))))))))))))))) (fun y => y.cell? ⟨q, 1, none⟩ = some (.slice va N vc) ∧ y.cell? ⟨w.heap.size, 0, none⟩ = some (.int .i64 (a : Int)) ∧ y.cell? ⟨w.heap.size, 1, none⟩ = some (.int .i64 (n : Int)) ∧ (loadVar 102 ⟨w.heap.size, 0, none⟩).run Tryz.prog y = .ok (.agg (itmV a n t (.slice da d.length dc))) y) (fun y => Sts W (blkP q (.cells #[.bool true, .slice va N vc] 185 (0, 0)) :: blkP w.heap.size (.cells (itmV a n t (.slice da d.length dc)) 102 (0, 0)) :: rowP 188 2 (.slice va N vc) N xs :: rest) y) (by kernel_rfl) (by kernel_rfl) (H5.out.drew (stabC (blkP_stable _ _) (stabC (blkP_stable _ _) (stabC (rowP_stable _ _ _ _ _) (HL.out))))) (fun y hy => HDP.out _ y hy) ?_
  iterate 10
    (apply ordq_pure (ho := rfl)
     · go_simp
     · intro x hx; obtain ⟨x1, x2, x3, x4⟩ := hx; go_simp; rfl
     apply ordq_norm
     · go_simp; rfl)
  apply ordq_pure (ho := rfl)
  · go_simp
  · exact fun x hx => exec_ldS (.tmp 3) 102 rfl rfl hx.2.2.2
  apply ordq_norm
  · go_simp; rfl
  apply ordq_eff (ho := rfl)
  · go_simp
  intro y hy
  refine eff_call (f := 94) (by go_simp) (KD.out y hy) ?_
  rintro e w3 ⟨r, rfl, h3⟩
  obtain ⟨ra, rc, rfl⟩ := own_slice h3.1
  have h4 := (Sts.new (stabC (blkP_stable _ _) (stabC (blkP_stable _ _) (stabC (rowP_stable _ _ _ _ _) (HL.out)))) hy h3).third'
  refine ⟨_, rfl, (fun y => y.cell? ⟨q, 1, none⟩ = some (.slice va N vc) ∧ y.cell? ⟨w.heap.size, 0, none⟩ = some (.int .i64 (a : Int)) ∧ y.cell? ⟨w.heap.size, 1, none⟩ = some (.int .i64 (n : Int)) ∧ (loadVar 102 ⟨w.heap.size, 0, none⟩).run Tryz.prog y = .ok (.agg (itmV a n t (.slice da d.length dc))) y), (fun y => Sts W (blkP q (.cells #[.bool true, .slice va N vc] 185 (0, 0)) :: blkP w.heap.size (.cells (itmV a n t (.slice da d.length dc)) 102 (0, 0)) :: rowP 5 1 (.slice ra (u8s d).length rc) (u8s d).length (u8s d) :: rowP 188 2 (.slice va N vc) N xs :: rest) y), h4, (fun y hy => HDP.out _ y hy), (fun _ h => h), ?_⟩
  clear h4 hy y h3
  apply ordq_norm
  · go_simp; rfl
  iterate 1
    (apply ordq_pure (ho := rfl)
     · go_simp
     · intro x hx; go_simp; rfl
     apply ordq_norm
     · go_simp; rfl)
  apply ordq_eff (ho := rfl)
  · go_simp
  intro y hy
  refine eff_bldE (stabC (blkP_stable _ _) (stabC (blkP_stable _ _) (stabC (rowP_stable _ _ _ _ _) (stabC (rowP_stable _ _ _ _ _) (HL.out))))) hy (.tmp 37) rfl (n : Int) (a : Int) (n : Int) (t : Int) ra (u8s d).length rc ?_ (fun z g hz => HDP.out _ z hz.tail) ?_
  · go_simp
  intro g1
  apply ordq_norm
  · go_simp; rfl
  clear hy y
  iterate 1
    (apply ordq_pure (ho := rfl)
     · go_simp
     · intro x hx; go_simp; rfl
     apply ordq_norm
     · go_simp; rfl)
  apply ordq_eff (ho := rfl)
  · go_simp
  intro y hy
  refine eff_bldP (stabC (rowP_stable _ _ _ _ _) (stabC (blkP_stable _ _) (stabC (blkP_stable _ _) (stabC (rowP_stable _ _ _ _ _) (stabC (rowP_stable _ _ _ _ _) (HL.out)))))) hy (.tmp 39) rfl (a : Int) (some ⟨g1, 0, none⟩) 1 1 ?_ (fun z g hz => HDP.out _ z hz.tail.tail) ?_
  · go_simp
  intro g2
  apply ordq_norm
  · go_simp; rfl
  clear hy y
  apply ordq_eff (ho := rfl)
  · go_simp
  intro y hy
  refine eff_call (f := 99) (by go_simp) (cInsP (stabC (rowP_stable _ _ _ _ _) (stabC (blkP_stable _ _) (stabC (blkP_stable _ _) (stabC (rowP_stable _ _ _ _ _) (HL.out))))) K N g2 (.slice va N vc) xs #[.int .i64 (a : Int), .slice (some ⟨g1, 0, none⟩) 1 1] rfl (by intro u hu; simp at hu; rcases hu with rfl | rfl <;> rfl) HX1.out HKN.out HNN.out (hy.perm (List.perm_middle (l₁ := [_, _, _, _, _])))) ?_
  rintro e w3 ⟨vi, rfl, h3⟩
  obtain ⟨v2, c2, rfl⟩ := own_slice (Sts.rowOwnS' h3)
  refine ⟨_, rfl, (fun y => y.cell? ⟨q, 1, none⟩ = some (.slice va N vc) ∧ y.cell? ⟨w.heap.size, 0, none⟩ = some (.int .i64 (a : Int)) ∧ y.cell? ⟨w.heap.size, 1, none⟩ = some (.int .i64 (n : Int)) ∧ (loadVar 102 ⟨w.heap.size, 0, none⟩).run Tryz.prog y = .ok (.agg (itmV a n t (.slice da d.length dc))) y), (fun y => Sts W (rowP 188 2 (.slice v2 (N + 1) c2) (N + 1) (xs.take (K * 2) ++ (#[.int .i64 (a : Int), .slice (some ⟨g1, 0, none⟩) 1 1] : Array Value).toList ++ xs.drop (K * 2)) :: rowP 192 5 (.slice (some ⟨g1, 0, none⟩) 1 1) 1 [.int .i64 (n : Int), .int .i64 (a : Int), .int .i64 (n : Int), .int .i64 (t : Int), .slice ra (u8s d).length rc] :: blkP q (.cells #[.bool true, .slice va N vc] 185 (0, 0)) :: blkP w.heap.size (.cells (itmV a n t (.slice da d.length dc)) 102 (0, 0)) :: rowP 5 1 (.slice ra (u8s d).length rc) (u8s d).length (u8s d) :: rest) y), h3, (fun y hy => HDP.out _ y hy.tail.tail), (fun _ h => h), ?_⟩
  clear h3 hy y 
  apply ordq_norm
  · go_simp; rfl
  iterate 2
    (apply ordq_pure (ho := rfl)
     · go_simp
     · intro x hx; go_simp; rfl
     apply ordq_norm
     · go_simp; rfl)
  apply ordq_eff (ho := rfl)
  · go_simp
  intro y hy
  refine effS_cellS rfl hy.third (stabC (rowP_stable _ _ _ _ _) (stabC (rowP_stable _ _ _ _ _) (stabC (blkP_stable _ _) (stabC (rowP_stable _ _ _ _ _) (HL.out))))) (.tmp 43) (.tmp 41) 183 rfl 1 (.slice v2 (N + 1) c2) ?_ ?_ szSlP (show 1 < 2 by decide) rfl (fun y' => Sts W (blkP q (.cells #[.bool true, .slice v2 (N + 1) c2] 185 (0, 0)) :: rowP 188 2 (.slice v2 (N + 1) c2) (N + 1) (xs.take (K * 2) ++ (#[.int .i64 (a : Int), .slice (some ⟨g1, 0, none⟩) 1 1] : Array Value).toList ++ xs.drop (K * 2)) :: rowP 192 5 (.slice (some ⟨g1, 0, none⟩) 1 1) 1 [.int .i64 (n : Int), .int .i64 (a : Int), .int .i64 (n : Int), .int .i64 (t : Int), .slice ra (u8s d).length rc] :: blkP w.heap.size (.cells (itmV a n t (.slice da d.length dc)) 102 (0, 0)) :: rowP 5 1 (.slice ra (u8s d).length rc) (u8s d).length (u8s d) :: rest) y') (fun y' hy' => hy') ?_
  · go_simp
  · go_simp
  apply ordq_norm
  · go_simp; rfl
  clear hy y
  refine ordq_nil fun z hz => ?_
  have HZ := hid hz
  clear hz H5
  go_wp2_with fail
  go_ret
  refine ⟨rfl, .slice v2 (N + 1) c2, .slice (some ⟨g1, 0, none⟩) 1 1, .slice ra d.length rc, ?_⟩
  have h9 := Sts.sub HZ.out (.cons_cons _ (.cons_cons _ (.cons_cons _ (.cons _ (List.Sublist.refl _)))))
  rw [u8s_len, List.append_assoc] at h9
  exact h9
end
end Go.Proofs.YtnklmadmenkdoaaGreat
