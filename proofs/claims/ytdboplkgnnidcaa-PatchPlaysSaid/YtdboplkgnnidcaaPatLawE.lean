/- The law PatchPlays: its walk. -/
import Derived.Test.YtdboplkgnnidcaaPatOps
import Derived.Test.YtdboplkgnnidcaaOrdR
import Derived.Test.YtdboplkgnnidcaaPatLawA
import Derived.Maps.AppendAt
set_option linter.unusedVariables false
namespace Go.Proofs.Ytdboplkgnnidcaa
open Go.RowKit Go.Proofs.Num
/-- The class of the worlds above W0 in which the slice v of k words is a row of new memory. -/
def Grown (W0 : World) (v : Value) (k : Nat) (ys : List Nat) : World → Prop := fun y => Up W0 y ∧ y.ownsRow W0.heap.size 48 1 v k (u32s ys)
set_option maxRecDepth 100000 in
theorem ord_append {W0 w : World} {o : Oper} {a : Act} {K : Act → WP → WP → Prop} {v src : Value} {k : Nat} {ys zs : List Nat} (hS : Grown W0 v k ys w) (s x : Operand) (ho : o.op = .call { callee := .builtin .append, args := #[s, x], argTypes := #[22, 22] })
    (hs : a.eval s = v) (hx : a.eval x = src) (hR : Rd W0 src (u32s zs)) (hne : ∃ ad m c, src = .slice (some ad) m c) (hlen : k + zs.length ≤ 1000000000)
    (hk : ∀ v', K (a.put o.dst v') (Up W0) (Grown W0 v' (k + zs.length) (ys ++ zs))) : effUpon Try.prog o.dst a (Up W0) K ((execOp a.eval o).run Try.prog w) := by
  obtain ⟨hu, hown⟩ := hS
  obtain ⟨ad, m, c, rfl⟩ := hne
  obtain ⟨a1, c1, e, _, hc⟩ := hR
  injection e with e1 e2 e3
  rw [u32s_len] at e2
  subst e1; subst e2; subst e3
  obtain ⟨i0, hi, hz0, hz1, hz2⟩ := info_parts info32
  have hnews : ∀ j u, (u32s zs)[j]? = some u → w.cell? (ad.add j) = some u := by
    intro j u hj
    have hjl : j < (u32s zs).length := by
      rcases Nat.lt_or_ge j (u32s zs).length with h | h
      · exact h
      · rw [List.getElem?_eq_none h] at hj; cases hj
    obtain ⟨b, off, h1, h2, h3⟩ := hc j hjl
    injection h1 with h1
    subst h1
    have e : ((⟨b, off, none⟩ : Addr).add j) = ⟨b, off + j, none⟩ := add_plain b off j
    rw [e, Below.cell hu h2, h3]
    rw [List.getElem?_eq_getElem hjl] at hj; exact hj
  obtain ⟨v', w', hrun, hown', hgr, _, hblk⟩ := run_append_own_at (P := Try.prog) w W0.heap.size 22 o.type 48 i0 (.int .u32 0) 1 4 Try.underlying22 hi hz0 hz1 hz2 rfl (by decide) v k (u32s ys) hown ad zs.length c (u32s zs) (by simp [u32s_len]) hnews (u32s_one zs) (by unfold maxLen; omega) (by omega) hu.size
  have hup : Up W0 w' := Below.grown hu hgr hu.size (fun q hq => (hown.lt q hq).1)
  have hr : (execOp a.eval o).run Try.prog w = .ok (.value v') w' := by
    simp [execOp, ho, resolve, invoke, builtin, hs, hx, hrun, Result.andThen]
  exact eff_value (Up W0) (Grown W0 v' (k + zs.length) (ys ++ zs)) hr ⟨hup, by rw [u32s_app]; exact hown'⟩ (fun y hy => hy.1) (fun y hy => hy) (hk v')
theorem own_at {w : World} {e : TypeId} {g n cap B : Nat} {xs : List Value} (h : w.ownsRow 0 e 1 (.slice (some ⟨g, 0, none⟩) n cap) n xs) (hB : B ≤ g) : w.ownsRow B e 1 (.slice (some ⟨g, 0, none⟩) n cap) n xs := by
  obtain ⟨h1, h2⟩ := h
  refine ⟨h1, ?_⟩
  rcases h2 with ⟨h2, _⟩ | ⟨g', cap', cur, hv, _, r⟩
  · cases h2
  · have hg : g = g' := by injection hv with hv; injection hv with hv; injection hv
    exact Or.inr ⟨g', cap', cur, hv, by omega, r⟩
theorem made_new {w w1 : World} {n : Nat} (hown : w1.ownsRow 0 48 1 (.slice (some ⟨w.heap.size, 0, none⟩) n n) n (madeCells (Value.int IntKind.u32 0).cells (n * 1)).toList) (hgr : w.grownBy w1 none) :
    New w w1 48 (.slice (some ⟨w.heap.size, 0, none⟩) n n) (u32s (List.replicate n 0)) := by
  have e : (madeCells (Value.int IntKind.u32 0).cells (n * 1)).toList = u32s (List.replicate n 0) := by
    show (madeCells #[Value.int IntKind.u32 0] (n * 1)).toList = _
    rw [toList_madeCells_one]; simp [u32s]
  rw [e] at hown
  refine ⟨?_, (Below.refl _ _).grown hgr (Nat.le_refl _) (by intro k hk; simp at hk)⟩
  rw [show (u32s (List.replicate n 0)).length = n by simp [u32s]]
  exact own_at hown (Nat.le_refl _)
def opSum (s : Pat.Opn) : Nat := if s.right then sum16 s.xs else s.sum
set_option maxRecDepth 100000 in
theorem plays_few (w : World) (z : Int) (v : Value) (S : List Pat.Opn) (hS : OpsAt w v S) (h : z < 1 ∨ 200 < z) :
    Calls Try.prog 4 #[.int .i64 z, v] w fun e w' => e = .returned (.bool true) ∧ Below w.heap.size w w' := by
  obtain ⟨a, cap, rfl, _⟩ := hS
  by_cases h1 : z < 1
  · go_enter Try.func4, Try.ntmps4
    go_wp2_with fail
    refine (cAlive w).mono ?_; rintro e w1 ⟨rfl, h1⟩
    go_wp2_with fail
    go_ret
    exact ⟨rfl, h1⟩
  · have h2 : 200 < z := by omega
    go_enter Try.func4, Try.ntmps4
    go_wp2_with fail
    refine (cAlive w).mono ?_; rintro e w1 ⟨rfl, h1⟩
    go_wp2_with fail
    go_ret
    exact ⟨rfl, h1⟩
/-- The parts of the state. -/
def pparts (p : Nat) (v : Value) (n : Nat) (W1 : List Nat) : List HProp := [wordP p 0 W1, rowP 48 1 v n (u32s W1)]
theorem own_nonnil {w : World} {b : Nat} {e : TypeId} {v : Value} {n : Nat} {xs : List Value} (h : w.ownsRow b e 1 v n xs) (hn : 1 ≤ n) : ∃ g cap, v = .slice (some ⟨g, 0, none⟩) n cap := by
  rcases h.2 with ⟨_, h2⟩ | ⟨g, cap, cur, hv, _⟩
  · omega
  · exact ⟨g, cap, hv⟩
theorem want_rd {w w' : World} {A BX : HProp} {g n acap a1 m1 : Nat} {W1 : List Nat} (hs : Sts w [A, rowP 48 1 (.slice (some ⟨g, 0, none⟩) n acap) n (u32s W1), BX] w') (hW : W1.length = n) (hm : a1 + m1 ≤ n) (hcp : n ≤ acap ∧ acap ≤ maxLen)
    (hval : ∀ x ∈ W1, x < 4294967296) : RdW w' (.slice (some ⟨g, a1, none⟩) m1 (acap - a1)) (Pat.cut W1 a1 m1) := by
  subst hW
  have hr := Rd.of_own hs.swap.rowOwn (u32s_len W1)
  have h1 := hr.drop a1 (by rw [u32s_len]; omega) (some ⟨g, a1, none⟩) (acap - a1) (by rw [u32s_len]; omega) (by
    intro b off _ e
    simp only [Option.some.injEq, Addr.mk.injEq, and_true] at e
    obtain ⟨rfl, rfl⟩ := e
    simp)
  have h2 := h1.take m1 (by simp [u32s_len]; omega) (acap - a1) (by omega)
  refine ⟨?_, Pat.cut_lt _ _ _ hval⟩
  have e : u32s (Pat.cut W1 a1 m1) = ((u32s W1).drop a1).take m1 := by simp [u32s, Pat.cut, List.map_take, List.map_drop]
  rw [e]; exact h2
set_option maxHeartbeats 8000000 in
set_option maxRecDepth 100000 in
theorem plays_main (w : World) (n : Nat) (hn1 : 1 ≤ n) (hn2 : n ≤ 200) (v : Value) (S : List Pat.Opn) (hS : OpsAt w v S) :
    Calls Try.prog 4 #[.int .i64 n, v] w fun e w' => e = .returned (.bool true) ∧ Below w.heap.size w w' := by
  have KF := hid (cFew w v S hS)
  obtain ⟨a, cap, rfl, hm, hx⟩ := hS
  have HX := hid hx
  unfold maxLen at hm
  clear hx
  obtain ⟨i0, hi, hz0, hz1, hz2⟩ := info_parts info32
  have KN := hid (Sts.call stab0 (Sts.withEmp (Sts.nil w)) (wNew n (by omega)))
  go_enter Try.func4, Try.ntmps4
  go_wp2_with fail
  refine KF.out.mono ?_; rintro e w0 ⟨b, rfl, hb, rfl⟩
  have HB := hid hb
  clear hb
  cases b with
  | false =>
    go_wp2_with fail
    refine (cAlive w).mono ?_; rintro e w1 ⟨rfl, h1⟩
    go_wp2_with fail
    go_ret
    exact ⟨rfl, h1⟩
  | true =>
    obtain ⟨hS40, hS200⟩ := HB.out rfl
    go_wp2_with fail
    refine KN.out.mono ?_; rintro e w1 ⟨p, rfl, g1⟩
    have G1 : Hid (Sts w [wordP p 0 (List.replicate n 0)] w1) := g1.weaken (fun F h => h.word)
    clear g1 KN KF HB
    go_wp2_with (at_make; refine wpList_make_full _ rfl (.tmp 32) (.tmp 32) 22 rfl 0 48 i0 (.int .u32 0) 1 Try.underlying22 hi hz0 hz1 .i64 .i64 _ _ n rfl rfl (by omega) (by omega) (by rw [hz2]; omega) (by unfold maxLen; omega) (Nat.zero_le _) ?_; intro w2 hown hgr)
    have hN := made_new hown hgr
    have HP : Sts w (pparts p (.slice (some ⟨w1.heap.size, 0, none⟩) n n) n (List.replicate n 0)) w2 := by
      have := (G1.out.new (stab1 (wordP_stable _ _ _)) hN).swap
      unfold pparts
      rw [u32s_len, List.length_replicate] at this
      exact this
    have H0 := hid HP
    clear HP hN hown hgr G1 hi hz0 hz1 hz2
    generalize Value.slice (some ⟨w1.heap.size, 0, none⟩) n n = v0 at *
    clear w1
    go_wp2_with fail
    go_loopw [6, 7] (fun av i wr => ∃ k : Nat, k ≤ S.length ∧ i = .int .i64 k ∧ ∃ W1 : List Nat, W1.length = n ∧ Sts w (pparts p av n W1) wr) (fun _ i _ => S.length - (intOf i).toNat)
    case atStart => exact ⟨0, by omega, rfl, _, by simp, H0.out⟩
    case round =>
      obtain ⟨k, hk, rfl, W1, hW, hs⟩ := hrel
      clear H0
      by_cases hlt : k < S.length
      · obtain ⟨b, off, rfl, hb, hC, hR, hpos, hnn, hsum⟩ := HX.out k hlt
        have hC' := hC.below hb hs.below
        have hxs := hS200 _ (List.getElem_mem hlt)
        have HR := hid hR
        clear hC hR
        obtain ⟨c0, c1, c2, c3, c4, c5⟩ := hC'
        generalize S[k] = s at *
        obtain ⟨sl, sa, sn, lv, xs, sm, sr⟩ := s
        simp only at c0 c1 c2 c3 c4 c5 hpos hnn hsum hxs HR
        obtain ⟨la, lc, rfl, hj⟩ := HR.out.open
        clear hj
        have hst : ∀ B ∈ pparts p u6 n W1, Stable B := st2 (wordP_stable _ _ _) (rowP_stable _ _ _ _ _) stab0
        have G1 := hid (hs.alloc hst (.cells #[.bool sl, .int .i64 sa, .int .i64 sn, .slice la xs.length lc, .int .u16 sm, .bool sr] 38))
        clear hs hst
        have hrange := hid hpos
        have hrangen := hid hnn
        have hlx : xs.length < 1000000000 := by omega
        cases sl with
        | false =>
          go_wp2_with fail
          obtain ⟨BX, hBX, hcells, GX⟩ : ∃ BX : HProp, Stable BX ∧ (∀ w', Sts w [wordP p 0 W1, rowP 48 1 u6 n (u32s W1), BX] w' → w'.cell? ⟨wr.heap.size, 1, none⟩ = some (.int .i64 sa) ∧ w'.cell? ⟨wr.heap.size, 2, none⟩ = some (.int .i64 sn)) ∧
              Hid (Sts w [wordP p 0 W1, rowP 48 1 u6 n (u32s W1), BX] (wr.alloc (.cells #[.bool false, .int .i64 sa, .int .i64 sn, .slice la xs.length lc, .int .u16 sm, .bool sr] 38))) :=
            ⟨_, blkP_stable wr.heap.size (.cells #[.bool false, .int .i64 sa, .int .i64 sn, .slice la xs.length lc, .int .u16 sm, .bool sr] 38 (0, 0)), fun w' h => ⟨(h.third.boxCell 1 _ rfl).1, (h.third.boxCell 2 _ rfl).1⟩, G1.out.third'⟩
          clear G1
          generalize wr.heap.size = bx at *
          generalize wr.alloc (.cells #[.bool false, .int .i64 sa, .int .i64 sn, .slice la xs.length lc, .int .u16 sm, .bool sr] 38) = w3 at *
          generalize u6 = av at *
          obtain ⟨d, hd⟩ : ∃ d, Pat.chkE n sa sn = d := ⟨_, rfl⟩
          have KA := hid (cArea n (by omega) sa sn hrange.out w3)
          have hl3 : ∀ B ∈ [rowP 48 1 av n (u32s W1), BX], Stable B := st2 (rowP_stable _ _ _ _ _) hBX stab0
          have KD := hid (fun w' (hs : Sts w [wordP p 0 W1, rowP 48 1 av n (u32s W1), BX] w') => wDump (by decide) hl3 hs sa sn hrange.out)
          have hval : ∀ x ∈ W1, x < 4294967296 := by obtain ⟨F, q⟩ := GX.out.head; exact q.val
          have hz := @chkE_zero n sa sn
          unfold Dumped at KD
          rw [hW, hd] at KD
          rw [hd] at KA hz
          have HC0 := hid hcells
          have HW1 := hid hW
          obtain ⟨cc1, cc2⟩ := hcells _ GX.out
          by_cases hd0 : d = 0
          · obtain ⟨hz1, hz2, hz3⟩ := hz hd0
            obtain ⟨a1, rfl⟩ := Int.eq_ofNat_of_zero_le hz2
            obtain ⟨m1, rfl⟩ := Int.eq_ofNat_of_zero_le (show 0 ≤ sn by omega)
            subst hd0
            have KC := hid (fun w' r (hs : Sts w [wordP p 0 W1, rowP 48 1 r m1 (u32s (Pat.cut W1 a1 m1)), rowP 48 1 av n (u32s W1), BX] w') => wCheck (by decide) (st3 (rowP_stable _ _ _ _ _) (rowP_stable _ _ _ _ _) hBX stab0) hs a1 m1 hrange.out hval)
            rw [hW, hd, if_pos rfl] at KC
            simp only [Int.toNat_natCast] at KC KD
            have hrow := GX.out.swap.rowOwn
            obtain ⟨g, acap, rfl⟩ := own_nonnil hrow hn1
            have hcp := (Rd.of_own hrow (by rw [u32s_len]; exact hW)).cap.2
            have hcl : (Pat.cut W1 a1 m1).length = m1 := Pat.cut_len _ _ _ (by omega)
            have HWant := hid (fun A w' (hs : Sts w [A, rowP 48 1 (.slice (some ⟨g, 0, none⟩) n acap) n (u32s W1), BX] w') => want_rd hs hW (by omega) hcp hval (a1 := a1) (m1 := m1))
            unfold maxLen at hcp
            have q1 : acap ≠ a1 := by omega
            have q2 : n ≤ acap := hcp.1
            have hlen1 : (Pat.cut W1 a1 m1).length < 1000000000 := by omega
            have hctl := hid (Pat.cut_lt W1 a1 m1 hval)
            have HCL := hid hcl
            clear hrow hval hcells hd
            generalize hct : Pat.cut W1 a1 m1 = ct at *
            clear hct hcl
            refine KA.out.mono ?_; rintro e w4 ⟨rfl, rfl⟩
            have KS := hid (cRSum w3 _ ct (HWant.out _ _ GX.out) hlen1)
            go_wp2_with fail
            refine KS.out.mono ?_; rintro e w5 ⟨rfl, h5⟩
            have G5 := hid (GX.out.quiet (stabC (wordP_stable _ _ _) hl3) h5)
            obtain ⟨e1, e2⟩ := HC0.out _ G5.out
            clear h5 GX KS KA cc1 cc2
            go_wp2_with fail
            refine (KD.out w5 G5.out).mono ?_; rintro e w6 (⟨h6, _⟩ | ⟨_, r, rfl, h6⟩)
            · exact absurd rfl h6
            have G6 := hid h6.swap
            obtain ⟨f1, f2⟩ := HC0.out _ h6.tail
            clear h6 G5 e1 e2
            go_wp2_with fail
            refine (KC.out w6 r G6.out).mono ?_; rintro e w7 ⟨rfl, h7⟩
            have R7 := hid (show RdW w7 r ct from ⟨by obtain ⟨F, q, _⟩ := h7.swap.head; exact Rd.of_own q (by rw [u32s_len]; exact HCL.out), hctl.out⟩)
            have T7 := hid (h7.third'.swap.tail.third)
            have G7 := hid (h7.swap.tail)
            clear h7 G6 f1 f2
            have KE := hid (cSame w7 _ _ ct ct R7.out (HWant.out _ _ G7.out) hlen1 hlen1)
            have hdd : decide (ct = ct) = true := by simp
            go_wp2_with fail
            refine KE.out.mono ?_; rintro e w8 ⟨rfl, h8⟩
            have G8 := hid (G7.out.quiet (stabC (wordP_stable _ _ _) hl3) h8)
            clear h8 T7 G7 R7 KE
            go_wp2_with fail
            go_roundw
            case rel => exact ⟨k + 1, by omega, by go_num, W1, HW1.out, G8.out.third.tail⟩
            case measure => simp [intOf]; omega
          · have z0 : ((d : Int) == 0) = false := by simp; omega
            have z1 : ((d : Int) != d) = false := by simp
            have KC := hid (fun w' (hs : Sts w [wordP p 0 W1, rowP 48 1 av n (u32s W1), BX] w') => wCheck (by decide) hl3 hs sa sn hrange.out hval)
            rw [hW, hd, if_neg hd0] at KC
            have hnil : ([] : List Nat).length < 1000000000 := by decide
            have H0 := hid hd0
            clear hd0 hz hcells hd hval
            refine KA.out.mono ?_; rintro e w4 ⟨rfl, rfl⟩
            go_wp2_with fail
            refine (KD.out w3 GX.out).mono ?_; rintro e w6 (⟨_, rfl, h6⟩ | ⟨h6, _⟩)
            · have G6 := hid h6
              obtain ⟨f1, f2⟩ := HC0.out _ h6
              clear h6 GX cc1 cc2
              go_wp2_with fail
              refine (KC.out w6 G6.out).mono ?_; rintro e w7 ⟨rfl, h7⟩
              have G7 := hid h7
              clear h7 G6 f1 f2
              have hdd : decide (([] : List Nat) = []) = true := by simp
              go_wp2_with fail
              refine (cSame w7 _ _ [] [] (nil_rdW w7) (nil_rdW w7) hnil hnil).mono ?_; rintro e w8 ⟨rfl, h8⟩
              have G8 := hid (G7.out.quiet (stabC (wordP_stable _ _ _) hl3) h8)
              clear h8 G7
              go_wp2_with fail
              go_roundw
              case rel => exact ⟨k + 1, by omega, by go_num, W1, HW1.out, G8.out.third.tail⟩
              case measure => simp [intOf]; omega
            · exact absurd h6 H0.out
        | true =>
          cases sr with
          | false =>
            obtain ⟨z, hzz⟩ : ∃ z, z = sm := ⟨_, rfl⟩
            rw [← hzz] at G1 hsum
            go_wp2_with fail
            rw [← hzz]
            obtain ⟨BX, hBX, hcells5, GX⟩ : ∃ BX : HProp, Stable BX ∧ (∀ A B w', Sts w [A, B, BX] w' → w'.cell? ⟨wr.heap.size, 1, none⟩ = some (.int .i64 sa) ∧ w'.cell? ⟨wr.heap.size, 2, none⟩ = some (.int .i64 sn) ∧ w'.cell? ⟨wr.heap.size, 3, none⟩ = some (.slice la xs.length lc) ∧ w'.cell? ⟨wr.heap.size, 4, none⟩ = some (.int .u16 (z : Nat))) ∧
                Hid (Sts w [wordP p 0 W1, rowP 48 1 u6 n (u32s W1), BX] (wr.alloc (.cells #[.bool true, .int .i64 sa, .int .i64 sn, .slice la xs.length lc, .int .u16 z, .bool false] 38))) :=
              ⟨_, blkP_stable wr.heap.size (.cells #[.bool true, .int .i64 sa, .int .i64 sn, .slice la xs.length lc, .int .u16 z, .bool false] 38 (0, 0)), fun A B w' h => ⟨(h.third.boxCell 1 _ rfl).1, (h.third.boxCell 2 _ rfl).1, (h.third.boxCell 3 _ rfl).1, (h.third.boxCell 4 _ rfl).1⟩, G1.out.third'⟩
            clear G1 hzz
            generalize wr.alloc (.cells #[.bool true, .int .i64 sa, .int .i64 sn, .slice la xs.length lc, .int .u16 z, .bool false] 38) = w4 at *
            have KL := hid (fun w' (hs : Sts w [wordP p 0 W1, rowP 48 1 u6 n (u32s W1), BX] w') => wLoad (by decide) (st2 (rowP_stable _ _ _ _ _) hBX stab0) hs (.slice la xs.length lc) xs (RdsW.arg HR.out) sa hrange.out z hlx)
            have KM := hid (fun w' (h : Below w.heap.size w w') => cRLoad n (by omega) sa hrange.out (.slice la xs.length lc) xs z w' (HR.out.below h) hlx)
            rw [hW] at KL
            have HC5 := hid hcells5
            obtain ⟨cc1, cc2, cc3, cc4⟩ := hcells5 _ _ _ GX.out
            have hz0 := (fun (h : loadE n sa xs z = 0) => (show Pat.chkE n sa xs.length = 0 by unfold loadE at h; split at h; (· assumption); (· exact h)))
            generalize hc : loadE n sa xs z = c at *
            have zc : ((c : Int) != c) = false := by simp
            clear hcells5
            generalize wr.heap.size = bx at *
            go_wp2_with fail
            refine (KL.out _ GX.out).mono ?_; rintro e w5 ⟨rfl, g5⟩
            have G5 := hid g5
            have B5 := hid g5.below
            obtain ⟨f1, f2, f3, f4⟩ := HC5.out _ _ _ g5
            clear g5 GX cc1 cc2 cc3 cc4
            go_wp2_with fail
            refine (KM.out w5 B5.out).mono ?_; rintro e w3 ⟨rfl, g6⟩
            have hl3 : ∀ B ∈ [rowP 48 1 u6 n (u32s W1), BX], Stable B := st2 (rowP_stable _ _ _ _ _) hBX stab0
            have G6 := hid (G5.out.quiet (stabC (wordP_stable _ _ _) hl3) g6)
            clear g6 G5 B5 KL KM f1 f2 f3 f4
            have hcells : ∀ w', Sts w [wordP p 0 W1, rowP 48 1 u6 n (u32s W1), BX] w' → w'.cell? ⟨bx, 1, none⟩ = some (.int .i64 sa) ∧ w'.cell? ⟨bx, 2, none⟩ = some (.int .i64 sn) := fun w' h => ⟨(HC5.out _ _ _ h).1, (HC5.out _ _ _ h).2.1⟩
            by_cases hc0 : c = 0
            · rw [if_pos hc0] at G6
              obtain ⟨hm1, ha0, hsz⟩ := chkE_zero (hz0 hc0)
              subst hc0
              obtain ⟨a1, rfl⟩ := Int.eq_ofNat_of_zero_le ha0
              obtain ⟨W2, hW2⟩ : ∃ W2, Pat.upd W1 a1 xs = W2 := ⟨_, rfl⟩
              have hW2n : W2.length = n := by rw [← hW2, Pat.upd_len _ _ _ (by omega)]; exact hW
              have hrow := G6.out.swap.rowOwn
              obtain ⟨g, acap, rfl⟩ := own_nonnil hrow hn1
              have hRA := Rd.of_own hrow (by rw [u32s_len]; exact hW)
              have hcp := hRA.cap.2
              obtain ⟨lb, lo, rfl⟩ : ∃ b o, la = some ⟨b, o, none⟩ := by
                obtain ⟨la', lc', e, _, hcl⟩ := (HR.out.below G6.out.below).1
                injection e with e1 e2 e3
                obtain ⟨b, o, h, _⟩ := hcl 0 (by rw [u32s_len]; omega)
                exact ⟨b, o, by rw [e1, h]⟩
              have hRL : Rd w3 (.slice (some ⟨lb, lo, none⟩) xs.length lc) (u32s xs) := (HR.out.below G6.out.below).1
              have hRA1 := hid (show Rd w3 (.slice (some ⟨g, 0, none⟩) a1 acap) (u32s (W1.take a1)) from by have h := hRA.take a1 (by rw [u32s_len]; omega) acap (by omega); rw [show (u32s W1).take a1 = u32s (W1.take a1) by simp [u32s, List.map_take]] at h; exact h)
              obtain ⟨ad2, had2⟩ : ∃ ad2, (if acap = a1 + xs.length then (some ⟨g, 0, none⟩ : Option Addr) else some ⟨g, a1 + xs.length, none⟩) = some ad2 := by split <;> exact ⟨_, rfl⟩
              have hRA2 := hid (show Rd w3 (.slice (some ad2) (n - (a1 + xs.length)) (acap - (a1 + xs.length))) (u32s (W1.drop (a1 + xs.length))) from by
                have h := hRA.drop (a1 + xs.length) (by rw [u32s_len]; omega) (some ad2) (acap - (a1 + xs.length)) (by rw [u32s_len]; omega) (by
                  intro b off hlt e
                  simp only [Option.some.injEq, Addr.mk.injEq, and_true] at e
                  obtain ⟨rfl, rfl⟩ := e
                  rw [u32s_len] at hlt
                  rw [← had2, if_neg (by omega)]
                  simp)
                rw [u32s_len, hW, show (u32s W1).drop (a1 + xs.length) = u32s (W1.drop (a1 + xs.length)) by simp [u32s, List.map_drop]] at h; exact h)
              have HRL := hid hRL
              obtain ⟨f1, f2, f3, f4⟩ := HC5.out _ _ _ G6.out
              have CX := hid (fun x (hx : Up w3 x) => And.intro (show x.cell? ⟨bx, 1, none⟩ = some (.int .i64 (a1 : Int)) by rw [Below.cell hx (cell_lt f1)]; exact f1) (show x.cell? ⟨bx, 3, none⟩ = some (.slice (some ⟨lb, lo, none⟩) xs.length lc) by rw [Below.cell hx (cell_lt f3)]; exact f3))
              have hDr : Up w3 w3.drew := (Below.refl _ _).drew
              unfold maxLen at hcp
              have i1 : (0 : Int) ≤ (a1 : Int) := by omega
              have i2 : (a1 : Int) ≤ (acap : Int) := by omega
              have i3 : (a1 : Int) + xs.length ≤ (n : Int) := by omega
              have i4 : (n : Int) ≤ (acap : Int) := by omega
              have i5 : (0 : Int) ≤ (a1 : Int) + xs.length := by omega
              have i6 : IntKind.i64.wrap ((a1 : Int) + xs.length) = (a1 : Int) + xs.length := by rw [IntKind.wrap_i64]; omega
              have i7 : ((a1 : Int) + xs.length).toNat = a1 + xs.length := by omega
              clear f1 f2 f3 f4 hrow hRA hRL hz0 hc zc
              go_wp2_with fail
              refine wp_region_ord (.pure 1 (.pure 2 (.pure 3 (.pure 4 (.pure 6 (.pure 7 (.pure 9 (.pure 10 (.pure 11 (.pure 12 (.pure 13 (.pure 14 (.pure 15 (.pure 16 (.eff 0 (.eff 5 (.eff 8 (.eff 17 (.pure 18 .nil))))))))))))))))))) (Up w3) (Up w3) (by kernel_rfl) (by kernel_rfl) hDr (fun _ h => h) ?_
              clear hDr
              iterate 14
                (apply ord_pure (ho := rfl)
                 · go_simp
                 · intro x hx; obtain ⟨q1, q2⟩ := CX.out x hx; go_simp; rfl
                 apply ord_norm
                 · go_simp; rfl)
              apply ord_eff (ho := rfl)
              · go_simp
              intro x hx
              refine eff_value (v := .slice (some ⟨x.heap.size, 0, none⟩) 0 0) (w := x.alloc (.cells #[] 48)) (Up w3) (Grown w3 (.slice (some ⟨x.heap.size, 0, none⟩) 0 0) 0 []) ?_ ⟨Below.alloc hx hx.size _, World.ownsRow_lit x #[] 0 hx.size (by unfold maxLen; omega) rfl⟩ (fun _ h => h.1) (fun _ h => h) ?_
              · go_simp
              apply ord_norm
              · go_simp; rfl
              generalize x.heap.size = gx at *
              clear hx
              apply ord_eff (ho := rfl)
              · go_simp
              intro x hx
              refine ord_append hx (.tmp 73) (.tmp 77) rfl ?_ ?_ hRA1.out ⟨_, _, _, rfl⟩ (by simp; omega) ?_
              · go_simp
              · go_simp
              intro v1
              apply ord_norm
              · go_simp; rfl
              clear hx
              apply ord_eff (ho := rfl)
              · go_simp
              intro x hx
              refine ord_append hx (.tmp 78) (.tmp 80) rfl ?_ ?_ HRL.out ⟨_, _, _, rfl⟩ (by simp; omega) ?_
              · go_simp
              · go_simp
              intro v2
              apply ord_norm
              · go_simp; rfl
              clear hx
              apply ord_eff (ho := rfl)
              · go_simp
              intro x hx
              refine ord_append hx (.tmp 81) (.tmp 89) rfl ?_ ?_ hRA2.out ⟨_, _, _, rfl⟩ (by simp; omega) ?_
              · go_simp
              · go_simp; trace_state
              intro v3
              apply ord_norm
              · go_simp; rfl
              clear hx
              apply ord_pure (ho := rfl)
              · go_simp
              · intro x hx; go_simp; rfl
              apply ord_norm
              · go_simp; rfl
              refine ord_nil fun w13 hy => ?_
              have hNew : New w3 w13 48 v3 (u32s W2) := by
                refine ⟨?_, hy.1⟩
                have h := hy.2
                have e1 : 0 + (W1.take a1).length + xs.length + (W1.drop (a1 + xs.length)).length = (u32s W2).length := by rw [u32s_len, hW2n]; simp; omega
                have e2 : ([] : List Nat) ++ W1.take a1 ++ xs ++ W1.drop (a1 + xs.length) = W2 := by rw [← hW2]; simp [Pat.upd]
                rw [e1, e2] at h; exact h
              have g13 := G6.out.new (stabC (wordP_stable _ _ _) hl3) hNew
              rw [u32s_len, hW2n] at g13
              have GX : Hid (Sts w [wordP p 0 W2, rowP 48 1 v3 n (u32s W2), BX] w13) := by
                have h := g13.swap.third.tail
                simp only [Int.toNat_natCast, hW2] at h
                exact h
              have hcells2 : ∀ w', Sts w [wordP p 0 W2, rowP 48 1 v3 n (u32s W2), BX] w' → w'.cell? ⟨bx, 1, none⟩ = some (.int .i64 (a1 : Int)) ∧ w'.cell? ⟨bx, 2, none⟩ = some (.int .i64 sn) := fun w' h => ⟨(HC5.out _ _ _ h).1, (HC5.out _ _ _ h).2.1⟩
              obtain ⟨cc1, cc2⟩ := hcells2 _ GX.out
              clear g13 hNew hy G6 CX i1 i2 i3 i4 i5 i6 i7 hRA1 hRA2 HRL hl3 hcp had2 hcells
              obtain ⟨sa, hsa⟩ : ∃ sa, sa = (a1 : Int) := ⟨_, rfl⟩
              rw [← hsa] at hcells2 cc1 hrange
              clear hsz hm1 ha0 hW2 hsa
              go_wp2_with fail
              clear cc1 cc2
              obtain ⟨d, hd⟩ : ∃ d, Pat.chkE n sa sn = d := ⟨_, rfl⟩
              have KA := hid (cArea n (by omega) sa sn hrange.out w13)
              have hl3 : ∀ B ∈ [rowP 48 1 v3 n (u32s W2), BX], Stable B := st2 (rowP_stable _ _ _ _ _) hBX stab0
              have KD := hid (fun w' (hs : Sts w [wordP p 0 W2, rowP 48 1 v3 n (u32s W2), BX] w') => wDump (by decide) hl3 hs sa sn hrange.out)
              have hval : ∀ x ∈ W2, x < 4294967296 := by obtain ⟨F, q⟩ := GX.out.head; exact q.val
              have hz := @chkE_zero n sa sn
              unfold Dumped at KD
              rw [hW2n, hd] at KD
              rw [hd] at KA hz
              have HC0 := hid hcells2
              have HW1 := hid hW2n
              obtain ⟨cc1, cc2⟩ := hcells2 _ GX.out
              by_cases hd0 : d = 0
              · obtain ⟨hz1, hz2, hz3⟩ := hz hd0
                obtain ⟨a1, rfl⟩ := Int.eq_ofNat_of_zero_le hz2
                obtain ⟨m1, rfl⟩ := Int.eq_ofNat_of_zero_le (show 0 ≤ sn by omega)
                subst hd0
                have KC := hid (fun w' r (hs : Sts w [wordP p 0 W2, rowP 48 1 r m1 (u32s (Pat.cut W2 a1 m1)), rowP 48 1 v3 n (u32s W2), BX] w') => wCheck (by decide) (st3 (rowP_stable _ _ _ _ _) (rowP_stable _ _ _ _ _) hBX stab0) hs a1 m1 hrange.out hval)
                rw [hW2n, hd, if_pos rfl] at KC
                simp only [Int.toNat_natCast] at KC KD
                have hrow := GX.out.swap.rowOwn
                obtain ⟨g, acap, rfl⟩ := own_nonnil hrow hn1
                have hcp := (Rd.of_own hrow (by rw [u32s_len]; exact hW2n)).cap.2
                have hcl : (Pat.cut W2 a1 m1).length = m1 := Pat.cut_len _ _ _ (by omega)
                have HWant := hid (fun A w' (hs : Sts w [A, rowP 48 1 (.slice (some ⟨g, 0, none⟩) n acap) n (u32s W2), BX] w') => want_rd hs hW2n (by omega) hcp hval (a1 := a1) (m1 := m1))
                unfold maxLen at hcp
                have q1 : acap ≠ a1 := by omega
                have q2 : n ≤ acap := hcp.1
                have hlen1 : (Pat.cut W2 a1 m1).length < 1000000000 := by omega
                have hctl := hid (Pat.cut_lt W2 a1 m1 hval)
                have HCL := hid hcl
                clear hrow hval hcells2 hd
                generalize hct : Pat.cut W2 a1 m1 = ct at *
                clear hct hcl
                refine KA.out.mono ?_; rintro e w4 ⟨rfl, rfl⟩
                have KS := hid (cRSum w13 _ ct (HWant.out _ _ GX.out) hlen1)
                go_wp2_with fail
                refine KS.out.mono ?_; rintro e w5 ⟨rfl, h5⟩
                have G5 := hid (GX.out.quiet (stabC (wordP_stable _ _ _) hl3) h5)
                obtain ⟨e1, e2⟩ := HC0.out _ G5.out
                clear h5 GX KS KA cc1 cc2
                go_wp2_with fail
                refine (KD.out w5 G5.out).mono ?_; rintro e w6 (⟨h6, _⟩ | ⟨_, r, rfl, h6⟩)
                · exact absurd rfl h6
                have G6 := hid h6.swap
                obtain ⟨f1, f2⟩ := HC0.out _ h6.tail
                clear h6 G5 e1 e2
                go_wp2_with fail
                refine (KC.out w6 r G6.out).mono ?_; rintro e w7 ⟨rfl, h7⟩
                have R7 := hid (show RdW w7 r ct from ⟨by obtain ⟨F, q, _⟩ := h7.swap.head; exact Rd.of_own q (by rw [u32s_len]; exact HCL.out), hctl.out⟩)
                have T7 := hid (h7.third'.swap.tail.third)
                have G7 := hid (h7.swap.tail)
                clear h7 G6 f1 f2
                have KE := hid (cSame w7 _ _ ct ct R7.out (HWant.out _ _ G7.out) hlen1 hlen1)
                have hdd : decide (ct = ct) = true := by simp
                go_wp2_with fail
                refine KE.out.mono ?_; rintro e w8 ⟨rfl, h8⟩
                have G8 := hid (G7.out.quiet (stabC (wordP_stable _ _ _) hl3) h8)
                clear h8 T7 G7 R7 KE
                go_wp2_with fail
                go_roundw
                case rel => exact ⟨k + 1, by omega, by go_num, W2, HW1.out, G8.out.third.tail⟩
                case measure => simp [intOf]; omega
              · have z0 : ((d : Int) == 0) = false := by simp; omega
                have z1 : ((d : Int) != d) = false := by simp
                have KC := hid (fun w' (hs : Sts w [wordP p 0 W2, rowP 48 1 v3 n (u32s W2), BX] w') => wCheck (by decide) hl3 hs sa sn hrange.out hval)
                rw [hW2n, hd, if_neg hd0] at KC
                have hnil : ([] : List Nat).length < 1000000000 := by decide
                have H0 := hid hd0
                clear hd0 hz hcells2 hd hval
                refine KA.out.mono ?_; rintro e w4 ⟨rfl, rfl⟩
                go_wp2_with fail
                refine (KD.out w13 GX.out).mono ?_; rintro e w6 (⟨_, rfl, h6⟩ | ⟨h6, _⟩)
                · have G6 := hid h6
                  obtain ⟨f1, f2⟩ := HC0.out _ h6
                  clear h6 GX cc1 cc2
                  go_wp2_with fail
                  refine (KC.out w6 G6.out).mono ?_; rintro e w7 ⟨rfl, h7⟩
                  have G7 := hid h7
                  clear h7 G6 f1 f2
                  have hdd : decide (([] : List Nat) = []) = true := by simp
                  go_wp2_with fail
                  refine (cSame w7 _ _ [] [] (nil_rdW w7) (nil_rdW w7) hnil hnil).mono ?_; rintro e w8 ⟨rfl, h8⟩
                  have G8 := hid (G7.out.quiet (stabC (wordP_stable _ _ _) hl3) h8)
                  clear h8 G7
                  go_wp2_with fail
                  go_roundw
                  case rel => exact ⟨k + 1, by omega, by go_num, W2, HW1.out, G8.out.third.tail⟩
                  case measure => simp [intOf]; omega
                · exact absurd h6 H0.out
            · rw [if_neg hc0] at G6
              have GX := G6
              clear G6
              have zc0 : ((c : Int) == 0) = false := by simp; omega
              clear hc0 hz0 hc hl3
              obtain ⟨cc1, cc2⟩ := hcells _ GX.out
              generalize u6 = av at *
              go_wp2_with fail
              clear cc1 cc2
              obtain ⟨d, hd⟩ : ∃ d, Pat.chkE n sa sn = d := ⟨_, rfl⟩
              have KA := hid (cArea n (by omega) sa sn hrange.out w3)
              have hl3 : ∀ B ∈ [rowP 48 1 av n (u32s W1), BX], Stable B := st2 (rowP_stable _ _ _ _ _) hBX stab0
              have KD := hid (fun w' (hs : Sts w [wordP p 0 W1, rowP 48 1 av n (u32s W1), BX] w') => wDump (by decide) hl3 hs sa sn hrange.out)
              have hval : ∀ x ∈ W1, x < 4294967296 := by obtain ⟨F, q⟩ := GX.out.head; exact q.val
              have hz := @chkE_zero n sa sn
              unfold Dumped at KD
              rw [hW, hd] at KD
              rw [hd] at KA hz
              have HC0 := hid hcells
              have HW1 := hid hW
              obtain ⟨cc1, cc2⟩ := hcells _ GX.out
              by_cases hd0 : d = 0
              · obtain ⟨hz1, hz2, hz3⟩ := hz hd0
                obtain ⟨a1, rfl⟩ := Int.eq_ofNat_of_zero_le hz2
                obtain ⟨m1, rfl⟩ := Int.eq_ofNat_of_zero_le (show 0 ≤ sn by omega)
                subst hd0
                have KC := hid (fun w' r (hs : Sts w [wordP p 0 W1, rowP 48 1 r m1 (u32s (Pat.cut W1 a1 m1)), rowP 48 1 av n (u32s W1), BX] w') => wCheck (by decide) (st3 (rowP_stable _ _ _ _ _) (rowP_stable _ _ _ _ _) hBX stab0) hs a1 m1 hrange.out hval)
                rw [hW, hd, if_pos rfl] at KC
                simp only [Int.toNat_natCast] at KC KD
                have hrow := GX.out.swap.rowOwn
                obtain ⟨g, acap, rfl⟩ := own_nonnil hrow hn1
                have hcp := (Rd.of_own hrow (by rw [u32s_len]; exact hW)).cap.2
                have hcl : (Pat.cut W1 a1 m1).length = m1 := Pat.cut_len _ _ _ (by omega)
                have HWant := hid (fun A w' (hs : Sts w [A, rowP 48 1 (.slice (some ⟨g, 0, none⟩) n acap) n (u32s W1), BX] w') => want_rd hs hW (by omega) hcp hval (a1 := a1) (m1 := m1))
                unfold maxLen at hcp
                have q1 : acap ≠ a1 := by omega
                have q2 : n ≤ acap := hcp.1
                have hlen1 : (Pat.cut W1 a1 m1).length < 1000000000 := by omega
                have hctl := hid (Pat.cut_lt W1 a1 m1 hval)
                have HCL := hid hcl
                clear hrow hval hcells hd
                generalize hct : Pat.cut W1 a1 m1 = ct at *
                clear hct hcl
                refine KA.out.mono ?_; rintro e w4 ⟨rfl, rfl⟩
                have KS := hid (cRSum w3 _ ct (HWant.out _ _ GX.out) hlen1)
                go_wp2_with fail
                refine KS.out.mono ?_; rintro e w5 ⟨rfl, h5⟩
                have G5 := hid (GX.out.quiet (stabC (wordP_stable _ _ _) hl3) h5)
                obtain ⟨e1, e2⟩ := HC0.out _ G5.out
                clear h5 GX KS KA cc1 cc2
                go_wp2_with fail
                refine (KD.out w5 G5.out).mono ?_; rintro e w6 (⟨h6, _⟩ | ⟨_, r, rfl, h6⟩)
                · exact absurd rfl h6
                have G6 := hid h6.swap
                obtain ⟨f1, f2⟩ := HC0.out _ h6.tail
                clear h6 G5 e1 e2
                go_wp2_with fail
                refine (KC.out w6 r G6.out).mono ?_; rintro e w7 ⟨rfl, h7⟩
                have R7 := hid (show RdW w7 r ct from ⟨by obtain ⟨F, q, _⟩ := h7.swap.head; exact Rd.of_own q (by rw [u32s_len]; exact HCL.out), hctl.out⟩)
                have T7 := hid (h7.third'.swap.tail.third)
                have G7 := hid (h7.swap.tail)
                clear h7 G6 f1 f2
                have KE := hid (cSame w7 _ _ ct ct R7.out (HWant.out _ _ G7.out) hlen1 hlen1)
                have hdd : decide (ct = ct) = true := by simp
                go_wp2_with fail
                refine KE.out.mono ?_; rintro e w8 ⟨rfl, h8⟩
                have G8 := hid (G7.out.quiet (stabC (wordP_stable _ _ _) hl3) h8)
                clear h8 T7 G7 R7 KE
                go_wp2_with fail
                go_roundw
                case rel => exact ⟨k + 1, by omega, by go_num, W1, HW1.out, G8.out.third.tail⟩
                case measure => simp [intOf]; omega
              · have z0 : ((d : Int) == 0) = false := by simp; omega
                have z1 : ((d : Int) != d) = false := by simp
                have KC := hid (fun w' (hs : Sts w [wordP p 0 W1, rowP 48 1 av n (u32s W1), BX] w') => wCheck (by decide) hl3 hs sa sn hrange.out hval)
                rw [hW, hd, if_neg hd0] at KC
                have hnil : ([] : List Nat).length < 1000000000 := by decide
                have H0 := hid hd0
                clear hd0 hz hcells hd hval
                refine KA.out.mono ?_; rintro e w4 ⟨rfl, rfl⟩
                go_wp2_with fail
                refine (KD.out w3 GX.out).mono ?_; rintro e w6 (⟨_, rfl, h6⟩ | ⟨h6, _⟩)
                · have G6 := hid h6
                  obtain ⟨f1, f2⟩ := HC0.out _ h6
                  clear h6 GX cc1 cc2
                  go_wp2_with fail
                  refine (KC.out w6 G6.out).mono ?_; rintro e w7 ⟨rfl, h7⟩
                  have G7 := hid h7
                  clear h7 G6 f1 f2
                  have hdd : decide (([] : List Nat) = []) = true := by simp
                  go_wp2_with fail
                  refine (cSame w7 _ _ [] [] (nil_rdW w7) (nil_rdW w7) hnil hnil).mono ?_; rintro e w8 ⟨rfl, h8⟩
                  have G8 := hid (G7.out.quiet (stabC (wordP_stable _ _ _) hl3) h8)
                  clear h8 G7
                  go_wp2_with fail
                  go_roundw
                  case rel => exact ⟨k + 1, by omega, by go_num, W1, HW1.out, G8.out.third.tail⟩
                  case measure => simp [intOf]; omega
                · exact absurd h6 H0.out
          | true =>
            have hst2 : ∀ B ∈ blkP wr.heap.size (.cells #[.bool true, .int .i64 sa, .int .i64 sn, .slice la xs.length lc, .int .u16 sm, .bool true] 38 (0, 0)) :: pparts p u6 n W1, Stable B := stabC (blkP_stable _ _) (st2 (wordP_stable _ _ _) (rowP_stable _ _ _ _ _) stab0)
            obtain ⟨z, hzz⟩ : ∃ z, z = sum16 xs := ⟨_, rfl⟩
            have KZ := hid (cRSum (wr.alloc (.cells #[.bool true, .int .i64 sa, .int .i64 sn, .slice la xs.length lc, .int .u16 sm, .bool true] 38)) (.slice la xs.length lc) xs (HR.out.below G1.out.below) hlx)
            rw [← hzz] at KZ
            clear hzz
            go_wp2_with fail
            refine KZ.out.mono ?_; rintro e w4 ⟨rfl, g4⟩
            have g5 := G1.out.quiet hst2 g4
            obtain ⟨b1, _⟩ := g5.boxCell 1 _ rfl
            obtain ⟨b2, _⟩ := g5.boxCell 2 _ rfl
            obtain ⟨b3, _⟩ := g5.boxCell 3 _ rfl
            obtain ⟨b4, b4f⟩ := g5.boxCell 4 _ rfl
            have G2 := hid (g5.store (st2 (wordP_stable _ _ _) (rowP_stable _ _ _ _ _) stab0) (j := 4) (.int .u16 (z : Nat)))
            clear g5 g4 G1 KZ hst2
            go_wp2_with fail
            clear b1 b2 b3 b4 b4f
            obtain ⟨BX, hBX, hcells5, GX⟩ : ∃ BX : HProp, Stable BX ∧ (∀ A B w', Sts w [A, B, BX] w' → w'.cell? ⟨wr.heap.size, 1, none⟩ = some (.int .i64 sa) ∧ w'.cell? ⟨wr.heap.size, 2, none⟩ = some (.int .i64 sn) ∧ w'.cell? ⟨wr.heap.size, 3, none⟩ = some (.slice la xs.length lc) ∧ w'.cell? ⟨wr.heap.size, 4, none⟩ = some (.int .u16 (z : Nat))) ∧
                Hid (Sts w [wordP p 0 W1, rowP 48 1 u6 n (u32s W1), BX] (w4.setCell ⟨wr.heap.size, 4, none⟩ (.int .u16 (z : Nat)))) :=
              ⟨_, blkP_stable wr.heap.size (.cells #[.bool true, .int .i64 sa, .int .i64 sn, .slice la xs.length lc, .int .u16 z, .bool true] 38 (0, 0)), fun A B w' h => ⟨(h.third.boxCell 1 _ rfl).1, (h.third.boxCell 2 _ rfl).1, (h.third.boxCell 3 _ rfl).1, (h.third.boxCell 4 _ rfl).1⟩, G2.out.third'⟩
            clear G2
            have KL := hid (fun w' (hs : Sts w [wordP p 0 W1, rowP 48 1 u6 n (u32s W1), BX] w') => wLoad (by decide) (st2 (rowP_stable _ _ _ _ _) hBX stab0) hs (.slice la xs.length lc) xs (RdsW.arg HR.out) sa hrange.out z hlx)
            have KM := hid (fun w' (h : Below w.heap.size w w') => cRLoad n (by omega) sa hrange.out (.slice la xs.length lc) xs z w' (HR.out.below h) hlx)
            rw [hW] at KL
            have HC5 := hid hcells5
            obtain ⟨cc1, cc2, cc3, cc4⟩ := hcells5 _ _ _ GX.out
            have hz0 := (fun (h : loadE n sa xs z = 0) => (show Pat.chkE n sa xs.length = 0 by unfold loadE at h; split at h; (· assumption); (· exact h)))
            generalize hc : loadE n sa xs z = c at *
            have zc : ((c : Int) != c) = false := by simp
            clear hcells5
            generalize wr.heap.size = bx at *
            go_wp2_with fail
            refine (KL.out _ GX.out).mono ?_; rintro e w5 ⟨rfl, g5⟩
            have G5 := hid g5
            have B5 := hid g5.below
            obtain ⟨f1, f2, f3, f4⟩ := HC5.out _ _ _ g5
            clear g5 GX cc1 cc2 cc3 cc4
            go_wp2_with fail
            refine (KM.out w5 B5.out).mono ?_; rintro e w3 ⟨rfl, g6⟩
            have hl3 : ∀ B ∈ [rowP 48 1 u6 n (u32s W1), BX], Stable B := st2 (rowP_stable _ _ _ _ _) hBX stab0
            have G6 := hid (G5.out.quiet (stabC (wordP_stable _ _ _) hl3) g6)
            clear g6 G5 B5 KL KM f1 f2 f3 f4
            have hcells : ∀ w', Sts w [wordP p 0 W1, rowP 48 1 u6 n (u32s W1), BX] w' → w'.cell? ⟨bx, 1, none⟩ = some (.int .i64 sa) ∧ w'.cell? ⟨bx, 2, none⟩ = some (.int .i64 sn) := fun w' h => ⟨(HC5.out _ _ _ h).1, (HC5.out _ _ _ h).2.1⟩
            by_cases hc0 : c = 0
            · rw [if_pos hc0] at G6
              obtain ⟨hm1, ha0, hsz⟩ := chkE_zero (hz0 hc0)
              subst hc0
              obtain ⟨a1, rfl⟩ := Int.eq_ofNat_of_zero_le ha0
              obtain ⟨W2, hW2⟩ : ∃ W2, Pat.upd W1 a1 xs = W2 := ⟨_, rfl⟩
              have hW2n : W2.length = n := by rw [← hW2, Pat.upd_len _ _ _ (by omega)]; exact hW
              have hrow := G6.out.swap.rowOwn
              obtain ⟨g, acap, rfl⟩ := own_nonnil hrow hn1
              have hRA := Rd.of_own hrow (by rw [u32s_len]; exact hW)
              have hcp := hRA.cap.2
              obtain ⟨lb, lo, rfl⟩ : ∃ b o, la = some ⟨b, o, none⟩ := by
                obtain ⟨la', lc', e, _, hcl⟩ := (HR.out.below G6.out.below).1
                injection e with e1 e2 e3
                obtain ⟨b, o, h, _⟩ := hcl 0 (by rw [u32s_len]; omega)
                exact ⟨b, o, by rw [e1, h]⟩
              have hRL : Rd w3 (.slice (some ⟨lb, lo, none⟩) xs.length lc) (u32s xs) := (HR.out.below G6.out.below).1
              have hRA1 := hid (show Rd w3 (.slice (some ⟨g, 0, none⟩) a1 acap) (u32s (W1.take a1)) from by have h := hRA.take a1 (by rw [u32s_len]; omega) acap (by omega); rw [show (u32s W1).take a1 = u32s (W1.take a1) by simp [u32s, List.map_take]] at h; exact h)
              obtain ⟨ad2, had2⟩ : ∃ ad2, (if acap = a1 + xs.length then (some ⟨g, 0, none⟩ : Option Addr) else some ⟨g, a1 + xs.length, none⟩) = some ad2 := by split <;> exact ⟨_, rfl⟩
              have hRA2 := hid (show Rd w3 (.slice (some ad2) (n - (a1 + xs.length)) (acap - (a1 + xs.length))) (u32s (W1.drop (a1 + xs.length))) from by
                have h := hRA.drop (a1 + xs.length) (by rw [u32s_len]; omega) (some ad2) (acap - (a1 + xs.length)) (by rw [u32s_len]; omega) (by
                  intro b off hlt e
                  simp only [Option.some.injEq, Addr.mk.injEq, and_true] at e
                  obtain ⟨rfl, rfl⟩ := e
                  rw [u32s_len] at hlt
                  rw [← had2, if_neg (by omega)]
                  simp)
                rw [u32s_len, hW, show (u32s W1).drop (a1 + xs.length) = u32s (W1.drop (a1 + xs.length)) by simp [u32s, List.map_drop]] at h; exact h)
              have HRL := hid hRL
              obtain ⟨f1, f2, f3, f4⟩ := HC5.out _ _ _ G6.out
              have CX := hid (fun x (hx : Up w3 x) => And.intro (show x.cell? ⟨bx, 1, none⟩ = some (.int .i64 (a1 : Int)) by rw [Below.cell hx (cell_lt f1)]; exact f1) (show x.cell? ⟨bx, 3, none⟩ = some (.slice (some ⟨lb, lo, none⟩) xs.length lc) by rw [Below.cell hx (cell_lt f3)]; exact f3))
              have hDr : Up w3 w3.drew := (Below.refl _ _).drew
              unfold maxLen at hcp
              have i1 : (0 : Int) ≤ (a1 : Int) := by omega
              have i2 : (a1 : Int) ≤ (acap : Int) := by omega
              have i3 : (a1 : Int) + xs.length ≤ (n : Int) := by omega
              have i4 : (n : Int) ≤ (acap : Int) := by omega
              have i5 : (0 : Int) ≤ (a1 : Int) + xs.length := by omega
              have i6 : IntKind.i64.wrap ((a1 : Int) + xs.length) = (a1 : Int) + xs.length := by rw [IntKind.wrap_i64]; omega
              have i7 : ((a1 : Int) + xs.length).toNat = a1 + xs.length := by omega
              clear f1 f2 f3 f4 hrow hRA hRL hz0 hc zc
              go_wp2_with fail
              refine wp_region_ord (.pure 1 (.pure 2 (.pure 3 (.pure 4 (.pure 6 (.pure 7 (.pure 9 (.pure 10 (.pure 11 (.pure 12 (.pure 13 (.pure 14 (.pure 15 (.pure 16 (.eff 0 (.eff 5 (.eff 8 (.eff 17 (.pure 18 .nil))))))))))))))))))) (Up w3) (Up w3) (by kernel_rfl) (by kernel_rfl) hDr (fun _ h => h) ?_
              clear hDr
              iterate 14
                (apply ord_pure (ho := rfl)
                 · go_simp
                 · intro x hx; obtain ⟨q1, q2⟩ := CX.out x hx; go_simp; rfl
                 apply ord_norm
                 · go_simp; rfl)
              apply ord_eff (ho := rfl)
              · go_simp
              intro x hx
              refine eff_value (v := .slice (some ⟨x.heap.size, 0, none⟩) 0 0) (w := x.alloc (.cells #[] 48)) (Up w3) (Grown w3 (.slice (some ⟨x.heap.size, 0, none⟩) 0 0) 0 []) ?_ ⟨Below.alloc hx hx.size _, World.ownsRow_lit x #[] 0 hx.size (by unfold maxLen; omega) rfl⟩ (fun _ h => h.1) (fun _ h => h) ?_
              · go_simp
              apply ord_norm
              · go_simp; rfl
              generalize x.heap.size = gx at *
              clear hx
              apply ord_eff (ho := rfl)
              · go_simp
              intro x hx
              refine ord_append hx (.tmp 73) (.tmp 77) rfl ?_ ?_ hRA1.out ⟨_, _, _, rfl⟩ (by simp; omega) ?_
              · go_simp
              · go_simp
              intro v1
              apply ord_norm
              · go_simp; rfl
              clear hx
              apply ord_eff (ho := rfl)
              · go_simp
              intro x hx
              refine ord_append hx (.tmp 78) (.tmp 80) rfl ?_ ?_ HRL.out ⟨_, _, _, rfl⟩ (by simp; omega) ?_
              · go_simp
              · go_simp
              intro v2
              apply ord_norm
              · go_simp; rfl
              clear hx
              apply ord_eff (ho := rfl)
              · go_simp
              intro x hx
              refine ord_append hx (.tmp 81) (.tmp 89) rfl ?_ ?_ hRA2.out ⟨_, _, _, rfl⟩ (by simp; omega) ?_
              · go_simp
              · go_simp; trace_state
              intro v3
              apply ord_norm
              · go_simp; rfl
              clear hx
              apply ord_pure (ho := rfl)
              · go_simp
              · intro x hx; go_simp; rfl
              apply ord_norm
              · go_simp; rfl
              refine ord_nil fun w13 hy => ?_
              have hNew : New w3 w13 48 v3 (u32s W2) := by
                refine ⟨?_, hy.1⟩
                have h := hy.2
                have e1 : 0 + (W1.take a1).length + xs.length + (W1.drop (a1 + xs.length)).length = (u32s W2).length := by rw [u32s_len, hW2n]; simp; omega
                have e2 : ([] : List Nat) ++ W1.take a1 ++ xs ++ W1.drop (a1 + xs.length) = W2 := by rw [← hW2]; simp [Pat.upd]
                rw [e1, e2] at h; exact h
              have g13 := G6.out.new (stabC (wordP_stable _ _ _) hl3) hNew
              rw [u32s_len, hW2n] at g13
              have GX : Hid (Sts w [wordP p 0 W2, rowP 48 1 v3 n (u32s W2), BX] w13) := by
                have h := g13.swap.third.tail
                simp only [Int.toNat_natCast, hW2] at h
                exact h
              have hcells2 : ∀ w', Sts w [wordP p 0 W2, rowP 48 1 v3 n (u32s W2), BX] w' → w'.cell? ⟨bx, 1, none⟩ = some (.int .i64 (a1 : Int)) ∧ w'.cell? ⟨bx, 2, none⟩ = some (.int .i64 sn) := fun w' h => ⟨(HC5.out _ _ _ h).1, (HC5.out _ _ _ h).2.1⟩
              obtain ⟨cc1, cc2⟩ := hcells2 _ GX.out
              clear g13 hNew hy G6 CX i1 i2 i3 i4 i5 i6 i7 hRA1 hRA2 HRL hl3 hcp had2 hcells
              obtain ⟨sa, hsa⟩ : ∃ sa, sa = (a1 : Int) := ⟨_, rfl⟩
              rw [← hsa] at hcells2 cc1 hrange
              clear hsz hm1 ha0 hW2 hsa
              go_wp2_with fail
              clear cc1 cc2
              obtain ⟨d, hd⟩ : ∃ d, Pat.chkE n sa sn = d := ⟨_, rfl⟩
              have KA := hid (cArea n (by omega) sa sn hrange.out w13)
              have hl3 : ∀ B ∈ [rowP 48 1 v3 n (u32s W2), BX], Stable B := st2 (rowP_stable _ _ _ _ _) hBX stab0
              have KD := hid (fun w' (hs : Sts w [wordP p 0 W2, rowP 48 1 v3 n (u32s W2), BX] w') => wDump (by decide) hl3 hs sa sn hrange.out)
              have hval : ∀ x ∈ W2, x < 4294967296 := by obtain ⟨F, q⟩ := GX.out.head; exact q.val
              have hz := @chkE_zero n sa sn
              unfold Dumped at KD
              rw [hW2n, hd] at KD
              rw [hd] at KA hz
              have HC0 := hid hcells2
              have HW1 := hid hW2n
              obtain ⟨cc1, cc2⟩ := hcells2 _ GX.out
              by_cases hd0 : d = 0
              · obtain ⟨hz1, hz2, hz3⟩ := hz hd0
                obtain ⟨a1, rfl⟩ := Int.eq_ofNat_of_zero_le hz2
                obtain ⟨m1, rfl⟩ := Int.eq_ofNat_of_zero_le (show 0 ≤ sn by omega)
                subst hd0
                have KC := hid (fun w' r (hs : Sts w [wordP p 0 W2, rowP 48 1 r m1 (u32s (Pat.cut W2 a1 m1)), rowP 48 1 v3 n (u32s W2), BX] w') => wCheck (by decide) (st3 (rowP_stable _ _ _ _ _) (rowP_stable _ _ _ _ _) hBX stab0) hs a1 m1 hrange.out hval)
                rw [hW2n, hd, if_pos rfl] at KC
                simp only [Int.toNat_natCast] at KC KD
                have hrow := GX.out.swap.rowOwn
                obtain ⟨g, acap, rfl⟩ := own_nonnil hrow hn1
                have hcp := (Rd.of_own hrow (by rw [u32s_len]; exact hW2n)).cap.2
                have hcl : (Pat.cut W2 a1 m1).length = m1 := Pat.cut_len _ _ _ (by omega)
                have HWant := hid (fun A w' (hs : Sts w [A, rowP 48 1 (.slice (some ⟨g, 0, none⟩) n acap) n (u32s W2), BX] w') => want_rd hs hW2n (by omega) hcp hval (a1 := a1) (m1 := m1))
                unfold maxLen at hcp
                have q1 : acap ≠ a1 := by omega
                have q2 : n ≤ acap := hcp.1
                have hlen1 : (Pat.cut W2 a1 m1).length < 1000000000 := by omega
                have hctl := hid (Pat.cut_lt W2 a1 m1 hval)
                have HCL := hid hcl
                clear hrow hval hcells2 hd
                generalize hct : Pat.cut W2 a1 m1 = ct at *
                clear hct hcl
                refine KA.out.mono ?_; rintro e w4 ⟨rfl, rfl⟩
                have KS := hid (cRSum w13 _ ct (HWant.out _ _ GX.out) hlen1)
                go_wp2_with fail
                refine KS.out.mono ?_; rintro e w5 ⟨rfl, h5⟩
                have G5 := hid (GX.out.quiet (stabC (wordP_stable _ _ _) hl3) h5)
                obtain ⟨e1, e2⟩ := HC0.out _ G5.out
                clear h5 GX KS KA cc1 cc2
                go_wp2_with fail
                refine (KD.out w5 G5.out).mono ?_; rintro e w6 (⟨h6, _⟩ | ⟨_, r, rfl, h6⟩)
                · exact absurd rfl h6
                have G6 := hid h6.swap
                obtain ⟨f1, f2⟩ := HC0.out _ h6.tail
                clear h6 G5 e1 e2
                go_wp2_with fail
                refine (KC.out w6 r G6.out).mono ?_; rintro e w7 ⟨rfl, h7⟩
                have R7 := hid (show RdW w7 r ct from ⟨by obtain ⟨F, q, _⟩ := h7.swap.head; exact Rd.of_own q (by rw [u32s_len]; exact HCL.out), hctl.out⟩)
                have T7 := hid (h7.third'.swap.tail.third)
                have G7 := hid (h7.swap.tail)
                clear h7 G6 f1 f2
                have KE := hid (cSame w7 _ _ ct ct R7.out (HWant.out _ _ G7.out) hlen1 hlen1)
                have hdd : decide (ct = ct) = true := by simp
                go_wp2_with fail
                refine KE.out.mono ?_; rintro e w8 ⟨rfl, h8⟩
                have G8 := hid (G7.out.quiet (stabC (wordP_stable _ _ _) hl3) h8)
                clear h8 T7 G7 R7 KE
                go_wp2_with fail
                go_roundw
                case rel => exact ⟨k + 1, by omega, by go_num, W2, HW1.out, G8.out.third.tail⟩
                case measure => simp [intOf]; omega
              · have z0 : ((d : Int) == 0) = false := by simp; omega
                have z1 : ((d : Int) != d) = false := by simp
                have KC := hid (fun w' (hs : Sts w [wordP p 0 W2, rowP 48 1 v3 n (u32s W2), BX] w') => wCheck (by decide) hl3 hs sa sn hrange.out hval)
                rw [hW2n, hd, if_neg hd0] at KC
                have hnil : ([] : List Nat).length < 1000000000 := by decide
                have H0 := hid hd0
                clear hd0 hz hcells2 hd hval
                refine KA.out.mono ?_; rintro e w4 ⟨rfl, rfl⟩
                go_wp2_with fail
                refine (KD.out w13 GX.out).mono ?_; rintro e w6 (⟨_, rfl, h6⟩ | ⟨h6, _⟩)
                · have G6 := hid h6
                  obtain ⟨f1, f2⟩ := HC0.out _ h6
                  clear h6 GX cc1 cc2
                  go_wp2_with fail
                  refine (KC.out w6 G6.out).mono ?_; rintro e w7 ⟨rfl, h7⟩
                  have G7 := hid h7
                  clear h7 G6 f1 f2
                  have hdd : decide (([] : List Nat) = []) = true := by simp
                  go_wp2_with fail
                  refine (cSame w7 _ _ [] [] (nil_rdW w7) (nil_rdW w7) hnil hnil).mono ?_; rintro e w8 ⟨rfl, h8⟩
                  have G8 := hid (G7.out.quiet (stabC (wordP_stable _ _ _) hl3) h8)
                  clear h8 G7
                  go_wp2_with fail
                  go_roundw
                  case rel => exact ⟨k + 1, by omega, by go_num, W2, HW1.out, G8.out.third.tail⟩
                  case measure => simp [intOf]; omega
                · exact absurd h6 H0.out
            · rw [if_neg hc0] at G6
              have GX := G6
              clear G6
              have zc0 : ((c : Int) == 0) = false := by simp; omega
              clear hc0 hz0 hc hl3
              obtain ⟨cc1, cc2⟩ := hcells _ GX.out
              generalize u6 = av at *
              go_wp2_with fail
              clear cc1 cc2
              obtain ⟨d, hd⟩ : ∃ d, Pat.chkE n sa sn = d := ⟨_, rfl⟩
              have KA := hid (cArea n (by omega) sa sn hrange.out w3)
              have hl3 : ∀ B ∈ [rowP 48 1 av n (u32s W1), BX], Stable B := st2 (rowP_stable _ _ _ _ _) hBX stab0
              have KD := hid (fun w' (hs : Sts w [wordP p 0 W1, rowP 48 1 av n (u32s W1), BX] w') => wDump (by decide) hl3 hs sa sn hrange.out)
              have hval : ∀ x ∈ W1, x < 4294967296 := by obtain ⟨F, q⟩ := GX.out.head; exact q.val
              have hz := @chkE_zero n sa sn
              unfold Dumped at KD
              rw [hW, hd] at KD
              rw [hd] at KA hz
              have HC0 := hid hcells
              have HW1 := hid hW
              obtain ⟨cc1, cc2⟩ := hcells _ GX.out
              by_cases hd0 : d = 0
              · obtain ⟨hz1, hz2, hz3⟩ := hz hd0
                obtain ⟨a1, rfl⟩ := Int.eq_ofNat_of_zero_le hz2
                obtain ⟨m1, rfl⟩ := Int.eq_ofNat_of_zero_le (show 0 ≤ sn by omega)
                subst hd0
                have KC := hid (fun w' r (hs : Sts w [wordP p 0 W1, rowP 48 1 r m1 (u32s (Pat.cut W1 a1 m1)), rowP 48 1 av n (u32s W1), BX] w') => wCheck (by decide) (st3 (rowP_stable _ _ _ _ _) (rowP_stable _ _ _ _ _) hBX stab0) hs a1 m1 hrange.out hval)
                rw [hW, hd, if_pos rfl] at KC
                simp only [Int.toNat_natCast] at KC KD
                have hrow := GX.out.swap.rowOwn
                obtain ⟨g, acap, rfl⟩ := own_nonnil hrow hn1
                have hcp := (Rd.of_own hrow (by rw [u32s_len]; exact hW)).cap.2
                have hcl : (Pat.cut W1 a1 m1).length = m1 := Pat.cut_len _ _ _ (by omega)
                have HWant := hid (fun A w' (hs : Sts w [A, rowP 48 1 (.slice (some ⟨g, 0, none⟩) n acap) n (u32s W1), BX] w') => want_rd hs hW (by omega) hcp hval (a1 := a1) (m1 := m1))
                unfold maxLen at hcp
                have q1 : acap ≠ a1 := by omega
                have q2 : n ≤ acap := hcp.1
                have hlen1 : (Pat.cut W1 a1 m1).length < 1000000000 := by omega
                have hctl := hid (Pat.cut_lt W1 a1 m1 hval)
                have HCL := hid hcl
                clear hrow hval hcells hd
                generalize hct : Pat.cut W1 a1 m1 = ct at *
                clear hct hcl
                refine KA.out.mono ?_; rintro e w4 ⟨rfl, rfl⟩
                have KS := hid (cRSum w3 _ ct (HWant.out _ _ GX.out) hlen1)
                go_wp2_with fail
                refine KS.out.mono ?_; rintro e w5 ⟨rfl, h5⟩
                have G5 := hid (GX.out.quiet (stabC (wordP_stable _ _ _) hl3) h5)
                obtain ⟨e1, e2⟩ := HC0.out _ G5.out
                clear h5 GX KS KA cc1 cc2
                go_wp2_with fail
                refine (KD.out w5 G5.out).mono ?_; rintro e w6 (⟨h6, _⟩ | ⟨_, r, rfl, h6⟩)
                · exact absurd rfl h6
                have G6 := hid h6.swap
                obtain ⟨f1, f2⟩ := HC0.out _ h6.tail
                clear h6 G5 e1 e2
                go_wp2_with fail
                refine (KC.out w6 r G6.out).mono ?_; rintro e w7 ⟨rfl, h7⟩
                have R7 := hid (show RdW w7 r ct from ⟨by obtain ⟨F, q, _⟩ := h7.swap.head; exact Rd.of_own q (by rw [u32s_len]; exact HCL.out), hctl.out⟩)
                have T7 := hid (h7.third'.swap.tail.third)
                have G7 := hid (h7.swap.tail)
                clear h7 G6 f1 f2
                have KE := hid (cSame w7 _ _ ct ct R7.out (HWant.out _ _ G7.out) hlen1 hlen1)
                have hdd : decide (ct = ct) = true := by simp
                go_wp2_with fail
                refine KE.out.mono ?_; rintro e w8 ⟨rfl, h8⟩
                have G8 := hid (G7.out.quiet (stabC (wordP_stable _ _ _) hl3) h8)
                clear h8 T7 G7 R7 KE
                go_wp2_with fail
                go_roundw
                case rel => exact ⟨k + 1, by omega, by go_num, W1, HW1.out, G8.out.third.tail⟩
                case measure => simp [intOf]; omega
              · have z0 : ((d : Int) == 0) = false := by simp; omega
                have z1 : ((d : Int) != d) = false := by simp
                have KC := hid (fun w' (hs : Sts w [wordP p 0 W1, rowP 48 1 av n (u32s W1), BX] w') => wCheck (by decide) hl3 hs sa sn hrange.out hval)
                rw [hW, hd, if_neg hd0] at KC
                have hnil : ([] : List Nat).length < 1000000000 := by decide
                have H0 := hid hd0
                clear hd0 hz hcells hd hval
                refine KA.out.mono ?_; rintro e w4 ⟨rfl, rfl⟩
                go_wp2_with fail
                refine (KD.out w3 GX.out).mono ?_; rintro e w6 (⟨_, rfl, h6⟩ | ⟨h6, _⟩)
                · have G6 := hid h6
                  obtain ⟨f1, f2⟩ := HC0.out _ h6
                  clear h6 GX cc1 cc2
                  go_wp2_with fail
                  refine (KC.out w6 G6.out).mono ?_; rintro e w7 ⟨rfl, h7⟩
                  have G7 := hid h7
                  clear h7 G6 f1 f2
                  have hdd : decide (([] : List Nat) = []) = true := by simp
                  go_wp2_with fail
                  refine (cSame w7 _ _ [] [] (nil_rdW w7) (nil_rdW w7) hnil hnil).mono ?_; rintro e w8 ⟨rfl, h8⟩
                  have G8 := hid (G7.out.quiet (stabC (wordP_stable _ _ _) hl3) h8)
                  clear h8 G7
                  go_wp2_with fail
                  go_roundw
                  case rel => exact ⟨k + 1, by omega, by go_num, W1, HW1.out, G8.out.third.tail⟩
                  case measure => simp [intOf]; omega
                · exact absurd h6 H0.out
      · have HBB := hid hs.below
        clear hs
        go_wp2_with fail
        refine (cAlive _).mono ?_; rintro e w9 ⟨rfl, h9⟩
        have HF := hid (below_step HBB.out h9)
        clear h9
        go_wp2_with fail
        go_ret
        exact ⟨rfl, HF.out⟩
theorem plays (w : World) (z : Int) (v : Value) (S : List Pat.Opn) (hS : OpsAt w v S) :
    Calls Try.prog 4 #[.int .i64 z, v] w fun e w' => e = .returned (.bool true) ∧ Below w.heap.size w w' := by
  by_cases h : z < 1 ∨ 200 < z
  · exact plays_few w z v S hS h
  · obtain ⟨n, rfl⟩ := Int.eq_ofNat_of_zero_le (show 0 ≤ z by omega)
    exact plays_main w n (by omega) (by omega) v S hS
end Go.Proofs.Ytdboplkgnnidcaa
