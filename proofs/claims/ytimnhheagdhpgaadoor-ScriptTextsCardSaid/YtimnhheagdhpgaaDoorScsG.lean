/- The specification's small functions: Hex, bytes, Words. -/
import Derived.Test.YtimnhheagdhpgaaDoorScsF
set_option linter.unusedVariables false
set_option linter.unusedSimpArgs false
namespace Go.Proofs.YtimnhheagdhpgaaDoor
open Go.RowKit Go.Proofs.Num
open Scr (Str bs numV numsV small svcV fltV nameV bytesV oneV fileV faultV orderV tailV flts parseL parseV b8 textV textL svcs svcN fltN ixOf valC digR pairR bytesR rnum magR splitW hexC hexB hexV)
/-- The append in a drawn region. -/
theorem eff_app {L : Prop} {o : Oper} {a : Act} {K : Act → WP → WP → Prop} {W w : World} {Ls : List HProp} {v : Value} {st et : TypeId} {z : Value} {by' : Nat} (hE : Elt st et z by') {xs ms : List Value} (D : WP) (s x : Operand)
    (ho : o.op = .call { callee := .builtin .append, args := #[s, x], argTypes := #[st, st] }) (hS : Sts W (rowP et 1 v xs.length xs :: Ls) w) (hL : ∀ B ∈ Ls, Stable B)
    (hs : a.eval s = v) (ad : Addr) (c : Nat) (hx : a.eval x = .slice (some ad) ms.length c) (hnews : ∀ j u, ms[j]? = some u → w.cell? (ad.add j) = some u) (hone : ∀ u ∈ ms, u.oneCell' = true) (hby : by' ≤ 16) (hlen : xs.length + ms.length < 1000000000)
    (hD : ∀ v' y, Sts W (rowP et 1 v' (xs ++ ms).length (xs ++ ms) :: Ls) y → D y)
    (h : ∀ v', K (a.put o.dst v') D (fun y => Sts W (rowP et 1 v' (xs ++ ms).length (xs ++ ms) :: Ls) y)) : effUpon Tryd.prog L o.dst a D K ((execOp a.eval o).run Tryd.prog w) := by
  obtain ⟨i0, hi, hz0, hz1, hz2⟩ := info_parts hE.i
  obtain ⟨v', w', hrun, hown, hgr, _, hbl⟩ := run_append_own_at (P := Tryd.prog) w 0 st o.type et i0 z 1 by' hE.u hi hz0 hz1 hz2 hE.one (by decide) v xs.length xs (Sts.rowOwn hS) ad ms.length c ms (by rw [Nat.mul_one]) hnews hone (by unfold maxLen; omega) (Nat.le_trans (Nat.mul_le_mul (show xs.length + ms.length ≤ 1000000000 by omega) hby) (by decide)) (Nat.zero_le _)
  have hS2 := Sts.grown hL hS hgr hown (by
    intro k hk
    rcases hbl with h | h
    · exact Or.inl (h ▸ hk)
    · rw [h] at hk; injection hk with hk; exact Or.inr (by omega))
  rw [show xs.length + ms.length = (xs ++ ms).length by simp] at hS2
  have hr : (execOp a.eval o).run Tryd.prog w = .ok (.value v') w' := by
    simp [execOp, ho, resolve, invoke, builtin, hs, hx, hrun, Result.andThen]
  exact eff_value D _ hr hS2 (hD v') (fun _ h => h) (h v')
/-- A call that leaves the world. -/
theorem eff_same {L : Prop} {dst : Option Tmp} {a : Act} {K : Act → WP → WP → Prop} {f : FuncId} {args : Array Value} {D S : WP} {w : World} {r : Result Next} {v : Value} (hr : r = .ok (.enter f args) w) (hS : S w) (hSD : ∀ y, S y → D y) (hc : Calls Tryd.prog f args w fun e w' => e = .returned v ∧ w' = w)
    (hk : K (a.put dst v) D S) : effUpon Tryd.prog L dst a D K r :=
  eff_call hr hc fun e w' he => ⟨v, he.1, D, S, by rw [he.2]; exact hS, hSD, fun _ h => h, hk⟩
theorem hexB_at (b : List UInt8) (k : Nat) (h : k < b.length) : hexB (b.take (k + 1)) = hexB (b.take k) ++ [hexC (b[k].toNat / 16), hexC (b[k].toNat % 16)] := hexB_take b k h
theorem run_cut (n : Nat) (h : n < 16) (x : World) : (Instr.slice 9 (.string ⟨#[48, 49, 50, 51, 52, 53, 54, 55, 56, 57, 97, 98, 99, 100, 101, 102]⟩) (some (.int .u8 (n : Int))) (some (.int .u8 ((n : Int) + 1))) none).run Tryd.prog x = .ok (.string ⟨#[hexC n]⟩) x := by
  rw [run_slice_string x 9 _ .u8 .u8 (n : Int) ((n : Int) + 1) Tryd.underlying9 (by omega) (by omega) (by show (n : Int) + 1 ≤ (16 : Nat); omega)]
  have : ∀ i : Fin 16, (⟨#[48, 49, 50, 51, 52, 53, 54, 55, 56, 57, 97, 98, 99, 100, 101, 102]⟩ : ByteArray).extract i.val (i.val + 1) = ⟨#[hexC i.val]⟩ := by decide +kernel
  have e := this ⟨n, h⟩
  simp only at e
  rw [show ((n : Int)).toNat = n by omega, show ((n : Int) + 1).toNat = n + 1 by omega, e]
section
variable {w : World}
set_option maxRecDepth 100000 in
set_option maxHeartbeats 8000000 in
theorem cHexR (a : Option Addr) (cap : Nat) (b : List UInt8) (hr : Rd w (.slice a b.length cap) (u8v b)) (hn : b.length < 100000000) : Calls Tryd.prog 31 #[.slice a b.length cap] w fun e w' => ∃ X, e = .returned (.string X) ∧ bs X = hexV b ∧ Below w.heap.size w w' := by
  have HR := hid hr
  clear hr
  obtain ⟨N, hN⟩ : ∃ N, N = b.length := ⟨_, rfl⟩
  rw [← hN] at HR hn ⊢
  have HN := hid hN
  clear hN
  go_enter Tryd.func31, Tryd.ntmps31
  go_wp2_with fail
  go_loopw [4, 5] (fun v i wr => ∃ (k : Nat) (s : ByteArray), k ≤ N ∧ v = .string s ∧ i = .int .i64 k ∧ Hid (bs s = 120 :: hexB (b.take k)) ∧ Hid (Below w.heap.size w wr)) (fun _ i _ => N - (intOf i).toNat)
  case atStart => exact ⟨0, ⟨#[120]⟩, by omega, rfl, rfl, hid rfl, hid (Below.refl _ _)⟩
  case round =>
    obtain ⟨k, s, hk, rfl, rfl, HS, HB⟩ := hrel
    by_cases hlt : k < N
    · have hkb : k < b.length := by rw [← HN.out]; exact hlt
      obtain ⟨a', c', e', hcap, hx⟩ := HR.out
      injection e' with e1 e2 e3
      subst e1
      obtain ⟨bb, off, rfl, hb1, hb2⟩ := hx k (by rw [u8v_len]; exact hkb)
      have hcell : wr.cell? ⟨bb, off + k, none⟩ = some (.int .u8 (b[k].toNat : Int)) := by
        rw [HB.out.cell hb1, hb2]; simp [u8v, u8s, nb]
      have HT := hid (hexB_at b k hkb)
      have hc256 := b[k].toNat_lt
      obtain ⟨c, hc⟩ : ∃ c, c = b[k].toNat := ⟨_, rfl⟩
      rw [← hc] at hcell HT hc256
      have hs1 : s.size = 1 + 2 * k := by rw [Scr.bs_size, HS.out]; simp [Scr.hexB_len]; omega
      have hg1 : ¬ 9223372036854775807 < s.size + 1 := by omega
      have hg2 : ¬ 9223372036854775807 < s.size + 1 + 1 := by omega
      have hd1 := run_cut (c / 16) (by omega)
      have hd2 := run_cut (c % 16) (by omega)
      have hq1 : ((c / 16 : Nat) : Int) = (c : Int) / 16 := by omega
      have hq2 : ((c % 16 : Nat) : Int) = (c : Int) % 16 := by omega
      rw [hq1] at hd1
      rw [hq2] at hd2
      have hq3 : Int.tdiv (c : Int) 16 = (c : Int) / 16 := Int.tdiv_eq_ediv_of_nonneg (by omega)
      have hq4 : Int.tmod (c : Int) 16 = (c : Int) % 16 := Int.tmod_eq_emod_of_nonneg (by omega)
      obtain ⟨d1, hd1e⟩ : ∃ d1, d1 = hexC (c / 16) := ⟨_, rfl⟩
      obtain ⟨d2, hd2e⟩ : ∃ d2, d2 = hexC (c % 16) := ⟨_, rfl⟩
      rw [← hd1e] at hd1 HT
      rw [← hd2e] at hd2 HT
      have hk0 : (0 : Int) ≤ (k : Int) := Int.natCast_nonneg _
      have hc0 : (0 : Int) ≤ (c : Int) := Int.natCast_nonneg _
      clear hx e2 e3 hcap hb1 hb2 hc hq1 hq2 hd1e hd2e hs1
      go_wp2_with (go_quiet (fail))
      all_goals (go_roundw
                 case rel => exact ⟨k + 1, _, by omega, rfl, by simp, hid (by rw [bs_app, bs_app, HS.out, HT.out, List.append_assoc]; rfl), hid (by first | exact HB.out | exact below_drewN HB.out _)⟩
                 case measure => first | (simp [intOf]; done) | (simp [intOf]; omega))
    · have hkN : k = N := by omega
      have hX := HS.out
      rw [hkN, show b.take N = b by rw [HN.out, List.take_length]] at hX
      have HX := hid hX
      clear hX HS
      subst hkN
      go_wp2_with fail
      all_goals (go_ret; exact ⟨_, rfl, HX.out, HB.out⟩)
theorem pairR_at (l : Str) (i : Nat) (h : i + 1 < l.length) : pairR (l.drop i) = UInt8.ofNat (16 * digR (l.getD i 0) + digR (l.getD (i + 1) 0)) :: pairR (l.drop (i + 2)) := by
  rw [List.drop_eq_getElem_cons (show i < l.length by omega), List.drop_eq_getElem_cons (show i + 1 < l.length by omega)]
  simp only [pairR]
  rw [List.getD_eq_getElem?_getD, List.getElem?_eq_getElem (show i < l.length by omega), List.getD_eq_getElem?_getD, List.getElem?_eq_getElem (show i + 1 < l.length by omega)]
  rfl
theorem pairR_end (l : Str) (i : Nat) (h : l.length ≤ i + 1) : pairR (l.drop i) = [] := by
  have : (l.drop i).length ≤ 1 := by rw [List.length_drop]; omega
  match h : l.drop i with
  | [] => rfl
  | [x] => rfl
  | x :: y :: r => rw [h] at this; simp at this
set_option maxRecDepth 100000 in
set_option maxHeartbeats 8000000 in
theorem cBytesR (S : ByteArray) (hs : S.size < 1000000) : Calls Tryd.prog 41 #[.string S] w fun e w' => ∃ v, e = .returned v ∧ New w w' 5 v (u8v (bytesR (bs S))) := by
  obtain ⟨N, hN⟩ : ∃ N, N = (bs S).length := ⟨_, rfl⟩
  have hz : S.size = N := by rw [Scr.bs_size, hN]
  have hix := hid (run_byte S)
  rw [← hN] at hix
  have HN := hid hN
  have hN1 : N < 1000000 := by omega
  clear hN hs
  have hS0 := hid (Sts.rowNil 5 (Sts.nil w))
  go_enter Tryd.func41, Tryd.ntmps41
  go_wp2_with fail
  go_loopw [3, 4] (fun v i wr => ∃ (k : Nat) (b : List UInt8), 1 ≤ k ∧ k ≤ N + 1 ∧ i = .int .i64 k ∧ b.length ≤ k ∧ Hid (bytesR (bs S) = b ++ pairR ((bs S).drop k)) ∧ Hid (Sts w [rowP 5 1 v (u8v b).length (u8v b)] wr)) (fun _ i _ => N + 1 - (intOf i).toNat)
  case atStart => exact ⟨1, [], by omega, by omega, rfl, by simp, hid rfl, hS0⟩
  case round =>
    obtain ⟨k, b, hk1, hk, rfl, hbk, HI, HS⟩ := hrel
    by_cases hlt : k + 1 < N
    · have hst := pairR_at (bs S) k (by rw [← HN.out]; exact hlt)
      have hx1 := fun x => hix.out k (by omega) x
      have hx2 := fun x => hix.out (k + 1) hlt x
      rw [show ((k + 1 : Nat) : Int) = (k : Int) + 1 by omega] at hx2
      obtain ⟨ca, hca⟩ : ∃ ca, ca = (bs S).getD k 0 := ⟨_, rfl⟩
      obtain ⟨cb, hcb⟩ : ∃ cb, cb = (bs S).getD (k + 1) 0 := ⟨_, rfl⟩
      rw [← hca] at hx1 hst
      rw [← hcb] at hx2 hst
      have HCA := hid (fun y : World => cDigit (w := y) ca)
      have HCB := hid (fun y : World => cDigit (w := y) cb)
      have hda := valC_le (c := ca)
      have hdb := valC_le (c := cb)
      obtain ⟨da, hdae⟩ : ∃ da, da = digR ca := ⟨_, rfl⟩
      obtain ⟨db, hdbe⟩ : ∃ db, db = digR cb := ⟨_, rfl⟩
      obtain ⟨na, hna⟩ : ∃ na, na = (ca.toNat : Int) := ⟨_, rfl⟩
      obtain ⟨nc, hnc⟩ : ∃ nc, nc = (cb.toNat : Int) := ⟨_, rfl⟩
      rw [← hdae] at HCA hda hst
      rw [← hdbe] at HCB hdb hst
      rw [← hna] at HCA hx1
      rw [← hnc] at HCB hx2
      clear hca hcb hdae hdbe hna hnc
      have HST := hid hst
      clear hst
      obtain ⟨xb, hxb⟩ : ∃ xb : UInt8, xb.toNat = 16 * da + db := ⟨UInt8.ofNat (16 * da + db), by rw [UInt8.toNat_ofNat']; omega⟩
      have HXB := hid (show UInt8.ofNat (16 * da + db) = xb from by apply UInt8.toNat_inj.1; rw [UInt8.toNat_ofNat', hxb]; omega)
      have HXV := hid (show [Value.int .u8 (16 * (da : Int) + (db : Int))] = u8v [xb] from by simp [u8v, u8s, nb, hxb])
      clear hxb
      have hf2 : (u8v b).length + 1 < 1000000000 := by rw [u8v_len]; omega
      have hk0 : (0 : Int) ≤ (k : Int) := Int.natCast_nonneg _
      have hda0 : (0 : Int) ≤ (da : Int) := Int.natCast_nonneg _
      have hdb0 : (0 : Int) ≤ (db : Int) := Int.natCast_nonneg _
      have hST := hid (show ∀ v' xs, ∀ B ∈ [rowP 5 1 v' xs.length xs], Stable B from fun v' xs => stab1 (rowP_stable _ _ _ _ _))
      have hD0 := hid (HS.out.drew (hST.out _ _))
      have hw1 : IntKind.i64.wrap ((k : Int) + 1) = (k : Int) + 1 := by rw [IntKind.wrap_i64]; omega
      have hw2 : IntKind.i64.wrap (16 * (da : Int)) = 16 * (da : Int) := by rw [IntKind.wrap_i64]; omega
      have hw3 : IntKind.i64.wrap (16 * (da : Int) + (db : Int)) = 16 * (da : Int) + (db : Int) := by rw [IntKind.wrap_i64]; omega
      have hw4 : IntKind.u8.wrap (16 * (da : Int) + (db : Int)) = 16 * (da : Int) + (db : Int) := by rw [IntKind.wrap_u8]; omega
      go_wp2_with fail
      refine wp_region_ord (.pure 0 (.pure 1 (.pure 2 (.pure 3 (.pure 6 (.pure 7 (.pure 8 (.pure 9 (.eff 4 (.pure 5 (.eff 10 (.pure 11 (.pure 12 (.eff 13 (.eff 14 (.pure 15 .nil)))))))))))))))) (fun _ => True) (fun y => Sts w [rowP 5 1 u3 (u8v b).length (u8v b)] y) (by kernel_rfl) (by kernel_rfl) hD0.out (fun _ _ => trivial) ?_
      iterate 8
        (apply ord_pure (ho := rfl)
         · go_simp
         · intro x hx; go_simp; rfl
         apply ord_norm
         · go_simp; rfl)
      apply ord_eff (ho := rfl)
      · go_simp
      intro x hx
      refine eff_same (by go_simp) hx (fun _ _ => trivial) (HCA.out x) ?_
      apply ord_norm
      · go_simp; rfl
      clear hx
      iterate 1
        (apply ord_pure (ho := rfl)
         · go_simp
         · intro x hx; go_simp; rfl
         apply ord_norm
         · go_simp; rfl)
      apply ord_eff (ho := rfl)
      · go_simp
      intro x hx
      refine eff_same (by go_simp) hx (fun _ _ => trivial) (HCB.out x) ?_
      apply ord_norm
      · go_simp; rfl
      clear hx
      iterate 2
        (apply ord_pure (ho := rfl)
         · go_simp
         · intro x hx; go_simp; rfl
         apply ord_norm
         · go_simp; rfl)
      apply ord_eff (ho := rfl)
      · go_simp
      intro x hx
      have HX := hid hx
      clear hx
      refine eff_value (v := .slice (some ⟨x.heap.size, 0, none⟩) 1 1) (w := x.alloc (.cells #[.int .u8 (16 * (da : Int) + (db : Int))] 5)) (fun _ => True) (fun y => Sts w [rowP 5 1 u3 (u8v b).length (u8v b)] y ∧ y.cell? ⟨x.heap.size, 0, none⟩ = some (.int .u8 (16 * (da : Int) + (db : Int)))) (by go_simp) ⟨HX.out.box (hST.out _ _) _, cell_blk (heap_new x _ rfl) rfl⟩ (fun _ _ => trivial) (fun _ h => h) ?_
      apply ord_norm
      · go_simp; rfl
      apply ord_eff (ho := rfl)
      · go_simp
      intro y hy
      refine eff_app eltByte (ms := [.int .u8 (16 * (da : Int) + (db : Int))]) (fun _ => True) (.tmp 12) (.tmp 25) rfl hy.1 stab0 rfl ⟨x.heap.size, 0, none⟩ 1 rfl (fun j u hj => by
        cases j with
        | zero => simp only [List.getElem?_cons_zero, Option.some.injEq] at hj; subst hj; exact hy.2
        | succ j => simp at hj) (fun u hu => by simp only [List.mem_singleton] at hu; subst hu; rfl) (by decide) hf2 (fun _ _ _ => trivial) ?_
      intro v'
      apply ord_norm
      · go_simp; rfl
      clear hy
      iterate 1
        (apply ord_pure (ho := rfl)
         · go_simp
         · intro x hx; go_simp; rfl
         apply ord_norm
         · go_simp; rfl)
      apply ord_nil
      intro y hy
      have HY := hid (show Sts w [rowP 5 1 v' (u8v (b ++ [xb])).length (u8v (b ++ [xb]))] y from by
        rw [HXV.out] at hy
        rw [u8v_app]
        exact hy)
      clear hy
      go_wp2_with fail
      go_roundw
      case rel => exact ⟨k + 2, b ++ [xb], by omega, by omega, by simp, by simp; omega, hid (by rw [HI.out, HST.out, HXB.out, List.append_assoc]; rfl), HY⟩
      case measure => first | (simp [intOf]; done) | (simp [intOf]; omega)
    · have hb : bytesR (bs S) = b := by rw [HI.out, pairR_end (bs S) k (by rw [← HN.out]; omega), List.append_nil]
      have HBB := hid hb
      clear hb HI
      go_wp2_with fail
      all_goals (go_ret; exact ⟨_, rfl, by rw [HBB.out]; exact Sts.isNew HS.out rfl⟩)
set_option maxRecDepth 100000 in
set_option maxHeartbeats 8000000 in
theorem cWordsR (S : ByteArray) (hs : S.size < 1000000) : Calls Tryd.prog 22 #[.string S] w fun e w' => ∃ v, e = .returned v ∧ New w w' 9 v (strsV (splitW (bs S))) := by
  obtain ⟨N, hN⟩ : ∃ N, N = (bs S).length := ⟨_, rfl⟩
  have hz : S.size = N := by rw [Scr.bs_size, hN]
  have hix := hid (run_byte S)
  rw [← hN] at hix
  have HN := hid hN
  have hN1 : N < 1000000 := by omega
  clear hN hs
  have hS0 := hid (Sts.rowNil 9 (Sts.nil w))
  go_enter Tryd.func22, Tryd.ntmps22
  go_wp2_with fail
  go_loopw [3, 4, 5] (fun v f i wr => ∃ (k j : Nat) (out : List Str), k ≤ N + 1 ∧ i = .int .i64 k ∧ f = .int .i64 j ∧ j ≤ k ∧ out.length ≤ j ∧ Hid ((k ≤ N ∧ (∀ x, j ≤ x → x < k → (bs S).getD x 0 ≠ 32) ∧ out ++ splitW ((bs S).drop j) = splitW (bs S)) ∨ (k = N + 1 ∧ out = splitW (bs S))) ∧ Hid (Sts w [rowP 9 1 v (strsV out).length (strsV out)] wr)) (fun _ _ i _ => N + 1 - (intOf i).toNat)
  case atStart => exact ⟨0, 0, [], by omega, rfl, rfl, by omega, by simp, hid (Or.inl ⟨by omega, fun x h1 h2 => by omega, rfl⟩), hS0⟩
  case round =>
    obtain ⟨k, j, out, hk, rfl, rfl, hjk, hoj, HI, HS⟩ := hrel
    have hf2 : (strsV out).length + 1 < 1000000000 := by rw [strsV_len]; omega
    by_cases hle : k ≤ N
    · obtain ⟨-, hfree, hsp⟩ := HI.out.resolve_right (fun h => by omega)
      have hpc := run_piece S j k hjk (by rw [← HN.out]; exact hle)
      by_cases hend : k = N
      · have hlast : out ++ [((bs S).drop j).take (k - j)] = splitW (bs S) := by
          rw [← hsp, Scr.split_end (l := bs S) (a := j) (by rw [← HN.out, ← hend]; exact hfree), List.take_of_length_le (by rw [List.length_drop, ← HN.out]; omega)]
        have HLAST := hid hlast
        obtain ⟨wd, hwd⟩ : ∃ wd, wd = ((bs S).drop j).take (k - j) := ⟨_, rfl⟩
        rw [← hwd] at hpc HLAST
        clear hwd hlast hfree hsp HI
        have g1 : ((k : Int) == (N : Int)) = true := by simp; omega
        have g2 : (k : Int) = (N : Int) := by omega
        subst hend
        go_wp2_with (first | (at_builtin; refine wpList_app eltStr (ms := [.string ⟨wd.toArray⟩]) rfl (.tmp 22) (.tmp 27) rfl (HS.out.box (stab1 (rowP_stable _ _ _ _ _)) _) stab0 rfl ⟨wr.heap.size, 0, none⟩ 1 rfl (new_cell _ _ _) (fun u hu => by simp only [List.mem_singleton] at hu; subst hu; rfl) (by decide) hf2 ?_; intro v' w2 hz2; have HZ := hid hz2; clear hz2))
        all_goals (go_roundw
                   case rel => exact ⟨k + 1, k + 1, out ++ [wd], by omega, by simp, by simp, by omega, by simp; omega, hid (Or.inr ⟨rfl, HLAST.out⟩), hid (by have := HZ.out; simpa [strsV, strV] using this)⟩
                   case measure => first | (simp [intOf]; done) | (simp [intOf]; omega))
      · have hlt : k < N := by omega
        have hx := fun x => hix.out k hlt x
        by_cases hc : (bs S).getD k 0 = 32
        · have hsa := Scr.split_at hjk (by rw [← HN.out]; exact hlt) hfree hc
          rw [hsa] at hsp
          have HSP := hid hsp
          obtain ⟨wd, hwd⟩ : ∃ wd, wd = ((bs S).drop j).take (k - j) := ⟨_, rfl⟩
          rw [← hwd] at hpc HSP
          rw [hc, show (((32 : UInt8).toNat : Nat) : Int) = 32 from rfl] at hx
          clear hwd hfree hsp HI hsa hc
          have g1 : ((k : Int) == (N : Int)) = false := by simp; omega
          have g2 : ¬ (k : Int) = (N : Int) := by omega
          go_wp2_with (first | (at_builtin; refine wpList_app eltStr (ms := [.string ⟨wd.toArray⟩]) rfl (.tmp 22) (.tmp 27) rfl (HS.out.box (stab1 (rowP_stable _ _ _ _ _)) _) stab0 rfl ⟨wr.heap.size, 0, none⟩ 1 rfl (new_cell _ _ _) (fun u hu => by simp only [List.mem_singleton] at hu; subst hu; rfl) (by decide) hf2 ?_; intro v' w2 hz2; have HZ := hid hz2; clear hz2))
          all_goals (go_roundw
                     case rel => exact ⟨k + 1, k + 1, out ++ [wd], by omega, by simp, by simp, by omega, by simp; omega, hid (Or.inl ⟨by omega, fun x h1 h2 => by omega, by rw [List.append_assoc]; exact HSP.out⟩), hid (by have := HZ.out; simpa [strsV, strV] using this)⟩
                     case measure => first | (simp [intOf]; done) | (simp [intOf]; omega))
        · obtain ⟨c, hce⟩ : ∃ c : Nat, c = ((bs S).getD k 0).toNat := ⟨_, rfl⟩
          have hc32 : c ≠ 32 := fun e => hc (UInt8.toNat_inj.1 (by rw [← hce, e]; rfl))
          rw [← hce] at hx
          have HI2 := hid (show k + 1 ≤ N ∧ (∀ x, j ≤ x → x < k + 1 → (bs S).getD x 0 ≠ 32) ∧ out ++ splitW ((bs S).drop j) = splitW (bs S) from ⟨by omega, fun x h1 h2 => by
            by_cases e : x = k
            · rw [e]; exact hc
            · exact hfree x h1 (by omega), hsp⟩)
          clear hfree hsp HI hc hce
          have g1 : ((k : Int) == (N : Int)) = false := by simp; omega
          have g2 : ¬ (k : Int) = (N : Int) := by omega
          have g3 : ((c : Int) == 32) = false := by simp; omega
          have g4 : ¬ (c : Int) = 32 := by omega
          go_wp2_with fail
          all_goals (go_roundw
                     case rel => exact ⟨k + 1, j, out, by omega, by simp, rfl, by omega, by omega, hid (Or.inl HI2.out), HS⟩
                     case measure => first | (simp [intOf]; done) | (simp [intOf]; omega))
    · have ho : out = splitW (bs S) := (HI.out.resolve_left (fun h => hle h.1)).2
      have HO := hid ho
      clear HI ho
      go_wp2_with fail
      all_goals (go_ret; exact ⟨_, rfl, by rw [← HO.out]; exact Sts.isNew HS.out rfl⟩)
end
end Go.Proofs.YtimnhheagdhpgaaDoor
