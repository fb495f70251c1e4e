/- Reading numbers. Reading a row of numbers; the words of a line. -/
import Derived.Test.YtimnhheagdhpgaaDoorScrA
import Derived.Lib.AtoiErrMem
import Derived.Lib.AppendIntMem
import Derived.Maps.AppendAt
import Derived.WideShapes
import Derived.OwnWalk
set_option linter.unusedVariables false
set_option linter.unusedSimpArgs false
namespace Go.Proofs.YtimnhheagdhpgaaDoor
open Go.RowKit Go.Proofs.Num Scr
section
variable {w : World}
theorem cItoa (n : Int) (h0 : -9223372036854775808 ≤ n) (h1 : n ≤ 9223372036854775807) (hE : Env w) : Calls Tryd.prog 44 #[.int .i64 n] w fun e w' => e = .returned (.string ⟨(Lib.itoa n).toArray⟩) ∧ Below w.heap.size w w' := by
  refine (Tryd.strconv_Itoa n h0 h1 w hE.tab).mono ?_
  rintro e w' ⟨rfl, k, os, rfl⟩
  exact ⟨rfl, Lib.below_grow _ _ (Nat.le_refl _) _ _⟩
/-- What Atoi gives. -/
def atoiE (x : World) (r : Lib.NumEnd Int) (e : Ending) : Prop := match r with
  | .ok v => e = .returned (.tuple #[.int .i64 v, .nilIface])
  | _ => ∃ (z : Int) (t : TypeId) (p : Value), e = .returned (.tuple #[.int .i64 z, .iface t p])
theorem cAtoi (S : ByteArray) (hs : S.size ≤ 281474976710656) (hE : Env w) : Calls Tryd.prog 65 #[.string S] w fun e w' => atoiE w (Lib.atoiAll (bs S)) e ∧ Below w.heap.size w w' := by
  cases h : Lib.atoiAll (bs S) with
  | ok v =>
    refine (Tryd.strconv_Atoi_ok S (by omega) v h w).mono ?_
    rintro e w' ⟨rfl, h⟩
    refine ⟨rfl, ?_⟩
    rcases h with rfl | ⟨t, rfl⟩
    · exact Below.refl _ _
    · exact Lib.bytesWorld_below _ _ _
  | range =>
    obtain ⟨t, p, hv⟩ := hE.rng
    refine (Tryd.strconv_Atoi_range S hs h _ w hv (Or.inr ⟨t, p, rfl⟩)).mono ?_
    rintro e w' ⟨N, rfl, -, -, hb⟩
    exact ⟨⟨_, _, _, rfl⟩, hb⟩
  | _ =>
    obtain ⟨t, p, hv⟩ := hE.syn
    refine (Tryd.strconv_Atoi_none S hs _ (fun v e => by cases e) (fun e => by cases e) h _ w hv (Or.inr ⟨t, p, rfl⟩)).mono ?_
    rintro e w' ⟨N, rfl, -, -, hb⟩
    exact ⟨⟨_, _, _, rfl⟩, hb⟩
theorem str_eq (l : Str) (S : ByteArray) : ((⟨l.toArray⟩ : ByteArray).toList == S.toList) = decide (l = bs S) := by
  rw [ByteArray.toList_mk, ByteArray.toList_eq, Bool.eq_iff_iff]
  simp [bs]
def numP (o : Option Int) : Value := .tuple #[.int .i64 (o.getD 0), .bool o.isSome]
set_option maxHeartbeats 2000000 in
theorem cNumber (S : ByteArray) (hs : S.size ≤ 281474976710656) (hE : Env w) : Calls Tryd.prog 51 #[.string S] w fun e w' => e = .returned (numP (numV (bs S))) ∧ Below w.heap.size w w' := by
  have HA := cAtoi S hs hE
  have HE := hid hE
  clear hE
  cases h : Lib.atoiAll (bs S) with
  | ok v =>
    have hb := Lib.atoiAll_bounds h
    rw [h] at HA
    obtain ⟨b, hb0⟩ : ∃ b, b = decide (Lib.itoa v = bs S) := ⟨_, rfl⟩
    have heq : ((⟨(Lib.itoa v).toArray⟩ : ByteArray).toList == S.toList) = b := by rw [str_eq, hb0]
    have hr : numV (bs S) = if b = true ∧ small v = true then some v else none := by
      unfold numV; rw [h, hb0]; simp
    rw [ByteArray.toList_mk] at heq
    obtain ⟨h0, h1⟩ := hb
    obtain ⟨o, ho⟩ : ∃ o, o = numV (bs S) := ⟨_, rfl⟩
    rw [← ho]
    rw [hr] at ho
    clear hr hb0 h
    cases b with
    | false =>
      rw [if_neg (by simp)] at ho
      subst ho
      · go_enter Tryd.func51, Tryd.ntmps51
        go_wp2_with (first | (go_at_call 65; refine HA.mono ?_; rintro e w1 ⟨rfl, hb1⟩; have HB := hid hb1; clear hb1; have HE1 := hid (HE.out.below HB.out)) | (go_at_call 44; refine (cItoa v h0 h1 HE1.out).mono ?_; rintro e w2 ⟨rfl, hb2⟩; have HB2 := hid (HB.out.trans (hb2.mono HB.out.size)); clear hb2))
        all_goals (go_ret2; exact ⟨rfl, HB2.out⟩)
    | true =>
      by_cases hsm : -1099511627776 ≤ v ∧ v ≤ 1099511627776
      · rw [if_pos ⟨rfl, by simp [small, hsm]⟩] at ho
        subst ho
        obtain ⟨g0, g1⟩ := hsm
        go_enter Tryd.func51, Tryd.ntmps51
        go_wp2_with (first | (go_at_call 65; refine HA.mono ?_; rintro e w1 ⟨rfl, hb1⟩; have HB := hid hb1; clear hb1; have HE1 := hid (HE.out.below HB.out)) | (go_at_call 44; refine (cItoa v h0 h1 HE1.out).mono ?_; rintro e w2 ⟨rfl, hb2⟩; have HB2 := hid (HB.out.trans (hb2.mono HB.out.size)); clear hb2))
        all_goals (go_ret2; exact ⟨rfl, HB2.out⟩)
      · rw [if_neg (by simp [small]; omega)] at ho
        subst ho
        rcases (show v < -1099511627776 ∨ (-1099511627776 ≤ v ∧ 1099511627776 < v) by omega) with g0 | ⟨g0, g1⟩
        · go_enter Tryd.func51, Tryd.ntmps51
          go_wp2_with (first | (go_at_call 65; refine HA.mono ?_; rintro e w1 ⟨rfl, hb1⟩; have HB := hid hb1; clear hb1; have HE1 := hid (HE.out.below HB.out)) | (go_at_call 44; refine (cItoa v h0 h1 HE1.out).mono ?_; rintro e w2 ⟨rfl, hb2⟩; have HB2 := hid (HB.out.trans (hb2.mono HB.out.size)); clear hb2))
          all_goals (go_ret2; exact ⟨rfl, HB2.out⟩)
        · go_enter Tryd.func51, Tryd.ntmps51
          go_wp2_with (first | (go_at_call 65; refine HA.mono ?_; rintro e w1 ⟨rfl, hb1⟩; have HB := hid hb1; clear hb1; have HE1 := hid (HE.out.below HB.out)) | (go_at_call 44; refine (cItoa v h0 h1 HE1.out).mono ?_; rintro e w2 ⟨rfl, hb2⟩; have HB2 := hid (HB.out.trans (hb2.mono HB.out.size)); clear hb2))
          all_goals (go_ret2; exact ⟨rfl, HB2.out⟩)
  | range =>
    rw [h] at HA
    have ho : numV (bs S) = none := by unfold numV; rw [h]
    rw [ho]
    clear ho h
    go_enter Tryd.func51, Tryd.ntmps51
    go_wp2_with (first | (go_at_call 65; refine HA.mono ?_; rintro e w1 ⟨⟨z, t, p, rfl⟩, hb1⟩; have HB := hid hb1; clear hb1))
    all_goals (go_ret2; exact ⟨rfl, HB.out⟩)
  | _ =>
    rw [h] at HA
    have ho : numV (bs S) = none := by unfold numV; rw [h]
    rw [ho]
    clear ho h
    go_enter Tryd.func51, Tryd.ntmps51
    go_wp2_with (first | (go_at_call 65; refine HA.mono ?_; rintro e w1 ⟨⟨z, t, p, rfl⟩, hb1⟩; have HB := hid hb1; clear hb1))
    all_goals (go_ret2; exact ⟨rfl, HB.out⟩)
end
end Go.Proofs.YtimnhheagdhpgaaDoor
namespace Go.Proofs.YtimnhheagdhpgaaDoor
open Go.RowKit Go.Proofs.Num Scr
/-- A slice whose elements are one cell each. -/
structure Elt (st et : TypeId) (z : Value) (by' : Nat) : Prop where
  u : Tryd.prog.underlying st = some (.slice et)
  i : (Tryd.prog.info? et).map (fun i => (i.zero, i.size, i.bytes)) = some (some z, 1, by')
  pos : 1 ≤ by'
  one : z.cells.size = 1
theorem wpList_app {ops : Array Oper} {rest : List Oper} {o : Oper} {a : Act} {Q : Exit → Act → World → Prop} {W w : World} {L : List HProp} {v : Value} {st et : TypeId} {z : Value} {by' : Nat} (hE : Elt st et z by') {xs ms : List Value} (hgd : o.guard = none) (s x : Operand)
    (ho : o.op = .call { callee := .builtin .append, args := #[s, x], argTypes := #[st, st] }) (hS : Sts W (rowP et 1 v xs.length xs :: L) w) (hL : ∀ B ∈ L, Stable B)
    (hs : a.eval s = v) (ad : Addr) (c : Nat) (hx : a.eval x = .slice (some ad) ms.length c) (hnews : ∀ j u, ms[j]? = some u → w.cell? (ad.add j) = some u) (hone : ∀ u ∈ ms, u.oneCell' = true) (hby : by' ≤ 16) (hlen : xs.length + ms.length < 1000000000)
    (h : ∀ v' w', Sts W (rowP et 1 v' (xs ++ ms).length (xs ++ ms) :: L) w' → wpList Tryd.prog ops Q rest (a.put o.dst v') w') : wpList Tryd.prog ops Q (o :: rest) a w := by
  refine wpList_plain hgd fun K hK => ?_
  obtain ⟨i0, hi, hz0, hz1, hz2⟩ := info_parts hE.i
  obtain ⟨v', w', hrun, hown, hgr, _, hbl⟩ := run_append_own_at (P := Tryd.prog) w 0 st o.type et i0 z 1 by' hE.u hi hz0 hz1 hz2 hE.one (by decide) v xs.length xs (Sts.rowOwn hS) ad ms.length c ms (by rw [Nat.mul_one]) hnews hone (by unfold maxLen; omega) (Nat.le_trans (Nat.mul_le_mul (show xs.length + ms.length ≤ 1000000000 by omega) hby) (by decide)) (Nat.zero_le _)
  have hS2 := Sts.grown hL hS hgr hown (by
    intro k hk
    rcases hbl with h | h
    · exact Or.inl (h ▸ hk)
    · rw [h] at hk; injection hk with hk; exact Or.inr (by omega))
  rw [show xs.length + ms.length = (xs ++ ms).length by simp] at hS2
  unfold Oper.wp
  simp [execOp, ho, resolve, invoke, builtin, hs, hx, hrun, Result.andThen]
  exact hK _ _ (h v' w' hS2)
theorem Sts.isNew {W w : World} {l : List HProp} {e : TypeId} {v : Value} {n : Nat} {ys : List Value} (h : Sts W (rowP e 1 v n ys :: l) w) (hn : ys.length = n) : New W w e v ys := by
  subst hn
  obtain ⟨F, ⟨F1, F2, ⟨⟨h1, h2⟩, hf⟩, _, _, hu⟩, hb, hlow⟩ := h
  refine ⟨⟨h1, ?_⟩, hb⟩
  rcases h2 with h2 | ⟨g, cap, cur, hv, hg, r⟩
  · exact Or.inl h2
  · refine Or.inr ⟨g, cap, cur, hv, ?_, r⟩
    have : v.ownBlock = some g := by rw [hv]; rfl
    exact hlow g ((hu g).2 (Or.inl ((hf g).2 this)))
theorem eltStr : Elt 47 9 (.string ⟨#[]⟩) 16 := ⟨Tryd.underlying47, by kernel_rfl, by decide, rfl⟩
theorem eltInt : Elt 23 3 (.int .i64 0) 8 := ⟨Tryd.underlying23, by kernel_rfl, by decide, rfl⟩
theorem eltByte : Elt 22 5 (.int .u8 0) 1 := ⟨Tryd.underlying22, by kernel_rfl, by decide, rfl⟩
def strV (l : Str) : Value := .string ⟨l.toArray⟩
def strsV (l : List Str) : List Value := l.map strV
theorem strsV_len (l : List Str) : (strsV l).length = l.length := by simp [strsV]
def intsV (l : List Int) : List Value := l.map fun n => .int .i64 n
theorem intsV_len (l : List Int) : (intsV l).length = l.length := by simp [intsV]
theorem new_cell (x : World) (v : Value) (t : TypeId) : ∀ (j : Nat) (u : Value), [v][j]? = some u → (x.alloc (.cells #[v] t)).cell? ((⟨x.heap.size, 0, none⟩ : Addr).add j) = some u := by
  intro j u hj
  cases j with
  | zero =>
    simp only [List.getElem?_cons_zero, Option.some.injEq] at hj
    subst hj
    exact cell_blk (heap_new x _ rfl) rfl
  | succ j => simp at hj
theorem numsV_take : ∀ (l : List Str) (k : Nat) (t : List Int) (h : k < l.length), numsV (l.take k) = some t → numsV (l.take (k + 1)) = (numV l[k]).map (fun n => t ++ [n])
  | [], k, t, h, _ => absurd h (by simp)
  | w :: l, 0, t, h, ht => by
    simp only [List.take_zero, numsV] at ht
    injection ht with ht
    subst ht
    simp only [List.take_succ_cons, List.take_zero, numsV, List.getElem_cons_zero]
    cases numV w <;> rfl
  | w :: l, k + 1, t, h, ht => by
    simp only [List.take_succ_cons, numsV] at ht
    split at ht
    · rename_i n r hn hr
      injection ht with ht
      subst ht
      have ih := numsV_take l k r (by simpa using h) hr
      simp only [List.take_succ_cons, numsV, List.getElem_cons_succ, hn, ih]
      cases numV (l[k]'(by simpa using h)) <;> rfl
    · cases ht
theorem numsV_stop : ∀ (l : List Str) (k : Nat) (h : k < l.length), numV l[k] = none → numsV l = none
  | [], k, h, _ => absurd h (by simp)
  | w :: l, 0, h, hn => by
    simp only [List.getElem_cons_zero] at hn
    simp only [numsV, hn]
  | w :: l, k + 1, h, hn => by
    simp only [List.getElem_cons_succ] at hn
    simp only [numsV, numsV_stop l k (by simpa using h) hn]
    cases numV w <;> rfl
section
variable {w : World}
def numsE (w w' : World) (o : Option (List Int)) (e : Ending) : Prop := match o with
  | some t => ∃ v, e = .returned (.tuple #[v, .bool true]) ∧ New w w' 3 v (intsV t)
  | none => e = .returned (.tuple #[.slice none 0 0, .bool false]) ∧ Below w.heap.size w w'
set_option maxHeartbeats 4000000 in
theorem cNumbers (a : Option Addr) (c : Nat) (l : List Str) (hl : l.length < 1000000) (hw : ∀ s ∈ l, s.length ≤ 281474976710656) (hr : Rd w (.slice a l.length c) (strsV l)) (hE : Env w) :
    Calls Tryd.prog 55 #[.slice a l.length c] w fun e w' => numsE w w' (numsV l) e := by
  obtain ⟨o, ho⟩ : ∃ o, o = numsV l := ⟨_, rfl⟩
  rw [← ho]
  have HO := hid ho
  clear ho
  have HR := hid hr
  have HE := hid hE
  clear hr hE
  have hS0 := hid (Sts.rowNil 3 (Sts.nil w))
  obtain ⟨N, hN⟩ : ∃ N, N = l.length := ⟨_, rfl⟩
  rw [← hN]
  have HN := hid hN
  rw [← hN] at hl HR
  clear hN
  go_enter Tryd.func55, Tryd.ntmps55
  go_wp2_with fail
  go_loopw [4, 11] (fun v i wr => ∃ (k : Nat) (t : List Int), k ≤ N ∧ i = .int .i64 k ∧ Hid (numsV (l.take k) = some t ∧ t.length = k) ∧ Hid (Sts w [rowP 3 1 v (intsV t).length (intsV t)] wr)) (fun _ i _ => N - (intOf i).toNat)
  case atStart => exact ⟨0, [], by omega, rfl, hid ⟨rfl, rfl⟩, hid hS0.out⟩
  case round =>
    obtain ⟨k, t, hk, rfl, HT, HS⟩ := hrel
    by_cases hlt : k < N
    · obtain ⟨hT1, hT2⟩ := HT.out
      have hkl : k < l.length := by rw [← HN.out]; exact hlt
      obtain ⟨a', c', e', hcap, hx⟩ := HR.out
      injection e' with e1 e2 e3
      subst e1
      obtain ⟨b, off, rfl, hb1, hb2⟩ := hx k (by rw [strsV_len]; exact hkl)
      have hcell : wr.cell? ⟨b, off + k, none⟩ = some (strV l[k]) := by
        have := cell_below HS.out.below hb2
        rw [this]; simp [strsV]
      have hlen := hw l[k] (List.getElem_mem hkl)
      have hnx := numsV_take l k t hkl hT1
      have hst := numsV_stop l k hkl
      obtain ⟨s, hs⟩ : ∃ s, s = l[k] := ⟨_, rfl⟩
      rw [← hs] at hcell hlen hnx hst
      clear hs hx e2 e3 hb1 hb2
      have hCN := cNumber (w := wr) ⟨s.toArray⟩ (by show s.toArray.size ≤ _; simpa using hlen) (HE.out.below HS.out.below)
      rw [show bs ⟨s.toArray⟩ = s from rfl] at hCN
      have hcell2 : wr.cell? ⟨b, off + k, none⟩ = some (.string ⟨s.toArray⟩) := hcell
      clear hcell hcap hT1
      cases hn : numV s with
      | none =>
        rw [hn] at hCN
        simp only [numP, Option.getD_none, Option.isSome_none] at hCN
        have hoN : o = none := by rw [HO.out, hst hn]
        clear hnx hst hn HT HO
        subst hoN
        go_wp2_with (first | (go_at_call 51; refine hCN.mono ?_; rintro e w1 ⟨rfl, hb1⟩; have HB := hid hb1; clear hb1))
        all_goals (go_ret2; exact ⟨rfl, HS.out.below.trans (HB.out.mono HS.out.below.size)⟩)
      | some n =>
        rw [hn] at hCN
        simp only [numP, Option.getD_some, Option.isSome_some] at hCN
        rw [hn] at hnx
        have HNX := hid hnx
        clear hnx hst hn HT
        have hlt2 : (intsV t).length + 1 < 1000000000 := by rw [intsV_len]; omega
        go_wp2_with (first | (go_at_call 51; refine hCN.mono ?_; rintro e w1 ⟨rfl, hb1⟩; have HB := hid hb1; clear hb1; have HS1 := hid (HS.out.quiet (stab1 (rowP_stable _ _ _ _ _)) HB.out); clear HB) | (at_builtin; refine wpList_app eltInt (ms := [.int .i64 n]) rfl (.tmp 22) (.tmp 24) rfl (HS1.out.box (stab1 (rowP_stable _ _ _ _ _)) _) stab0 rfl ⟨w1.heap.size, 0, none⟩ 1 rfl (new_cell _ _ _) (fun u hu => by simp only [List.mem_singleton] at hu; subst hu; rfl) (by decide) hlt2 ?_; intro v' w2 hz; have HZ := hid hz; clear hz))
        all_goals (go_roundw
                   case rel => exact ⟨k + 1, t ++ [n], by omega, by simp [intOf], hid ⟨HNX.out, by simp; omega⟩, hid (by have := HZ.out; simpa [intsV] using this)⟩
                   case measure => simp [intOf]; omega)
    · have hkN : k = N := by omega
      obtain ⟨hT1, hT2⟩ := HT.out
      have hoN : o = some t := by
        rw [HO.out, ← hT1, hkN, HN.out, List.take_length]
      clear HT HO hT1
      subst hoN
      go_wp2_with fail
      all_goals (go_ret2; exact ⟨_, rfl, Sts.isNew HS.out rfl⟩)
end
end Go.Proofs.YtimnhheagdhpgaaDoor
