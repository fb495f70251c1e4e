/- Reading and writing byte strings. -/
import Derived.Test.YtimnhheagdhpgaaDoorScrE
set_option linter.unusedVariables false
set_option linter.unusedSimpArgs false
namespace Go.Proofs.YtimnhheagdhpgaaDoor
open Go.RowKit Go.Proofs.Num Scr
def nb (b : List UInt8) : List Nat := b.map UInt8.toNat
theorem nb_len (b : List UInt8) : (nb b).length = b.length := by simp [nb]
theorem nb_lt (b : List UInt8) : ∀ x ∈ nb b, x < 256 := by
  intro x hx
  obtain ⟨c, _, rfl⟩ := List.mem_map.1 hx
  exact c.toNat_lt
theorem strB_nb (b : List UInt8) : strB (nb b) = ⟨b.toArray⟩ := by
  unfold strB nb
  rw [List.map_map]
  congr 2
  have : (UInt8.ofNat ∘ UInt8.toNat) = id := by funext c; simp
  rw [this, List.map_id]
def hv (c : UInt8) : Int := match valC c with | some n => (n : Int) | none => -1
theorem hv_at (c : UInt8) : Lib.indexByte [48, 49, 50, 51, 52, 53, 54, 55, 56, 57, 97, 98, 99, 100, 101, 102] c = hv c := by
  have : ∀ i : Fin 256, Lib.indexByte [48, 49, 50, 51, 52, 53, 54, 55, 56, 57, 97, 98, 99, 100, 101, 102] (UInt8.ofNat i.val) = hv (UInt8.ofNat i.val) := by decide +kernel
  have e := this ⟨c.toNat, c.toNat_lt⟩
  simpa using e
theorem valC_lt {c : UInt8} {n : Nat} (h : valC c = some n) : n < 16 := (hexC_valC h).2
def bytesE (w w' : World) (o : Option (List UInt8)) (e : Ending) : Prop := match o with
  | some b => ∃ v, e = .returned (.tuple #[v, .bool true]) ∧ New w w' 5 v (u8s (nb b))
  | none => e = .returned (.tuple #[.slice none 0 0, .bool false]) ∧ Below w.heap.size w w'
theorem pair_step {r : Str} {k : Nat} (h : 2 * k + 1 < r.length) : pairV (r.drop (2 * k)) = match valC (r.getD (2 * k) 0), valC (r.getD (2 * k + 1) 0), pairV (r.drop (2 * (k + 1))) with
    | some x, some y, some t => some (UInt8.ofNat (16 * x + y) :: t)
    | _, _, _ => none := by
  rw [List.drop_eq_getElem_cons (show 2 * k < r.length by omega), List.drop_eq_getElem_cons (show 2 * k + 1 < r.length by omega)]
  simp only [pairV]
  rw [List.getD_eq_getElem?_getD, List.getElem?_eq_getElem (show 2 * k < r.length by omega), List.getD_eq_getElem?_getD, List.getElem?_eq_getElem (show 2 * k + 1 < r.length by omega), show 2 * (k + 1) = 2 * k + 1 + 1 by omega]
  rfl
section
variable {w : World}
theorem cIndex (S : ByteArray) (hS : bs S = [48, 49, 50, 51, 52, 53, 54, 55, 56, 57, 97, 98, 99, 100, 101, 102]) (c : UInt8) : Calls Tryd.prog 68 #[.string S, .int .u8 (c.toNat : Int)] w fun e w' => e = .returned (.int .i64 (hv c)) ∧ w' = w := by
  refine (Tryd.strings_IndexByte S (c.toNat : Int) w).mono ?_
  rintro e w' ⟨rfl, h⟩
  refine ⟨?_, h⟩
  rw [show S.data.toList = bs S from rfl, hS]
  rw [show ((c.toNat : Int)).toNat.toUInt8 = c by simp, hv_at]
set_option maxRecDepth 100000 in
set_option maxHeartbeats 8000000 in
theorem cBytes (S : ByteArray) (hs : S.size < 1000000) (most : Nat) (hm : most ≤ 65536) : Calls Tryd.prog 54 #[.string S, .int .i64 (most : Int)] w fun e w' => bytesE w w' (bytesV (bs S) most) e := by
  have hpre := Tryd.strings_HasPrefix S ⟨#[120]⟩ w
  rw [show S.data.toList = bs S from rfl, show (⟨#[120]⟩ : ByteArray).data.toList = [120] from rfl] at hpre
  obtain ⟨N, hN⟩ : ∃ N, N = (bs S).length := ⟨_, rfl⟩
  have hz : S.size = N := by rw [bs_size, hN]
  have hN1 : N < 1000000 := by omega
  obtain ⟨o, ho⟩ : ∃ o, o = bytesV (bs S) most := ⟨_, rfl⟩
  rw [← ho]
  obtain ⟨b1, hb1⟩ : ∃ b1, b1 = Lib.hasPrefix (bs S) [120] := ⟨_, rfl⟩
  rw [← hb1] at hpre
  have hhead : b1 = true ↔ ∃ r, bs S = 120 :: r := by
    rw [hb1]
    cases h : bs S with
    | nil => simp [Lib.hasPrefix]
    | cons c r =>
      simp only [Lib.hasPrefix, List.isPrefixOf, Bool.and_true, beq_iff_eq]
      constructor
      · intro e; exact ⟨r, by rw [← e]⟩
      · rintro ⟨r', e⟩; injection e with e1 e2; exact e1.symm
  clear hb1
  by_cases hgood : b1 = true ∧ N % 2 = 1 ∧ N ≤ 1 + 2 * most
  · obtain ⟨hb, hpar, hle⟩ := hgood
    subst hb
    obtain ⟨r, hr⟩ := hhead.1 rfl
    have hrN : N = r.length + 1 := by rw [hN, hr]; simp
    have ho2 : o = pairV r := by
      rw [ho, hr, bytesV, if_pos ⟨rfl, by omega, by omega⟩]
    have hix := run_byte S
    rw [hr] at hix
    have HIX := hid hix
    have HO := hid ho2
    have HR := hid hrN
    clear hhead hr ho ho2 hix hN hrN hs
    have hS0 := hid (Sts.rowNil 5 (Sts.nil w))
    have hp1 : ((N : Int) % 2) = 1 := by omega
    have hp2 : Int.tmod (N : Int) 2 = 1 := by rw [Int.tmod_eq_emod_of_nonneg (by omega)]; exact hp1
    have hdl : decide (1 + 2 * (most : Int) < (N : Int)) = false := by simp; omega
    go_enter Tryd.func54, Tryd.ntmps54
    go_wp2_with (first | (go_at_call 53; refine hpre.mono ?_; rintro e w1 ⟨rfl, hw1⟩; rw [hw1]))
    go_loopw [6, 7] (fun v i wr => ∃ (k : Nat) (b : List UInt8), 2 * k < N ∧ i = .int .i64 ((1 + 2 * k : Nat) : Int) ∧ b.length = k ∧ Hid (pairV r = (pairV (r.drop (2 * k))).map (b ++ ·)) ∧ Hid (Sts w [rowP 5 1 v (u8s (nb b)).length (u8s (nb b))] wr)) (fun _ i _ => N - (intOf i).toNat)
    case atStart => exact ⟨0, [], by omega, rfl, rfl, hid (by simp), hid hS0.out⟩
    case round =>
      obtain ⟨k, b, hk, rfl, hbl, HP, HS⟩ := hrel
      have hst1 : ∀ v n xs, Stable (rowP 5 1 v n xs) := fun _ _ _ => rowP_stable _ _ _ _ _
      have hf2 : (u8s (nb b)).length + 1 < 1000000000 := by rw [u8s_len, nb_len]; omega
      by_cases hlt : 1 + 2 * k < N
      · have hstep := pair_step (r := r) (k := k) (by have := HR.out; omega)
        have h1 := fun x => HIX.out (1 + 2 * k) (by simp only [List.length_cons]; have := HR.out; omega) x
        have h2 := fun x => HIX.out (1 + 2 * k + 1) (by simp only [List.length_cons]; have := HR.out; omega) x
        rw [show (120 :: r).getD (1 + 2 * k) 0 = r.getD (2 * k) 0 by rw [show 1 + 2 * k = 2 * k + 1 by omega]; rfl] at h1
        rw [show (120 :: r).getD (1 + 2 * k + 1) 0 = r.getD (2 * k + 1) 0 by rw [show 1 + 2 * k + 1 = (2 * k + 1) + 1 by omega]; rfl] at h2
        obtain ⟨ca, hca⟩ : ∃ ca, ca = r.getD (2 * k) 0 := ⟨_, rfl⟩
        obtain ⟨cb, hcb⟩ : ∃ cb, cb = r.getD (2 * k + 1) 0 := ⟨_, rfl⟩
        rw [← hca, ← hcb] at hstep
        rw [← hca] at h1
        rw [← hcb] at h2
        obtain ⟨j, hj⟩ : ∃ j : Nat, j = 1 + 2 * k := ⟨_, rfl⟩
        rw [← hj] at h1 h2 hlt ⊢
        rw [show ((j + 1 : Nat) : Int) = (j : Int) + 1 by omega] at h2
        have HJ := hid hj
        clear hca hcb hj
        have hj1 : (j : Int) < 1000000 := by omega
        have hI1 := fun x : World => cIndex (w := x) ⟨#[48, 49, 50, 51, 52, 53, 54, 55, 56, 57, 97, 98, 99, 100, 101, 102]⟩ rfl ca
        have hI2 := fun x : World => cIndex (w := x) ⟨#[48, 49, 50, 51, 52, 53, 54, 55, 56, 57, 97, 98, 99, 100, 101, 102]⟩ rfl cb
        obtain ⟨na, hna⟩ : ∃ na, na = (ca.toNat : Int) := ⟨_, rfl⟩
        obtain ⟨nc, hnc⟩ : ∃ nc, nc = (cb.toNat : Int) := ⟨_, rfl⟩
        rw [← hna] at h1 hI1
        rw [← hnc] at h2 hI2
        clear hna hnc
        have HI1 := hid hI1
        have HI2 := hid hI2
        clear hI1 hI2
        by_cases hbad : valC ca = none ∨ valC cb = none
        · have hoN : o = none := by
            rw [HO.out, HP.out, hstep]
            rcases hbad with h | h
            · rw [h]; rfl
            · rw [h]; cases valC ca <;> rfl
          have hneg : hv ca < 0 ∨ (0 ≤ hv ca ∧ hv cb < 0) := by
            rcases hbad with h | h
            · left; unfold hv; rw [h]; decide
            · cases h' : valC ca with
              | none => left; unfold hv; rw [h']; decide
              | some n => right; constructor
                          · unfold hv; rw [h']; simp
                          · unfold hv; rw [h]; decide
          obtain ⟨va, hva⟩ : ∃ va, va = hv ca := ⟨_, rfl⟩
          obtain ⟨vb, hvb⟩ : ∃ vb, vb = hv cb := ⟨_, rfl⟩
          rw [← hva, ← hvb] at hneg
          have HVA := hid hva
          have HVB := hid hvb
          clear hva hvb hbad hstep HP HO
          subst hoN
          rcases hneg with hn | ⟨hn1, hn⟩
          · go_wp2_with (first | (go_at_call 68; refine (HI1.out _).mono ?_; rintro e w1 ⟨rfl, hw1⟩; rw [hw1, ← HVA.out]) | (go_at_call 68; refine (HI2.out _).mono ?_; rintro e w1 ⟨rfl, hw1⟩; rw [hw1, ← HVB.out]))
            all_goals (go_ret2; exact ⟨rfl, HS.out.below⟩)
          · go_wp2_with (first | (go_at_call 68; refine (HI1.out _).mono ?_; rintro e w1 ⟨rfl, hw1⟩; rw [hw1, ← HVA.out]) | (go_at_call 68; refine (HI2.out _).mono ?_; rintro e w1 ⟨rfl, hw1⟩; rw [hw1, ← HVB.out]))
            all_goals (go_ret2; exact ⟨rfl, HS.out.below⟩)
        · obtain ⟨x, hx⟩ : ∃ x, valC ca = some x := by
            cases h : valC ca with
            | none => exact absurd (Or.inl h) hbad
            | some x => exact ⟨x, rfl⟩
          obtain ⟨y, hy⟩ : ∃ y, valC cb = some y := by
            cases h : valC cb with
            | none => exact absurd (Or.inr h) hbad
            | some y => exact ⟨y, rfl⟩
          obtain ⟨X, hX⟩ : ∃ X : Int, X = (x : Int) := ⟨_, rfl⟩
          obtain ⟨Y, hY⟩ : ∃ Y : Int, Y = (y : Int) := ⟨_, rfl⟩
          have hva : hv ca = X := by unfold hv; rw [hx, hX]
          have hvb : hv cb = Y := by unfold hv; rw [hy, hY]
          have hx16 := valC_lt hx
          have hy16 := valC_lt hy
          rw [hx, hy] at hstep
          have hP2 : pairV r = (pairV (r.drop (2 * (k + 1)))).map ((b ++ [UInt8.ofNat (16 * x + y)]) ++ ·) := by
            rw [HP.out, hstep]
            cases pairV (r.drop (2 * (k + 1))) with
            | none => rfl
            | some t => simp
          have HP2 := hid hP2
          have HVA := hid hva
          have HVB := hid hvb
          have hX0 : 0 ≤ X := by omega
          have hX1 : X < 16 := by omega
          have hY0 : 0 ≤ Y := by omega
          have hY1 : Y < 16 := by omega
          obtain ⟨q, hq⟩ : ∃ q : Nat, q = 16 * x + y := ⟨_, rfl⟩
          rw [← hq] at HP2
          have HQ := hid (show (q : Int) = 16 * X + Y ∧ q < 256 by omega)
          obtain ⟨Z, hZ⟩ : ∃ Z : Int, Z = (q : Int) := ⟨_, rfl⟩
          have hbt : IntKind.u8.wrap (16 * X + Y) = Z := by rw [IntKind.wrap_u8]; omega
          have HZQ := hid hZ
          clear hva hvb hbad hx hy hstep hP2 HP hq hX hY hx16 hy16 hZ
          have hX2 : (decide (X < 0)) = false := by simp; omega
          have hY2 : (decide (Y < 0)) = false := by simp; omega
          go_wp2_with (first | (go_at_call 68; refine (HI1.out _).mono ?_; rintro e w1 ⟨rfl, hw1⟩; rw [hw1, HVA.out]) | (go_at_call 68; refine (HI2.out _).mono ?_; rintro e w1 ⟨rfl, hw1⟩; rw [hw1, HVB.out]) | (at_builtin; refine wpList_app eltByte (ms := [.int .u8 Z]) rfl (.tmp 48) (.tmp 54) rfl (HS.out.box (stab1 (hst1 _ _ _)) _) stab0 rfl ⟨wr.heap.size, 0, none⟩ 1 rfl (new_cell _ _ _) (fun u hu => by simp only [List.mem_singleton] at hu; subst hu; rfl) (by decide) hf2 ?_; intro v' w2 hz2; have HZ := hid hz2; clear hz2))
          all_goals (go_roundw
                     case rel =>
                       refine ⟨k + 1, b ++ [UInt8.ofNat q], by have := HJ.out; omega, by have := HJ.out; congr 1; omega, by simp; omega, HP2, hid ?_⟩
                       have h3 := HZ.out
                       have h4 : u8s (nb (b ++ [UInt8.ofNat q])) = u8s (nb b) ++ [.int .u8 Z] := by
                         have := HQ.out.2
                         rw [HZQ.out]
                         simp only [nb, u8s, List.map_append, List.map_cons, List.map_nil, UInt8.toNat_ofNat']
                         rw [Nat.mod_eq_of_lt this]
                       rw [h4]
                       exact h3
                     case measure => simp [intOf]; omega)
      · have hoS : o = some b := by
          rw [HO.out, HP.out, List.drop_eq_nil_of_le (by have := HR.out; omega)]
          simp [pairV]
        clear HO HP
        subst hoS
        obtain ⟨j, hj⟩ : ∃ j : Nat, j = 1 + 2 * k := ⟨_, rfl⟩
        rw [← hj] at hlt ⊢
        clear hj
        go_wp2_with fail
        all_goals (go_ret2; exact ⟨_, rfl, Sts.isNew HS.out rfl⟩)
  · have hoN : o = none := by
      rw [ho]
      cases h : bs S with
      | nil => rfl
      | cons c r =>
        rw [bytesV, if_neg]
        rintro ⟨h1, h2, h3⟩
        apply hgood
        rw [h] at hN
        simp only [List.length_cons] at hN
        exact ⟨hhead.2 ⟨r, by rw [h, h1]⟩, by omega, by omega⟩
    clear hhead ho
    subst hoN
    cases b1 with
    | false =>
        clear hgood hN hs
        go_enter Tryd.func54, Tryd.ntmps54
        go_wp2_with (first | (go_at_call 53; refine hpre.mono ?_; rintro e w1 ⟨rfl, hw1⟩; rw [hw1]))
        all_goals (go_ret2; exact ⟨rfl, Below.refl _ _⟩)
    | true =>
      rcases (show N % 2 = 0 ∨ (N % 2 = 1 ∧ 1 + 2 * most < N) by
        rcases Nat.mod_two_eq_zero_or_one N with h | h
        · exact Or.inl h
        · refine Or.inr ⟨h, ?_⟩
          rcases Nat.lt_or_ge (1 + 2 * most) N with h' | h'
          · exact h'
          · exact absurd ⟨rfl, h, h'⟩ hgood) with hp | ⟨hp, hl⟩
      · clear hgood hN hs
        have hp1 : ((N : Int) % 2) = 0 := by omega
        have hp2 : Int.tmod (N : Int) 2 = 0 := by rw [Int.tmod_eq_emod_of_nonneg (by omega)]; exact hp1
        go_enter Tryd.func54, Tryd.ntmps54
        go_wp2_with (first | (go_at_call 53; refine hpre.mono ?_; rintro e w1 ⟨rfl, hw1⟩; rw [hw1]))
        all_goals (go_ret2; exact ⟨rfl, Below.refl _ _⟩)
      · clear hgood hN hs
        have hp1 : ((N : Int) % 2) = 1 := by omega
        have hp2 : Int.tmod (N : Int) 2 = 1 := by rw [Int.tmod_eq_emod_of_nonneg (by omega)]; exact hp1
        have hdl : decide (1 + 2 * (most : Int) < (N : Int)) = true := by simp; omega
        go_enter Tryd.func54, Tryd.ntmps54
        go_wp2_with (first | (go_at_call 53; refine hpre.mono ?_; rintro e w1 ⟨rfl, hw1⟩; rw [hw1]))
        all_goals (go_ret2; exact ⟨rfl, Below.refl _ _⟩)
end
end Go.Proofs.YtimnhheagdhpgaaDoor
