/- The contracts of the checksums, of the program and of the specification. -/
import Derived.Test.YtdboplkgnnidcaaProg
import Derived.Test.YtdboplkgnnidcaaNum
import Derived.Test.YtdboplkgnnidcaaSepb
import Derived.Test.YtdboplkgnnidcaaCrcMath
import Derived.IntWalk
import Derived.Laws.BitsAllLaws
import Derived.Outline
set_option linter.unusedVariables false
namespace Go.Proofs.Ytdboplkgnnidcaa
open Go.RowKit Go.Proofs.Num
set_option maxRecDepth 100000 in
theorem cUpd16 (w : World) (v : Value) (c : Nat) (l : List Nat) (hc : c < 65536) (h : RdB w v l) (hn : l.length < 1000000000000) :
    Calls Try.prog 57 #[.int .u16 c, v] w fun e w' => e = .returned (.int .u16 (Crc.crc16 c l : Nat)) ∧ w = w' := by
  obtain ⟨a, cap, rfl, hx⟩ := h.open
  have hB := h.2
  have HX := hid hx
  clear h hx
  go_enter Try.func57, Try.ntmps57
  go_wp2_with fail
  go_loop [0, 10] (fun x i => ∃ k : Nat, k ≤ l.length ∧ i = .int .i64 k ∧ x = .int .u16 (Crc.crc16 c (l.take k) : Nat)) (fun _ i => l.length - (intOf i).toNat)
  case atStart => exact ⟨0, by omega, rfl, rfl⟩
  case round =>
    obtain ⟨k, hk, rfl, rfl⟩ := hrel
    by_cases hlt : k < l.length
    · obtain ⟨b, off, rfl, hb, hcell⟩ := HX.out k hlt
      have hxb := hB _ (List.getElem_mem hlt)
      have HS : Hid (Crc.crc16 c (l.take (k + 1)) = Crc.B16 (Crc.crc16 c (l.take k)) l[k]) := by rw [List.take_succ_eq_append_getElem hlt]; exact Crc.crc16_snoc _ _ _
      have hq := Crc.crc16_lt c (l.take k) hc (fun x hx => hB x (List.mem_of_mem_take hx))
      obtain ⟨q', hq'⟩ : ∃ q', q' = Crc.crc16 c (l.take (k + 1)) := ⟨_, rfl⟩
      rw [← hq'] at HS
      have HQ := hid hq'
      clear hq'
      generalize Crc.crc16 c (l.take k) = q at *
      generalize l[k] = x at *
      obtain ⟨y, hy⟩ : ∃ y, y = q ^^^ x * 256 := ⟨_, rfl⟩
      have hyl : y < 65536 := by rw [hy]; exact Nat.xor_lt_two_pow (n := 16) hq (by omega)
      have e1 : bits .xor .u16 (q : Int) ((x : Int) * 256) = (y : Int) := by
        have := u16_xor_nat q (x * 256) hq (by omega)
        rw [hy, ← this]; simp
      have HY := hid hy
      clear hy
      go_wp2_with fail
      go_loop [0, 19] (fun z j => ∃ n : Nat, n ≤ 8 ∧ j = .int .i64 n ∧ z = .int .u16 (Crc.iter Crc.S16 n y : Nat)) (fun _ j => 8 - (intOf j).toNat)
      case atStart => exact ⟨0, by omega, rfl, rfl⟩
      case round =>
        obtain ⟨n, hn8, rfl, rfl⟩ := hrel
        by_cases hn8' : n < 8
        · have hr := Crc.iterS16_lt n y hyl
          have HN := hid (Crc.iter_succ Crc.S16 n y)
          generalize Crc.iter Crc.S16 n y = r at *
          rcases (show r / 32768 = 0 ∨ r / 32768 = 1 by omega) with h | h
          · have h2 : (r : Int) / 32768 = 0 := by omega
            rw [Crc.S16_lo r h] at HN
            go_wp2_with fail
            go_round
            case rel => exact ⟨n + 1, by omega, by go_num, val_int (by rw [HN.out]; omega)⟩
            case measure => simp [intOf]; omega
          · have h2 : (r : Int) / 32768 = 1 := by omega
            rw [Crc.S16_hi r hr h] at HN
            have HX2 := hid (u16_xor_nat (r * 2 % 65536) 4129 (by omega) (by decide))
            go_wp2_with fail
            go_round
            case rel => exact ⟨n + 1, by omega, by go_num, val_int (by rw [HN.out, ← HX2.out]; congr 1 <;> (rw [IntKind.wrap_u16]; try omega))⟩
            case measure => simp [intOf]; omega
        · have : n = 8 := by omega
          subst this
          have HZ : Hid (Crc.iter Crc.S16 8 y = q') := by rw [HS.out, HY.out]; rfl
          generalize Crc.iter Crc.S16 8 y = z at *
          go_wp2_with fail
          go_round
          case rel => exact ⟨k + 1, by omega, by go_num, by rw [HZ.out, HQ.out]⟩
          case measure => simp [intOf]; omega
    · go_wp2_with fail
      go_ret
      exact ⟨ret_int (by rw [List.take_of_length_le (by omega)]), rfl⟩
theorem cSum16 (w : World) (v : Value) (l : List Nat) (h : RdB w v l) (hn : l.length < 1000000000000) :
    Calls Try.prog 40 #[v] w fun e w' => e = .returned (.int .u16 (Crc.crc16 65535 l : Nat)) ∧ w = w' := by
  have K := hid (cUpd16 w v 65535 l (by decide) h hn)
  generalize Crc.crc16 65535 l = r at *
  go_enter Try.func40, Try.ntmps40
  go_wp2_with fail
  refine K.out.mono ?_; rintro e w1 ⟨rfl, rfl⟩
  go_wp2_with fail
  go_ret
  exact ⟨rfl, rfl⟩
/-! ### The specification -/
theorem cBit (w : World) (v : Value) (l : List Nat) (h : RdB w v l) (i : Nat) (hi : i < 8 * l.length) (hn : l.length < 1000000000000) :
    Calls Try.prog 73 #[v, .int .i64 i] w fun e w' => e = .returned (.int .i64 (Crc.bitAt l i : Nat)) ∧ w = w' := by
  obtain ⟨a, cap, rfl, hx⟩ := h.open
  have hlt : i / 8 < l.length := by omega
  obtain ⟨b, off, rfl, hb, hcell⟩ := hx _ hlt
  have hB := h.2 _ (List.getElem_mem hlt)
  have hE : Crc.bitAt l i = l[i / 8] / 2 ^ (7 - i % 8) % 2 := by unfold Crc.bitAt; simp [List.getD, hlt]
  rw [hE]
  clear hx h hE
  generalize l[i / 8] = x at *
  have h8 : i % 8 < 8 := Nat.mod_lt _ (by decide)
  obtain ⟨k, hk⟩ : ∃ k, k = 7 - i % 8 := ⟨_, rfl⟩
  have e1 : (7 : Int) - (i : Int) % 8 = (k : Int) := by omega
  have e2 : (i : Int) / 8 = ((i / 8 : Nat) : Int) := by simp
  rw [← hk]
  have h7 : k < 8 := by omega
  have hT := hid (tm2 x k)
  clear hk h8
  generalize i / 8 = j at *
  go_enter Try.func73, Try.ntmps73
  go_wp2_with fail
  go_ret
  exact ⟨rfl, rfl⟩
set_option maxRecDepth 100000 in
theorem cRUpd16 (w : World) (v : Value) (c : Nat) (l : List Nat) (hc : c < 65536) (h : RdB w v l) (hn : l.length < 1000000000000) :
    Calls Try.prog 58 #[.int .u16 c, v] w fun e w' => e = .returned (.int .u16 (Crc.crc16 c l : Nat)) ∧ w = w' := by
  have K := hid (fun i hi => cBit w v l h i hi hn)
  obtain ⟨a, cap, rfl, hx⟩ := h.open
  have hB := h.2
  have HE := hid (Crc.R16_all c l hc hB l.length (Nat.le_refl _))
  clear h hx
  go_enter Try.func58, Try.ntmps58
  go_wp2_with fail
  go_loop [5, 6] (fun x i => ∃ k : Nat, k ≤ 8 * l.length ∧ i = .int .i64 k ∧ x = .int .i64 (Crc.R16 c l k : Nat)) (fun _ i => 8 * l.length - (intOf i).toNat)
  case atStart => exact ⟨0, by omega, rfl, rfl⟩
  case round =>
    obtain ⟨k, hk, rfl, rfl⟩ := hrel
    have hr := Crc.R16_lt c l hc k
    by_cases hlt : k < 8 * l.length
    · have KB := hid (K.out k hlt)
      have hd := Crc.bitAt_lt l k
      have HN : Hid (Crc.R16 c l (k + 1) = Crc.T16 (Crc.R16 c l k) (Crc.bitAt l k)) := rfl
      generalize Crc.R16 c l k = r at *
      generalize Crc.bitAt l k = d at *
      have HX2 := hid (i64_xor (r * 2 % 65536) 4129 (by omega) (by decide))
      rcases (show (r / 32768 + d) % 2 = 0 ∨ (r / 32768 + d) % 2 = 1 by omega) with hm | hm
      · have e1 : ((r : Int) / 32768 + d) % 2 = 0 := by omega
        have HN2 : Hid (Crc.R16 c l (k + 1) = r * 2 % 65536) := by rw [HN.out]; unfold Crc.T16; rw [hm]; rfl
        go_wp2_with fail
        refine KB.out.mono ?_; rintro e w1 ⟨rfl, rfl⟩
        go_wp2_with fail
        go_round
        case rel => exact ⟨k + 1, by omega, by go_num, val_int (by rw [HN2.out]; omega)⟩
        case measure => simp [intOf]; omega
      · have e1 : ((r : Int) / 32768 + d) % 2 = 1 := by omega
        have HN2 : Hid (Crc.R16 c l (k + 1) = r * 2 % 65536 ^^^ 4129) := by rw [HN.out]; unfold Crc.T16; rw [hm]; rfl
        go_wp2_with fail
        refine KB.out.mono ?_; rintro e w1 ⟨rfl, rfl⟩
        go_wp2_with fail
        go_round
        case rel => exact ⟨k + 1, by omega, by go_num, val_int (by rw [HN2.out, ← HX2.out]; congr 1 <;> (try omega))⟩
        case measure => simp [intOf]; omega
    · have : k = 8 * l.length := by omega
      subst this
      rw [HE.out, List.take_length]
      rw [HE.out, List.take_length] at hr
      go_wp2_with fail
      go_ret
      exact ⟨rfl, rfl⟩
theorem cRSum16 (w : World) (v : Value) (l : List Nat) (h : RdB w v l) (hn : l.length < 1000000000000) :
    Calls Try.prog 41 #[v] w fun e w' => e = .returned (.int .u16 (Crc.crc16 65535 l : Nat)) ∧ w = w' := by
  have K := hid (cRUpd16 w v 65535 l (by decide) h hn)
  generalize Crc.crc16 65535 l = r at *
  go_enter Try.func41, Try.ntmps41
  go_wp2_with fail
  refine K.out.mono ?_; rintro e w1 ⟨rfl, rfl⟩
  go_wp2_with fail
  go_ret
  exact ⟨rfl, rfl⟩
/-! ### CRC-32C -/
theorem compl32 (c : Nat) (hc : c < 4294967296) : 4294967295 ^^^ c = 4294967295 - c := by
  apply Nat.eq_of_testBit_eq
  intro i
  have h1 := Nat.testBit_two_pow_sub_succ (n := 32) (x := c) hc i
  rw [show 2 ^ 32 - (c + 1) = 4294967295 - c by omega] at h1
  have h2 := Nat.testBit_two_pow_sub_one 32 i
  rw [show 2 ^ 32 - 1 = 4294967295 from rfl] at h2
  rw [Nat.testBit_xor, h1, h2]
  by_cases hi : i < 32
  · simp [hi]
  · have : c.testBit i = false := Nat.testBit_lt_two_pow (Nat.lt_of_lt_of_le (show c < 2 ^ 32 from hc) (Nat.pow_le_pow_right (by decide) (by omega)))
    simp [hi, this]
theorem u32_xor' (a b : Nat) (ha : a < 4294967296) (hb : b < 4294967296) : bits .xor .u32 (a : Int) (b : Int) = ((a ^^^ b : Nat) : Int) := u32_xor_nat a b ha hb
theorem not32 (c : Nat) (hc : c < 4294967296) : bits .xor .u32 IntKind.u32.max (c : Int) = ((4294967295 - c : Nat) : Int) := by
  rw [← compl32 c hc]; exact u32_xor' 4294967295 c (by decide) hc
set_option maxRecDepth 100000 in
theorem cUpd32 (w : World) (v : Value) (l : List Nat) (h : RdB w v l) (hn : l.length < 1000000000000) :
    Calls Try.prog 79 #[.int .u32 0, v] w fun e w' => e = .returned (.int .u32 (4294967295 - Crc.crc32 4294967295 l : Nat)) ∧ w = w' := by
  obtain ⟨a, cap, rfl, hx⟩ := h.open
  have hB := h.2
  have HX := hid hx
  have e0 : bits .xor .u32 IntKind.u32.max 0 = 4294967295 := not32 0 (by decide)
  clear h hx
  go_enter Try.func79, Try.ntmps79
  go_wp2_with fail
  go_loop [0, 11] (fun x i => ∃ k : Nat, k ≤ l.length ∧ i = .int .i64 k ∧ x = .int .u32 (Crc.crc32 4294967295 (l.take k) : Nat)) (fun _ i => l.length - (intOf i).toNat)
  case atStart => exact ⟨0, by omega, rfl, rfl⟩
  case round =>
    obtain ⟨k, hk, rfl, rfl⟩ := hrel
    have hq := Crc.crc32_lt 4294967295 (l.take k) (by decide) (fun x hx => hB x (List.mem_of_mem_take hx))
    by_cases hlt : k < l.length
    · obtain ⟨b, off, rfl, hb, hcell⟩ := HX.out k hlt
      have hxb := hB _ (List.getElem_mem hlt)
      have HS : Hid (Crc.crc32 4294967295 (l.take (k + 1)) = Crc.B32 (Crc.crc32 4294967295 (l.take k)) l[k]) := by rw [List.take_succ_eq_append_getElem hlt]; exact Crc.crc32_snoc _ _ _
      obtain ⟨q', hq'⟩ : ∃ q', q' = Crc.crc32 4294967295 (l.take (k + 1)) := ⟨_, rfl⟩
      rw [← hq'] at HS
      have HQ := hid hq'
      clear hq'
      generalize Crc.crc32 4294967295 (l.take k) = q at *
      generalize l[k] = x at *
      obtain ⟨y, hy⟩ : ∃ y, y = q ^^^ x := ⟨_, rfl⟩
      have hyl : y < 4294967296 := by rw [hy]; exact Nat.xor_lt_two_pow (n := 32) hq (by omega)
      have e1 : bits .xor .u32 (q : Int) (x : Int) = (y : Int) := by rw [hy, ← u32_xor' q x hq (by omega)]
      have HY := hid hy
      clear hy
      go_wp2_with fail
      go_loop [0, 21] (fun z j => ∃ n : Nat, n ≤ 8 ∧ j = .int .i64 n ∧ z = .int .u32 (Crc.iter Crc.S32 n y : Nat)) (fun _ j => 8 - (intOf j).toNat)
      case atStart => exact ⟨0, by omega, rfl, rfl⟩
      case round =>
        obtain ⟨n, hn8, rfl, rfl⟩ := hrel
        by_cases hn8' : n < 8
        · have hr := Crc.iterS32_lt n y hyl
          have HN := hid (Crc.iter_succ Crc.S32 n y)
          generalize Crc.iter Crc.S32 n y = r at *
          have e3 := hid (u32_xor' (r / 2) 2197175160 (by omega) (by decide))
          have e4 := u32_and_nat r 1 (by omega) (by decide)
          rw [Nat.and_one_is_mod] at e4
          rcases Nat.mod_two_eq_zero_or_one r with h | h
          · have e5 : bits .and .u32 (r : Int) 1 = 0 := by rw [h] at e4; exact e4
            rw [Crc.S32_lo r h] at HN
            clear e4
            go_wp2_with fail
            go_round
            case rel => exact ⟨n + 1, by omega, by go_num, val_int (by rw [HN.out]; omega)⟩
            case measure => simp [intOf]; omega
          · have e5 : bits .and .u32 (r : Int) 1 = 1 := by rw [h] at e4; exact e4
            rw [Crc.S32_hi r h] at HN
            clear e4
            go_wp2_with fail
            go_round
            case rel => exact ⟨n + 1, by omega, by go_num, val_int (by rw [HN.out, ← e3.out]; congr 1 <;> (try omega))⟩
            case measure => simp [intOf]; omega
        · have : n = 8 := by omega
          subst this
          have HZ : Hid (Crc.iter Crc.S32 8 y = q') := by rw [HS.out, HY.out]; rfl
          generalize Crc.iter Crc.S32 8 y = z at *
          go_wp2_with fail
          go_round
          case rel => exact ⟨k + 1, by omega, by go_num, by rw [HZ.out, HQ.out]⟩
          case measure => simp [intOf]; omega
    · have e5 := not32 (Crc.crc32 4294967295 (l.take k)) hq
      have e6 : l.take k = l := List.take_of_length_le (by omega)
      rw [e6] at e5 ⊢
      clear e6
      go_wp2_with fail
      go_ret
      exact ⟨rfl, rfl⟩
theorem cSum32 (w : World) (v : Value) (l : List Nat) (h : RdB w v l) (hn : l.length < 1000000000000) :
    Calls Try.prog 69 #[v] w fun e w' => e = .returned (.int .u32 (4294967295 - Crc.crc32 4294967295 l : Nat)) ∧ w = w' := by
  have K := hid (cUpd32 w v l h hn)
  generalize 4294967295 - Crc.crc32 4294967295 l = r at *
  go_enter Try.func69, Try.ntmps69
  go_wp2_with fail
  refine K.out.mono ?_; rintro e w1 ⟨rfl, rfl⟩
  go_wp2_with fail
  go_ret
  exact ⟨rfl, rfl⟩
set_option maxRecDepth 100000 in
theorem cRUpd32 (w : World) (v : Value) (l : List Nat) (h : RdB w v l) (hn : l.length < 1000000000000) :
    Calls Try.prog 77 #[.int .u32 0, v] w fun e w' => e = .returned (.int .u32 (4294967295 - Crc.crc32 4294967295 l : Nat)) ∧ w = w' := by
  obtain ⟨a, cap, rfl, hx⟩ := h.open
  have hB := h.2
  have HX := hid hx
  have e0 : bits .xor .u32 IntKind.u32.max 0 = 4294967295 := not32 0 (by decide)
  clear h hx
  go_enter Try.func77, Try.ntmps77
  go_wp2_with fail
  go_loop [5, 6] (fun x i => ∃ k : Nat, k ≤ l.length ∧ i = .int .i64 k ∧ x = .int .i64 (Crc.crc32 4294967295 (l.take k) : Nat)) (fun _ i => l.length - (intOf i).toNat)
  case atStart => exact ⟨0, by omega, rfl, val_int ((w64 (by decide) (by decide)).trans rfl)⟩
  case round =>
    obtain ⟨k, hk, rfl, rfl⟩ := hrel
    have hq := Crc.crc32_lt 4294967295 (l.take k) (by decide) (fun x hx => hB x (List.mem_of_mem_take hx))
    by_cases hlt : k < l.length
    · obtain ⟨b, off, rfl, hb, hcell⟩ := HX.out k hlt
      have hxb := hB _ (List.getElem_mem hlt)
      have HS : Hid (Crc.crc32 4294967295 (l.take (k + 1)) = Crc.B32 (Crc.crc32 4294967295 (l.take k)) l[k]) := by rw [List.take_succ_eq_append_getElem hlt]; exact Crc.crc32_snoc _ _ _
      obtain ⟨q', hq'⟩ : ∃ q', q' = Crc.crc32 4294967295 (l.take (k + 1)) := ⟨_, rfl⟩
      rw [← hq'] at HS
      have HQ := hid hq'
      clear hq'
      generalize Crc.crc32 4294967295 (l.take k) = q at *
      generalize l[k] = x at *
      have HK8 := hid (Crc.K32_byte q x hxb)
      go_wp2_with fail
      go_loop [5, 7] (fun z j => ∃ n : Nat, n ≤ 8 ∧ j = .int .i64 n ∧ z = .int .i64 (Crc.K32 q x n : Nat)) (fun _ j => 8 - (intOf j).toNat)
      case atStart => exact ⟨0, by omega, rfl, rfl⟩
      case round =>
        obtain ⟨n, hn8, rfl, rfl⟩ := hrel
        by_cases hn8' : n < 8
        · have hr := Crc.K32_lt q x n hq
          have HN : Hid (Crc.K32 q x (n + 1) = Crc.T32 (Crc.K32 q x n) (x / 2 ^ n)) := rfl
          generalize Crc.K32 q x n = r at *
          have e3 := hid (i64_xor (r / 2) 2197175160 (by omega) (by decide))
          obtain ⟨d, hd⟩ : ∃ d, d = x / 2 ^ n := ⟨_, rfl⟩
          have hdl : d ≤ x := by rw [hd]; exact Nat.div_le_self _ _
          have e6 : (x : Int) / 2 ^ n = (d : Int) := by rw [hd]; simp
          rw [← hd] at HN
          clear hd
          rcases (show (r + d) % 2 = 0 ∨ (r + d) % 2 = 1 by omega) with hm | hm
          · have e7 : ((r : Int) + d) % 2 = 0 := by omega
            have HN2 : Hid (Crc.K32 q x (n + 1) = r / 2) := by rw [HN.out]; unfold Crc.T32; rw [hm]; rfl
            go_wp2_with fail
            go_round
            case rel => exact ⟨n + 1, by omega, by go_num, val_int (by rw [HN2.out]; omega)⟩
            case measure => simp [intOf]; omega
          · have e7 : ((r : Int) + d) % 2 = 1 := by omega
            have HN2 : Hid (Crc.K32 q x (n + 1) = r / 2 ^^^ 2197175160) := by rw [HN.out]; unfold Crc.T32; rw [hm]; rfl
            go_wp2_with fail
            go_round
            case rel => exact ⟨n + 1, by omega, by go_num, val_int (by rw [HN2.out, ← e3.out]; congr 1 <;> (try omega))⟩
            case measure => simp [intOf]; omega
        · have : n = 8 := by omega
          subst this
          rw [HK8.out, ← HS.out]
          go_wp2_with fail
          go_round
          case rel => exact ⟨k + 1, by omega, by go_num, by rw [HQ.out]⟩
          case measure => simp [intOf]; omega
    · have e5 := not32 (Crc.crc32 4294967295 (l.take k)) hq
      have e6 : l.take k = l := List.take_of_length_le (by omega)
      rw [e6] at e5 hq ⊢
      clear e6
      go_wp2_with fail
      go_ret
      exact ⟨rfl, rfl⟩
theorem cRSum32 (w : World) (v : Value) (l : List Nat) (h : RdB w v l) (hn : l.length < 1000000000000) :
    Calls Try.prog 67 #[v] w fun e w' => e = .returned (.int .u32 (4294967295 - Crc.crc32 4294967295 l : Nat)) ∧ w = w' := by
  have K := hid (cRUpd32 w v l h hn)
  generalize 4294967295 - Crc.crc32 4294967295 l = r at *
  go_enter Try.func67, Try.ntmps67
  go_wp2_with fail
  refine K.out.mono ?_; rintro e w1 ⟨rfl, rfl⟩
  go_wp2_with fail
  go_ret
  exact ⟨rfl, rfl⟩
end Go.Proofs.Ytdboplkgnnidcaa
