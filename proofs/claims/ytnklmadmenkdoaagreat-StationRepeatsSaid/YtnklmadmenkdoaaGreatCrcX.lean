/- The contracts of the checksums for byte strings of whatever capacity, and the same as operations of the evaluator. -/
import Derived.Test.YtnklmadmenkdoaaGreatProg
import Derived.Test.YtnklmadmenkdoaaGreatKeep
import Derived.Test.YtnklmadmenkdoaaGreatSepc
import Derived.Test.YtnklmadmenkdoaaGreatCrcMath
import Derived.Test.YtnklmadmenkdoaaGreatEvK2
import Derived.IntWalk
import Derived.Laws.BitsAllLaws
import Derived.Outline
set_option linter.unusedVariables false
namespace Go.Proofs.YtnklmadmenkdoaaGreat
open Go.RowKit Go.Proofs.Num
set_option maxRecDepth 100000 in
theorem cUpd16X (w : World) (v : Value) (c : Nat) (l : List Nat) (hc : c < 65536) (h : Go.Ev.RdX w v l) (hn : l.length < 1000000000000) :
    Calls Tryz.prog 256 #[.int .u16 c, v] w fun e w' => e = .returned (.int .u16 (Crc.crc16 c l : Nat)) ∧ w = w' := by
  obtain ⟨a, cap, rfl, hx⟩ := h.1
  have hB := h.2
  have HX := hid hx
  clear h hx
  go_enter Tryz.func256, Tryz.ntmps256
  go_wp2_with fail
  go_loop [0, 10] (fun x i => ∃ k : Nat, k ≤ l.length ∧ i = .int .i64 k ∧ x = .int .u16 (Crc.crc16 c (l.take k) : Nat)) (fun _ i => l.length - (intOf i).toNat)
  case atStart => exact ⟨0, by omega, rfl, rfl⟩
  case round =>
    obtain ⟨k, hk, rfl, rfl⟩ := hrel
    by_cases hlt : k < l.length
    · obtain ⟨b, off, rfl, hb, hcell⟩ := HX.out k hlt
      have hxb := hB _ (List.getElem_mem hlt)
      have HS : Hid (Crc.crc16 c (l.take (k + 1)) = Crc.B16 (Crc.crc16 c (l.take k)) l[k]) := by rw [List.take_succ_eq_append_getElem hlt]; exact Crc.crc16_snoc _ _ _
      have hq := Crc.crc16_lt c (l.take k) hc (fun x hx => hB x (List.mem_of_mem_take hx))
      obtain ⟨q', hq'⟩ : ∃ q', q' = Crc.crc16 c (l.take (k + 1)) := ⟨_, rfl⟩
      rw [← hq'] at HS
      have HQ := hid hq'
      clear hq'
      generalize Crc.crc16 c (l.take k) = q at *
      generalize l[k] = x at *
      obtain ⟨y, hy⟩ : ∃ y, y = q ^^^ x * 256 := ⟨_, rfl⟩
      have hyl : y < 65536 := by rw [hy]; exact Nat.xor_lt_two_pow (n := 16) hq (by omega)
      have e1 : bits .xor .u16 (q : Int) ((x : Int) * 256) = (y : Int) := by
        have := u16_xor_nat q (x * 256) hq (by omega)
        rw [hy, ← this]; simp
      have HY := hid hy
      clear hy
      go_wp2_with fail
      go_loop [0, 19] (fun z j => ∃ n : Nat, n ≤ 8 ∧ j = .int .i64 n ∧ z = .int .u16 (Crc.iter Crc.S16 n y : Nat)) (fun _ j => 8 - (intOf j).toNat)
      case atStart => exact ⟨0, by omega, rfl, rfl⟩
      case round =>
        obtain ⟨n, hn8, rfl, rfl⟩ := hrel
        by_cases hn8' : n < 8
        · have hr := Crc.iterS16_lt n y hyl
          have HN := hid (Crc.iter_succ Crc.S16 n y)
          generalize Crc.iter Crc.S16 n y = r at *
          rcases (show r / 32768 = 0 ∨ r / 32768 = 1 by omega) with h | h
          · have h2 : (r : Int) / 32768 = 0 := by omega
            rw [Crc.S16_lo r h] at HN
            go_wp2_with fail
            go_round
            case rel => exact ⟨n + 1, by omega, by go_num, val_int (by rw [HN.out]; omega)⟩
            case measure => simp [intOf]; omega
          · have h2 : (r : Int) / 32768 = 1 := by omega
            rw [Crc.S16_hi r hr h] at HN
            have HX2 := hid (u16_xor_nat (r * 2 % 65536) 4129 (by omega) (by decide))
            go_wp2_with fail
            go_round
            case rel => exact ⟨n + 1, by omega, by go_num, val_int (by rw [HN.out, ← HX2.out]; congr 1 <;> (rw [IntKind.wrap_u16]; try omega))⟩
            case measure => simp [intOf]; omega
        · have : n = 8 := by omega
          subst this
          have HZ : Hid (Crc.iter Crc.S16 8 y = q') := by rw [HS.out, HY.out]; rfl
          generalize Crc.iter Crc.S16 8 y = z at *
          go_wp2_with fail
          go_round
          case rel => exact ⟨k + 1, by omega, by go_num, by rw [HZ.out, HQ.out]⟩
          case measure => simp [intOf]; omega
    · go_wp2_with fail
      go_ret
      exact ⟨ret_int (by rw [List.take_of_length_le (by omega)]), rfl⟩
theorem cBitX (w : World) (v : Value) (l : List Nat) (h : Go.Ev.RdX w v l) (i : Nat) (hi : i < 8 * l.length) (hn : l.length < 1000000000000) :
    Calls Tryz.prog 240 #[v, .int .i64 i] w fun e w' => e = .returned (.int .i64 (Crc.bitAt l i : Nat)) ∧ w = w' := by
  obtain ⟨a, cap, rfl, hx⟩ := h.1
  have hlt : i / 8 < l.length := by omega
  obtain ⟨b, off, rfl, hb, hcell⟩ := hx _ hlt
  have hB := h.2 _ (List.getElem_mem hlt)
  have hE : Crc.bitAt l i = l[i / 8] / 2 ^ (7 - i % 8) % 2 := by unfold Crc.bitAt; simp [List.getD, hlt]
  rw [hE]
  clear hx h hE
  generalize l[i / 8] = x at *
  have h8 : i % 8 < 8 := Nat.mod_lt _ (by decide)
  obtain ⟨k, hk⟩ : ∃ k, k = 7 - i % 8 := ⟨_, rfl⟩
  have e1 : (7 : Int) - (i : Int) % 8 = (k : Int) := by omega
  have e2 : (i : Int) / 8 = ((i / 8 : Nat) : Int) := by simp
  rw [← hk]
  have h7 : k < 8 := by omega
  have hT := hid (tm2 x k)
  clear hk h8
  generalize i / 8 = j at *
  go_enter Tryz.func240, Tryz.ntmps240
  go_wp2_with fail
  go_ret
  exact ⟨rfl, rfl⟩
set_option maxRecDepth 100000 in
theorem cRUpd16X (w : World) (v : Value) (c : Nat) (l : List Nat) (hc : c < 65536) (h : Go.Ev.RdX w v l) (hn : l.length < 1000000000000) :
    Calls Tryz.prog 176 #[.int .u16 c, v] w fun e w' => e = .returned (.int .u16 (Crc.crc16 c l : Nat)) ∧ w = w' := by
  have K := hid (fun i hi => cBitX w v l h i hi hn)
  obtain ⟨a, cap, rfl, hx⟩ := h.1
  have hB := h.2
  have HE := hid (Crc.R16_all c l hc hB l.length (Nat.le_refl _))
  clear h hx
  go_enter Tryz.func176, Tryz.ntmps176
  go_wp2_with fail
  go_loop [5, 6] (fun x i => ∃ k : Nat, k ≤ 8 * l.length ∧ i = .int .i64 k ∧ x = .int .i64 (Crc.R16 c l k : Nat)) (fun _ i => 8 * l.length - (intOf i).toNat)
  case atStart => exact ⟨0, by omega, rfl, rfl⟩
  case round =>
    obtain ⟨k, hk, rfl, rfl⟩ := hrel
    have hr := Crc.R16_lt c l hc k
    by_cases hlt : k < 8 * l.length
    · have KB := hid (K.out k hlt)
      have hd := Crc.bitAt_lt l k
      have HN : Hid (Crc.R16 c l (k + 1) = Crc.T16 (Crc.R16 c l k) (Crc.bitAt l k)) := rfl
      generalize Crc.R16 c l k = r at *
      generalize Crc.bitAt l k = d at *
      have HX2 := hid (i64_xor (r * 2 % 65536) 4129 (by omega) (by decide))
      rcases (show (r / 32768 + d) % 2 = 0 ∨ (r / 32768 + d) % 2 = 1 by omega) with hm | hm
      · have e1 : ((r : Int) / 32768 + d) % 2 = 0 := by omega
        have HN2 : Hid (Crc.R16 c l (k + 1) = r * 2 % 65536) := by rw [HN.out]; unfold Crc.T16; rw [hm]; rfl
        go_wp2_with fail
        refine KB.out.mono ?_; rintro e w1 ⟨rfl, rfl⟩
        go_wp2_with fail
        go_round
        case rel => exact ⟨k + 1, by omega, by go_num, val_int (by rw [HN2.out]; omega)⟩
        case measure => simp [intOf]; omega
      · have e1 : ((r : Int) / 32768 + d) % 2 = 1 := by omega
        have HN2 : Hid (Crc.R16 c l (k + 1) = r * 2 % 65536 ^^^ 4129) := by rw [HN.out]; unfold Crc.T16; rw [hm]; rfl
        go_wp2_with fail
        refine KB.out.mono ?_; rintro e w1 ⟨rfl, rfl⟩
        go_wp2_with fail
        go_round
        case rel => exact ⟨k + 1, by omega, by go_num, val_int (by rw [HN2.out, ← HX2.out]; congr 1 <;> (try omega))⟩
        case measure => simp [intOf]; omega
    · have : k = 8 * l.length := by omega
      subst this
      rw [HE.out, List.take_length]
      rw [HE.out, List.take_length] at hr
      go_wp2_with fail
      go_ret
      exact ⟨rfl, rfl⟩
theorem crcS_eq : Go.Ev.crcS = Crc.S16 := by
  funext c
  unfold Go.Ev.crcS Crc.S16
  show (c * 2 % 65536) ^^^ (4129 * (c / 32768 % 2)) = _
  have hb : c.testBit 15 = decide (c / 32768 % 2 = 1) := by
    rw [Nat.testBit_eq_decide_div_mod_eq]
  rw [hb]
  rcases (show c / 32768 % 2 = 0 ∨ c / 32768 % 2 = 1 by omega) with h | h <;> rw [h] <;> simp
theorem crcF_eq (l : List Nat) : ∀ c, Go.Ev.crcF l c = Crc.crc16 c l := by
  induction l with
  | nil => intro c; rfl
  | cons x l ih =>
    intro c
    show Go.Ev.crcF l (Go.Ev.crcB c x) = Crc.crc16 (Crc.B16 c x) l
    rw [ih]
    congr 1
    unfold Go.Ev.crcB Crc.B16
    rw [crcS_eq]; rfl
theorem crcProg_ok {pr : Go.Ev.Prims} (hpr : Go.Ev.SoundPr Tryz.prog pr) : Go.Ev.SoundPr Tryz.prog (Go.Ev.crcPr 256 pr) :=
  Go.Ev.crcPr_ok (by kernel_rfl) (fun w v c l hc h hn => by rw [crcF_eq]; exact cUpd16X w v c l hc h hn) hpr
theorem crcRef_ok {pr : Go.Ev.Prims} (hpr : Go.Ev.SoundPr Tryz.prog pr) : Go.Ev.SoundPr Tryz.prog (Go.Ev.crcPr 176 pr) :=
  Go.Ev.crcPr_ok (by kernel_rfl) (fun w v c l hc h hn => by rw [crcF_eq]; exact cRUpd16X w v c l hc h hn) hpr
end Go.Proofs.YtnklmadmenkdoaaGreat
