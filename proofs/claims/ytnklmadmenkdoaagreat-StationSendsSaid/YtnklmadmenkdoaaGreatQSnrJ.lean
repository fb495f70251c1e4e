/- The specification's reader of integers. The specification's reader: its methods. Which commands are valid: the specification's answer. -/
import Derived.Test.YtnklmadmenkdoaaGreatQSndO
import Derived.Test.YtnklmadmenkdoaaGreatQSnrC
import Derived.Lib.SlBytesRow
import Derived.Test.YtnklmadmenkdoaaGreatQSndP
import Derived.BigQuiet
set_option linter.unusedVariables false
set_option linter.unusedSimpArgs false
namespace Cmd
theorem div_pow_succ (Z k : Nat) : Z / 128 ^ k / 128 = Z / 128 ^ (k + 1) := by rw [Nat.div_div_eq_div_mul, ← Nat.pow_succ]
/-- The sum of the groups ahead. -/
theorem sum_hi (Z k : Nat) : Z % 128 ^ k + 128 ^ k * (Z / 128 ^ k % 128) = Z % 128 ^ (k + 1) := mod_next Z k
theorem sum_last (Z k : Nat) : Z % 128 ^ k + 128 ^ k * (Z / 128 ^ k) = Z := Nat.mod_add_div _ _
end Cmd
namespace Go.Proofs.YtnklmadmenkdoaaGreat
open Go.RowKit Go.Proofs.Num
/-- The arithmetic of the last group. -/
theorem last_facts (V P Z S S2 H k L n c : Nat) (hs : V + P = Z) (hZ : Z < 4398046511104) (hS2 : S2 = S * 128) (hS2l : S2 ≤ 4398046511104) (hH : H = Z / 2) (hk : k + 1 = L) (hL : L ≤ 6) (hn : L ≤ n) (hc : n ≤ c) :
    (IntKind.u64.wrap (P : Int) = (P : Int) ∧ IntKind.u64.wrap ((V : Int) + (P : Int)) = (Z : Int) ∧ IntKind.u64.wrap ((S : Int) * 128) = (S2 : Int) ∧ IntKind.u64.wrap (H : Int) = (H : Int)) ∧
    (wrap64 (H : Int) = (H : Int) ∧ wrap64 (-(H : Int)) = -(H : Int) ∧ wrap64 (-(H : Int) - 1) = -(H : Int) - 1) ∧ wrap64 ((k : Int) + 1) = (L : Int) ∧ IntKind.i64.wrap ((k : Int) + 1) = (L : Int) ∧ ((L : Int) ≤ (c : Int) ∧ (0 : Int) ≤ (L : Int)) := by
  simp only [IntKind.wrap_u64, IntKind.wrap_i64]
  unfold wrap64
  refine ⟨⟨by omega, by omega, by omega, by omega⟩, ⟨by omega, by omega, by omega⟩, by omega, by omega, by omega, by omega⟩
theorem par_facts (Z H : Nat) (m : Int) (hH : H = Z / 2) (h : (if Z % 2 = 1 then -((Z / 2 : Nat) : Int) - 1 else ((Z / 2 : Nat) : Int)) = m) : ((H : Int) = m ∧ (Z : Int) % 2 = 0) ∨ (-(H : Int) - 1 = m ∧ (Z : Int) % 2 = 1) := by
  rw [← hH] at h
  by_cases h1 : Z % 2 = 1
  · rw [if_pos h1] at h; exact Or.inr ⟨h, by omega⟩
  · rw [if_neg h1] at h; exact Or.inl ⟨h, by omega⟩
set_option maxRecDepth 100000 in
set_option maxHeartbeats 2000000 in
theorem cTakeInt (w : World) (b off n c : Nat) (m : Int) (rest : List Nat) (h1 : -1099511627776 ≤ m) (h2 : m ≤ 1099511627776) (hR : RdB w (.slice (some ⟨b, off, none⟩) n c) (Cmd.vint (Cmd.zig m) ++ rest)) :
    Calls Tryz.prog 159 #[.slice (some ⟨b, off, none⟩) n c] w fun e w' => e = .returned (.tuple #[.int .i64 m, .int .i64 ((Cmd.vint (Cmd.zig m)).length : Int)]) ∧ Below w.heap.size w w' := by
  have hcap := (Rd.cap hR.1).2
  have hnl : n = (Cmd.vint (Cmd.zig m)).length + rest.length := by have := (Rd.cap hR.1).1; rwa [u8s_len, List.length_append] at this
  have hzl := Cmd.zig_lt m h1 h2
  have hvl := Cmd.vint_len 5 _ (show Cmd.zig m < 128 ^ (5 + 1) by omega)
  have hvp := Cmd.vint_pos (Cmd.zig m)
  have hbk := Cmd.zig_back m
  have HI := hid (fun (y : World) => cRInt y m h1 h2)
  have HR := hid hR
  have HM := hid (And.intro h1 h2)
  have HT := hid (RdB.take hR)
  clear hR h1 h2
  generalize hZ : Cmd.zig m = Z at *
  generalize hL : (Cmd.vint Z).length = L at *
  have HL := hid hL
  have HBK := hid hbk
  have HZL := hid hzl
  have HCAP := hid hcap
  have HNL := hid hnl
  clear hZ hL hbk hzl hcap hnl
  go_enter Tryz.func159, Tryz.ntmps159
  go_wp2_with fail
  go_loopw [4, 5, 6] (fun z sc i wr => wr = w ∧ ∃ k : Nat, k + 1 ≤ L ∧ i = .int .i64 (k : Int) ∧ ∃ S V : Nat, S = 128 ^ k ∧ V = Z % 128 ^ k ∧ sc = .int .u64 (S : Int) ∧ z = .int .u64 (V : Int)) (fun z sc i _ => L - (intOf i).toNat)
  case atStart => exact ⟨rfl, 0, by omega, rfl, 1, 0, rfl, by rw [Nat.pow_zero, Nat.mod_one], rfl, rfl⟩
  case round =>
    obtain ⟨rfl, k, hk, rfl, S, V, hS, hV, rfl, rfl⟩ := hrel
    have d1 : decide ((k : Int) < (n : Int)) = true := decide_eq_true (by have := HNL.out; omega)
    have d2 : decide ((k : Int) < 10) = true := decide_eq_true (by omega)
    have hk0 : (0 : Int) ≤ (k : Int) := by omega
    have hk10 : k < 10 := by omega
    have hk1 : (k : Int) < (n : Int) := by have := HNL.out; omega
    by_cases hlt : k + 1 < L
    · have hy := Cmd.get_hi (Z := Z) (k := k) (rest := rest) (by rw [HL.out]; exact hlt)
      have hs := Cmd.sum_hi Z k
      rw [← hS] at hy hs
      rw [← hS] at hV
      rw [← hV] at hs
      obtain ⟨D, hD⟩ : ∃ D, D = Z / S % 128 := ⟨_, rfl⟩
      rw [← hD] at hy hs
      have hD8 : D < 128 := by rw [hD]; exact Nat.mod_lt _ (by decide)
      obtain ⟨P, hP⟩ : ∃ P, P = S * D := ⟨_, rfl⟩
      rw [← hP] at hs
      obtain ⟨y, hyy⟩ : ∃ y, y = D + 128 := ⟨_, rfl⟩
      rw [← hyy] at hy
      obtain ⟨c0, hy8⟩ := RdB.byte HR.out hy
      obtain ⟨V2, hV2⟩ : ∃ V2, V2 = Z % 128 ^ (k + 1) := ⟨_, rfl⟩
      rw [← hV2] at hs
      have hV2l : V2 ≤ Z := by rw [hV2]; exact Nat.mod_le _ _
      obtain ⟨S2, hS2⟩ : ∃ S2, S2 = S * 128 := ⟨_, rfl⟩
      have hS2p : S2 = 128 ^ (k + 1) := by rw [hS2, hS, Nat.pow_succ]
      have hS2l : S2 ≤ 4398046511104 := by rw [hS2p]; exact Nat.pow_le_pow_right (by decide) (show k + 1 ≤ 6 by omega)
      have e1 : (y : Int) % 128 = (D : Int) := by omega
      have e2 : (S : Int) * (D : Int) = (P : Int) := by rw [hP]; push_cast; rfl
      have e3 : IntKind.u64.wrap (P : Int) = (P : Int) := by have := HZL.out; rw [IntKind.wrap_u64]; omega
      have e4 : IntKind.u64.wrap ((V : Int) + (P : Int)) = (V2 : Int) := by have := HZL.out; rw [IntKind.wrap_u64]; omega
      have e5 : IntKind.u64.wrap ((S : Int) * 128) = (S2 : Int) := by rw [IntKind.wrap_u64]; omega
      have d3 : decide (127 < (y : Int)) = true := decide_eq_true (by omega)
      have HQ := hid (And.intro hV2 hS2p)
      clear hs hy hyy hP hD hV hS hV2 hS2p hS2 hvl hvp hV2l hS2l hD8
      go_wp2_with fail
      go_roundw
      case rel => exact ⟨trivial, k + 1, by omega, by go_num, S2, V2, HQ.out.2, HQ.out.1, rfl, rfl⟩
      case measure => simp [intOf]; omega
    · have hy := Cmd.get_last (Z := Z) (k := k) (rest := rest) (by rw [HL.out]; omega)
      obtain ⟨hy, hD8⟩ := hy
      have hs := Cmd.sum_last Z k
      rw [← hS] at hy hs hD8 hV
      rw [← hV] at hs
      obtain ⟨D, hD⟩ : ∃ D, D = Z / S := ⟨_, rfl⟩
      rw [← hD] at hy hs hD8
      obtain ⟨P, hP⟩ : ∃ P, P = S * D := ⟨_, rfl⟩
      rw [← hP] at hs
      obtain ⟨c0, _⟩ := RdB.byte HR.out hy
      obtain ⟨S2, hS2⟩ : ∃ S2, S2 = S * 128 := ⟨_, rfl⟩
      have hS2p : S2 = 128 ^ (k + 1) := by rw [hS2, hS, Nat.pow_succ]
      have hS2l : S2 ≤ 4398046511104 := by rw [hS2p]; exact Nat.pow_le_pow_right (by decide) (show k + 1 ≤ 6 by omega)
      have e1 : (D : Int) % 128 = (D : Int) := by omega
      have e2 : (S : Int) * (D : Int) = (P : Int) := by rw [hP]; push_cast; rfl
      have d3 : decide (127 < (D : Int)) = false := decide_eq_false (by omega)
      have hkL : k + 1 = L := by omega
      obtain ⟨H, hH⟩ : ∃ H, H = Z / 2 := ⟨_, rfl⟩
      have e6 : (Z : Int) / 2 = (H : Int) := by omega
      have HPar : Hid (((H : Int) = m ∧ (Z : Int) % 2 = 0) ∨ (-(H : Int) - 1 = m ∧ (Z : Int) % 2 = 1)) := hid (par_facts Z H m hH HBK.out)
      obtain ⟨⟨e3, e4, e5, e7⟩, ⟨e11, e12, e13⟩, e8, e9, hLn⟩ := last_facts V P Z S S2 H k L n c hs HZL.out hS2 hS2l hH hkL hvl (by rw [HNL.out]; exact Nat.le_add_right _ _) HCAP.out.1
      have HLn := hid hLn
      have HkL := hid hkL
      have hH41 : H ≤ 2199023255552 := by rw [hH]; exact Nat.div_le_of_le_mul (by have := HZL.out; exact Nat.le_of_lt this)
      have HW := hid (And.intro e8 (And.intro e9 (And.intro e11 (And.intro e12 e13))))
      clear e8 e9 e11 e12 e13 hLn hs hy hP hD hV hS hS2p hS2 hS2l hvl hvp hD8 hH hlt hkL hk
      have HCV : Hid (∀ y : World, Sts wr [] y → (convert 35 9 (.slice (some ⟨b, off, none⟩) L c)).run Tryz.prog y = .ok (.string (strB (Cmd.vint Z))) y) := hid (by
        exact fun y hy => (HT.out.below hy.below).str 35 9 5 Tryz.underlying35 Tryz.underlying5 Tryz.underlying9)
      have HVB := hid (HT.out.2)
      have H0 := hid (Sts.drew stab0 (Sts.nil wr))
      have HKC := hid (show ¬ c = 0 by have h1 := HLn.out.1; have h2 := HkL.out; omega)
      rcases HPar.out with ⟨hm, hp⟩ | ⟨hm, hp⟩
      all_goals
        have HB2 := hid hm
        clear hm
        go_wp2_with fail
        rw [HB2.out]
        obtain ⟨q1, q2⟩ := HLn.out
        have q3 := HKC.out
        have e9 := HW.out.2.1
        refine wp_region_ordQ (.pure 0 (.pure 3 (.pure 4 (.pure 5 (.pure 6 (.pure 7 (.eff 1 (.pure 2 (.pure 8 .nil))))))))) (fun y => Sts wr [] y) (fun y => Sts wr [] y) (by kernel_rfl) (by kernel_rfl) H0.out (fun y hy => hy) ?_
        iterate 6
          (apply ordq_pure (ho := rfl)
           · go_simp
           · intro x hx; have k1 := HCV.out x hx; go_simp; rfl
           apply ordq_norm
           · go_simp; rfl)
        apply ordq_eff (ho := rfl)
        · go_simp
        intro y hy
        refine eff_call (f := 161) (by go_simp) (HI.out y) ?_
        rintro e w3 ⟨r, rfl, h3⟩
        have h4 := Sts.new stab0 hy h3
        rw [u8s_len] at h4
        refine ⟨_, rfl, (fun y => Sts wr [rowP 5 1 r (Cmd.vint Z).length (u8s (Cmd.vint Z))] y), (fun y => Sts wr [rowP 5 1 r (Cmd.vint Z).length (u8s (Cmd.vint Z))] y), h4, (fun y hy => hy), (fun _ h => h.tail), ?_⟩
        clear h3 h4 hy y
        have CV3 := hid (fun (y : World) (hy : Sts wr [rowP 5 1 r (Cmd.vint Z).length (u8s (Cmd.vint Z))] y) => (Sts.rdB8 hy HVB.out).str (P := Tryz.prog) 35 9 5 Tryz.underlying35 Tryz.underlying5 Tryz.underlying9)
        iterate 2
          (apply ordq_norm
           · go_simp; rfl
           apply ordq_pure (ho := rfl)
           · go_simp
           · intro x hx; have k1 := CV3.out x hx; go_simp; rfl)
        apply ordq_norm
        · go_simp; rfl
        refine ordq_nil fun z hz => ?_
        have HZ := hid hz.below
        clear hz
        go_wp2_with fail
        go_ret2
        exact ⟨rfl, HZ.out⟩
end Go.Proofs.YtnklmadmenkdoaaGreat
namespace Go.Proofs.YtnklmadmenkdoaaGreat
open Go.RowKit Go.Proofs.Num
set_option maxRecDepth 100000 in
theorem cTakeCount (w : World) (b off n c : Nat) (m most : Nat) (rest : List Nat) (h1 : m ≤ most) (h2 : most ≤ 1000000) (hR : RdB w (.slice (some ⟨b, off, none⟩) n c) (Cmd.vint (Cmd.zig (m : Int)) ++ rest)) :
    Calls Tryz.prog 232 #[.slice (some ⟨b, off, none⟩) n c, .int .i64 (most : Int)] w fun e w' => e = .returned (.tuple #[.int .i64 (m : Int), .int .i64 ((Cmd.vint (Cmd.zig (m : Int))).length : Int)]) ∧ Below w.heap.size w w' := by
  have HI := hid (cTakeInt w b off n c (m : Int) rest (by omega) (by omega) hR)
  have hvp := Cmd.vint_pos (Cmd.zig (m : Int))
  generalize (Cmd.vint (Cmd.zig (m : Int))).length = L at *
  have d1 : ((L : Int) == 0) = false := by rw [beq_eq_false_iff_ne]; omega
  have d2 : decide ((m : Int) < 0) = false := decide_eq_false (by omega)
  have d3 : decide ((most : Int) < (m : Int)) = false := decide_eq_false (by omega)
  have d4 : decide (most < m) = false := decide_eq_false (by omega)
  clear hR h1 h2 hvp
  go_enter Tryz.func232, Tryz.ntmps232
  go_wp2_with (first | (go_at_call 159; refine HI.out.mono ?_; rintro e w1 ⟨rfl, hb⟩; have HB := hid hb; clear hb))
  go_ret2
  exact ⟨rfl, HB.out⟩
set_option maxRecDepth 100000 in
theorem cTakeBlob (w : World) (b off n c : Nat) (d : List Nat) (most : Nat) (rest : List Nat) (h0 : 1 ≤ d.length) (h1 : d.length ≤ most) (h2 : most ≤ 1000000) (hR : RdB w (.slice (some ⟨b, off, none⟩) n c) (Cmd.blobB d ++ rest)) :
    Calls Tryz.prog 160 #[.slice (some ⟨b, off, none⟩) n c, .int .i64 (most : Int)] w fun e w' => e = .returned (.tuple #[.slice (some ⟨b, off + (Cmd.vint (Cmd.zig (d.length : Int))).length, none⟩) d.length (c - (Cmd.vint (Cmd.zig (d.length : Int))).length), .int .i64 ((Cmd.blobB d).length : Int)]) ∧ Below w.heap.size w w' := by
  have hcap := (Rd.cap hR.1).2
  have hnl : n = (Cmd.vint (Cmd.zig (d.length : Int))).length + d.length + rest.length := by have := (Rd.cap hR.1).1; rw [u8s_len, List.length_append] at this; simpa [Cmd.blobB] using this
  have hbl : (Cmd.blobB d).length = (Cmd.vint (Cmd.zig (d.length : Int))).length + d.length := by simp [Cmd.blobB]
  have hvl := Cmd.vint_len 5 _ (show Cmd.zig (d.length : Int) < 128 ^ (5 + 1) by have := Cmd.zig_lt (d.length : Int) (by omega) (by omega); omega)
  have HI := hid (cTakeCount w b off n c d.length most (d ++ rest) h1 h2 (by rw [← List.append_assoc]; exact hR))
  have hvp := Cmd.vint_pos (Cmd.zig (d.length : Int))
  generalize (Cmd.vint (Cmd.zig (d.length : Int))).length = L at *
  rw [hbl]
  generalize d.length = D at *
  have d1 : ((L : Int) == 0) = false := by rw [beq_eq_false_iff_ne]; omega
  have d2 : decide ((n : Int) - (L : Int) < (D : Int)) = false := decide_eq_false (by omega)
  have hD : D ≤ 1000000 := by omega
  have hn : n ≤ 9223372036854775807 := by have := hcap.2; unfold maxLen at this; omega
  have hLn : L ≤ n := by omega
  have hsl : ∀ x : World, (Instr.slice 35 (.slice (some ⟨b, off, none⟩) n c) (some (.int .i64 (L : Int))) (some (.int .i64 ((L + D : Nat) : Int))) none).run Tryz.prog x = .ok (.slice (some ⟨b, off + L, none⟩) (L + D - L) (c - L)) x := fun x => Lib.run_slice_window x 35 5 Tryz.underlying35 (fun w => by first | rfl | simp [go_sem] | kernel_rfl) b off n c L (L + D) (by omega) (by omega)
  rw [show L + D - L = D by omega] at hsl
  have e0 : ((L + D : Nat) : Int) = (L : Int) + (D : Int) := by omega
  rw [e0] at hsl ⊢
  clear hR h1 h2 hvp hbl hnl e0
  go_enter Tryz.func160, Tryz.ntmps160
  go_wp2_with (first | (go_at_call 232; refine HI.out.mono ?_; rintro e w1 ⟨rfl, hb⟩; have HB := hid hb; clear hb))
  go_ret2
  exact ⟨rfl, HB.out⟩
/-- A reader at block r that has the slice v left. -/
def rdO (r : Nat) (v : Value) : HProp := blkP r (.cells #[v, .bool false] 148 (0, 0))
section
variable {W w : World} {l : List HProp} (hl : ∀ B ∈ l, Stable B) (r b off n c : Nat)
include hl
set_option maxRecDepth 100000 in
omit hl in
theorem slice_from (k : Nat) (hk : k ≤ n) (x : World) : (Instr.slice 35 (.slice (some ⟨b, off, none⟩) n c) (some (.int .i64 (k : Int))) none none).run Tryz.prog x = .ok (.slice (if c = k then some ⟨b, off, none⟩ else some ⟨b, off + k, none⟩) (n - k) (c - k)) x := by
  have ht' : Tryz.prog.underlying 35 = some (.slice (Tryz.prog.elem 35)) := by rw [Tryz.underlying35]; kernel_rfl
  have he : Tryz.prog.elem 35 = 5 := by kernel_rfl
  rw [run_slice_l x _ _ _ _ ht' .i64 _ (by omega) (by omega), he, show (Go.sizeOf 5).run Tryz.prog x = .ok 1 x by first | rfl | simp [go_sem] | kernel_rfl]
  by_cases h0 : c = k
  · simp [Result.andThen, sliced, h0]
  · simp [Result.andThen, sliced, h0, plain_add]
set_option maxRecDepth 100000 in
/-- Some bytes are consumed: what reads still. -/
theorem cRdNext (k : Nat) (ys zs : List Nat) (hk : 1 ≤ k) (hkl : ys.length = k) (hR : RdB W (.slice (some ⟨b, off, none⟩) n c) (ys ++ zs)) (hs : Sts W (rdO r (.slice (some ⟨b, off, none⟩) n c) :: l) w) :
    Calls Tryz.prog 158 #[.pointer (some ⟨r, 0, none⟩), .int .i64 (k : Int)] w fun e w' => e = .returned (.tuple #[]) ∧ ∃ a' c', RdB W (.slice a' zs.length c') zs ∧ (1 ≤ zs.length → a' = some ⟨b, off + k, none⟩) ∧ Sts W (rdO r (.slice a' zs.length c') :: l) w' := by
  have hcap := (Rd.cap hR.1).2
  have hnl : n = k + zs.length := by have := (Rd.cap hR.1).1; rwa [u8s_len, List.length_append, hkl] at this
  have d1 : ((k : Int) == 0) = false := by rw [beq_eq_false_iff_ne]; omega
  obtain ⟨a', ha⟩ : ∃ a' : Option Addr, a' = (if c = k then some ⟨b, off, none⟩ else some ⟨b, off + k, none⟩) := ⟨_, rfl⟩
  have hb : k < n → a' = some ⟨b, off + k, none⟩ := fun h => by rw [ha, if_neg (by omega)]
  have hsl : ∀ x : World, (Instr.slice 35 (.slice (some ⟨b, off, none⟩) n c) (some (.int .i64 (k : Int))) none none).run Tryz.prog x = .ok (.slice a' (n - k) (c - k)) x := fun x => by
    rw [ha]; exact slice_from b off n c k (by omega) x
  have c0 : w.cell? ⟨r, 0, none⟩ = some (.slice (some ⟨b, off, none⟩) n c) := (Sts.boxCell hs 0 _ rfl).1
  have HS := hid hs
  have hzl : n - k = zs.length := by omega
  rw [hzl] at hsl
  have HRz : Hid (RdB W (.slice a' zs.length (c - k)) zs) := hid (by
    refine ⟨?_, fun x hx => hR.2 x (List.mem_append_right _ hx)⟩
    by_cases hz : 1 ≤ zs.length
    · rw [hb (by omega)]
      have h := RdB.mid (k := ys) (l := zs) (m := []) (by simpa using hR) (c - k) (by have := hcap.1; have := hcap.2; omega)
      rw [hkl] at h
      exact h.1
    · have : zs = [] := List.eq_nil_of_length_eq_zero (by omega)
      subst this
      exact Rd.nil _ _ _ (by have := hcap.2; omega))
  have HB := hid (fun (hz : 1 ≤ zs.length) => hb (by omega))
  clear hR hs hcap hnl hkl ha hb hzl hk
  go_enter Tryz.func158, Tryz.ntmps158
  go_wp2_with (first
    | (refine wpList_cellS HS.out hl rfl (.tmp 20) (.tmp 18) 35 rfl 0 (.slice a' zs.length (c - k)) rfl rfl szSl8 (show 0 < 2 by decide) rfl ?_; intro w2 h3; have H3 := hid h3; clear h3))
  go_end0
  exact ⟨rfl, a', c - k, HRz.out, HB.out, H3.out⟩
set_option maxRecDepth 100000 in
theorem cRdUint (size : Nat) (ys zs : List Nat) (h1 : 1 ≤ size) (h2 : size ≤ 2) (hy : ys.length = size) (hR : RdB W (.slice (some ⟨b, off, none⟩) n c) (ys ++ zs)) (hs : Sts W (rdO r (.slice (some ⟨b, off, none⟩) n c) :: l) w) :
    Calls Tryz.prog 62 #[.pointer (some ⟨r, 0, none⟩), .int .i64 (size : Int)] w fun e w' => e = .returned (.int .u64 ((Cmd.bev ys : Nat) : Int)) ∧ ∃ a' c', RdB W (.slice a' zs.length c') zs ∧ (1 ≤ zs.length → a' = some ⟨b, off + size, none⟩) ∧ Sts W (rdO r (.slice a' zs.length c') :: l) w' := by
  have hnl : n = size + zs.length := by have := (Rd.cap hR.1).1; rwa [u8s_len, List.length_append, hy] at this
  have hT := cTakeUint w b off n c (ys ++ zs) size h1 h2 (by omega) (hR.below hs.below)
  rw [← hy, List.take_left, hy] at hT
  have HT := hid hT
  have HN := hid (cRdNext hl r b off n c size ys zs h1 hy hR hs)
  have c0 : w.cell? ⟨r, 0, none⟩ = some (.slice (some ⟨b, off, none⟩) n c) := (Sts.boxCell hs 0 _ rfl).1
  clear hT hnl hs hR hy
  generalize Cmd.bev ys = x at *
  go_enter Tryz.func62, Tryz.ntmps62
  go_wp2_with (first | (go_at_call 157; refine HT.out.mono ?_; rintro e w1 ⟨rfl, rfl⟩) | (go_at_call 158; refine HN.out.mono ?_; rintro e w1 ⟨rfl, h3⟩; have H3 := hid h3; clear h3))
  go_ret
  exact ⟨rfl, H3.out⟩
set_option maxRecDepth 100000 in
theorem cRdInt (m : Int) (zs : List Nat) (h1 : -1099511627776 ≤ m) (h2 : m ≤ 1099511627776) (hR : RdB W (.slice (some ⟨b, off, none⟩) n c) (Cmd.vint (Cmd.zig m) ++ zs)) (hs : Sts W (rdO r (.slice (some ⟨b, off, none⟩) n c) :: l) w) :
    Calls Tryz.prog 64 #[.pointer (some ⟨r, 0, none⟩)] w fun e w' => e = .returned (.int .i64 m) ∧ ∃ a' c', RdB W (.slice a' zs.length c') zs ∧ (1 ≤ zs.length → a' = some ⟨b, off + (Cmd.vint (Cmd.zig m)).length, none⟩) ∧ Sts W (rdO r (.slice a' zs.length c') :: l) w' := by
  have hvp := Cmd.vint_pos (Cmd.zig m)
  have hT := cTakeInt w b off n c m zs h1 h2 (hR.below hs.below)
  have HN := hid (fun (y : World) (hy : Sts W (rdO r (.slice (some ⟨b, off, none⟩) n c) :: l) y) => cRdNext hl r b off n c (Cmd.vint (Cmd.zig m)).length (Cmd.vint (Cmd.zig m)) zs hvp rfl hR hy)
  have c0 : w.cell? ⟨r, 0, none⟩ = some (.slice (some ⟨b, off, none⟩) n c) := (Sts.boxCell hs 0 _ rfl).1
  have HT := hid hT
  have HS := hid hs
  have HST := hid (stabC (show Stable (rdO r (.slice (some ⟨b, off, none⟩) n c)) from blkP_stable _ _) hl)
  clear hT hs hR hvp h1 h2
  generalize (Cmd.vint (Cmd.zig m)).length = L at *
  go_enter Tryz.func64, Tryz.ntmps64
  go_wp2_with (first | (go_at_call 159; refine HT.out.mono ?_; rintro e w1 ⟨rfl, h2⟩; have H2 := hid (HS.out.quiet HST.out h2); clear h2) | (go_at_call 158; refine (HN.out _ H2.out).mono ?_; rintro e w1 ⟨rfl, h3⟩; have H3 := hid h3; clear h3))
  go_ret
  exact ⟨rfl, H3.out⟩
set_option maxRecDepth 100000 in
theorem cRdBlob (d : List Nat) (most : Nat) (zs : List Nat) (h0 : 1 ≤ d.length) (h1 : d.length ≤ most) (h2 : most ≤ 1000000) (hR : RdB W (.slice (some ⟨b, off, none⟩) n c) (Cmd.blobB d ++ zs)) (hs : Sts W (rdO r (.slice (some ⟨b, off, none⟩) n c) :: l) w) :
    Calls Tryz.prog 65 #[.pointer (some ⟨r, 0, none⟩), .int .i64 (most : Int)] w fun e w' => (∃ c2, e = .returned (.slice (some ⟨b, off + (Cmd.vint (Cmd.zig (d.length : Int))).length, none⟩) d.length c2) ∧ RdB W (.slice (some ⟨b, off + (Cmd.vint (Cmd.zig (d.length : Int))).length, none⟩) d.length c2) d) ∧ ∃ a' c', RdB W (.slice a' zs.length c') zs ∧ (1 ≤ zs.length → a' = some ⟨b, off + (Cmd.blobB d).length, none⟩) ∧ Sts W (rdO r (.slice a' zs.length c') :: l) w' := by
  have hcap := (Rd.cap hR.1).2
  have hnl := (Rd.cap hR.1).1
  rw [u8s_len, List.length_append] at hnl
  have hbl : (Cmd.blobB d).length = (Cmd.vint (Cmd.zig (d.length : Int))).length + d.length := by simp [Cmd.blobB]
  have hT := cTakeBlob w b off n c d most zs h0 h1 h2 (hR.below hs.below)
  have HN := hid (fun (y : World) (hy : Sts W (rdO r (.slice (some ⟨b, off, none⟩) n c) :: l) y) => cRdNext hl r b off n c (Cmd.blobB d).length (Cmd.blobB d) zs (by omega) rfl hR hy)
  have HD : Hid (RdB W (.slice (some ⟨b, off + (Cmd.vint (Cmd.zig (d.length : Int))).length, none⟩) d.length (c - (Cmd.vint (Cmd.zig (d.length : Int))).length)) d) := hid (RdB.mid (m := zs) (by unfold Cmd.blobB at hR; exact hR) _ (by have := hcap.1; have := hcap.2; omega))
  have c0 : w.cell? ⟨r, 0, none⟩ = some (.slice (some ⟨b, off, none⟩) n c) := (Sts.boxCell hs 0 _ rfl).1
  have HT := hid hT
  have HS := hid hs
  have HST := hid (stabC (show Stable (rdO r (.slice (some ⟨b, off, none⟩) n c)) from blkP_stable _ _) hl)
  clear hT hs hR h0 h1 h2 hbl hcap hnl
  generalize (Cmd.vint (Cmd.zig (d.length : Int))).length = L at *
  generalize (Cmd.blobB d).length = M at *
  go_enter Tryz.func65, Tryz.ntmps65
  go_wp2_with (first | (go_at_call 160; refine HT.out.mono ?_; rintro e w1 ⟨rfl, h2⟩; have H2 := hid (HS.out.quiet HST.out h2); clear h2) | (go_at_call 158; refine (HN.out _ H2.out).mono ?_; rintro e w1 ⟨rfl, h3⟩; have H3 := hid h3; clear h3))
  go_ret
  exact ⟨⟨_, rfl, HD.out⟩, H3.out⟩
end
end Go.Proofs.YtnklmadmenkdoaaGreat
namespace Go.Proofs.YtnklmadmenkdoaaGreat
open Go.RowKit Go.Proofs.Num
theorem cRowNo (w : World) (s : Int) (h1 : -9223372036854775808 ≤ s) (h2 : s < 9223372036854775808) (hb : Cmd.isS s = false) : Calls Tryz.prog 46 #[.int .i64 s] w fun e w' => e = .returned (.slice none 0 0) ∧ Below w.heap.size w w' := by
  refine (cRow w s h1 h2).mono ?_
  rintro e w' ⟨hB, ⟨_, h⟩ | ⟨h, _⟩⟩
  · exact ⟨h, hB⟩
  · rw [hb] at h; cases h
theorem cRowYes (w : World) (s : Int) (h1 : -9223372036854775808 ≤ s) (h2 : s < 9223372036854775808) (hb : Cmd.isS s = true) : Calls Tryz.prog 46 #[.int .i64 s] w fun e w' => ∃ g o, e = .returned (.slice (some ⟨g, o, none⟩) 4 4) ∧ Below w.heap.size w w' ∧ w'.cell? ⟨g, o, none⟩ = some (.int .i64 ((Cmd.argN s : Nat) : Int)) ∧ w'.cell? ⟨g, o + 1, none⟩ = some (.int .i64 ((Cmd.datN s : Nat) : Int)) := by
  refine (cRow w s h1 h2).mono ?_
  rintro e w' ⟨hB, ⟨h, _⟩ | ⟨_, g, o, lo, hi, h, _, q0, q1, _⟩⟩
  · rw [hb] at h; cases h
  · exact ⟨g, o, h, hB, q0, q1⟩
set_option maxRecDepth 100000 in
/-- How many arguments, and whether there are data. -/
theorem cRArgs (w : World) (s : Int) (h1 : -9223372036854775808 ≤ s) (h2 : s < 9223372036854775808) : Calls Tryz.prog 63 #[.int .i64 s] w fun e w' => e = .returned (.tuple #[.int .i64 ((Cmd.argN s : Nat) : Int), .bool (Nat.beq (Cmd.datN s) 1)]) ∧ Below w.heap.size w w' := by
  cases hb : Cmd.isS s with
  | false =>
    have e1 : Cmd.argN s = 0 := by unfold Cmd.argN; rw [hb]; rfl
    have e2 : Cmd.datN s = 0 := by unfold Cmd.datN; rw [hb]; rfl
    rw [e1, e2]
    have HF := hid (cRowNo w s h1 h2 hb)
    clear h1 h2 hb e1 e2
    go_enter Tryz.func63, Tryz.ntmps63
    go_wp2_with (first | (go_at_call 46; refine HF.out.mono ?_; rintro e w1 ⟨rfl, hB⟩; have HB := hid hB; clear hB))
    go_ret2
    exact ⟨rfl, HB.out⟩
  | true =>
    have HF := hid (cRowYes w s h1 h2 hb)
    have HE : Hid ((((Cmd.datN s : Nat) : Int) == 1) = Nat.beq (Cmd.datN s) 1) := hid (by
      have := Cmd.datN_le s
      rcases (show Cmd.datN s = 0 ∨ Cmd.datN s = 1 by omega) with h | h <;> rw [h] <;> rfl)
    generalize Cmd.argN s = A at *
    generalize Cmd.datN s = D at *
    clear h1 h2 hb
    have he := HE.out
    generalize Nat.beq D 1 = R at *
    go_enter Tryz.func63, Tryz.ntmps63
    go_wp2_with (first | (go_at_call 46; refine HF.out.mono ?_; rintro e w1 ⟨g, o, rfl, hB, q0, q1⟩; have HB := hid hB; clear hB))
    go_quiet (fail)
    go_wp2_with fail
    go_ret2
    exact ⟨rfl, below_drewN HB.out _⟩
section
variable (w : World) (src num s : Int) (aa : Option Addr) (ca : Nat) (args : List Int) (ad : Option Addr) (cd n : Nat)
  (h1 : 0 ≤ src ∧ src ≤ 15) (h2 : 0 ≤ num ∧ num ≤ 65535) (h3 : -9223372036854775808 ≤ s ∧ s < 9223372036854775808)
include h1 h2 h3
omit h1 h2 in
set_option maxRecDepth 100000 in
set_option maxHeartbeats 2000000 in
theorem cRValidNo (hb : Cmd.isS s = false) : Calls Tryz.prog 12 #[.agg (cmdV src num s (.slice aa args.length ca) (.slice ad n cd))] w fun e w' => e = .returned (.bool false) ∧ Below w.heap.size w w' := by
  have HS : Hid (Sts w (blkP w.heap.size (.cells (cmdV src num s (.slice aa args.length ca) (.slice ad n cd)) 39 (0, 0)) :: []) (w.alloc (.cells (cmdV src num s (.slice aa args.length ca) (.slice ad n cd)) 39))) := hid (Sts.alloc stab0 (Sts.nil w) _)
  have HLB : Hid (∀ B ∈ [blkP w.heap.size (.cells (cmdV src num s (.slice aa args.length ca) (.slice ad n cd)) 39 (0, 0))], Stable B) := hid (stabC (blkP_stable _ _) stab0)
  have HF := hid (cRowNo (w.alloc (.cells (cmdV src num s (.slice aa args.length ca) (.slice ad n cd)) 39)) s h3.1 h3.2 hb)
  clear h3 hb
  unfold cmdV at *
  go_enter Tryz.func12, Tryz.ntmps12
  go_wp2_with (first | (go_at_call 46; refine HF.out.mono ?_; rintro e w1 ⟨rfl, hB⟩; have H1 := hid (HS.out.quiet HLB.out hB); have c0 := (Sts.boxCell H1.out 0 _ rfl).1; have c1 := (Sts.boxCell H1.out 1 _ rfl).1; have c3 := (Sts.boxCell H1.out 3 _ rfl).1; have c4 := (Sts.boxCell H1.out 4 _ rfl).1; clear hB))
  go_quiet (fail)
  go_wp2_with fail
  go_ret
  exact ⟨rfl, below_drewN H1.out.below _⟩
omit h1 h2 in
set_option maxRecDepth 100000 in
set_option maxHeartbeats 2000000 in
theorem cRValidLen (hb : Cmd.isS s = true) (hn : args.length ≠ Cmd.argN s) : Calls Tryz.prog 12 #[.agg (cmdV src num s (.slice aa args.length ca) (.slice ad n cd))] w fun e w' => e = .returned (.bool false) ∧ Below w.heap.size w w' := by
  have HS : Hid (Sts w (blkP w.heap.size (.cells (cmdV src num s (.slice aa args.length ca) (.slice ad n cd)) 39 (0, 0)) :: []) (w.alloc (.cells (cmdV src num s (.slice aa args.length ca) (.slice ad n cd)) 39))) := hid (Sts.alloc stab0 (Sts.nil w) _)
  have HLB : Hid (∀ B ∈ [blkP w.heap.size (.cells (cmdV src num s (.slice aa args.length ca) (.slice ad n cd)) 39 (0, 0))], Stable B) := hid (stabC (blkP_stable _ _) stab0)
  have HF := hid (cRowYes (w.alloc (.cells (cmdV src num s (.slice aa args.length ca) (.slice ad n cd)) 39)) s h3.1 h3.2 hb)
  generalize Cmd.argN s = A at *
  generalize Cmd.datN s = D at *
  have hq : (((args.length : Nat) : Int) != (A : Int)) = true := by rw [bne_iff_ne]; omega
  clear h3 hb hn
  unfold cmdV at *
  go_enter Tryz.func12, Tryz.ntmps12
  go_wp2_with (first | (go_at_call 46; refine HF.out.mono ?_; rintro e w1 ⟨g, o, rfl, hB, q0, q1⟩; have H1 := hid (HS.out.quiet HLB.out hB); have c0 := (Sts.boxCell H1.out 0 _ rfl).1; have c1 := (Sts.boxCell H1.out 1 _ rfl).1; have c3 := (Sts.boxCell H1.out 3 _ rfl).1; have c4 := (Sts.boxCell H1.out 4 _ rfl).1; clear hB))
  go_quiet (fail)
  go_wp2_with fail
  go_ret
  exact ⟨rfl, below_drewN H1.out.below _⟩
set_option maxRecDepth 100000 in
set_option maxHeartbeats 2000000 in
theorem cRValidArgs (hb : Cmd.isS s = true) (hn : args.length = Cmd.argN s) (hR : Rd w (.slice aa args.length ca) (i64s args)) (hN : n < 1000000) : Calls Tryz.prog 12 #[.agg (cmdV src num s (.slice aa args.length ca) (.slice ad n cd))] w fun e w' => e = .returned (.bool (Cmd.cmdOk s args n)) ∧ Below w.heap.size w w' := by
  have HS : Hid (Sts w (blkP w.heap.size (.cells (cmdV src num s (.slice aa args.length ca) (.slice ad n cd)) 39 (0, 0)) :: []) (w.alloc (.cells (cmdV src num s (.slice aa args.length ca) (.slice ad n cd)) 39))) := hid (Sts.alloc stab0 (Sts.nil w) _)
  have HLB : Hid (∀ B ∈ [blkP w.heap.size (.cells (cmdV src num s (.slice aa args.length ca) (.slice ad n cd)) 39 (0, 0))], Stable B) := hid (stabC (blkP_stable _ _) stab0)
  have d1 : decide (src < 0) = false := decide_eq_false (by omega)
  have d2 : decide (15 < src) = false := decide_eq_false (by omega)
  have d3 : decide (num < 0) = false := decide_eq_false (by omega)
  have d4 : decide (65535 < num) = false := decide_eq_false (by omega)
  have hA3 := Cmd.argN_le s
  rw [← hn] at hA3
  have HE : Hid (Cmd.cmdOk s args n = (args.all Cmd.inR && (if Cmd.datN s = 1 then decide (1 ≤ n) && decide (n ≤ 512) else decide (n = 0)))) := hid (by unfold Cmd.cmdOk; rw [hb, decide_eq_true hn]; rfl)
  have hf := cRowYes (w.alloc (.cells (cmdV src num s (.slice aa args.length ca) (.slice ad n cd)) 39)) s h3.1 h3.2 hb
  have hD1 := Cmd.datN_le s
  rw [← hn] at hf
  generalize Cmd.datN s = D at *
  have hq : (((args.length : Nat) : Int) != ((args.length : Nat) : Int)) = false := by simp
  have HF := hid hf
  have HR := hid hR
  have HA3 := hid hA3
  have HD1 := hid hD1
  clear hf h1 h2 h3 hb hn hR hA3 hD1
  generalize Cmd.cmdOk s args n = R at *
  unfold cmdV at *
  go_enter Tryz.func12, Tryz.ntmps12
  go_wp2_with (first | (go_at_call 46; refine HF.out.mono ?_; rintro e w1 ⟨g, o, rfl, hB, q0, q1⟩; have H1 := hid (HS.out.quiet HLB.out hB); have c0 := (Sts.boxCell H1.out 0 _ rfl).1; have c1 := (Sts.boxCell H1.out 1 _ rfl).1; have c3 := (Sts.boxCell H1.out 3 _ rfl).1; have c4 := (Sts.boxCell H1.out 4 _ rfl).1; clear hB))
  go_quiet (fail)
  go_wp2_with fail
  have HR2 := hid (HR.out.below H1.out.below)
  go_loop [4] (fun i => ∃ k : Nat, k ≤ args.length ∧ i = .int .i64 (k : Int) ∧ ∀ x ∈ args.take k, Cmd.inR x = true) (fun i => args.length - (intOf i).toNat)
  case atStart => exact ⟨0, Nat.zero_le _, rfl, by simp⟩
  case round =>
    obtain ⟨k, hk, rfl, hall⟩ := hrel
    by_cases hlt : k < args.length
    · obtain ⟨a0, c9, e0, hc0, hx⟩ := HR2.out
      obtain ⟨b0, off, e1, hb0, hx0⟩ := hx k (by rw [i64s_len]; exact hlt)
      injection e0 with e2 e3 e4
      subst e2
      subst e1
      have hcell : w1.cell? ⟨b0, off + k, none⟩ = some (.int .i64 args[k]) := by rw [hx0]; simp [i64s]
      have hmem : args[k] ∈ args := List.getElem_mem hlt
      have htk : args.take (k + 1) = args.take k ++ [args[k]] := List.take_succ_eq_append_getElem hlt
      clear hx hx0 e3 e4 hc0
      generalize args[k] = x at *
      have hk0 : (0 : Int) ≤ (k : Int) := Int.natCast_nonneg _
      have hk1 : (k : Int) < ((args.length : Nat) : Int) := by omega
      have hkk : k < 100 := by have := HA3.out; omega
      by_cases g1 : x < -1099511627776
      · have HRf : Hid (R = false) := hid (by
          rw [HE.out, List.all_eq_false.2 ⟨x, hmem, by unfold Cmd.inR; rw [decide_eq_false (by omega)]; simp⟩]; rfl)
        clear hmem htk hall
        go_wp2_with fail
        go_ret
        exact ⟨ret_bool HRf.out.symm, below_drewN H1.out.below _⟩
      · by_cases g2 : 1099511627776 < x
        · have HRf : Hid (R = false) := hid (by
            rw [HE.out, List.all_eq_false.2 ⟨x, hmem, by unfold Cmd.inR; rw [decide_eq_false (show ¬ x ≤ 1099511627776 by omega)]; simp⟩]; rfl)
          clear hmem htk hall
          go_wp2_with fail
          go_ret
          exact ⟨ret_bool HRf.out.symm, below_drewN H1.out.below _⟩
        · have HT : Hid (∀ y ∈ args.take (k + 1), Cmd.inR y = true) := hid (by
            rw [htk]
            intro y hy
            rcases List.mem_append.1 hy with h | h
            · exact hall y h
            · rw [List.mem_singleton] at h; subst h; unfold Cmd.inR; rw [decide_eq_true (by omega), decide_eq_true (by omega)]; rfl)
          have z1 : decide (x < -1099511627776) = false := decide_eq_false g1
          have z2 : decide (1099511627776 < x) = false := decide_eq_false g2
          clear hmem htk hall
          go_wp2_with fail
          go_round
          case rel => exact ⟨k + 1, by omega, by go_num, HT.out⟩
          case measure => simp [intOf]; omega
    · have HRf : Hid (R = (if D = 1 then decide (1 ≤ n) && decide (n ≤ 512) else decide (n = 0))) := hid (by
        rw [HE.out, List.all_eq_true.2 (fun x hx => hall x (by rw [List.take_of_length_le (by omega)]; exact hx)), Bool.true_and])
      clear hall
      rcases (show D = 0 ∨ D = 1 by have := HD1.out; omega) with hD | hD
      · subst hD
        have HRg : Hid (R = decide (n = 0)) := hid HRf.out
        have z1 : (((n : Nat) : Int) == 0) = decide (n = 0) := by
          by_cases h : n = 0
          · subst h; rfl
          · rw [decide_eq_false h, beq_eq_false_iff_ne]; omega
        rw [← HRg.out] at z1
        go_wp2_with fail
        go_ret
        exact ⟨rfl, below_drewN H1.out.below _⟩
      · subst hD
        have HRg : Hid (R = (decide (1 ≤ n) && decide (n ≤ 512))) := hid HRf.out
        by_cases g1 : 1 ≤ n
        · have z1 : decide (1 ≤ ((n : Nat) : Int)) = true := decide_eq_true (by omega)
          have z2 : decide (((n : Nat) : Int) ≤ 512) = decide (n ≤ 512) := by
            by_cases h : n ≤ 512
            · rw [decide_eq_true h, decide_eq_true (by omega)]
            · rw [decide_eq_false h, decide_eq_false (by omega)]
          rw [show decide (n ≤ 512) = R by rw [HRg.out, decide_eq_true g1, Bool.true_and]] at z2
          go_wp2_with fail
          go_ret
          exact ⟨rfl, below_drewN H1.out.below _⟩
        · have z1 : decide (1 ≤ ((n : Nat) : Int)) = false := decide_eq_false (by omega)
          have HRh : Hid (R = false) := hid (by rw [HRg.out, decide_eq_false g1, Bool.false_and])
          go_wp2_with fail
          go_ret
          exact ⟨ret_bool HRh.out.symm, below_drewN H1.out.below _⟩
end
/-- Which commands are valid. -/
theorem cRValid (w : World) (src num s : Int) (aa : Option Addr) (ca : Nat) (args : List Int) (ad : Option Addr) (cd n : Nat) (h1 : 0 ≤ src ∧ src ≤ 15) (h2 : 0 ≤ num ∧ num ≤ 65535) (h3 : -9223372036854775808 ≤ s ∧ s < 9223372036854775808) (hR : Rd w (.slice aa args.length ca) (i64s args)) (hN : n < 1000000) :
    Calls Tryz.prog 12 #[.agg (cmdV src num s (.slice aa args.length ca) (.slice ad n cd))] w fun e w' => e = .returned (.bool (Cmd.cmdOk s args n)) ∧ Below w.heap.size w w' := by
  cases hb : Cmd.isS s with
  | false => rw [show Cmd.cmdOk s args n = false by unfold Cmd.cmdOk; rw [hb]; rfl]; exact cRValidNo w src num s aa ca args ad cd n h3 hb
  | true =>
    by_cases hn : args.length = Cmd.argN s
    · exact cRValidArgs w src num s aa ca args ad cd n h1 h2 h3 hb hn hR hN
    · rw [show Cmd.cmdOk s args n = false by unfold Cmd.cmdOk; rw [hb, decide_eq_false hn]; rfl]; exact cRValidLen w src num s aa ca args ad cd n h3 hb hn
end Go.Proofs.YtnklmadmenkdoaaGreat
