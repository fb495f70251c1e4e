/- The contract of vault.words. -/
import Derived.Test.YtdboplkgnnidcaaVltEq
import Derived.Test.YtdboplkgnnidcaaVltMath
import Derived.Test.YtdboplkgnnidcaaCrcFns
import Derived.Test.YtdboplkgnnidcaaMade
import Derived.Test.YtdboplkgnnidcaaOrdR
set_option linter.unusedVariables false
set_option linter.unusedSimpArgs false
namespace Go.Proofs.Ytdboplkgnnidcaa
open Go.RowKit Go.Proofs.Num
theorem w64 (x : Int) (h0 : -1000000000000 < x) (h1 : x < 1000000000000) : IntKind.i64.wrap x = x := by rw [IntKind.wrap_i64]; omega
set_option maxRecDepth 100000 in
set_option maxHeartbeats 1000000 in
theorem cVWords (w : World) (g : Nat) (v : Value) (bs : List Nat) (hg : g < 4294967296) (h : RdB w v bs) (hn : bs.length < 1000000) :
    Calls Try.prog 54 #[.int .i64 g, v] w fun e w' => ∃ r, e = .returned r ∧ New w w' 48 r (u32s (Vlt.wordsV g bs)) := by
  obtain ⟨a, cap, rfl, hx⟩ := h.open
  have hB := hid h.2
  have HX := hid hx
  clear h hx
  obtain ⟨i0, hi, hz0, hz1, hz2⟩ := info_parts info32
  obtain ⟨n, hnn⟩ : ∃ n, n = bs.length := ⟨_, rfl⟩
  have HL := hid hnn
  rw [← hnn] at hn ⊢
  clear hnn
  obtain ⟨k, hk⟩ : ∃ k, k = Vlt.room n := ⟨_, rfl⟩
  have HK := hid hk
  have hkn : ((n : Int) + 3) / 4 = (k : Int) := by unfold Vlt.room at hk; omega
  have hk2 : k < 1000000 := by unfold Vlt.room at hk; omega
  clear hk
  go_enter Try.func54, Try.ntmps54
  go_wp2_with (at_make; refine wpList_make_full _ rfl (.tmp 14) (.tmp 14) 22 rfl 0 48 i0 (.int .u32 0) 1 Try.underlying22 hi hz0 hz1 .i64 .i64 _ _ (k + 3) (by go_num) (by go_num) (by omega) (by omega) (by rw [hz2]; omega) (by unfold maxLen; omega) (Nat.zero_le _) ?_; intro w2 hown hgr; have S2 := hid (Sts.new stab0 (Sts.nil w) (made_new hown hgr)); have c0 := Sts.rowCell (l := []) (xs := u32s (List.replicate (k + 3) 0)) (n := k + 3) (by have := S2.out; rw [u32s_len, List.length_replicate] at this; exact this) 0 (by omega) (.int .u32 0) (by simp [u32s, List.getElem?_replicate]); have c1 := Sts.rowCell (l := []) (xs := u32s (List.replicate (k + 3) 0)) (n := k + 3) (by have := S2.out; rw [u32s_len, List.length_replicate] at this; exact this) 1 (by omega) (.int .u32 0) (by simp [u32s, List.getElem?_replicate]); have f0 := Sts.rowFree (l := []) (xs := u32s (List.replicate (k + 3) 0)) (n := k + 3) (by have := S2.out; rw [u32s_len, List.length_replicate] at this; exact this) 0; have f1 := Sts.rowFree (l := []) (xs := u32s (List.replicate (k + 3) 0)) (n := k + 3) (by have := S2.out; rw [u32s_len, List.length_replicate] at this; exact this) 1; clear hown hgr)
  have S3 : Hid (Sts w [rowP 48 1 (.slice (some ⟨w.heap.size, 0, none⟩) (k + 3) (k + 3)) (k + 3) (u32s (g :: n :: (Vlt.packW k [] ++ [0])))] ((w2.setCell ⟨w.heap.size, 0, none⟩ (.int .u32 g)).setCell ⟨w.heap.size, 1, none⟩ (.int .u32 n))) := by
    have h := S2.out
    rw [u32s_len, List.length_replicate] at h
    have h2 := Sts.rowStore stab0 (Sts.rowStore stab0 h 0 (.int .u32 g)) 1 (.int .u32 n)
    have e : ((u32s (List.replicate (k + 3) 0)).set 0 (Value.int .u32 (g : Nat))).set 1 (Value.int .u32 (n : Nat)) = u32s (g :: n :: (Vlt.packW k [] ++ [0])) := by
      rw [Vlt.packW_nil]
      simp [u32s, List.replicate_succ]
      rw [← List.replicate_succ, List.replicate_succ']
    rw [e] at h2
    exact hid h2
  go_loopw [27] (fun i wr => ∃ j : Nat, j ≤ n ∧ i = .int .i64 j ∧ Sts w [rowP 48 1 (.slice (some ⟨w.heap.size, 0, none⟩) (k + 3) (k + 3)) (k + 3) (u32s (g :: n :: (Vlt.packW k (bs.take j) ++ [0])))] wr) (fun i _ => n - (intOf i).toNat)
  case atStart => exact ⟨0, by omega, rfl, by simpa using S3.out⟩
  case round =>
    obtain ⟨j, hj, rfl, hs⟩ := hrel
    clear c0 c1 f0 f1
    by_cases hlt : j < n
    · have hlt2 : j < bs.length := by have := HL.out; omega
      obtain ⟨b, off, rfl, hb, hcell⟩ := HX.out j hlt2
      rw [← hs.below.cell hb] at hcell
      have hxb := hB.out _ (List.getElem_mem hlt2)
      have hkk : j / 4 < k := by have := HK.out; unfold Vlt.room at this; omega
      have HP := hid (Vlt.pack_step bs k j hlt2 hB.out)
      obtain ⟨old, ho⟩ : ∃ old, old = Vlt.wd (bs.take j) (j / 4) := ⟨_, rfl⟩
      have hold : (u32s (g :: n :: (Vlt.packW k (bs.take j) ++ [0])))[2 + j / 4]? = some (.int .u32 (old : Nat)) := by
        rw [ho, show 2 + j / 4 = j / 4 + 1 + 1 by omega]
        simp [u32s, List.getElem?_append_left, Vlt.packW_len, hkk, Vlt.packW]
      rw [← ho] at HP
      have holdb : old < 4294967296 := by rw [ho]; exact Vlt.wd_lt (fun x hx => hB.out x (List.mem_of_mem_take hx)) _
      clear ho
      generalize bs[j] = x at *
      have HS := hid hs
      clear hs
      go_wp2_with fail
      refine wp_region_ord (.pure 0 (.pure 1 (.pure 2 (.pure 3 (.pure 4 (.pure 6 (.pure 7 (.pure 8 (.pure 9 (.pure 10 (.pure 11 (.pure 12 (.eff 5 (.pure 13 (.pure 14 (.eff 15 .nil)))))))))))))))) Any (fun y => Sts w [rowP 48 1 (.slice (some ⟨w.heap.size, 0, none⟩) (k + 3) (k + 3)) (k + 3) (u32s (g :: n :: (Vlt.packW k (bs.take j) ++ [0])))] y) (by kernel_rfl) (by kernel_rfl) (HS.out.drew (stab1 (rowP_stable _ _ _ _ _))) (fun _ _ => trivial) ?_
      iterate 4
        (apply ord_pure (ho := rfl)
         · go_simp
         · intro x hx; go_simp; rfl
         apply ord_norm
         · go_simp; rfl)
      have a0 : IntKind.i64.wrap ((j : Int) / 4) = ((j / 4 : Nat) : Int) := by rw [w64 _ (by omega) (by omega)]; omega
      have a1 : IntKind.i64.wrap (2 + ((j / 4 : Nat) : Int)) = 2 + ((j / 4 : Nat) : Int) := w64 _ (by omega) (by omega)
      have a2 : IntKind.i64.wrap (8 * ((j % 4 : Nat) : Int)) = 8 * ((j % 4 : Nat) : Int) := w64 _ (by omega) (by omega)
      have a3 : IntKind.i64.wrap (24 - 8 * ((j % 4 : Nat) : Int)) = 24 - 8 * ((j % 4 : Nat) : Int) := w64 _ (by omega) (by omega)
      have a4 : (j : Int).tmod 4 = ((j % 4 : Nat) : Int) := by rw [Int.tmod_eq_emod_of_nonneg (by omega)]; omega
      have a5 : (j : Int) % 4 = ((j % 4 : Nat) : Int) := by omega
      rw [a0, a1]
      clear a0 a1
      have hr4 : j % 4 < 4 := by omega
      generalize j / 4 = q at *
      generalize j % 4 = r at *
      have b0 : (0 : Int) ≤ 2 + (q : Int) := by omega
      have b1 : 2 + (q : Int) < (k : Int) + 3 := by omega
      have b2 : (2 + (q : Int)).toNat = 2 + q := by omega
      apply ord_pure (ho := rfl)
      · go_simp
      · intro x hx; go_simp; rfl
      apply ord_norm
      · go_simp; rfl
      iterate 4
        (apply ord_pure (ho := rfl)
         · go_simp
         · intro x hx; go_simp; rfl
         apply ord_norm
         · go_simp; rfl)
      have cx : IntKind.u32.wrap (x : Int) = (x : Int) := by rw [IntKind.wrap_u32]; omega
      try rw [cx]
      iterate 2
        (apply ord_pure (ho := rfl)
         · go_simp
         · intro x hx; go_simp; rfl
         apply ord_norm
         · go_simp; rfl)
      try rw [a2]
      try rw [a3]
      have b3 : 24 - 8 * (r : Int) = ((24 - 8 * r : Nat) : Int) := by omega
      try rw [b3]
      apply ord_pure (ho := rfl)
      · go_simp
      · intro x hx; go_simp; rfl
      apply ord_norm
      · go_simp; rfl
      have hp : 2 ^ (24 - 8 * r) ≤ 16777216 := Nat.pow_le_pow_right (n := 2) (by omega) (show 24 - 8 * r ≤ 24 by omega)
      have hy0 : x * 2 ^ (24 - 8 * r) < 4294967296 := Nat.lt_of_le_of_lt (Nat.mul_le_mul (show x ≤ 255 by omega) hp) (by decide)
      have cy : IntKind.u32.wrap ((x : Int) * 2 ^ (24 - 8 * r)) = ((x * 2 ^ (24 - 8 * r) : Nat) : Int) := by
        have e : (x : Int) * 2 ^ (24 - 8 * r) = ((x * 2 ^ (24 - 8 * r) : Nat) : Int) := by rw [Int.natCast_mul, Int.natCast_pow]; rfl
        rw [e]; generalize x * 2 ^ (24 - 8 * r) = z at *; rw [IntKind.wrap_u32]; omega
      rw [cy]
      clear cy hp
      generalize x * 2 ^ (24 - 8 * r) = z at *
      apply ord_eff (ho := rfl)
      · go_simp
      intro y hy
      have hc := Sts.rowCell hy (2 + q) (by omega) _ hold
      refine eff_value Any (fun y => Sts w [rowP 48 1 (.slice (some ⟨w.heap.size, 0, none⟩) (k + 3) (k + 3)) (k + 3) (u32s (g :: n :: (Vlt.packW k (bs.take j) ++ [0])))] y) (v := .int .u32 (old : Nat)) (w := y) ?_ hy (fun _ _ => trivial) (fun _ h => h) ?_
      · go_simp
      apply ord_norm
      · go_simp; rfl
      clear hc hy
      apply ord_pure (ho := rfl)
      · go_simp
      · intro x hx; go_simp; rfl
      apply ord_norm
      · go_simp; rfl
      have ob : bits BinOp.or IntKind.u32 (old : Int) (z : Int) = ((old ||| z : Nat) : Int) := by
        exact u32_or_nat _ _ holdb hy0
      rw [ob]
      clear ob
      apply ord_pure (ho := rfl)
      · go_simp
      · intro x hx; go_simp; rfl
      apply ord_norm
      · go_simp; rfl
      apply ord_eff (ho := rfl)
      · go_simp
      intro y hy
      have hc := Sts.rowCell hy (2 + q) (by omega) _ hold
      have hf := Sts.rowFree hy (2 + q)
      have hy2 := Sts.rowStore stab0 hy (2 + q) (.int .u32 ((old ||| z : Nat) : Int))
      have er : (u32s (g :: n :: (Vlt.packW k (bs.take j) ++ [0]))).set (2 + q) (Value.int .u32 ((old ||| z : Nat) : Int)) = u32s (g :: n :: (Vlt.packW k (bs.take (j + 1)) ++ [0])) := by
        rw [HP.out, show 2 + q = q + 1 + 1 by omega]
        simp [u32s, List.set_append_left, Vlt.packW_len, hkk, List.map_set]
      rw [er] at hy2
      refine eff_skip Any (fun y => Sts w [rowP 48 1 (.slice (some ⟨w.heap.size, 0, none⟩) (k + 3) (k + 3)) (k + 3) (u32s (g :: n :: (Vlt.packW k (bs.take (j + 1)) ++ [0])))] y) (w := y.setCell ⟨w.heap.size, 2 + q, none⟩ (.int .u32 ((old ||| z : Nat) : Int))) ?_ hy2 (fun _ _ => trivial) (fun _ h => h) ?_
      · go_simp
      apply ord_norm
      · go_simp; rfl
      clear hy hy2 hc hf er
      refine ord_nil fun y hy => ?_
      have HF := hid hy
      clear hy
      go_wp2_with fail
      go_roundw
      case rel => exact ⟨j + 1, by omega, by go_num, HF.out⟩
      case measure => simp [intOf]; omega
    · have ej : j = n := by omega
      subst ej
      have et : bs.take j = bs := List.take_of_length_le (by have := HL.out; omega)
      rw [et] at hs
      have hlen : (Vlt.packW k bs).length = k := Vlt.packW_len _ _
      have hv : RdW wr (.slice (some ⟨w.heap.size, 0, none⟩) (k + 2) (k + 3)) (g :: j :: Vlt.packW k bs) := by
        have h0 := hs.rowOwn
        have h1 : Rd wr (.slice (some ⟨w.heap.size, 0, none⟩) (k + 3) (k + 3)) (u32s (g :: j :: (Vlt.packW k bs ++ [0]))) := Rd.of_own h0 (by simp [u32s_len, hlen])
        have h2 := h1.take (k + 2) (by simp [u32s_len, hlen]) (k + 3) ⟨by omega, by unfold maxLen; omega⟩
        refine ⟨?_, ?_⟩
        · have e : (u32s (g :: j :: (Vlt.packW k bs ++ [0]))).take (k + 2) = u32s (g :: j :: Vlt.packW k bs) := by
            simp [u32s, List.take_append, hlen]
          rw [e] at h2; exact h2
        · intro x hx
          simp only [List.mem_cons] at hx
          rcases hx with rfl | rfl | hx
          · exact hg
          · omega
          · exact Vlt.packW_lt hB.out k x hx
      have HV := hid hv
      have HS := hid hs
      clear hv hs
      go_wp2_with fail
      refine (cOctetsOf wr _ _ HV.out (by simp [hlen]; omega)).mono ?_
      rintro e w3 ⟨r, rfl, hN⟩
      have hS3 := HS.out.quiet (stab1 (rowP_stable _ _ _ _ _)) hN.below
      have HS3 := hid hS3
      have c0 := Sts.rowCell hS3 (k + 2) (by omega) (.int .u32 (0 : Nat)) (by simp [u32s, hlen])
      have f0 := Sts.rowFree hS3 (k + 2)
      have hRB : RdB w3 r (Pat.bytesOf (g :: j :: Vlt.packW k bs)) := ⟨hN.rd, Pat.bytesOf_lt _⟩
      have K := hid (cSum32 w3 r _ hRB (by rw [Pat.bytesOf_len]; simp [hlen]; omega))
      have hcr : 4294967295 - Crc.crc32 4294967295 (Pat.bytesOf (g :: j :: Vlt.packW k bs)) = Vlt.crcOf (Pat.bytesOf (Vlt.headV g bs)) := by
        unfold Vlt.headV Vlt.crcOf
        rw [← HL.out, ← HK.out]
      rw [hcr] at K
      clear hS3 hN hRB hcr
      have HW : Hid (Vlt.wordsV g bs = g :: j :: (Vlt.packW k bs ++ [Vlt.crcOf (Pat.bytesOf (Vlt.headV g bs))])) := by
        refine hid ?_
        unfold Vlt.wordsV
        conv => lhs; lhs; unfold Vlt.headV
        rw [← HL.out, ← HK.out]
        rfl
      generalize Vlt.crcOf (Pat.bytesOf (Vlt.headV g bs)) = c at *
      have b0 : (0 : Int) ≤ (k : Int) + 2 := by omega
      have b1 : (k : Int) + 2 < (k : Int) + 3 := by omega
      have b2 : ((k : Int) + 2).toNat = k + 2 := by omega
      go_wp2_with fail
      refine K.out.mono ?_
      rintro e w4 ⟨rfl, rfl⟩
      go_wp2_with fail
      go_ret
      have h := Sts.rowStore stab0 HS3.out (k + 2) (.int .u32 (c : Nat))
      have er : (u32s (g :: j :: (Vlt.packW k bs ++ [0]))).set (k + 2) (Value.int .u32 (c : Nat)) = u32s (Vlt.wordsV g bs) := by
        rw [HW.out]
        simp [u32s, List.set_append_right, hlen]
      rw [er] at h
      exact ⟨_, rfl, Sts.isNew h (by rw [HW.out]; simp [u32s_len, hlen])⟩
end Go.Proofs.Ytdboplkgnnidcaa
