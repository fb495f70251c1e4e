/- A telemetry packet, decoded. The reader of bytes: new, a number of some bytes. A report of verification, decoded. -/
import Derived.Test.YtnklmadmenkdoaaGreatQSdpW
set_option linter.unusedVariables false
set_option linter.unusedSimpArgs false
namespace Go.Proofs.YtnklmadmenkdoaaGreat
open Go.RowKit Go.Proofs.Num
set_option maxRecDepth 100000 in
theorem and_facts (a c : Nat) (ha : a < 256) (hc : c ≤ 16383) : bits .and .i64 ((8 * 256 + a : Nat) : Int) 4096 = 0 ∧ bits .and .i64 ((8 * 256 + a : Nat) : Int) 2048 = 2048 ∧ bits .and .i64 ((8 * 256 + a : Nat) : Int) 2047 = (a : Int) ∧ bits .and .i64 ((49152 + c : Nat) : Int) 16383 = (c : Int) := by
  have e (x y : Nat) (hx : x < 100000) (hy : y < 100000) : bits .and .i64 (x : Int) (y : Int) = ((x &&& y : Nat) : Int) := i64_and x y (by omega) (by omega)
  have q : (List.range 256).all (fun a => ((8 * 256 + a) &&& 4096) == 0 && (((8 * 256 + a) &&& 2048) == 2048)) = true := by decide
  have q2 := List.all_eq_true.1 q a (List.mem_range.2 ha)
  simp only [Bool.and_eq_true, beq_iff_eq] at q2
  refine ⟨?_, ?_, ?_, ?_⟩
  · rw [show (4096 : Int) = ((4096 : Nat) : Int) from rfl, e _ _ (by omega) (by decide), q2.1]; rfl
  · rw [show (2048 : Int) = ((2048 : Nat) : Int) from rfl, e _ _ (by omega) (by decide), q2.2]
  · rw [show (2047 : Int) = ((2047 : Nat) : Int) from rfl, e _ _ (by omega) (by decide), show 2047 = 2 ^ 11 - 1 from rfl, Nat.and_two_pow_sub_one_eq_mod, show (8 * 256 + a) % 2 ^ 11 = a by omega]
  · rw [show (16383 : Int) = ((16383 : Nat) : Int) from rfl, e _ _ (by omega) (by decide), show 16383 = 2 ^ 14 - 1 from rfl, Nat.and_two_pow_sub_one_eq_mod, show (49152 + c) % 2 ^ 14 = c by omega]
section
set_option maxRecDepth 100000 in
set_option maxHeartbeats 4000000 in
theorem cPkDecode (w : World) (a c : Nat) (d : List Nat) (b off cap N : Nat) (ha : a < 256) (hc : c ≤ 16383) (hd0 : 1 ≤ d.length) (hd : d.length ≤ 220) (hN : N = d.length + 6) (hR : RdB w (.slice (some ⟨b, off, none⟩) N cap) (Pkt.tel a c d)) :
    Calls Tryz.prog 136 #[.slice (some ⟨b, off, none⟩) N cap] w fun e w' => ∃ ra rc, e = .returned (.tuple #[.agg (pkV false true a 3 c (.slice ra d.length rc)), .int .i64 (N : Int), .int .i64 0]) ∧ New w w' 5 (.slice ra d.length rc) (u8s d) := by
  have HS : Hid (Sts w (blkP w.heap.size (.cells zeroTc 50 (0, 0)) :: []) (w.alloc (.cells zeroTc 50))) := hid (Sts.alloc stab0 (Sts.nil w) _)
  have HLB : Hid (∀ B ∈ [blkP w.heap.size (.cells zeroTc 50 (0, 0))], Stable B) := hid (stabC (blkP_stable _ _) stab0)
  obtain ⟨C, hC⟩ : ∃ C, C = (49152 + c) / 256 := ⟨_, rfl⟩
  obtain ⟨E, hE⟩ : ∃ E, E = (49152 + c) % 256 := ⟨_, rfl⟩
  obtain ⟨x4, hx4⟩ : ∃ x, x = (d.length - 1) / 256 := ⟨_, rfl⟩
  obtain ⟨x5, hx5⟩ : ∃ x, x = (d.length - 1) % 256 := ⟨_, rfl⟩
  have hcap := (Rd.cap hR.1).2
  have hlen : (u8s (Pkt.tel a c d)).length = N := by rw [u8s_len, Pkt.tel_len, hN]
  have hcell : ∀ (y : World), Below w.heap.size w y → ∀ (j x : Nat), (Pkt.tel a c d)[j]? = some x → y.cell? ⟨b, off + j, none⟩ = some (.int .u8 (x : Int)) := by
    intro y hy j x hx
    have hj := (List.getElem?_eq_some_iff.1 hx).1
    obtain ⟨b', off', e, hb, hcl⟩ := RdB.at hR (by rw [Pkt.tel_len]; omega)
    injection e with e
    injection e with e1 e2
    subst e1; subst e2
    rw [hy.cell hb, hcl j hj]
    rw [(List.getElem?_eq_some_iff.1 hx).2]
  have KS := hid (show ∀ y : World, Below w.heap.size w y → Calls Tryz.prog 210 #[.slice (some ⟨b, off, none⟩) N cap] y fun e w' => e = .returned (.tuple #[.int .i64 (N : Int), .int .i64 0]) ∧ ∃ m, w' = y.drewN m from fun y hy => by
    have h := cPkSize y b off N cap 8 x4 x5 (by omega) (by decide) (by omega) (by omega) (by omega) (by omega) (by have := hcell y hy 0 8 rfl; rw [Nat.add_zero] at this; exact this) (hcell y hy 4 x4 (by rw [hx4]; rfl)) (hcell y hy 5 x5 (by rw [hx5]; rfl))
    rw [show 256 * x4 + x5 + 7 = N by omega] at h
    exact h)
  obtain ⟨K1, hK1⟩ : ∃ K, K = 8 * 256 + a := ⟨_, rfl⟩
  obtain ⟨K2, hK2⟩ : ∃ K, K = 49152 + c := ⟨_, rfl⟩
  have KW1 := hid (show ∀ y : World, Sts w [blkP w.heap.size (.cells zeroTc 50 (0, 0))] y → Calls Tryz.prog 211 #[.slice (some ⟨b, off, none⟩) N cap] y fun e w' => e = .returned (.int .i64 (K1 : Int)) ∧ ∃ m, w' = y.drewN m from fun y hy => by
    have h := cPkWord y b off N cap 8 a (by omega) (by decide) ha (by have := hcell y hy.below 0 8 rfl; rw [Nat.add_zero] at this; exact this) (hcell y hy.below 1 a rfl)
    rw [← hK1] at h; exact h)
  have KW2 := hid (show ∀ y : World, Sts w [blkP w.heap.size (.cells zeroTc 50 (0, 0))] y → Calls Tryz.prog 211 #[.slice (some ⟨b, off + 2, none⟩) (N - 2) (cap - 2)] y fun e w' => e = .returned (.int .i64 (K2 : Int)) ∧ ∃ m, w' = y.drewN m from fun y hy => by
    have h := cPkWord y b (off + 2) (N - 2) (cap - 2) C E (by omega) (by omega) (by omega) (hcell y hy.below 2 C (by rw [hC]; rfl)) (by rw [Nat.add_assoc]; exact hcell y hy.below 3 E (by rw [hE]; rfl))
    rw [show C * 256 + E = K2 by omega] at h; exact h)
  obtain ⟨f1, f2, f3, f4⟩ := and_facts a c ha hc
  rw [← hK1] at f1 f2 f3
  rw [← hK2] at f4
  have f5 : (K2 : Int) / 16384 = 3 := by omega
  have s1 : (2 : Int) ≤ (N : Int) := by omega
  have s2 : ¬ cap = 2 := by omega
  have s3 : (6 : Int) ≤ (N : Int) := by omega
  have s4 : (N : Int) ≤ (cap : Int) := by omega
  have s5 : ¬ N = 6 := by omega
  have s6 : N - 6 = d.length := by omega
  have HRX := hid (show ∀ y : World, Below w.heap.size w y → Rd y (.slice (some ⟨b, off + 6, none⟩) d.length d.length) (u8s d) from fun y hy => by
    have h0 : RdB w (.slice (some ⟨b, off, none⟩) N cap) (Pkt.hdP a c d.length ++ d ++ []) := by rw [List.append_nil]; exact hR
    exact (RdB.mid h0 d.length ⟨Nat.le_refl _, by unfold maxLen; omega⟩).1.below hy)
  have KV := hid (fun (y : World) (ra : Option Addr) (rc : Nat) => cPkValid false true a 3 c d.length ra rc y (by omega) (by decide) hc hd0 (by omega))
  have HD := hid hd
  clear hR hcell hlen hcap hC hE hx4 hx5 hK1 hK2 hN hd hd0 ha hc
  go_enter Tryz.func136, Tryz.ntmps136
  go_wp2_with (first
    | (go_at_call 210; refine (KS.out _ HS.out.below).mono ?_; rintro e w1 ⟨rfl, m, rfl⟩
       have H1 := hid (HS.out.quiet HLB.out (below_drewN (Below.refl _ _) m))))
  refine wp_region_ordQ (.pure 0 (.pure 2 (.pure 3 (.eff 1 (.eff 4 (.pure 5 (.pure 6 .nil))))))) (fun y => True) (fun y => Sts w ([blkP w.heap.size (.cells zeroTc 50 (0, 0))]) y) (by kernel_rfl) (by kernel_rfl) (H1.out.drew (HLB.out)) (fun y hy => trivial) ?_
  iterate 3
    (apply ordq_pure (ho := rfl)
     · go_simp
     · intro x hx; go_simp; rfl
     apply ordq_norm
     · go_simp; rfl)
  apply ordq_eff (ho := rfl)
  · go_simp
  intro y hy
  refine eff_call (f := 211) (by go_simp) (KW1.out y hy) ?_
  rintro e w3 ⟨rfl, k, rfl⟩
  have h3 := hy.quiet HLB.out (below_drewN (Below.refl y.heap.size y) k)
  refine ⟨_, rfl, (fun y => True), (fun y => Sts w ([blkP w.heap.size (.cells zeroTc 50 (0, 0))]) y), h3, (fun y hy => trivial), (fun _ h => h), ?_⟩
  clear h3 hy y 
  apply ordq_norm
  · go_simp; rfl
  apply ordq_eff (ho := rfl)
  · go_simp
  intro y hy
  refine eff_call (f := 211) (by go_simp) (KW2.out y hy) ?_
  rintro e w3 ⟨rfl, k, rfl⟩
  have h3 := hy.quiet HLB.out (below_drewN (Below.refl y.heap.size y) k)
  refine ⟨_, rfl, (fun y => True), (fun y => Sts w ([blkP w.heap.size (.cells zeroTc 50 (0, 0))]) y), h3, (fun y hy => trivial), (fun _ h => h), ?_⟩
  clear h3 hy y 
  apply ordq_norm
  · go_simp; rfl
  iterate 2
    (apply ordq_pure (ho := rfl)
     · go_simp
     · intro x hx; go_simp; rfl
     apply ordq_norm
     · go_simp; rfl)
  refine ordq_nil fun z hz => ?_
  have H2 := hid hz
  clear hz H1
  go_wp2_with fail
  have KCL := hid (cBClone HLB.out H2.out ⟨b, off + 6, none⟩ d.length d (HRX.out _ H2.out.below) (by have := HD.out; omega))
  refine KCL.out.mono ?_
  rintro e w3 ⟨ra, rc, rfl, h3⟩
  have h4 := Sts.alloc (stabC (rowP_stable _ _ _ _ _) HLB.out) h3 (.cells (pkV false true a 3 c (.slice ra d.length rc)) 50)
  have H4 := hid h4
  clear h3 h4 KCL
  go_wp2_with (first
    | (refine wpList_ldS rfl (.tmp 9) 50 rfl rfl (.agg (pkV false true a 3 c (.slice ra d.length rc))) (ldPk rfl H4.out) ?_)
    | (go_at_call 198; refine (KV.out _ ra rc).mono ?_; rintro e w5 ⟨rfl, h5⟩
       have H5 := hid (H4.out.quiet (stabC (blkP_stable _ _) (stabC (rowP_stable _ _ _ _ _) HLB.out)) h5)
       clear h5)
    | (refine wpList_ldS rfl (.tmp 9) 50 rfl rfl (.agg (pkV false true a 3 c (.slice ra d.length rc))) (ldPk rfl H5.out) ?_)
    | (refine wpList_aggS H5.out.third (stabC (blkP_stable _ _) (stabC (rowP_stable _ _ _ _ _) stab0)) rfl (.tmp 2) (.tmp 51) 50 rfl (pkV false true a 3 c (.slice ra d.length rc)) rfl rfl szPk rfl rfl ?_; intro w7 h7; have H7 := hid h7; clear h7))
  refine post_cell3S H7.out Tryz.results136 rfl rfl (ldPk rfl H7.out) (.int .i64 (N : Int)) (.int .i64 0) rfl rfl ⟨ra, rc, rfl, ?_⟩
  exact New.of_sts H7.out.tail.tail (u8s_len d)
end
end Go.Proofs.YtnklmadmenkdoaaGreat
namespace Octr
/-- j bytes from k on as a number. -/
def num (bs : List Nat) (k : Nat) : Nat → Nat
  | 0 => 0
  | j + 1 => num bs k j * 256 + bs.getD (k + j) 0
theorem num_lt (bs : List Nat) (h : ∀ x ∈ bs, x < 256) (k : Nat) : ∀ j, num bs k j < 256 ^ j
  | 0 => by simp [num]
  | j + 1 => by
    have h1 := num_lt bs h k j
    have h2 : bs.getD (k + j) 0 < 256 := by
      rw [List.getD_eq_getElem?_getD]
      cases e : bs[k + j]? with
      | none => simp
      | some x => exact h x (List.mem_of_getElem? e)
    simp only [num]; rw [Nat.pow_succ]; omega
end Octr
namespace Go.Proofs.YtnklmadmenkdoaaGreat
open Go.RowKit Go.Proofs.Num
theorem or_byte (X x : Nat) (hX : X * 256 < 18446744073709551616) (hx : x < 256) : bits .or .u64 (IntKind.u64.wrap ((X : Int) * 256)) (IntKind.u64.wrap (x : Int)) = ((X * 256 + x : Nat) : Int) := by
  have e1 : IntKind.u64.wrap ((X : Int) * 256) = ((X * 256 : Nat) : Int) := by rw [IntKind.wrap_u64]; omega
  have e2 : IntKind.u64.wrap (x : Int) = (x : Int) := by rw [IntKind.wrap_u64]; omega
  rw [e1, e2, u64_or_nat _ _ hX (by omega), nat_join 8 (X * 256) x (by omega) (by omega)]
def rdrO (v : Value) : Obj := .cells #[.bool true, .bool false, v] 381 (0, 0)
section
variable {W w : World} {l : List HProp} (hl : ∀ B ∈ l, Stable B)
set_option maxRecDepth 100000 in
theorem cOrNew (hl : ∀ B ∈ l, Stable B) (hs : Sts W l w) (v : Value) (bs : List Nat) (hv : RdB w v bs) (hnil : NilOk v) (hn : bs.length < 1000000) (h0 : 1 ≤ bs.length) :
    Calls Tryz.prog 261 #[v] w fun e w' => ∃ p g c, e = .returned (.pointer (some ⟨p, 0, none⟩)) ∧ Sts W (blkP p (rdrO (.slice (some ⟨g, 0, none⟩) bs.length c)) :: rowP 5 1 (.slice (some ⟨g, 0, none⟩) bs.length c) bs.length (u8s bs) :: l) w' := by
  have H1 := hid (Sts.lit0 5 hl hs)
  have HR : Hid (Rd (w.alloc (.cells #[] 5)) v (u8s bs)) := hid (hv.1.below ((Below.refl _ _).alloc (Nat.le_refl _) _))
  have HNK := hid hnil
  have HL := hid hl
  have hlen : ([] : List Nat).length + bs.length < 1000000000 := by simp; omega
  have H0 := hid h0
  clear hs hl hv hnil h0
  go_enter Tryz.func261, Tryz.ntmps261
  go_wp2_with (first
    | (at_builtin; refine wpList_app8 (l := []) rfl (.tmp 3) (.tmp 4) rfl H1.out HL.out rfl rfl HR.out HNK.out hlen ?_; intro v1 w1 h2
       rw [List.nil_append, List.length_nil, Nat.zero_add] at h2
       obtain ⟨g, c, hxv⟩ := own_pos h2.rowOwn H0.out
       subst hxv
       have H2 := hid h2
       clear h2))
  go_ret
  exact ⟨w1.heap.size, g, c, rfl, Sts.alloc (stabC (rowP_stable _ _ _ _ _) HL.out) H2.out _⟩
set_option maxRecDepth 100000 in
theorem cOrOk (w : World) (p : Nat) (h : w.cell? ⟨p, 0, none⟩ = some (.bool true)) (h1 : w.cell? ⟨p, 1, none⟩ = some (.bool false)) : Calls Tryz.prog 308 #[.pointer (some ⟨p, 0, none⟩)] w fun e w' => e = .returned (.bool true) ∧ w = w' := by
  go_enter Tryz.func308, Tryz.ntmps308
  go_wp2
  go_ret
  exact ⟨rfl, rfl⟩
set_option maxRecDepth 100000 in
set_option maxHeartbeats 4000000 in
theorem cOrUint (hl : ∀ B ∈ l, Stable B) (p g c k m : Nat) (bs : List Nat) (h8 : ∀ x ∈ bs, x < 256) (hm1 : 1 ≤ m) (hm : m ≤ 4) (hk : k + m ≤ bs.length) (hn : bs.length < 1000)
    (hs : Sts W (blkP p (rdrO (.slice (some ⟨g, k, none⟩) (bs.length - k) (c - k))) :: rowP 5 1 (.slice (some ⟨g, 0, none⟩) bs.length c) bs.length (u8s bs) :: l) w) :
    Calls Tryz.prog 269 #[.pointer (some ⟨p, 0, none⟩), .int .i64 (m : Int)] w fun e w' => e = .returned (.int .u64 ((Octr.num bs k m : Nat) : Int)) ∧ ∃ v', (k + m < bs.length → v' = .slice (some ⟨g, k + m, none⟩) (bs.length - (k + m)) (c - (k + m))) ∧ Sts W (blkP p (rdrO v') :: rowP 5 1 (.slice (some ⟨g, 0, none⟩) bs.length c) bs.length (u8s bs) :: l) w' := by
  have hcap := (Rd.cap (Sts.rdRow hs.tail (by rw [u8s_len]))).2
  obtain ⟨n, hn1⟩ : ∃ n, n = bs.length - k := ⟨_, rfl⟩
  obtain ⟨cc, hcc⟩ : ∃ cc, cc = c - k := ⟨_, rfl⟩
  rw [← hn1, ← hcc] at hs
  have c0 : w.cell? ⟨p, 0, none⟩ = some (.bool true) := (Sts.boxCell hs 0 _ rfl).1
  have c1 : w.cell? ⟨p, 1, none⟩ = some (.bool false) := (Sts.boxCell hs 1 _ rfl).1
  have c2 : w.cell? ⟨p, 2, none⟩ = some (.slice (some ⟨g, k, none⟩) n cc) := (Sts.boxCell hs 2 _ rfl).1
  have KO := hid (cOrOk w p c0 c1)
  have d1 : decide ((m : Int) < 1) = false := decide_eq_false (by omega)
  have d2 : decide ((8 : Int) < (m : Int)) = false := decide_eq_false (by omega)
  have d3 : decide ((n : Int) < (m : Int)) = false := decide_eq_false (by omega)
  have d3' : decide (n < m) = false := decide_eq_false (by omega)
  have s1 : (m : Int) ≤ (cc : Int) := by omega
  have s2 : ¬ cc = 0 := by omega
  have s3 : (m : Int) ≤ (n : Int) := by omega
  have HS := hid hs
  have HL := hid hl
  have H8 := hid h8
  have HM := hid hm
  have HK := hid hk
  have HC := hid hcap
  have HN1 := hid hn1
  have HCC := hid hcc
  clear hs hl h8 hm1 hm hk hn hcap hn1 hcc
  go_enter Tryz.func269, Tryz.ntmps269
  go_wp2_with (go_at_call 308; refine KO.out.mono ?_; rintro e w1 ⟨rfl, rfl⟩)
  clear c0 c1 KO
  go_loopw [5, 35] (fun x i wr => ∃ j : Nat, j ≤ m ∧ x = .int .u64 ((Octr.num bs k j : Nat) : Int) ∧ i = .int .i64 (j : Int) ∧ Sts W (blkP p (rdrO (.slice (some ⟨g, k, none⟩) n cc)) :: rowP 5 1 (.slice (some ⟨g, 0, none⟩) bs.length c) bs.length (u8s bs) :: l) wr) (fun _ i _ => m - (intOf i).toNat)
  case atStart => exact ⟨0, Nat.zero_le _, rfl, rfl, HS.out⟩
  case round =>
    obtain ⟨j, hj, rfl, rfl, hs⟩ := hrel
    clear HS c2
    by_cases hlt : j < m
    · have hjb : k + j < bs.length := by have := HK.out; omega
      obtain ⟨x, hx⟩ : ∃ x, x = bs.getD (k + j) 0 := ⟨_, rfl⟩
      have hxg : bs[k + j]? = some x := by rw [hx, List.getD_eq_getElem?_getD, List.getElem?_eq_getElem hjb]; rfl
      have hx8 : x < 256 := H8.out x (List.mem_of_getElem? hxg)
      have c3 : wr.cell? ⟨g, k + j, none⟩ = some (.int .u8 (x : Int)) := Sts.rowCell hs.tail (k + j) hjb _ (by simp [u8s, hxg])
      obtain ⟨X, hX⟩ : ∃ X, X = Octr.num bs k j := ⟨_, rfl⟩
      have hXl : X * 256 < 18446744073709551616 := by
        have h1 := Octr.num_lt bs H8.out k j
        have h2 : 256 ^ j ≤ 256 ^ 4 := Nat.pow_le_pow_right (by decide) (by have := HM.out; omega)
        rw [← hX] at h1; omega
      have HO := hid (or_byte X x hXl hx8)
      have HST := hid (show X * 256 + x = Octr.num bs k (j + 1) by rw [hX, hx]; rfl)
      have HJ := hid hlt
      have HJW : Hid (wrap64 ((j : Int) + 1) = ((j + 1 : Nat) : Int)) := hid (by have := HM.out; unfold wrap64; omega)
      have jn : (j : Int) < (m : Int) := by omega
      have HSS := hid hs
      rw [← hX]
      clear hs hx hxg hx8 hX hXl hlt hjb hj
      go_wp2_with fail
      rw [HO.out, HST.out, HJW.out]
      exact ⟨⟨j + 1, by have := HJ.out; omega, rfl, rfl, HSS.out⟩, by have := HJ.out; simp [intOf]; omega⟩
    · obtain rfl : j = m := by omega
      have c2 : wr.cell? ⟨p, 2, none⟩ = some (.slice (some ⟨g, k, none⟩) n cc) := (Sts.boxCell hs 2 _ rfl).1
      have HS := hid hs
      clear hs
      by_cases hcj : cc = j
      · subst hcj
        go_wp2_with (refine wpList_cellS HS.out (stabC (rowP_stable _ _ _ _ _) HL.out) rfl (.tmp 53) (.tmp 51) 35 rfl 2 (.slice (some ⟨g, k, none⟩) (n - cc) 0) rfl ?_ szSl8 (show 2 < 3 by decide) rfl ?_
                     · first | rfl | (simp [Act.eval]; done) | (go_simp; done)
                     intro w3 h3; have H3 := hid h3; clear h3)
        go_ret
        refine ⟨rfl, .slice (some ⟨g, k, none⟩) (n - cc) 0, fun hlt => ?_, H3.out⟩
        have := HC.out
        have := HCC.out
        omega
      · go_wp2_with (refine wpList_cellS HS.out (stabC (rowP_stable _ _ _ _ _) HL.out) rfl (.tmp 53) (.tmp 51) 35 rfl 2 (.slice (some ⟨g, k + j, none⟩) (n - j) (cc - j)) rfl rfl szSl8 (show 2 < 3 by decide) rfl ?_; intro w3 h3; have H3 := hid h3; clear h3)
        go_ret
        refine ⟨rfl, .slice (some ⟨g, k + j, none⟩) (n - j) (cc - j), fun hlt => ?_, H3.out⟩
        rw [HN1.out, HCC.out, Nat.sub_sub, Nat.sub_sub]
end
end Go.Proofs.YtnklmadmenkdoaaGreat
namespace Ver
end Ver
namespace Go.Proofs.YtnklmadmenkdoaaGreat
open Go.RowKit Go.Proofs.Num
def ackB (s n t co : Nat) : List Nat := [s, n / 256, n % 256, t, co]
set_option maxRecDepth 100000 in
theorem szAck : ∀ w, (Go.sizeOf 61).run Tryz.prog w = .ok 4 w := fun w => by first | rfl | simp [go_sem] | kernel_rfl
theorem infoAck : (Tryz.prog.info? 61).map (·.size) = some 4 := by kernel_rfl
theorem ldAck {W w : World} {l : List HProp} {b : Nat} {cs : Array Value} (hs : cs.size = 4) (h : Sts W (blkP b (.cells cs 61 (0, 0)) :: l) w) : (loadVar 61 ⟨b, 0, none⟩).run Tryz.prog w = .ok (.agg cs) w := by
  have hb : w.heap[b]? = some (.cells cs 61 (0, 0)) := by obtain ⟨F, hF⟩ := h.head; exact hF.1
  exact run_loadVar_row (P := Tryz.prog) w b 61 61 cs (0, 0) _ hb Tryz.underlying61 rfl (by rw [infoAck, hs])
theorem ack_num (s n t co : Nat) : Octr.num (ackB s n t co) 0 1 = s ∧ Octr.num (ackB s n t co) 1 2 = n ∧ Octr.num (ackB s n t co) 3 1 = t ∧ Octr.num (ackB s n t co) 4 1 = co := by
  refine ⟨?_, ?_, ?_, ?_⟩ <;> simp [Octr.num, ackB]
  omega
set_option maxRecDepth 100000 in
theorem szErrno : ∀ w, (Go.sizeOf 25).run Tryz.prog w = .ok 1 w := fun w => by first | rfl | simp [go_sem] | kernel_rfl
set_option maxRecDepth 100000 in
set_option maxHeartbeats 4000000 in
theorem cVerDecode (w : World) (s n t co : Nat) (ad : Addr) (cap : Nat) (hok : Ver.ok (s : Int) (n : Int) (t : Int) (co : Int) = true) (hR : RdB w (.slice (some ad) 5 cap) (ackB s n t co)) :
    Calls Tryz.prog 215 #[.slice (some ad) 5 cap] w fun e w' => e = .returned (.tuple #[.agg (ackV (s : Int) (n : Int) (t : Int) (co : Int)), .int .i64 0]) ∧ Below w.heap.size w w' := by
  obtain ⟨⟨_, g1⟩, ⟨_, g2⟩, ⟨_, g3⟩, ⟨_, g4⟩⟩ := (Ver.ok_iff _ _ _ _).1 hok
  have HS : Hid (Sts w (blkP w.heap.size (.cells #[.int .i64 0, .int .i64 0, .int .i64 0, .int .i64 0] 61 (0, 0)) :: []) (w.alloc (.cells #[.int .i64 0, .int .i64 0, .int .i64 0, .int .i64 0] 61))) := hid (Sts.alloc stab0 (Sts.nil w) _)
  have HLB : Hid (∀ B ∈ [blkP w.heap.size (.cells #[.int .i64 0, .int .i64 0, .int .i64 0, .int .i64 0] 61 (0, 0))], Stable B) := hid (stabC (blkP_stable _ _) stab0)
  have HN := hid (show ∀ y : World, Sts w [blkP w.heap.size (.cells #[.int .i64 0, .int .i64 0, .int .i64 0, .int .i64 0] 61 (0, 0))] y → _ from fun y hy => cOrNew HLB.out hy (.slice (some ad) 5 cap) (ackB s n t co) (hR.below hy.below) (NilOk.some _ _ _) (by show 5 < 1000000; decide) (by show 1 ≤ 5; decide))
  have H8 : Hid (∀ x ∈ ackB s n t co, x < 256) := hid hR.2
  have HNUM := hid (ack_num s n t co)
  have w1 : IntKind.i64.wrap (s : Int) = (s : Int) := by rw [IntKind.wrap_i64]; omega
  have w2 : IntKind.i64.wrap (n : Int) = (n : Int) := by rw [IntKind.wrap_i64]; omega
  have w3 : IntKind.i64.wrap (t : Int) = (t : Int) := by rw [IntKind.wrap_i64]; omega
  have w4 : IntKind.i64.wrap (co : Int) = (co : Int) := by rw [IntKind.wrap_i64]; omega
  have KV := hid (show ∀ y : World, Calls Tryz.prog 67 #[.agg (ackV (s : Int) (n : Int) (t : Int) (co : Int))] y fun e w' => e = .returned (.bool true) ∧ Below y.heap.size y w' from fun y => by
    have h := cVerValid y (s : Int) (n : Int) (t : Int) (co : Int)
    rw [hok] at h; exact h)
  clear hR hok g1 g2 g3 g4
  go_enter Tryz.func215, Tryz.ntmps215
  go_wp2_with fail
  refine (HN.out _ HS.out).mono ?_
  rintro e y1 ⟨p, g, gc, rfl, h1⟩
  have h2 := (Sts.alloc (stabC (blkP_stable _ _) (stabC (rowP_stable _ _ _ _ _) HLB.out)) h1 (.cells #[.int .i64 0, .int .i64 0, .int .i64 0, .int .i64 0] 61)).third'
  obtain ⟨b5, hb5⟩ : ∃ b, b = y1.heap.size := ⟨_, rfl⟩
  have H1 : Hid (Sts w (blkP p (rdrO (.slice (some ⟨g, 0, none⟩) 5 gc)) :: rowP 5 1 (.slice (some ⟨g, 0, none⟩) 5 gc) 5 (u8s (ackB s n t co)) :: blkP b5 (.cells #[.int .i64 0, .int .i64 0, .int .i64 0, .int .i64 0] 61 (0, 0)) :: [blkP w.heap.size (.cells #[.int .i64 0, .int .i64 0, .int .i64 0, .int .i64 0] 61 (0, 0))]) (y1.alloc (.cells #[.int .i64 0, .int .i64 0, .int .i64 0, .int .i64 0] 61))) := hid (hb5 ▸ h2)
  clear h1 h2 HN
  go_wp2_with fail
  rw [← hb5]
  clear hb5
  refine (cOrUint (stabC (blkP_stable _ _) HLB.out) p g gc 0 1 (ackB s n t co) H8.out (by decide) (by decide) (by show 1 ≤ 5; decide) (by show 5 < 1000; decide) H1.out).mono ?_
  rintro e z2 ⟨rfl, v2, hv2, h2⟩
  rw [show Octr.num (ackB s n t co) 0 1 = s from HNUM.out.1]
  have H2 := hid (hv2 (by show 1 < 5; decide) ▸ h2)
  clear h2 hv2 H1
  go_wp2_with fail
  refine (cOrUint (stabC (blkP_stable _ _) HLB.out) p g gc 1 2 (ackB s n t co) H8.out (by decide) (by decide) (by show 3 ≤ 5; decide) (by show 5 < 1000; decide) H2.out).mono ?_
  rintro e z3 ⟨rfl, v3, hv3, h3⟩
  rw [show Octr.num (ackB s n t co) 1 2 = n from HNUM.out.2.1]
  have q0 := (Sts.boxCell (h3.perm (List.perm_middle (l₁ := [_, _]))) 0 _ rfl)
  have h4 := Sts.store (stabC (blkP_stable _ _) (stabC (rowP_stable _ _ _ _ _) HLB.out)) (h3.perm (List.perm_middle (l₁ := [_, _]))) (j := 0) (.int .i64 (s : Int))
  have q1 := (Sts.boxCell h4 1 _ rfl)
  have h5 := (Sts.store (stabC (blkP_stable _ _) (stabC (rowP_stable _ _ _ _ _) HLB.out)) h4 (j := 1) (.int .i64 (n : Int))).third'
  have H3 : Hid (Sts w (blkP p (rdrO (.slice (some ⟨g, 3, none⟩) 2 (gc - 3))) :: rowP 5 1 (.slice (some ⟨g, 0, none⟩) 5 gc) 5 (u8s (ackB s n t co)) :: blkP b5 (.cells #[.int .i64 (s : Int), .int .i64 (n : Int), .int .i64 0, .int .i64 0] 61 (0, 0)) :: [blkP w.heap.size (.cells #[.int .i64 0, .int .i64 0, .int .i64 0, .int .i64 0] 61 (0, 0))]) ((z3.setCell ⟨b5, 0, none⟩ (.int .i64 (s : Int))).setCell ⟨b5, 1, none⟩ (.int .i64 (n : Int)))) := hid (hv3 (by show 3 < 5; decide) ▸ h5)
  have q0a := q0.1
  have q0f := q0.2
  have q1a := q1.1
  have q1f := q1.2
  clear h3 hv3 h4 h5 H2 q0 q1
  go_wp2_with fail
  refine (cOrUint (stabC (blkP_stable _ _) HLB.out) p g gc 3 1 (ackB s n t co) H8.out (by decide) (by decide) (by show 4 ≤ 5; decide) (by show 5 < 1000; decide) H3.out).mono ?_
  rintro e z4 ⟨rfl, v4, hv4, h4⟩
  rw [show Octr.num (ackB s n t co) 3 1 = t from HNUM.out.2.2.1]
  have H4 := hid (hv4 (by show 4 < 5; decide) ▸ h4)
  clear h4 hv4 H3 q0a q0f q1a q1f
  go_wp2_with fail
  refine (cOrUint (stabC (blkP_stable _ _) HLB.out) p g gc 4 1 (ackB s n t co) H8.out (by decide) (by decide) (by show 5 ≤ 5; decide) (by show 5 < 1000; decide) H4.out).mono ?_
  rintro e z5 ⟨rfl, v5, hv5, h5⟩
  rw [show Octr.num (ackB s n t co) 4 1 = co from HNUM.out.2.2.2]
  have H5 := hid ((h5.perm (List.perm_middle (l₁ := [_, _]))))
  clear h5 hv5 H4
  go_wp2_with (first
    | (refine wpList_cellS H5.out (stabC (blkP_stable _ _) (stabC (rowP_stable _ _ _ _ _) HLB.out)) rfl (.tmp 32) (.tmp 28) 3 rfl 2 (.int .i64 (t : Int)) rfl rfl szInt (show 2 < 4 by decide) rfl ?_; intro z6 h6; have H6 := hid h6; clear h6)
    | (refine wpList_cellS H6.out (stabC (blkP_stable _ _) (stabC (rowP_stable _ _ _ _ _) HLB.out)) rfl (.tmp 33) (.tmp 31) 25 rfl 3 (.int .i64 (co : Int)) rfl rfl szErrno (show 3 < 4 by decide) rfl ?_; intro z7 h7
       have H7 : Hid (Sts w (blkP b5 (.cells (ackV (s : Int) (n : Int) (t : Int) (co : Int)) 61 (0, 0)) :: blkP p (rdrO v5) :: rowP 5 1 (.slice (some ⟨g, 0, none⟩) 5 gc) 5 (u8s (ackB s n t co)) :: [blkP w.heap.size (.cells #[.int .i64 0, .int .i64 0, .int .i64 0, .int .i64 0] 61 (0, 0))]) z7) := hid h7; clear h7)
    | (refine wpList_ldS rfl (.tmp 5) 61 rfl rfl (.agg (ackV (s : Int) (n : Int) (t : Int) (co : Int))) (ldAck rfl H7.out) ?_)
    | (go_at_call 67; refine (KV.out _).mono ?_; rintro e z8 ⟨rfl, h8⟩
       have H8' := hid (H7.out.quiet (stabC (blkP_stable _ _) (stabC (blkP_stable _ _) (stabC (rowP_stable _ _ _ _ _) HLB.out))) h8)
       clear h8)
    | (refine wpList_ldS rfl (.tmp 5) 61 rfl rfl (.agg (ackV (s : Int) (n : Int) (t : Int) (co : Int))) (ldAck rfl H8'.out) ?_)
    | (refine wpList_aggS (H8'.out.perm (List.perm_append_comm (l₁ := [_, _, _]) (l₂ := [_]))) (stabC (blkP_stable _ _) (stabC (blkP_stable _ _) (stabC (rowP_stable _ _ _ _ _) stab0))) rfl (.tmp 2) (.tmp 38) 61 rfl (ackV (s : Int) (n : Int) (t : Int) (co : Int)) rfl rfl szAck rfl rfl ?_; intro z9 h9; have H9 := hid h9; clear h9))
  exact post_cell2S H9.out Tryz.results215 rfl rfl (ldAck rfl H9.out) (.int .i64 0) rfl ⟨rfl, H9.out.below⟩
end Go.Proofs.YtnklmadmenkdoaaGreat
