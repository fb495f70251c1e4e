/- The specification's sum at the end, and whether it is right. The specification's frame of the uplink. The specification's frame of the uplink, decoded. -/
import Derived.Test.YtnklmadmenkdoaaGreatQSndV
set_option linter.unusedVariables false
set_option linter.unusedSimpArgs false
namespace Go.Proofs.YtnklmadmenkdoaaGreat
open Go.RowKit Go.Proofs.Num
set_option maxRecDepth 100000 in
theorem eff_lit0 {L : Prop} {o : Oper} {a : Act} {D : WP} {K : Act → WP → WP → Prop} {W y : World} {l : List HProp} (hl : ∀ B ∈ l, Stable B) (hS : Sts W l y) (ho : o.op = .buildSlice 35 0 #[]) (hD : ∀ z v, Sts W (rowP 5 1 v 0 [] :: l) z → D z)
    (hk : ∀ g, K (a.put o.dst (.slice (some ⟨g, 0, none⟩) 0 0)) D (fun z => Sts W (rowP 5 1 (.slice (some ⟨g, 0, none⟩) 0 0) 0 [] :: l) z)) : effUpon Tryz.prog L o.dst a D K ((execOp a.eval o).run Tryz.prog y) := by
  have h := Sts.lit0 5 hl hS
  refine eff_value (w := y.alloc (.cells #[] 5)) (v := .slice (some ⟨y.heap.size, 0, none⟩) 0 0) D _ ?_ h (fun z hz => hD z _ hz) (fun _ h => h) (hk _)
  unfold execOp
  simp only [ho]
  kernel_rfl
set_option maxRecDepth 100000 in
theorem cRAppend16 (w : World) (v : Value) (m : List Nat) (h : RdB w v m) (hv : NilOk v) (hm : m.length < 1000000) :
    Calls Tryz.prog 154 #[v] w fun e w' => ∃ r, e = .returned r ∧ New w w' 5 r (u8s (Cmd.crcB m)) := by
  have KS := hid (cRSum16 w v m h (by omega))
  have hs := Crc.crc16_lt 65535 m (by decide) h.2
  have HE : Hid (∀ A B : Nat, A = Crc.crc16 65535 m / 256 → B = Crc.crc16 65535 m % 256 → m ++ [A, B] = Cmd.crcB m) := hid (by rintro A B rfl rfl; rfl)
  have H1 : Hid (Sts w (rowP 5 1 (.slice (some ⟨w.heap.size, 0, none⟩) 0 0) 0 [] :: []) (w.alloc (.cells #[] 5))) := hid (Sts.lit0 5 stab0 (Sts.nil w))
  have HR := hid (h.1.below H1.out.below)
  have HV := hid hv
  clear h hv
  generalize Crc.crc16 65535 m = s at *
  obtain ⟨A, hA⟩ : ∃ A, A = s / 256 := ⟨_, rfl⟩
  obtain ⟨B, hB⟩ : ∃ B, B = s % 256 := ⟨_, rfl⟩
  have HE2 := hid (HE.out A B hA hB)
  have e1 : (s : Int) / 256 % 256 = (A : Int) := by omega
  have e2 : (s : Int) % 256 = (B : Int) := by omega
  have e3 : (s : Int) / 256 = (A : Int) := by omega
  have e4 : (A : Int) % 256 = (A : Int) := by omega
  clear hA hB HE hs e1
  go_enter Tryz.func154, Tryz.ntmps154
  go_wp2_with (first
    | (go_at_call 82; refine KS.out.mono ?_; rintro e w1 ⟨rfl, rfl⟩)
    | (at_builtin; refine wpList_app8 (l := []) rfl (.tmp 6) (.tmp 7) rfl H1.out stab0 rfl rfl HR.out HV.out (by simp; omega) ?_; intro v1 w2 h1
       have h2 := (Sts.alloc (stabC (rowP_stable _ _ _ _ _) stab0) h1 (.cells #[.int .u8 (A : Int), .int .u8 (B : Int)] 5)).swap
       have HR2 : Hid (Rd (w2.alloc (.cells #[.int .u8 (A : Int), .int .u8 (B : Int)] 5)) (.slice (some ⟨w2.heap.size, 0, none⟩) 2 2) (u8s [A, B])) := hid (by obtain ⟨F, q⟩ := Sts.head h2.swap; exact blk_rd q.1 rfl rfl (by decide))
       rw [List.nil_append, List.length_nil, Nat.zero_add] at h2
       have H2 := hid h2
       clear h1 h2)
    | (at_builtin; refine wpList_app8 rfl (.tmp 8) (.tmp 15) rfl H2.out (stabC (blkP_stable _ _) stab0) rfl rfl HR2.out (by intro c hc; cases hc) (by simp; omega) ?_; intro v2 w3 h3; have H3 := hid h3; clear h3))
  go_ret
  refine ⟨_, rfl, ?_⟩
  have h4 := H3.out.swap.tail
  rw [HE2.out] at h4
  exact New.of_sts h4 (by rw [u8s_len, Cmd.crcB_len]; rfl)
/-- The beginning of what reads. -/
theorem RdB.take {w : World} {a : Option Addr} {n cap : Nat} {l m : List Nat} (h : RdB w (.slice a n cap) (l ++ m)) : RdB w (.slice a l.length cap) l := by
  obtain ⟨h1, h2⟩ := h
  obtain ⟨e1, e2, e3⟩ := Rd.cap h1
  rw [u8s_len, List.length_append] at e1
  refine ⟨?_, fun x hx => h2 x (List.mem_append_left _ hx)⟩
  have h3 := h1.take l.length (by rw [u8s_len, List.length_append]; omega) cap ⟨by omega, e3⟩
  rw [show (u8s (l ++ m)).take l.length = u8s l by rw [u8s_app, ← u8s_len l, List.take_left]] at h3
  exact h3
set_option maxRecDepth 100000 in
theorem cRCheck16 (w : World) (a : Option Addr) (cap n : Nat) (m : List Nat) (hn : n = m.length + 2) (h : RdB w (.slice a n cap) (Cmd.crcB m)) (hm : m.length < 1000000) :
    Calls Tryz.prog 58 #[.slice a n cap] w fun e w' => e = .returned (.bool true) ∧ Below w.heap.size w w' := by
  obtain ⟨b, o, ha⟩ : ∃ b o, a = some ⟨b, o, none⟩ := by
    obtain ⟨_, _, e, _, hx⟩ := h.1
    injection e with e1 e2 e3
    subst e1
    obtain ⟨b, o, e, _⟩ := hx 0 (by rw [u8s_len, Cmd.crcB_len]; omega)
    exact ⟨b, o, e⟩
  subst ha
  have hcap := (Rd.cap h.1).2
  have ht : RdB w (.slice (some ⟨b, o, none⟩) m.length cap) m := RdB.take h
  have KA := hid (fun (y : World) (hy : Sts w [] y) => cRAppend16 y _ m (ht.below hy.below) (NilOk.some _ _ _) hm)
  have cv2 : ∀ y : World, Sts w [] y → (convert 35 9 (.slice (some ⟨b, o, none⟩) n cap)).run Tryz.prog y = .ok (.string (strB (Cmd.crcB m))) y := fun y hy => (h.below hy.below).str 35 9 5 Tryz.underlying35 Tryz.underlying5 Tryz.underlying9
  have HB := hid (fun x hx => h.2 x hx)
  have CV2 := hid cv2
  have d0 : ((m.length + 2 : Nat) : Int) - 2 = (m.length : Int) := by omega
  have d1 : decide ((m.length : Int) ≥ 0) = true := decide_eq_true (by omega)
  have d2 : decide ((0 : Int) ≤ (m.length : Int)) = true := decide_eq_true (by omega)
  have d3 : wrap64 ((m.length : Int)) = (m.length : Int) := by unfold wrap64; omega
  have HN := hid hn
  have HCAP := hid hcap
  subst hn
  clear h ht cv2 hcap HN
  go_enter Tryz.func58, Tryz.ntmps58
  go_wp2_with fail
  have H0 := hid (Sts.drew stab0 (Sts.nil w))
  have hle : (m.length : Int) ≤ (cap : Int) := by have := HCAP.out; omega
  refine wp_region_ordQ (.pure 0 (.pure 1 (.pure 2 (.pure 3 (.pure 4 (.pure 5 (.pure 8 (.pure 9 (.eff 6 (.pure 7 (.pure 10 (.pure 11 (.pure 12 .nil))))))))))))) (fun y => Sts w [] y) (fun y => Sts w [] y) (by kernel_rfl) (by kernel_rfl) H0.out (fun y hy => hy) ?_
  iterate 8
    (apply ordq_pure (ho := rfl)
     · go_simp
     · intro x hx; have k1 := CV2.out x hx; go_simp; rfl
     apply ordq_norm
     · go_simp; rfl)
  apply ordq_eff (ho := rfl)
  · go_simp
  intro y hy
  refine eff_call (f := 154) (by go_simp) (KA.out y hy) ?_
  rintro e w3 ⟨r, rfl, h3⟩
  have h4 := Sts.new stab0 hy h3
  rw [u8s_len] at h4
  refine ⟨_, rfl, (fun y => Sts w [rowP 5 1 r (Cmd.crcB m).length (u8s (Cmd.crcB m))] y), (fun y => Sts w [rowP 5 1 r (Cmd.crcB m).length (u8s (Cmd.crcB m))] y), h4, (fun y hy => hy), (fun _ h => h.tail), ?_⟩
  clear h3 h4 hy y
  have CV3 := hid (fun (y : World) (hy : Sts w [rowP 5 1 r (Cmd.crcB m).length (u8s (Cmd.crcB m))] y) => (Sts.rdB8 hy HB.out).str (P := Tryz.prog) 35 9 5 Tryz.underlying35 Tryz.underlying5 Tryz.underlying9)
  iterate 4
    (apply ordq_norm
     · go_simp; rfl
     apply ordq_pure (ho := rfl)
     · go_simp
     · intro x hx; have k1 := CV3.out x hx; go_simp; rfl)
  apply ordq_norm
  · go_simp; rfl
  refine ordq_nil fun z hz => ?_
  have HZ := hid hz.below
  clear hz
  go_wp2_with fail
  go_ret
  exact ⟨by simp, HZ.out⟩
end Go.Proofs.YtnklmadmenkdoaaGreat
namespace Go.Proofs.YtnklmadmenkdoaaGreat
open Go.RowKit Go.Proofs.Num
def hd5 (s n : Nat) : List Nat := [0, 5, (n + 6) / 256, (n + 6) % 256, s]
theorem tcH_5 (s n : Nat) (hs : s ≤ 255) (hn : n ≤ 1017) : tcH false false 5 0 s n = hd5 s n := by
  unfold tcH Bitw.pk
  have e : tcX false false 5 0 s n = (5 * 65536 + (n + 6)) * 256 + s := by
    unfold tcX
    simp only [Bool.toNat_false]
    omega
  rw [e, show Bitw.bytes 40 = 5 from rfl]
  simp only [Oct.be, hd5]
  refine List.cons_eq_cons.2 ⟨by omega, List.cons_eq_cons.2 ⟨by omega, List.cons_eq_cons.2 ⟨by omega, List.cons_eq_cons.2 ⟨by omega, List.cons_eq_cons.2 ⟨by omega, rfl⟩⟩⟩⟩⟩
theorem len_facts (n : Nat) (h : n ≤ 1017) : ∃ A B M : Nat, A = (n + 6) / 256 ∧ B = (n + 6) % 256 ∧ wrap64 (n : Int) = (n : Int) ∧ wrap64 ((n : Int) + 6) = (M : Int) ∧ (M : Int).tdiv 256 = (A : Int) ∧ (M : Int).tmod 256 = (B : Int) ∧ wrap64 (A : Int) = (A : Int) ∧ (A : Int) % 256 = (A : Int) ∧ (B : Int) % 256 = (B : Int) ∧ A < 256 ∧ B < 256 := by
  have w : ∀ k : Nat, k < 5000 → wrap64 (k : Int) = (k : Int) := by intro k hk; unfold wrap64; omega
  have hA : (n + 6) / 256 < 256 := by omega
  have hB : (n + 6) % 256 < 256 := by omega
  refine ⟨(n + 6) / 256, (n + 6) % 256, n + 6, rfl, rfl, w n (by omega), w (n + 6) (by omega), ?_, ?_, w _ (by omega), ?_, ?_, hA, hB⟩
  · rw [Int.tdiv_eq_ediv_of_nonneg (by omega)]; omega
  · rw [Int.tmod_eq_emod_of_nonneg (by omega)]; omega
  · exact Int.emod_eq_of_lt (by omega) (by omega)
  · exact Int.emod_eq_of_lt (by omega) (by omega)
section
variable (s : Nat) (a : Option Addr) (cap : Nat) (w : World)
set_option maxRecDepth 100000 in
theorem cR14Valid (n : Nat) (h3 : s ≤ 255) (h4 : 1 ≤ n) (h5 : n ≤ 1017) : Calls Tryz.prog 155 #[.agg (tcV false false 5 0 s (.slice a n cap))] w fun e w' => e = .returned (.bool true) ∧ Below w.heap.size w w' := by
  have HB : Hid (Below w.heap.size w (w.alloc (.cells (tcV false false 5 0 s (.slice a n cap)) 46))) := hid ((Below.refl _ _).alloc (Nat.le_refl _) _)
  have d5 : decide (0 ≤ (s : Int)) = true := decide_eq_true (by omega)
  have d6 : decide ((s : Int) ≤ 255) = true := decide_eq_true (by omega)
  have d7 : decide (1 ≤ (n : Int)) = true := decide_eq_true (by omega)
  have d8 : decide ((n : Int) ≤ 1017) = true := decide_eq_true (by omega)
  clear h3 h4 h5
  unfold tcV at *
  go_enter Tryz.func155, Tryz.ntmps155
  go_wp2_with fail
  go_ret
  exact ⟨rfl, HB.out⟩
set_option maxRecDepth 100000 in
set_option maxHeartbeats 4000000 in
theorem cR14Encode (d : List Nat) (h3 : s ≤ 255) (h4 : 1 ≤ d.length) (h5 : d.length ≤ 1017) (hd : RdB w (.slice a d.length cap) d) (hv : NilOk (.slice a d.length cap)) :
    Calls Tryz.prog 59 #[.agg (tcV false false 5 0 s (.slice a d.length cap))] w fun e w' => ∃ r, e = .returned (.tuple #[r, .int .i64 0]) ∧ New w w' 5 r (u8s (tcB false false 5 0 s d)) := by
  have HS : Hid (Sts w (blkP w.heap.size (.cells (tcV false false 5 0 s (.slice a d.length cap)) 46 (0, 0)) :: []) (w.alloc (.cells (tcV false false 5 0 s (.slice a d.length cap)) 46))) := hid (Sts.alloc stab0 (Sts.nil w) _)
  have HLB : Hid (∀ B ∈ [blkP w.heap.size (.cells (tcV false false 5 0 s (.slice a d.length cap)) 46 (0, 0))], Stable B) := hid (stabC (blkP_stable _ _) stab0)
  have KV := hid (fun w => cR14Valid s a cap w d.length h3 h4 h5)
  have HD := hid hd
  have HV := hid hv
  have H5 := hid h5
  have HLD := hid (fun (y : World) (h : Sts w (blkP w.heap.size (.cells (tcV false false 5 0 s (.slice a d.length cap)) 46 (0, 0)) :: []) y) => ldTc (cs := tcV false false 5 0 s (.slice a d.length cap)) rfl h)
  have e7 : (s : Int) % 256 = (s : Int) := Int.emod_eq_of_lt (by omega) (by omega)
  obtain ⟨A, B, M, hA, hB, f1, f2, e3, e4, f3, e5, e6, hA2, hB2⟩ := len_facts d.length h5
  have HT : Hid (Cmd.crcB ([0, 5, A, B, s] ++ d) = tcB false false 5 0 s d) := hid (by subst hA; subst hB; unfold tcB; rw [tcH_5 s d.length h3 h5]; rfl)
  have HLT : Hid (∀ x ∈ ([0, 5, A, B, s] : List Nat), x < 256) := hid (by
    intro x hx
    simp only [List.mem_cons, List.not_mem_nil, or_false] at hx
    clear f1 f2 e3 e4 f3 e5 e6 hA hB
    omega)
  have HL1 : Hid (([0, 5, A, B, s] : List Nat).length + d.length < 1000000000) := hid (by clear f1 f2 e3 e4 f3 e5 e6 hA hB; simp; omega)
  have HL2 : Hid ((([0, 5, A, B, s] : List Nat) ++ d).length < 1000000) := hid (by clear f1 f2 e3 e4 f3 e5 e6 hA hB; simp; omega)
  have E34 := hid (And.intro e3 e4)
  clear hd hv h3 h4 h5 hA hB hA2 hB2 e3 e4
  unfold tcV at *
  go_enter Tryz.func59, Tryz.ntmps59
  go_wp2_with (first
    | (refine wpList_ldS rfl (.tmp 1) 46 rfl rfl (.agg (tcV false false 5 0 s (.slice a d.length cap))) (HLD.out _ HS.out) ?_)
    | (go_at_call 155; refine (KV.out _).mono ?_; rintro e w1 ⟨rfl, hb1⟩; have H1 := hid (HS.out.quiet HLB.out hb1)
       have hc := H1.out
       obtain ⟨e3, e4⟩ := E34.out
       have c0 := (Sts.boxCell hc 0 _ rfl).1
       have c1 := (Sts.boxCell hc 1 _ rfl).1
       have c2 := (Sts.boxCell hc 2 _ rfl).1
       have c3 := (Sts.boxCell hc 3 _ rfl).1
       have c4 := (Sts.boxCell hc 4 _ rfl).1
       have c5 := (Sts.boxCell hc 5 _ rfl).1
       have h2 := Sts.weaken (Sts.alloc HLB.out hc (.cells #[.int .u8 0, .int .u8 5, .int .u8 (A : Int), .int .u8 (B : Int), .int .u8 (s : Int)] 5)) (fun F h => blkP.row h (show 5 ≤ 1000000 by decide))
       have c6 := (Sts.boxCell h2.tail 5 _ rfl).1
       have H2 := hid (show Sts w (rowP 5 1 (.slice (some ⟨w1.heap.size, 0, none⟩) 5 5) [0, 5, A, B, s].length (u8s [0, 5, A, B, s]) :: [blkP w.heap.size (.cells (tcV false false 5 0 s (.slice a d.length cap)) 46 (0, 0))]) (w1.alloc (.cells #[.int .u8 0, .int .u8 5, .int .u8 (A : Int), .int .u8 (B : Int), .int .u8 (s : Int)] 5)) from h2)
       have HR := hid (HD.out.1.below h2.below)
       clear hb1 hc h2)
    | (at_builtin; refine wpList_app8 rfl (.tmp 44) (.tmp 46) rfl H2.out HLB.out rfl rfl HR.out HV.out HL1.out ?_; intro v1 w2 h3
       have h4 : Sts w (rowP 5 1 v1 ([0, 5, A, B, s] ++ d).length (u8s ([0, 5, A, B, s] ++ d)) :: [blkP w.heap.size (.cells (tcV false false 5 0 s (.slice a d.length cap)) 46 (0, 0))]) w2 := by rw [List.length_append]; exact h3
       have KA := hid (cRAppend16 w2 v1 _ (Sts.rdB8 h4 (fun x hx => by
         rcases List.mem_append.1 hx with h | h
         · exact HLT.out x h
         · exact HD.out.2 x h)) (NilOk.own h4.rowOwn) HL2.out)
       have H4 := hid h4
       clear h3 h4)
    | (go_at_call 154; refine KA.out.mono ?_; rintro e w3 ⟨r, rfl, h5⟩; have H5' := hid h5; clear h5))
  go_ret2
  refine ⟨_, rfl, ?_⟩
  have h6 := H5'.out
  rw [HT.out] at h6
  exact h6.of H4.out.below
end
end Go.Proofs.YtnklmadmenkdoaaGreat
namespace Go.Proofs.YtnklmadmenkdoaaGreat
open Go.RowKit Go.Proofs.Num
/-- Bytes that read stand in a block. -/
theorem RdB.at {w : World} {a : Option Addr} {n cap : Nat} {l : List Nat} (h : RdB w (.slice a n cap) l) (h0 : 0 < l.length) : ∃ b off, a = some ⟨b, off, none⟩ ∧ b < w.heap.size ∧ ∀ i (hi : i < l.length), w.cell? ⟨b, off + i, none⟩ = some (.int .u8 (l[i] : Nat)) := by
  obtain ⟨a', c', e, hx⟩ := h.open
  injection e with e1 e2 e3
  subst e1
  obtain ⟨b, off, rfl, hb, _⟩ := hx 0 h0
  refine ⟨b, off, rfl, hb, fun i hi => ?_⟩
  obtain ⟨b', off', e', _, hc⟩ := hx i hi
  simp only [Option.some.injEq, Addr.mk.injEq, and_true] at e'
  obtain ⟨rfl, rfl⟩ := e'
  exact hc
/-- The rest of what reads. -/
theorem RdB.mid {w : World} {b off n cap : Nat} {k l m : List Nat} (h : RdB w (.slice (some ⟨b, off, none⟩) n cap) (k ++ l ++ m)) (c : Nat) (hc : l.length ≤ c ∧ c ≤ maxLen) : RdB w (.slice (some ⟨b, off + k.length, none⟩) l.length c) l := by
  obtain ⟨⟨a', c', e, hcap, hx⟩, h2⟩ := h
  injection e with e1 e2 e3
  refine ⟨⟨some ⟨b, off + k.length, none⟩, c, by rw [u8s_len], by rw [u8s_len]; exact hc, fun j hj => ?_⟩, fun x hx => h2 x (List.mem_append_left _ (List.mem_append_right _ hx))⟩
  rw [u8s_len] at hj
  have hj2 : k.length + j < (u8s (k ++ l ++ m)).length := by rw [u8s_len]; simp; omega
  obtain ⟨b', off', e', hb, hcl⟩ := hx (k.length + j) hj2
  rw [← e1] at e'
  simp only [Option.some.injEq, Addr.mk.injEq, and_true] at e'
  obtain ⟨rfl, rfl⟩ := e'
  refine ⟨b, off + k.length, rfl, hb, ?_⟩
  rw [Nat.add_assoc, hcl]
  congr 1
  simp only [u8s, List.getElem_map]
  rw [List.getElem_append_left (by simp; omega), List.getElem_append_right (by omega)]
  simp
theorem sec_facts (n A B M : Nat) (h : n ≤ 1017) (hA : A = (n + 6) / 256) (hB : B = (n + 6) % 256) (hM : wrap64 ((n : Int) + 6) = (M : Int)) : wrap64 ((A : Int) * 256) = (A : Int) * 256 ∧ wrap64 ((A : Int) * 256 + (B : Int)) = (M : Int) ∧ IntKind.i64.wrap (A : Int) = (A : Int) ∧ IntKind.i64.wrap ((A : Int) * 256) = (A : Int) * 256 ∧ IntKind.i64.wrap (B : Int) = (B : Int) ∧ IntKind.i64.wrap ((A : Int) * 256 + (B : Int)) = (M : Int) ∧ (M : Int).tdiv 1024 = 0 := by
  have hm : M = n + 6 := by unfold wrap64 at hM; omega
  clear hM
  have hab : A * 256 + B = M := by omega
  have w : ∀ k : Nat, k < 5000 → wrap64 (k : Int) = (k : Int) := by intro k hk; unfold wrap64; omega
  have v : ∀ k : Nat, k < 500000 → IntKind.i64.wrap (k : Int) = (k : Int) := by intro k hk; rw [IntKind.wrap_i64]; omega
  refine ⟨?_, ?_, v A (by omega), ?_, v B (by omega), ?_, ?_⟩
  · have := w (A * 256) (by omega)
    rwa [Int.natCast_mul] at this
  · rw [show (A : Int) * 256 + (B : Int) = ((A * 256 + B : Nat) : Int) by omega, hab]
    exact w M (by omega)
  · have := v (A * 256) (by omega)
    rwa [Int.natCast_mul] at this
  · rw [show (A : Int) * 256 + (B : Int) = ((A * 256 + B : Nat) : Int) by omega, hab]
    exact v M (by omega)
  · rw [Int.tdiv_eq_ediv_of_nonneg (by omega)]; omega
theorem share5 {G : Nat → Nat → Option Addr → Nat → World → Prop} {goal : Prop} (S : Nat → Nat → Option Addr → Nat → World → Prop) (main : (∀ g1 g2 a b z, S g1 g2 a b z → G g1 g2 a b z) → goal) (key : ∀ g1 g2 a b z, S g1 g2 a b z → G g1 g2 a b z) : goal := main key
/-- An append to a fresh row. -/
theorem eff_app80 {W w : World} {o : Oper} {a : Act} {D : WP} {K : Act → WP → WP → Prop} {v src : Value} {m : List Nat} {L : List HProp} {X : Prop} (hL : ∀ B ∈ L, Stable B) (hS : Sts W (rowP 5 1 v 0 [] :: L) w)
    (s x : Operand) (ho : o.op = .call { callee := .builtin .append, args := #[s, x], argTypes := #[35, 35] }) (hs : a.eval s = v) (hx : a.eval x = src) (hR : Rd w src (u8s m)) (hne : ∀ c, src = .slice none 0 c → c = 0) (hlen : m.length < 1000000000) (hD : ∀ y v', Sts W (rowP 5 1 v' m.length (u8s m) :: L) y → D y)
    (hk : ∀ ra rc, K (a.put o.dst (.slice ra m.length rc)) D (fun y => Sts W (rowP 5 1 (.slice ra m.length rc) m.length (u8s m) :: L) y)) : effUpon Tryz.prog X o.dst a D K ((execOp a.eval o).run Tryz.prog w) := by
  obtain ⟨v', w', hrun, hS2⟩ := app8_run (l := []) o.type hS hL hR hne (by simpa using hlen)
  simp only [List.length_nil, Nat.zero_add, List.nil_append] at hS2
  obtain ⟨ra, rc, rfl⟩ := own_slice hS2.rowOwn
  have hr : (execOp a.eval o).run Tryz.prog w = .ok (.value (.slice ra m.length rc)) w' := by
    simp [execOp, ho, resolve, invoke, builtin, hs, hx, hrun, Result.andThen]
  exact eff_value D (fun y => Sts W (rowP 5 1 (.slice ra m.length rc) m.length (u8s m) :: L) y) hr hS2 (fun y hy => hD y _ hy) (fun _ h => h) (hk ra rc)
section
variable (s : Nat) (a : Option Addr) (n cap : Nat) (w : World)
set_option pp.deepTerms true in
set_option pp.maxSteps 100000 in
set_option maxRecDepth 100000 in
set_option maxHeartbeats 4000000 in
theorem cR14Decode (d : List Nat) (h3 : s ≤ 255) (h4 : 1 ≤ d.length) (h5 : d.length ≤ 1017) (hn : n = d.length + 7) (hd : RdB w (.slice a n cap) (tcB false false 5 0 s d)) :
    Calls Tryz.prog 14 #[.slice a n cap] w fun e w' => ∃ ra rc, e = .returned (.tuple #[.agg (tcV false false 5 0 s (.slice ra d.length rc)), .int .i64 0]) ∧ New w w' 5 (.slice ra d.length rc) (u8s d) := by
  have I5 := hid (show 0 < n ∧ (1 : Int) < (n : Int) ∧ (2 : Int) < (n : Int) ∧ (3 : Int) < (n : Int) ∧ (4 : Int) < (n : Int) by omega)
  have Z37 := hid (show ((d.length + 6 : Nat) : Int).tdiv 1024 = 0 ∧ IntKind.i64.wrap (s : Int) = (s : Int) ∧ IntKind.i64.wrap ((n : Int) - 2) = ((d.length + 5 : Nat) : Int) ∧ (5 : Int) ≤ ((d.length + 5 : Nat) : Int) ∧ wrap64 ((n : Int) - 2) = ((d.length + 5 : Nat) : Int) from
    ⟨by rw [Int.tdiv_eq_ediv_of_nonneg (by omega)]; omega, by rw [IntKind.wrap_i64]; omega, by rw [IntKind.wrap_i64]; omega, by omega, by unfold wrap64; omega⟩)
  obtain ⟨b, off, rfl, hb, hx⟩ := RdB.at hd (by rw [tcB_len]; omega)
  obtain ⟨A, B, M, hA, hB, f1, f2, e3, e4, f3, e5, e6, hA2, hB2⟩ := len_facts d.length h5
  have HE := hid (And.intro f2 (And.intro e3 (And.intro e4 (And.intro f3 (And.intro e5 e6)))))
  have G12 := hid (sec_facts d.length A B M h5 hA hB f2)
  clear f1 f2 e3 e4 f3 e5 e6
  have hbytes : tcB false false 5 0 s d = [0, 5, A, B, s] ++ d ++ Cmd.sum2 ([0, 5, A, B, s] ++ d) := by subst hA; subst hB; unfold tcB Cmd.crcB; rw [tcH_5 s d.length h3 h5]; rfl
  have c0 : w.cell? ⟨b, off, none⟩ = some (.int .u8 0) := by have := hx 0 (by rw [tcB_len]; omega); simp only [hbytes] at this; exact this
  have c1 : w.cell? ⟨b, off + 1, none⟩ = some (.int .u8 5) := by have := hx 1 (by rw [tcB_len]; omega); simp only [hbytes] at this; exact this
  have c2 : w.cell? ⟨b, off + 2, none⟩ = some (.int .u8 A) := by have := hx 2 (by rw [tcB_len]; omega); simp only [hbytes] at this; exact this
  have c3 : w.cell? ⟨b, off + 3, none⟩ = some (.int .u8 B) := by have := hx 3 (by rw [tcB_len]; omega); simp only [hbytes] at this; exact this
  have c4 : w.cell? ⟨b, off + 4, none⟩ = some (.int .u8 s) := by have := hx 4 (by rw [tcB_len]; omega); simp only [hbytes] at this; exact this
  have CS := hid (fun (y : World) (k : Below w.heap.size w y) => (⟨(k.cell hb).trans c0, (k.cell hb).trans c1, (k.cell hb).trans c2, (k.cell hb).trans c3, (k.cell hb).trans c4⟩ : _ ∧ _ ∧ _ ∧ _ ∧ _))
  have hcap := (Rd.cap hd.1).2
  have HM := hid (show RdB w (.slice (some ⟨b, off + 5, none⟩) d.length (cap - 5)) d from RdB.mid (k := [0, 5, A, B, s]) (hbytes ▸ hd) (cap - 5) (by unfold maxLen at *; omega))
  have KC := hid (fun (y : World) (k : Below w.heap.size w y) => cRCheck16 y (some ⟨b, off, none⟩) cap n (tcH false false 5 0 s d.length ++ d) (by rw [List.length_append, tcH_len]; omega) (hd.below k) (by rw [List.length_append, tcH_len]; omega))
  have HD := hid hd
  have S13 := hid (show (5 : Int) ≤ (d.length : Int) + 5 ∧ (d.length : Int) + 5 ≤ (cap : Int) ∧ (5 : Int) ≤ (cap : Int) ∧ ¬ cap = 5 ∧ ((d.length : Int) + 5).toNat - 5 = d.length by clear hbytes c0 c1 c2 c3 c4; omega)
  have HLD := hid (show d.length < 1000000000 by clear hbytes c0 c1 c2 c3 c4; omega)
  have HS : Hid (Sts w (blkP w.heap.size (.cells zeroTc 46 (0, 0)) :: []) (w.alloc (.cells zeroTc 46))) := hid (Sts.alloc stab0 (Sts.nil w) _)
  have HLB : Hid (∀ B ∈ [blkP w.heap.size (.cells zeroTc 46 (0, 0))], Stable B) := hid (stabC (blkP_stable _ _) stab0)
  have dn8 : decide ((n : Int) < 8) = false := decide_eq_false (by omega)
  have dn9 : decide (1024 < (n : Int)) = false := decide_eq_false (by omega)
  have fn1 : wrap64 (n : Int) = (n : Int) := by unfold wrap64; omega
  have HN := hid hn
  have HAB := hid (And.intro hA (And.intro hB (And.intro hA2 hB2)))
  have H35 := hid (And.intro h3 (And.intro h4 (And.intro h5 hcap)))
  clear hx hbytes c0 c1 c2 c3 c4 hd hb hn hA hB hA2 hB2 h3 h4 h5 hcap
  go_enter Tryz.func14, Tryz.ntmps14
  go_wp2_with (first
    | (go_at_call 58; refine (KC.out _ HS.out.below).mono ?_; rintro e w1 ⟨rfl, hb1⟩; have H1 := hid (HS.out.quiet HLB.out hb1); clear hb1))
  have z1 : IntKind.i64.wrap 0 = 0 := by decide
  have z2 : IntKind.i64.wrap 5 = 5 := by decide
  refine wp_region_ordQ (.pure 0 (.pure 1 (.pure 2 (.pure 3 (.pure 4 (.pure 5 (.pure 6 (.pure 7 (.pure 8 (.pure 9 (.pure 10 .nil))))))))))) (fun y => Sts w [blkP w.heap.size (.cells zeroTc 46 (0, 0))] y) (fun y => Sts w [blkP w.heap.size (.cells zeroTc 46 (0, 0))] y) (by kernel_rfl) (by kernel_rfl) (H1.out.drew HLB.out) (fun y hy => hy) ?_
  iterate 11
    (apply ordq_pure (ho := rfl)
     · go_simp
     · intro x hx; obtain ⟨k0, k1, k2, k3, k4⟩ := CS.out x hx.below; obtain ⟨i0, i1, i2, i3, i4⟩ := I5.out; go_simp; rfl
     apply ordq_norm
     · go_simp; rfl)
  refine ordq_nil fun z hz => ?_
  have HZ := hid hz
  clear hz H1
  go_wp2_with fail
  obtain ⟨g1, g2, g3, g4, g5, g6, g7⟩ := G12.out
  refine wp_region_ordQ (.pure 0 (.pure 1 (.pure 2 (.pure 3 (.pure 4 (.pure 5 (.pure 6 (.pure 7 (.pure 8 (.pure 9 (.pure 10 .nil))))))))))) (fun y => Sts w [blkP w.heap.size (.cells zeroTc 46 (0, 0))] y) (fun y => Sts w [blkP w.heap.size (.cells zeroTc 46 (0, 0))] y) (by kernel_rfl) (by kernel_rfl) (HZ.out.drew HLB.out) (fun y hy => hy) ?_
  iterate 11
    (apply ordq_pure (ho := rfl)
     · go_simp
     · intro x hx; obtain ⟨k0, k1, k2, k3, k4⟩ := CS.out x hx.below; obtain ⟨i0, i1, i2, i3, i4⟩ := I5.out; go_simp; rfl
     apply ordq_norm
     · go_simp; rfl)
  refine ordq_nil fun z2 hz => ?_
  have HZ2 := hid hz
  clear hz HZ
  go_wp2_with fail
  obtain ⟨z3, z4, z5, z6, z7⟩ := Z37.out
  obtain ⟨s1, s2, s3, s4, s5⟩ := S13.out
  apply share5 (fun gp gl ra rc z => Sts w (blkP gp (.cells (tcV false false 5 0 s (.slice ra d.length rc)) 46 (0, 0)) :: rowP 5 1 (.slice ra d.length rc) d.length (u8s d) :: [blkP w.heap.size (.cells zeroTc 46 (0, 0))]) z)
  · intro key
    refine wp_region_ordQ (.pure 0 (.pure 1 (.pure 2 (.pure 3 (.pure 4 (.pure 5 (.pure 6 (.pure 7 (.pure 8 (.pure 9 (.pure 10 (.pure 11 (.pure 12 (.pure 13 (.pure 14 (.pure 15 (.pure 17 (.pure 18 (.pure 19 (.pure 20 (.pure 21 (.eff2 16 24 (.eff2 22 24 (.pure 23 (.eff 24 (.eff 25 .nil))) (.eff 22 (.pure 23 (.eff 25 .nil)))) (.eff 16 (.eff 22 (.pure 23 (.eff 25 .nil)))))))))))))))))))))))))) (fun y => Sts w [blkP w.heap.size (.cells zeroTc 46 (0, 0))] y) (fun y => Sts w [blkP w.heap.size (.cells zeroTc 46 (0, 0))] y) (by kernel_rfl) (by kernel_rfl) (HZ2.out.drew HLB.out) (fun y hy => hy) ?_
    iterate 21
      (apply ordq_pure (ho := rfl)
       · go_simp
       · intro x hx; obtain ⟨k0, k1, k2, k3, k4⟩ := CS.out x hx.below; obtain ⟨i0, i1, i2, i3, i4⟩ := I5.out; go_simp; rfl
       apply ordq_norm
       · go_simp; rfl)
    refine ordq_eff2 ?_ ?_
    · apply ordq_eff (ho := rfl)
      · go_simp
      intro y hy
      refine eff_lit0 HLB.out hy rfl (fun z v hz => hz.tail) ?_
      intro gl
      apply ordq_norm
      · go_simp; rfl
      clear hy y
      refine ordq_eff2 ?_ ?_
      · apply ordq_eff (ho := rfl)
        · go_simp
        intro y hy
        refine eff_app80 HLB.out hy (.tmp 57) (.tmp 62) rfl ?_ ?_ (HM.out.1.below hy.below) (NilOk.some _ _ _) HLD.out (fun z v hz => hz.tail) ?_
        · go_simp
        · go_simp
        intro ra rc
        apply ordq_norm
        · go_simp; rfl
        clear hy y
        apply ordq_pure (ho := rfl)
        · go_simp
        · intro x hx; go_simp; rfl
        apply ordq_norm
        · go_simp; rfl
        apply ordq_eff (ho := rfl)
        · go_simp
        intro y hy
        refine eff_allocTc (stabC (by first | exact blkP_stable _ _ | exact rowP_stable _ _ _ _ _) HLB.out) hy rfl (fun z gp hz => hz.tail.tail) ?_
        intro gp
        apply ordq_norm
        · go_simp; rfl
        clear hy y
        apply ordq_eff (ho := rfl)
        · go_simp
        intro y hy
        refine eff_aggS hy (stabC (rowP_stable _ _ _ _ _) HLB.out) (.tmp 6) (.tmp 64) 46 rfl (tcV false false 5 0 s (.slice ra d.length rc)) ?_ ?_ szTc rfl rfl (fun y => Sts w [blkP w.heap.size (.cells zeroTc 46 (0, 0))] y) (fun z hz => hz.tail.tail) ?_
        · go_simp
        · go_simp; rfl
        apply ordq_norm
        · go_simp; rfl
        clear hy y
        refine ordq_nil fun z hz => ?_
        exact key gp gl ra rc z hz
      · apply ordq_eff (ho := rfl)
        · go_simp
        intro y hy
        refine eff_allocTc (stabC (by first | exact blkP_stable _ _ | exact rowP_stable _ _ _ _ _) HLB.out) hy rfl (fun z gp hz => hz.tail.tail) ?_
        intro gp
        apply ordq_norm
        · go_simp; rfl
        clear hy y
        apply ordq_eff (ho := rfl)
        · go_simp
        intro y hy
        refine eff_app80 (stabC (by first | exact blkP_stable _ _ | exact rowP_stable _ _ _ _ _) HLB.out) hy.swap (.tmp 57) (.tmp 62) rfl ?_ ?_ (HM.out.1.below hy.below) (NilOk.some _ _ _) HLD.out (fun z v hz => hz.tail.tail) ?_
        · go_simp
        · go_simp
        intro ra rc
        apply ordq_norm
        · go_simp; rfl
        clear hy y
        apply ordq_pure (ho := rfl)
        · go_simp
        · intro x hx; go_simp; rfl
        apply ordq_norm
        · go_simp; rfl
        apply ordq_eff (ho := rfl)
        · go_simp
        intro y hy
        refine eff_aggS hy.swap (stabC (rowP_stable _ _ _ _ _) HLB.out) (.tmp 6) (.tmp 64) 46 rfl (tcV false false 5 0 s (.slice ra d.length rc)) ?_ ?_ szTc rfl rfl (fun y => Sts w [blkP w.heap.size (.cells zeroTc 46 (0, 0))] y) (fun z hz => hz.tail.tail) ?_
        · go_simp
        · go_simp; rfl
        apply ordq_norm
        · go_simp; rfl
        clear hy y
        refine ordq_nil fun z hz => ?_
        exact key gp gl ra rc z hz
    · apply ordq_eff (ho := rfl)
      · go_simp
      intro y hy
      refine eff_allocTc HLB.out hy rfl (fun z gp hz => hz.tail) ?_
      intro gp
      apply ordq_norm
      · go_simp; rfl
      clear hy y
      apply ordq_eff (ho := rfl)
      · go_simp
      intro y hy
      refine eff_lit0 (stabC (by first | exact blkP_stable _ _ | exact rowP_stable _ _ _ _ _) HLB.out) hy rfl (fun z v hz => hz.tail.tail) ?_
      intro gl
      apply ordq_norm
      · go_simp; rfl
      clear hy y
      apply ordq_eff (ho := rfl)
      · go_simp
      intro y hy
      refine eff_app80 (stabC (by first | exact blkP_stable _ _ | exact rowP_stable _ _ _ _ _) HLB.out) hy (.tmp 57) (.tmp 62) rfl ?_ ?_ (HM.out.1.below hy.below) (NilOk.some _ _ _) HLD.out (fun z v hz => hz.tail.tail) ?_
      · go_simp
      · go_simp
      intro ra rc
      apply ordq_norm
      · go_simp; rfl
      clear hy y
      apply ordq_pure (ho := rfl)
      · go_simp
      · intro x hx; go_simp; rfl
      apply ordq_norm
      · go_simp; rfl
      apply ordq_eff (ho := rfl)
      · go_simp
      intro y hy
      refine eff_aggS hy.swap (stabC (rowP_stable _ _ _ _ _) HLB.out) (.tmp 6) (.tmp 64) 46 rfl (tcV false false 5 0 s (.slice ra d.length rc)) ?_ ?_ szTc rfl rfl (fun y => Sts w [blkP w.heap.size (.cells zeroTc 46 (0, 0))] y) (fun z hz => hz.tail.tail) ?_
      · go_simp
      · go_simp; rfl
      apply ordq_norm
      · go_simp; rfl
      clear hy y
      refine ordq_nil fun z hz => ?_
      exact key gp gl ra rc z hz
  · intro gp gl ra rc z hz
    have HZ3 := hid hz
    have HLZ := hid (show ∀ B ∈ blkP gp (.cells (tcV false false 5 0 s (.slice ra d.length rc)) 46 (0, 0)) :: rowP 5 1 (.slice ra d.length rc) d.length (u8s d) :: [blkP w.heap.size (.cells zeroTc 46 (0, 0))], Stable B from stabC (blkP_stable _ _) (stabC (rowP_stable _ _ _ _ _) HLB.out))
    have HEN := hid (cR14Encode s ra rc z d H35.out.1 H35.out.2.1 H35.out.2.2.1 (Sts.rdB8 hz.tail HM.out.2) (NilOk.own hz.tail.rowOwn))
    clear hz
    go_wp2_with (first
      | (refine wpList_ldS rfl (.tmp 6) 46 rfl rfl (.agg (tcV false false 5 0 s (.slice ra d.length rc))) (ldTc rfl HZ3.out) ?_)
      | (go_at_call 59; refine HEN.out.mono ?_; rintro e w5 ⟨r, rfl, h5⟩
         have h6 := Sts.new HLZ.out HZ3.out h5
         rw [u8s_len] at h6
         have cv1 := (Sts.rdB8 h6 HD.out.2).str (P := Tryz.prog) 35 9 5 Tryz.underlying35 Tryz.underlying5 Tryz.underlying9
         have cv2 := (HD.out.below h6.below).str (P := Tryz.prog) 35 9 5 Tryz.underlying35 Tryz.underlying5 Tryz.underlying9
         have H6 := hid h6.tail
         clear h5 h6)
      | (refine wpList_ldS rfl (.tmp 6) 46 rfl rfl (.agg (tcV false false 5 0 s (.slice ra d.length rc))) (ldTc rfl H6.out) ?_)
      | (refine wpList_aggS H6.out.third (stabC (blkP_stable _ _) (stabC (rowP_stable _ _ _ _ _) stab0)) rfl (.tmp 2) (.tmp 80) 46 rfl (tcV false false 5 0 s (.slice ra d.length rc)) rfl rfl szTc rfl rfl ?_; intro w9 h9; have HF := hid h9; clear h9))
    refine post_cell2S HF.out Tryz.results14 rfl rfl (ldTc rfl HF.out) (.int .i64 0) rfl ⟨ra, rc, rfl, ?_⟩
    exact New.of_sts HF.out.tail.tail (u8s_len d)
end
end Go.Proofs.YtnklmadmenkdoaaGreat
