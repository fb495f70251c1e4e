/- The specification's packet, decoded. Packets of telemetry and idle packets: their headers; the encoding of any valid packet. bytes.Join of three parts. -/
import Derived.Test.YtnklmadmenkdoaaGreatQSnrC
import Derived.Test.YtnklmadmenkdoaaGreatQScbM
import Derived.Shelf.Strings.Search1
import Derived.Shelf.Bytes.SlIndexSmall
import Derived.Ground.SlbNamesProg
import Derived.Shelf.Bytes.SlCountOne
import Derived.Shelf.Bytes.SlIndexAt
import Derived.Shelf.Bytes.SlSearch0
import Derived.Shelf.Bytes.SlJoin
import Derived.Shelf.Bytes.Small
import Derived.Shelf.Bytes.IndexByte
import Derived.Test.YtnklmadmenkdoaaGreatQSdpH
import Derived.Test.YtnklmadmenkdoaaGreatProg
set_option linter.unusedVariables false
set_option linter.unusedSimpArgs false
namespace Go.Proofs.YtnklmadmenkdoaaGreat
open Go.RowKit Go.Proofs.Num
theorem results_cell_tmp2 {fn : Func} {p u x : Tmp} {ty : TypeId} (h : fn.results = #[.cell p ty, .tmp u, .tmp x]) (tmps : Array Value) (P : Program) (w : World) :
    (results fn tmps).run P w =
      ((asAddr (tmps.getD p undef)).run P w).andThen fun a w₁ => ((loadVar ty a).run P w₁).andThen fun v w₂ => .ok (.tuple #[v, tmps.getD u undef, tmps.getD x undef]) w₂ := by
  simp only [results, h]
  simp [Sem.run_bind, Result.andThen]
set_option maxRecDepth 100000 in
theorem post_cell3S {fn : Func} {R : Ending → World → Prop} {a : Act} {W w : World} {l : List HProp} {b : Nat} {cs : Array Value} {t0 ty : TypeId} {p u y : Tmp} (hS : Sts W (blkP b (.cells cs t0 (0, 0)) :: l) w)
    (hfn : fn.results = #[.cell p ty, .tmp u, .tmp y]) (hp : a.tmps.getD p undef = .pointer (some ⟨b, 0, none⟩)) (hdf : a.defers = []) (hld : (loadVar ty ⟨b, 0, none⟩).run Tryz.prog w = .ok (.agg cs) w)
    (x z : Value) (hx : a.tmps.getD u undef = x) (hz : a.tmps.getD y undef = z) (hR : R (.returned (.tuple #[.agg cs, x, z])) w) : bodyPost Tryz.prog fn R .ret a w := by
  refine bodyPost_ret (v := .tuple #[.agg cs, x, z]) ?_ hdf hR
  rw [results_cell_tmp2 hfn, hp, hx, hz]
  show ((asAddr (.pointer (some ⟨b, 0, none⟩))).run Tryz.prog w).andThen _ = _
  rw [show (asAddr (.pointer (some ⟨b, 0, none⟩))).run Tryz.prog w = .ok ⟨b, 0, none⟩ w by simp [asAddr]]
  show ((loadVar ty ⟨b, 0, none⟩).run Tryz.prog w).andThen _ = _
  rw [hld]
  rfl
set_option maxRecDepth 100000 in
theorem szPk : ∀ w, (Go.sizeOf 50).run Tryz.prog w = .ok 6 w := fun w => by first | rfl | simp [go_sem] | kernel_rfl
end Go.Proofs.YtnklmadmenkdoaaGreat
namespace Tmh
/-- The header of the i-th frame. -/
def hd (i : Nat) : List Nat := [0, 81, i, i, 24, 0]
def tmX (i : Nat) : Nat := (((((((0 * 2 ^ 2 + 0 % 2 ^ 2) * 2 ^ 10 + 5 % 2 ^ 10) * 2 ^ 3 + 0 % 2 ^ 3) * 2 ^ 1 + 1 % 2 ^ 1) * 2 ^ 8 + i % 2 ^ 8) * 2 ^ 8 + i % 2 ^ 8) * 2 ^ 5 + 3 % 2 ^ 5) * 2 ^ 11 + 0 % 2 ^ 11
def chk (i : Nat) : Bool := Bitw.pk 48 (tmX i) == hd i && (Bitr.num (hd i) 2 10 == 5 && Bitr.num (hd i) 12 3 == 0 && Bitr.num (hd i) 16 8 == i && Bitr.num (hd i) 24 8 == i && Bitr.num (hd i) 37 11 == 0)
theorem chk_all : (List.range 16).all chk = true := by decide
theorem chk_at (i : Nat) (h : i < 16) : chk i = true := List.all_eq_true.1 chk_all i (List.mem_range.2 h)
theorem pk_hd (i : Nat) (h : i < 16) : Bitw.pk 48 (tmX i) = hd i := by
  have := chk_at i h
  simp only [chk, Bool.and_eq_true, beq_iff_eq] at this
  exact this.1
theorem num_hd (i : Nat) (h : i < 16) : Bitr.num (hd i) 2 10 = 5 ∧ Bitr.num (hd i) 12 3 = 0 ∧ Bitr.num (hd i) 16 8 = i ∧ Bitr.num (hd i) 24 8 = i ∧ Bitr.num (hd i) 37 11 = 0 := by
  have := chk_at i h
  simp only [chk, Bool.and_eq_true, beq_iff_eq] at this
  obtain ⟨_, ⟨⟨⟨h1, h2⟩, h3⟩, h4⟩, h5⟩ := this
  exact ⟨h1, h2, h3, h4, h5⟩
theorem hd_lt (i : Nat) (h : i < 16) : ∀ x ∈ hd i, x < 256 := by
  intro x hx
  simp only [hd, List.mem_cons, List.mem_nil_iff, or_false] at hx
  omega
end Tmh
namespace Pkt
/-- The header of a telemetry packet. -/
def hdP (apid c n : Nat) : List Nat := [8, apid, (49152 + c) / 256, (49152 + c) % 256, (n - 1) / 256, (n - 1) % 256]
/-- The header of an idle packet. -/
def hdI (n : Nat) : List Nat := [7, 255, 192, 0, (n - 1) / 256, (n - 1) % 256]
theorem pkH_I (n : Nat) : Cmd.pkH false false 2047 3 0 n = hdI n := rfl
/-- A telemetry packet, an idle packet. -/
def tel (apid c : Nat) (d : List Nat) : List Nat := hdP apid c d.length ++ d
def idl (n : Nat) : List Nat := hdI n ++ List.replicate n 0
theorem tel_len (apid c : Nat) (d : List Nat) : (tel apid c d).length = d.length + 6 := by simp [tel, hdP]
theorem idl_len (n : Nat) : (idl n).length = n + 6 := by simp [idl, hdI]
theorem tel_lt (apid c : Nat) (d : List Nat) (h : apid < 256) (hc : c ≤ 16383) (hd : ∀ x ∈ d, x < 256) (hn : d.length ≤ 4090) : ∀ x ∈ tel apid c d, x < 256 := by
  intro x hx
  simp only [tel, hdP, List.mem_append, List.mem_cons, List.not_mem_nil, or_false] at hx
  rcases hx with (rfl | rfl | rfl | rfl | rfl | rfl) | hx
  · omega
  · omega
  · omega
  · omega
  · omega
  · omega
  · exact hd x hx
theorem idl_lt (n : Nat) (hn : n ≤ 4090) : ∀ x ∈ idl n, x < 256 := by
  intro x hx
  simp only [idl, hdI, List.mem_append, List.mem_cons, List.not_mem_nil, or_false, List.mem_replicate] at hx
  omega
end Pkt
namespace Go.Proofs.YtnklmadmenkdoaaGreat
open Go.RowKit Go.Proofs.Num
set_option maxRecDepth 100000 in
set_option maxHeartbeats 2000000 in
theorem cPkEncodeG (b1 b2 : Bool) (apid fg cnt : Nat) (a : Option Addr) (cap : Nat) (d : List Nat) (w : World) (h1 : apid ≤ 2047) (h2 : fg ≤ 3) (h3 : cnt ≤ 16383) (h4 : 1 ≤ d.length) (h5 : d.length ≤ 4090) (hd : Rd w (.slice a d.length cap) (u8s d)) (hv : NilOk (.slice a d.length cap))
    (KV0 : ∀ y : World, Below w.heap.size w y → Calls Tryz.prog 198 #[.agg (pkV b1 b2 apid fg cnt (.slice a d.length cap))] y fun e w' => e = .returned (.bool true) ∧ Below y.heap.size y w') :
    Calls Tryz.prog 116 #[.agg (pkV b1 b2 apid fg cnt (.slice a d.length cap))] w fun e w' => ∃ r, e = .returned (.tuple #[r, .int .i64 0]) ∧ New w w' 5 r (u8s (Cmd.pkB b1 b2 apid fg cnt d)) := by
  have HS : Hid (Sts w (blkP w.heap.size (.cells (pkV b1 b2 apid fg cnt (.slice a d.length cap)) 50 (0, 0)) :: []) (w.alloc (.cells (pkV b1 b2 apid fg cnt (.slice a d.length cap)) 50))) := hid (Sts.alloc stab0 (Sts.nil w) _)
  have HLB : Hid (∀ B ∈ [blkP w.heap.size (.cells (pkV b1 b2 apid fg cnt (.slice a d.length cap)) 50 (0, 0))], Stable B) := hid (stabC (blkP_stable _ _) stab0)
  have KV := hid KV0
  have HD := hid hd
  have HNK := hid hv
  have hF := Cmd.pkF_lt b1 b2 apid (by omega)
  have hS := Cmd.pkS_lt fg cnt h2 h3
  have HE : Hid (∀ F S n1 : Nat, F = Cmd.pkF b1 b2 apid → S = Cmd.pkS fg cnt → n1 = d.length - 1 → [F / 256, F % 256, S / 256, S % 256, n1 / 256, n1 % 256] ++ d = Cmd.pkB b1 b2 apid fg cnt d) := hid (by rintro F S n1 rfl rfl rfl; rfl)
  have f1 := Cmd.fl_lt b1 (show 4096 < 8192 by decide)
  have f2 := Cmd.fl_lt b2 (show 2048 < 8192 by decide)
  have K1 := hid (fun w => cPkFlag w b1 4096)
  have K2 := hid (fun w => cPkFlag w b2 2048)
  have hFe : Cmd.pkF b1 b2 apid = (Cmd.fl b1 4096 ||| Cmd.fl b2 2048) ||| apid := rfl
  have hSe : Cmd.pkS fg cnt = fg * 16384 ||| cnt := rfl
  generalize Cmd.fl b1 4096 = x1 at *
  generalize Cmd.fl b2 2048 = x2 at *
  obtain ⟨x3, hx3⟩ : ∃ x3, x3 = x1 ||| x2 := ⟨_, rfl⟩
  have f3 : x3 < 8192 := by rw [hx3]; exact Nat.or_lt_two_pow (n := 13) f1 f2
  obtain ⟨F, hFF⟩ : ∃ F, F = Cmd.pkF b1 b2 apid := ⟨_, rfl⟩
  obtain ⟨S, hSS⟩ : ∃ S, S = Cmd.pkS fg cnt := ⟨_, rfl⟩
  obtain ⟨n1, hn1⟩ : ∃ n1, n1 = d.length - 1 := ⟨_, rfl⟩
  have HE2 := hid (HE.out F S n1 hFF hSS hn1)
  have g1 : bits .or .i64 (x1 : Int) (x2 : Int) = (x3 : Int) := by rw [i64_or _ _ (by omega) (by omega), hx3]
  have g2 : bits .or .i64 (x3 : Int) (apid : Int) = (F : Int) := by rw [i64_or _ _ (by omega) (by omega), hFF, hFe, hx3]
  obtain ⟨y, hy⟩ : ∃ y, y = fg * 16384 := ⟨_, rfl⟩
  have g3 : wrap64 ((fg : Int) * 16384) = (y : Int) := by unfold wrap64; omega
  have g4 : bits .or .i64 (y : Int) (cnt : Int) = (S : Int) := by rw [i64_or _ _ (by omega) (by omega), hSS, hSe, hy]
  have g5 : wrap64 ((d.length : Int) - 1) = (n1 : Int) := by unfold wrap64; omega
  rw [← hFF] at hF
  rw [← hSS] at hS
  obtain ⟨F0, hF0⟩ : ∃ F0, F0 = F / 256 := ⟨_, rfl⟩
  obtain ⟨F1, hF1⟩ : ∃ F1, F1 = F % 256 := ⟨_, rfl⟩
  obtain ⟨S0, hS0⟩ : ∃ S0, S0 = S / 256 := ⟨_, rfl⟩
  obtain ⟨S1, hS1⟩ : ∃ S1, S1 = S % 256 := ⟨_, rfl⟩
  obtain ⟨N0, hN0⟩ : ∃ N0, N0 = n1 / 256 := ⟨_, rfl⟩
  obtain ⟨N1, hN1⟩ : ∃ N1, N1 = n1 % 256 := ⟨_, rfl⟩
  have k1 : (F : Int) / 256 = (F0 : Int) := by omega
  have k2 : (F : Int) % 256 = (F1 : Int) := by omega
  have k3 : (F0 : Int) % 256 = (F0 : Int) := by omega
  have k4 : (S : Int) / 256 = (S0 : Int) := by omega
  have k5 : (S : Int) % 256 = (S1 : Int) := by omega
  have k6 : (S0 : Int) % 256 = (S0 : Int) := by omega
  have k7 : (n1 : Int) / 256 = (N0 : Int) := by omega
  have k8 : (n1 : Int) % 256 = (N1 : Int) := by omega
  have k9 : (N0 : Int) % 256 = (N0 : Int) := by omega
  have HE3 : Hid ([F0, F1, S0, S1, N0, N1] ++ d = Cmd.pkB b1 b2 apid fg cnt d) := hid (by rw [← HE2.out, hF0, hF1, hS0, hS1, hN0, hN1])
  have H5 := hid h5
  clear KV0 hd hv h1 h2 h3 h4 h5 hF hS HE HE2 f1 f2 f3 hFe hSe hx3 hFF hSS hn1 hy hF0 hF1 hS0 hS1 hN0 hN1
  have HLD := hid (fun (y : World) (h : Sts w (blkP w.heap.size (.cells (pkV b1 b2 apid fg cnt (.slice a d.length cap)) 50 (0, 0)) :: []) y) => ldPk (cs := pkV b1 b2 apid fg cnt (.slice a d.length cap)) rfl h)
  go_enter Tryz.func116, Tryz.ntmps116
  go_wp2_with (first
    | (refine wpList_ldS rfl (.tmp 1) 50 rfl rfl (.agg (pkV b1 b2 apid fg cnt (.slice a d.length cap))) (HLD.out _ HS.out) ?_)
    | (go_at_call 198; refine (KV.out _ HS.out.below).mono ?_; rintro e w1 ⟨rfl, hb1⟩; have H1 := hid (HS.out.quiet HLB.out hb1); clear hb1))
  refine wp_region_ordQ (.pure 0 (.pure 1 (.pure 3 (.pure 4 (.pure 7 (.pure 8 (.pure 2 (.pure 5 (.pure 6 (.pure 9 (.pure 10 .nil))))))))))) (fun y => y.cell? ⟨w.heap.size, 0, none⟩ = some (.bool b1) ∧ y.cell? ⟨w.heap.size, 1, none⟩ = some (.bool b2) ∧ y.cell? ⟨w.heap.size, 2, none⟩ = some (.int .i64 (apid : Int))) (fun y => Sts w [blkP w.heap.size (.cells (pkV b1 b2 apid fg cnt (.slice a d.length cap)) 50 (0, 0))] y) (by kernel_rfl) (by kernel_rfl) (H1.out.drew HLB.out) (fun y hy => ⟨(Sts.boxCell hy 0 _ rfl).1, (Sts.boxCell hy 1 _ rfl).1, (Sts.boxCell hy 2 _ rfl).1⟩) ?_
  iterate 6
    (apply ordq_pure (ho := rfl)
     · go_simp
     · intro x hx; obtain ⟨q0, q1, q2⟩ := hx; go_simp; rfl
     apply ordq_norm
     · go_simp; rfl)
  apply ordq_call (ho := rfl) (f := 199) (args := #[.bool b1, .int .i64 ((4096 : Nat) : Int)]) (v := .int .i64 (x1 : Int)) (h2 := fun x _ => K1.out x)
  · go_simp
  · intro x hx; go_simp
  apply ordq_norm
  · go_simp; rfl
  apply ordq_call (ho := rfl) (f := 199) (args := #[.bool b2, .int .i64 ((2048 : Nat) : Int)]) (v := .int .i64 (x2 : Int)) (h2 := fun x _ => K2.out x)
  · go_simp
  · intro x hx; go_simp
  apply ordq_norm
  · go_simp; rfl
  iterate 3
    (apply ordq_pure (ho := rfl)
     · go_simp
     · intro x hx; go_simp; rfl
     apply ordq_norm
     · go_simp; rfl)
  refine ordq_nil fun z hz => ?_
  have HZ := hid hz
  have c3 : z.cell? ⟨w.heap.size, 3, none⟩ = some (.int .i64 (fg : Int)) := (Sts.boxCell hz 3 _ rfl).1
  have c4 : z.cell? ⟨w.heap.size, 4, none⟩ = some (.int .i64 (cnt : Int)) := (Sts.boxCell hz 4 _ rfl).1
  have c5 : z.cell? ⟨w.heap.size, 5, none⟩ = some (.slice a d.length cap) := (Sts.boxCell hz 5 _ rfl).1
  have h2 := Sts.alloc HLB.out hz (.cells #[.int .u8 (F0 : Int), .int .u8 (F1 : Int), .int .u8 (S0 : Int), .int .u8 (S1 : Int), .int .u8 (N0 : Int), .int .u8 (N1 : Int)] 5)
  have e5 : (z.alloc (.cells #[.int .u8 (F0 : Int), .int .u8 (F1 : Int), .int .u8 (S0 : Int), .int .u8 (S1 : Int), .int .u8 (N0 : Int), .int .u8 (N1 : Int)] 5)).cell? ⟨w.heap.size, 5, none⟩ = some (.slice a d.length cap) := (Sts.boxCell h2.tail 5 _ rfl).1
  have H2 : Hid (Sts w (rowP 5 1 (.slice (some ⟨z.heap.size, 0, none⟩) 6 6) 6 (u8s [F0, F1, S0, S1, N0, N1]) :: [blkP w.heap.size (.cells (pkV b1 b2 apid fg cnt (.slice a d.length cap)) 50 (0, 0))]) (z.alloc (.cells #[.int .u8 (F0 : Int), .int .u8 (F1 : Int), .int .u8 (S0 : Int), .int .u8 (S1 : Int), .int .u8 (N0 : Int), .int .u8 (N1 : Int)] 5))) := hid (h2.weaken (fun F h => blkP.row h (show 6 ≤ 1000000 by decide)))
  have HR := hid (HD.out.below H2.out.below)
  clear hz h2
  go_wp2_with (first
    | (at_builtin; refine wpList_app8 (l := [F0, F1, S0, S1, N0, N1]) rfl (.tmp 47) (.tmp 49) rfl H2.out HLB.out rfl rfl HR.out HNK.out (by have := H5.out; simp; omega) ?_; intro v1 w4 h3; have HN := hid (New.of_sts (h3.swap.tail) (by rw [u8s_len, List.length_append])); clear h3))
  go_ret2
  exact ⟨_, rfl, by rw [← HE3.out]; exact HN.out⟩
end Go.Proofs.YtnklmadmenkdoaaGreat
namespace Go.Proofs.YtnklmadmenkdoaaGreat
open Go.RowKit Go.Proofs.Num
def to8 (l : List Nat) : List UInt8 := l.map UInt8.ofNat
theorem to8_len (l : List Nat) : (to8 l).length = l.length := by simp [to8]
theorem u8_back (x : Nat) (h : x < 256) : (UInt8.ofNat x).toNat = x := by simp; omega
theorem RdB.holds8 {w : World} {v : Value} {l : List Nat} (h : RdB w v l) : Lib.HoldsBytes w v (to8 l) := by
  obtain ⟨a, cap, hv, _, hc⟩ := h.1
  rw [u8s_len] at hv
  refine ⟨a, cap, by rw [to8_len]; exact hv, fun ha => ?_, fun b hb i x hx => ?_⟩
  · rcases Nat.eq_zero_or_pos l.length with h0 | h0
    · rw [List.length_eq_zero_iff.1 h0]; rfl
    · obtain ⟨b, off, hb, _⟩ := hc 0 (by rw [u8s_len]; exact h0)
      rw [ha] at hb; cases hb
  · have hil : i < l.length := by
      have := (List.getElem?_eq_some_iff.1 hx).1
      rwa [to8_len] at this
    obtain ⟨b', off, hb', _, hcell⟩ := hc i (by rw [u8s_len]; exact hil)
    rw [hb] at hb'
    injection hb' with hb'
    subst hb'
    rw [Lib.add_plain2, hcell]
    have hx2 : x = UInt8.ofNat l[i] := by
      have := (List.getElem?_eq_some_iff.1 hx).2
      rw [← this]; simp [to8]
    rw [hx2, u8_back _ (h.2 _ (List.getElem_mem hil))]
    simp [u8s]
theorem RdB.ofFresh8 {B : Nat} {w' : World} {v : Value} {l : List Nat} (h : Lib.FreshBytes B w' v (to8 l)) (hl : ∀ x ∈ l, x < 256) : RdB w' v l ∧ NilOk v := by
  obtain ⟨g, cap, zs, rfl, _, h1, h2, h3, h4, h5, h6, h7⟩ := h
  rw [to8_len] at h1 h5 ⊢
  refine ⟨⟨⟨some ⟨g, 0, none⟩, cap, by rw [u8s_len], ⟨by rw [u8s_len]; exact h1, h2⟩, fun j hj => ?_⟩, hl⟩, NilOk.some _ _ _⟩
  rw [u8s_len] at hj
  have hc := h6 j (by omega)
  refine ⟨g, 0, rfl, World.block_lt_of_cell? w' _ hc, ?_⟩
  rw [Nat.zero_add, hc]
  have hjz : j < zs.length := by omega
  have e := congrArg (fun L => L[j]?) h5
  simp only [Lib.bytesOf, to8, List.getElem?_map] at e
  rw [List.getElem?_take_of_lt hj, List.getElem?_eq_getElem hjz, List.getElem?_eq_getElem hj] at e
  simp only [Option.map_some, Option.some.injEq] at e
  have h8 := h4 zs[j] (List.getElem_mem hjz)
  have e2 := congrArg UInt8.toNat e
  rw [u8_back _ (by omega), u8_back _ (hl _ (List.getElem_mem hj))] at e2
  rw [List.getD_eq_getElem?_getD, List.getElem?_eq_getElem hjz]
  simp only [u8s, List.getElem_map, Option.getD_some]
  congr 2
  omega
theorem cJoin3 (w : World) (b : Nat) (v1 v2 v3 : Value) (l1 l2 l3 : List Nat) (k1 : w.cell? ⟨b, 0, none⟩ = some v1) (k2 : w.cell? ⟨b, 1, none⟩ = some v2) (k3 : w.cell? ⟨b, 2, none⟩ = some v3) (h1 : RdB w v1 l1) (h2 : RdB w v2 l2) (h3 : RdB w v3 l3) (hn : l1.length + l2.length + l3.length < 1000000) :
    Calls Tryz.prog 168 #[.slice (some ⟨b, 0, none⟩) 3 3, .slice none 0 0] w fun e w' => ∃ r, e = .returned r ∧ RdB w' r (l1 ++ l2 ++ l3) ∧ NilOk r ∧ Below w.heap.size w w' := by
  have hP : Lib.PartsAt w ⟨b, 0, none⟩ [v1, v2, v3] [to8 l1, to8 l2, to8 l3] := by
    refine ⟨rfl, fun i v hv => ?_, fun i v l hv hl => ?_⟩
    · rw [Lib.add_plain2, Nat.zero_add]
      match i, hv with
      | 0, hv => injection hv with hv; rw [← hv]; exact k1
      | 1, hv => injection hv with hv; rw [← hv]; exact k2
      | 2, hv => injection hv with hv; rw [← hv]; exact k3
    · match i, hv, hl with
      | 0, hv, hl => injection hv with hv; injection hl with hl; rw [← hv, ← hl]; exact RdB.holds8 h1
      | 1, hv, hl => injection hv with hv; injection hl with hl; rw [← hv, ← hl]; exact RdB.holds8 h2
      | 2, hv, hl => injection hv with hv; injection hl with hl; rw [← hv, ← hl]; exact RdB.holds8 h3
  have hj : Lib.join [to8 l1, to8 l2, to8 l3] [] = to8 (l1 ++ l2 ++ l3) := by
    rw [Lib.join_cons]
    simp [Lib.joinTail, to8]
  refine (Tryz.bytes_Join_many b 0 3 3 [v1, v2, v3] [to8 l1, to8 l2, to8 l3] (.slice none 0 0) [] w rfl (by decide) hP (by decide) ⟨none, 0, rfl, fun _ => rfl, fun a h => by cases h⟩ (by decide) (by simp [Lib.lens, to8_len]; omega)).mono ?_
  rintro e w' ⟨r, rfl, hf, hb⟩
  rw [hj] at hf
  obtain ⟨q1, q2⟩ := RdB.ofFresh8 hf (fun x hx => by
    simp only [List.mem_append] at hx
    rcases hx with (hx | hx) | hx
    · exact h1.2 x hx
    · exact h2.2 x hx
    · exact h3.2 x hx)
  exact ⟨r, rfl, q1, q2, hb⟩
end Go.Proofs.YtnklmadmenkdoaaGreat
