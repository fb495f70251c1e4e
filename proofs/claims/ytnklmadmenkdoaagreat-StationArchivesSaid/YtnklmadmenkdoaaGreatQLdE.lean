/- The sending end takes a control word that acknowledges nothing. The sending end takes a control word of zeros. Reports of the downlink: what they are, the bytes that carry them, what they do. Reports as arguments: opened, and what they are if they can be sent. -/
import Derived.Test.YtnklmadmenkdoaaGreatQScbM
import Derived.Test.YtnklmadmenkdoaaGreatQNevA
import Derived.Test.YtnklmadmenkdoaaGreatQStr
import Derived.Test.YtnklmadmenkdoaaGreatQStdN
import Derived.Test.YtnklmadmenkdoaaGreatQSdpU
import Derived.Test.YtnklmadmenkdoaaGreatQArcS
set_option linter.unusedVariables false
set_option linter.unusedSimpArgs false
namespace Go.Proofs.YtnklmadmenkdoaaGreat
open Go.RowKit Go.Proofs.Num
section
variable {W w : World} {l : List HProp} (hl : ∀ B ∈ l, Stable B) (fq : Nat) (us : List (List Nat)) (fl fr now tm : Nat)
include hl
set_option maxRecDepth 100000 in
set_option maxHeartbeats 1000000 in
theorem cFopRelease0 {ua : Option Addr} {un uc : Nat} (hs : Sts W (blkP fq (.cells (fopA fl fr now tm (.slice ua un uc)) 216 (0, 0)) :: l) w) (h1 : fl ≤ 1000) (h2 : fr ≤ 1000) :
    Calls Tryz.prog 133 #[.pointer (some ⟨fq, 0, none⟩), .int .i64 0] w fun e w' => e = .returned (.tuple #[]) ∧ Sts W (blkP fq (.cells (fopA fl fr now tm (.slice ua un uc)) 216 (0, 0)) :: l) w' := by
  have c1 : w.cell? ⟨fq, 1, none⟩ = some (.slice ua un uc) := (Sts.boxCell hs 1 _ rfl).1
  have m1 : wrap64 (fr : Int) = (fr : Int) := by unfold wrap64; omega
  have m2 : wrap64 (fl : Int) = (fl : Int) := by unfold wrap64; omega
  have m3 : max (0 : Int) (fl : Int) = (fl : Int) := by omega
  have m4 : (0 : Int) ≤ (fl : Int) := by omega
  have m5 : decide ((0 : Int) ≤ (fl : Int)) = true := decide_eq_true m4
  have HS := hid hs
  have HL := hid hl
  clear hs hl h1 h2
  rcases Nat.eq_zero_or_pos fl with h0 | h0
  · subst h0
    clear m2 m3 m4 m5
    go_enter Tryz.func133, Tryz.ntmps133
    go_wp2_with (first
      | (refine wpList_cellS HS.out HL.out rfl (.tmp 12) (.tmp 10) 43 rfl 1 (.slice ua un uc) rfl rfl szSlS (show 1 < 15 by decide) rfl ?_
         intro w2 h2
         have h2' : Sts W (blkP fq (.cells (fopA 0 fr now tm (.slice ua un uc)) 216 (0, 0)) :: l) w2 := h2
         have H2 := hid h2'
         have c2 : w2.cell? ⟨fq, 2, none⟩ = some (.int .i64 0) := (Sts.boxCell h2' 2 _ rfl).1
         clear h2 h2')
      | (refine wpList_cellS H2.out HL.out rfl (.tmp 20) (.tmp 18) 3 rfl 2 (.int .i64 0) rfl rfl szInt (show 2 < 15 by decide) rfl ?_; intro w3 h2
         have h2' : Sts W (blkP fq (.cells (fopA 0 fr now tm (.slice ua un uc)) 216 (0, 0)) :: l) w3 := h2
         have H3 := hid h2'
         have c3 : w3.cell? ⟨fq, 4, none⟩ = some (.int .i64 (fr : Int)) := (Sts.boxCell h2' 4 _ rfl).1
         clear h2 h2')
      | (refine wpList_cellS H3.out HL.out rfl (.tmp 28) (.tmp 26) 3 rfl 4 (.int .i64 (fr : Int)) rfl (congrArg (Value.int .i64) m1) szInt (show 4 < 15 by decide) rfl ?_; intro w4 h2
         have h2' : Sts W (blkP fq (.cells (fopA 0 fr now tm (.slice ua un uc)) 216 (0, 0)) :: l) w4 := h2
         have H4 := hid h2'
         have c4 : w4.cell? ⟨fq, 3, none⟩ = some (.int .i64 0) := (Sts.boxCell h2' 3 _ rfl).1
         clear h2 h2')
      | (refine wpList_cellS H4.out HL.out rfl (.tmp 38) (.tmp 36) 3 rfl 3 (.int .i64 0) rfl rfl szInt (show 3 < 15 by decide) rfl ?_
         intro w5 h2
         have H5 := hid (show Sts W (blkP fq (.cells (fopA 0 fr now tm (.slice ua un uc)) 216 (0, 0)) :: l) w5 from h2)
         clear h2))
    go_end0
    exact ⟨rfl, H5.out⟩
  · have h0' : (0 : Int) < (fl : Int) := by omega
    go_enter Tryz.func133, Tryz.ntmps133
    go_wp2_with (first
      | (refine wpList_cellS HS.out HL.out rfl (.tmp 12) (.tmp 10) 43 rfl 1 (.slice ua un uc) rfl rfl szSlS (show 1 < 15 by decide) rfl ?_
         intro w2 h2
         have h2' : Sts W (blkP fq (.cells (fopA fl fr now tm (.slice ua un uc)) 216 (0, 0)) :: l) w2 := h2
         have H2 := hid h2'
         have c2 : w2.cell? ⟨fq, 2, none⟩ = some (.int .i64 0) := (Sts.boxCell h2' 2 _ rfl).1
         clear h2 h2')
      | (refine wpList_cellS H2.out HL.out rfl (.tmp 20) (.tmp 18) 3 rfl 2 (.int .i64 0) rfl rfl szInt (show 2 < 15 by decide) rfl ?_; intro w3 h2
         have h2' : Sts W (blkP fq (.cells (fopA fl fr now tm (.slice ua un uc)) 216 (0, 0)) :: l) w3 := h2
         have H3 := hid h2'
         have c3 : w3.cell? ⟨fq, 4, none⟩ = some (.int .i64 (fr : Int)) := (Sts.boxCell h2' 4 _ rfl).1
         clear h2 h2')
      | (refine wpList_cellS H3.out HL.out rfl (.tmp 28) (.tmp 26) 3 rfl 4 (.int .i64 (fr : Int)) rfl (congrArg (Value.int .i64) m1) szInt (show 4 < 15 by decide) rfl ?_; intro w4 h2
         have h2' : Sts W (blkP fq (.cells (fopA fl fr now tm (.slice ua un uc)) 216 (0, 0)) :: l) w4 := h2
         have H4 := hid h2'
         have c4 : w4.cell? ⟨fq, 3, none⟩ = some (.int .i64 (fl : Int)) := (Sts.boxCell h2' 3 _ rfl).1
         clear h2 h2')
      | (refine wpList_cellS H4.out HL.out rfl (.tmp 38) (.tmp 36) 3 rfl 3 (.int .i64 (fl : Int)) rfl rfl szInt (show 3 < 15 by decide) rfl ?_
         intro w5 h2
         have H5 := hid (show Sts W (blkP fq (.cells (fopA fl fr now tm (.slice ua un uc)) 216 (0, 0)) :: l) w5 from h2)
         clear h2))
    go_end0
    exact ⟨rfl, H5.out⟩
end
end Go.Proofs.YtnklmadmenkdoaaGreat
namespace Go.Proofs.YtnklmadmenkdoaaGreat
open Go.RowKit Go.Proofs.Num
section
variable {W w : World} {l : List HProp} (hl : ∀ B ∈ l, Stable B) (fq : Nat) (us : List (List Nat)) (fl fr now tm : Nat)
include hl
set_option maxRecDepth 100000 in
set_option maxHeartbeats 2000000 in
theorem cFopReport (hs : Sts W (fopP fq us fl fr now tm :: l) w) (n : Nat) (hn : now ≤ n) (hn2 : n ≤ 1000000) (h1 : fl ≤ 1000) (h2 : fr ≤ 1000) :
    Calls Tryz.prog 49 #[.pointer (some ⟨fq, 0, none⟩), .agg clcZ, .int .i64 (n : Int)] w fun e w' => e = .returned (.int .i64 0) ∧ Sts W (fopP fq us fl fr n tm :: l) w' := by
  obtain ⟨uv, vs, h0⟩ := Sts.openF hs
  obtain ⟨ua, uc, rfl⟩ := own_slice h0.tail.rowOwn
  have HL := hid hl
  have hB := (Sts.alloc (stabC (blkP_stable _ _) (stabC (rowP_stable _ _ _ _ _) (stabC (rowsP_stable _ _ _) hl))) h0 (.cells #[.int .i64 0, .bool false, .bool false, .bool false, .int .i64 0, .int .i64 0] 72)).swap
  have HB : Hid (Sts W (blkP fq (.cells (fopA fl fr now tm (.slice ua us.length uc)) 216 (0, 0)) :: blkP w.heap.size (.cells #[.int .i64 0, .bool false, .bool false, .bool false, .int .i64 0, .int .i64 0] 72 (0, 0)) :: rowP 35 1 (.slice ua us.length uc) us.length vs :: rowsP 5 vs us :: l) (w.alloc (.cells #[.int .i64 0, .bool false, .bool false, .bool false, .int .i64 0, .int .i64 0] 72))) := hid hB
  have HUS := hid (cFopUsable fq 16 (.slice ua us.length uc) 0 (fl : Int) (fr : Int) 5 0 20 10 1 (now : Int) (tm : Int) 0 hB)
  have HCK := hid (cFopClock (stabC (blkP_stable _ _) (stabC (rowP_stable _ _ _ _ _) (stabC (rowsP_stable _ _ _) HL.out))) fq fl fr now tm hB n hn hn2)
  have d1 : decide ((fr : Int) < 0) = false := decide_eq_false (by omega)
  have HRL := hid (show ∀ y : World, Sts W (blkP fq (.cells (fopA fl fr n tm (.slice ua us.length uc)) 216 (0, 0)) :: blkP w.heap.size (.cells #[.int .i64 0, .bool false, .bool false, .bool false, .int .i64 0, .int .i64 0] 72 (0, 0)) :: rowP 35 1 (.slice ua us.length uc) us.length vs :: rowsP 5 vs us :: l) y → Calls Tryz.prog 133 #[.pointer (some ⟨fq, 0, none⟩), .int .i64 0] y fun e w' => e = .returned (.tuple #[]) ∧ Sts W (blkP fq (.cells (fopA fl fr n tm (.slice ua us.length uc)) 216 (0, 0)) :: blkP w.heap.size (.cells #[.int .i64 0, .bool false, .bool false, .bool false, .int .i64 0, .int .i64 0] 72 (0, 0)) :: rowP 35 1 (.slice ua us.length uc) us.length vs :: rowsP 5 vs us :: l) w' from fun y hy => cFopRelease0 (stabC (blkP_stable _ _) (stabC (rowP_stable _ _ _ _ _) (stabC (rowsP_stable _ _ _) HL.out))) fq fl fr n tm hy h1 h2)
  clear hs hl h0 hB hn hn2 h1 h2
  unfold clcZ
  go_enter Tryz.func49, Tryz.ntmps49
  go_wp2_with fail
  refine HUS.out.mono ?_
  rintro e w1 ⟨rfl, rfl⟩
  go_wp2_with fail
  refine HCK.out.mono ?_
  rintro e w2 ⟨rfl, h2⟩
  have H2 := hid h2
  clear h2 HB HUS HCK
  go_wp2_with fail
  refine wp_region_ordQ (.pure 0 (.eff 1 (.pure 2 (.pure 3 (.pure 4 (.pure 5 (.pure 6 (.pure 7 (.pure 8 (.pure 9 (.pure 10 (.pure 11 .nil)))))))))))) (fun y => (y.cell? ⟨w.heap.size, 0, none⟩ = some (.int .i64 0) ∧ y.cell? ⟨w.heap.size, 1, none⟩ = some (.bool false) ∧ y.cell? ⟨w.heap.size, 2, none⟩ = some (.bool false) ∧ y.cell? ⟨w.heap.size, 3, none⟩ = some (.bool false) ∧ y.cell? ⟨w.heap.size, 4, none⟩ = some (.int .i64 0) ∧ y.cell? ⟨w.heap.size, 5, none⟩ = some (.int .i64 0)) ∧ y.cell? ⟨fq, 7, none⟩ = some (.int .i64 0) ∧ y.cell? ⟨fq, 2, none⟩ = some (.int .i64 0)) (fun y => Sts W (blkP fq (.cells (fopA fl fr n tm (.slice ua us.length uc)) 216 (0, 0)) :: blkP w.heap.size (.cells #[.int .i64 0, .bool false, .bool false, .bool false, .int .i64 0, .int .i64 0] 72 (0, 0)) :: rowP 35 1 (.slice ua us.length uc) us.length vs :: rowsP 5 vs us :: l) y) (by kernel_rfl) (by kernel_rfl) (H2.out.drew (stabC (blkP_stable _ _) (stabC (blkP_stable _ _) (stabC (rowP_stable _ _ _ _ _) (stabC (rowsP_stable _ _ _) HL.out))))) (fun y hy => ⟨⟨(Sts.boxCell hy.tail 0 _ rfl).1, (Sts.boxCell hy.tail 1 _ rfl).1, (Sts.boxCell hy.tail 2 _ rfl).1, (Sts.boxCell hy.tail 3 _ rfl).1, (Sts.boxCell hy.tail 4 _ rfl).1, (Sts.boxCell hy.tail 5 _ rfl).1⟩, (Sts.boxCell hy 7 _ rfl).1, (Sts.boxCell hy 2 _ rfl).1⟩) ?_
  iterate 1
    (apply ordq_pure (ho := rfl)
     · go_simp
     · intro x hx; obtain ⟨⟨k0, k1, k2, k3, k4, k5⟩, k7, ka⟩ := hx; go_simp; rfl
     apply ordq_norm
     · go_simp; rfl)
  apply ordq_eff (ho := rfl)
  · go_simp
  intro y hy
  refine eff_call (f := 131) (by go_simp) (show Calls Tryz.prog 131 #[.agg #[.int .i64 0, .bool false, .bool false, .bool false, .int .i64 0, .int .i64 0]] y _ from cClcwValid y) ?_
  rintro e w3 ⟨rfl, h3⟩
  have h4 := hy.quiet (stabC (blkP_stable _ _) (stabC (blkP_stable _ _) (stabC (rowP_stable _ _ _ _ _) (stabC (rowsP_stable _ _ _) HL.out)))) h3
  clear h3
  refine ⟨_, rfl, (fun y => (y.cell? ⟨w.heap.size, 0, none⟩ = some (.int .i64 0) ∧ y.cell? ⟨w.heap.size, 1, none⟩ = some (.bool false) ∧ y.cell? ⟨w.heap.size, 2, none⟩ = some (.bool false) ∧ y.cell? ⟨w.heap.size, 3, none⟩ = some (.bool false) ∧ y.cell? ⟨w.heap.size, 4, none⟩ = some (.int .i64 0) ∧ y.cell? ⟨w.heap.size, 5, none⟩ = some (.int .i64 0)) ∧ y.cell? ⟨fq, 7, none⟩ = some (.int .i64 0) ∧ y.cell? ⟨fq, 2, none⟩ = some (.int .i64 0)), (fun y => Sts W (blkP fq (.cells (fopA fl fr n tm (.slice ua us.length uc)) 216 (0, 0)) :: blkP w.heap.size (.cells #[.int .i64 0, .bool false, .bool false, .bool false, .int .i64 0, .int .i64 0] 72 (0, 0)) :: rowP 35 1 (.slice ua us.length uc) us.length vs :: rowsP 5 vs us :: l) y), h4, (fun y hy => ⟨⟨(Sts.boxCell hy.tail 0 _ rfl).1, (Sts.boxCell hy.tail 1 _ rfl).1, (Sts.boxCell hy.tail 2 _ rfl).1, (Sts.boxCell hy.tail 3 _ rfl).1, (Sts.boxCell hy.tail 4 _ rfl).1, (Sts.boxCell hy.tail 5 _ rfl).1⟩, (Sts.boxCell hy 7 _ rfl).1, (Sts.boxCell hy 2 _ rfl).1⟩), (fun _ h => h), ?_⟩
  clear h4 hy y 
  apply ordq_norm
  · go_simp; rfl
  iterate 10
    (apply ordq_pure (ho := rfl)
     · go_simp
     · intro x hx; obtain ⟨⟨k0, k1, k2, k3, k4, k5⟩, k7, ka⟩ := hx; go_simp; rfl
     apply ordq_norm
     · go_simp; rfl)
  refine ordq_nil fun z hz => ?_
  have H3 := hid hz
  clear hz H2
  have q1 : z.cell? ⟨w.heap.size, 1, none⟩ = some (.bool false) := (Sts.boxCell H3.out.tail 1 _ rfl).1
  go_wp2_with fail
  refine wp_region_ordQ (.pure 0 (.pure 1 (.pure 2 (.pure 3 (.pure 4 (.pure 5 (.pure 6 (.pure 7 (.pure 8 (.pure 9 .nil)))))))))) (fun y => (y.cell? ⟨w.heap.size, 0, none⟩ = some (.int .i64 0) ∧ y.cell? ⟨w.heap.size, 1, none⟩ = some (.bool false) ∧ y.cell? ⟨w.heap.size, 2, none⟩ = some (.bool false) ∧ y.cell? ⟨w.heap.size, 3, none⟩ = some (.bool false) ∧ y.cell? ⟨w.heap.size, 4, none⟩ = some (.int .i64 0) ∧ y.cell? ⟨w.heap.size, 5, none⟩ = some (.int .i64 0)) ∧ y.cell? ⟨fq, 7, none⟩ = some (.int .i64 0) ∧ y.cell? ⟨fq, 2, none⟩ = some (.int .i64 0)) (fun y => Sts W (blkP fq (.cells (fopA fl fr n tm (.slice ua us.length uc)) 216 (0, 0)) :: blkP w.heap.size (.cells #[.int .i64 0, .bool false, .bool false, .bool false, .int .i64 0, .int .i64 0] 72 (0, 0)) :: rowP 35 1 (.slice ua us.length uc) us.length vs :: rowsP 5 vs us :: l) y) (by kernel_rfl) (by kernel_rfl) (H3.out.drew (stabC (blkP_stable _ _) (stabC (blkP_stable _ _) (stabC (rowP_stable _ _ _ _ _) (stabC (rowsP_stable _ _ _) HL.out))))) (fun y hy => ⟨⟨(Sts.boxCell hy.tail 0 _ rfl).1, (Sts.boxCell hy.tail 1 _ rfl).1, (Sts.boxCell hy.tail 2 _ rfl).1, (Sts.boxCell hy.tail 3 _ rfl).1, (Sts.boxCell hy.tail 4 _ rfl).1, (Sts.boxCell hy.tail 5 _ rfl).1⟩, (Sts.boxCell hy 7 _ rfl).1, (Sts.boxCell hy 2 _ rfl).1⟩) ?_
  iterate 8
    (apply ordq_pure (ho := rfl)
     · go_simp
     · intro x hx; obtain ⟨⟨k0, k1, k2, k3, k4, k5⟩, k7, ka⟩ := hx; go_simp; rfl
     apply ordq_norm
     · go_simp; rfl)
  apply ordq_call (ho := rfl) (f := 132) (args := #[.int .i64 ((0 : Nat) : Int), .int .i64 ((0 : Nat) : Int), .int .i64 8]) (v := .int .i64 0) (h2 := fun x _ => cSerDist8 x 0 0 (by decide) (by decide))
  · go_simp
  · intro x hx; go_simp
  apply ordq_norm
  · go_simp; rfl
  iterate 1
    (apply ordq_pure (ho := rfl)
     · go_simp
     · intro x hx; go_simp; rfl
     apply ordq_norm
     · go_simp; rfl)
  refine ordq_nil fun z hz => ?_
  have H4 := hid hz
  clear hz H3
  have c4 : z.cell? ⟨fq, 4, none⟩ = some (.int .i64 (fr : Int)) := (Sts.boxCell H4.out 4 _ rfl).1
  go_wp2_with fail
  refine (HRL.out _ H4.out).mono ?_
  rintro e w5 ⟨rfl, h5⟩
  have q3 : w5.cell? ⟨w.heap.size, 3, none⟩ = some (.bool false) := (Sts.boxCell h5.tail 3 _ rfl).1
  have q2 : w5.cell? ⟨w.heap.size, 2, none⟩ = some (.bool false) := (Sts.boxCell h5.tail 2 _ rfl).1
  have q6 : w5.cell? ⟨fq, 10, none⟩ = some (.int .i64 1) := (Sts.boxCell h5 10 _ rfl).1
  have H5 := hid h5
  clear h5 H4 c4
  go_wp2_with (refine wpList_cellS H5.out (stabC (blkP_stable _ _) (stabC (rowP_stable _ _ _ _ _) (stabC (rowsP_stable _ _ _) HL.out))) rfl (.tmp 87) (.const (.int .i64 1)) 3 rfl 10 (.int .i64 1) rfl rfl szInt (show 10 < 15 by decide) rfl ?_; intro w6 h6
               have h6' : Sts W (blkP fq (.cells (fopA fl fr n tm (.slice ua us.length uc)) 216 (0, 0)) :: blkP w.heap.size (.cells #[.int .i64 0, .bool false, .bool false, .bool false, .int .i64 0, .int .i64 0] 72 (0, 0)) :: rowP 35 1 (.slice ua us.length uc) us.length vs :: rowsP 5 vs us :: l) w6 := h6
               have q2' : w6.cell? ⟨w.heap.size, 2, none⟩ = some (.bool false) := (Sts.boxCell h6'.tail 2 _ rfl).1
               have H6 := hid h6'
               clear h6 h6')
  go_ret
  refine ⟨rfl, ?_⟩
  refine Sts.closeF (uv := .slice ua us.length uc) (vs := vs) ?_
  exact H6.out.swap.tail
end
end Go.Proofs.YtnklmadmenkdoaaGreat
namespace Dn
open Go.Proofs.YtnklmadmenkdoaaGreat
/-- A report: application process, count, time, payload; of process 1 the payload is the acknowledgement s n st co. -/
structure Rep where
  a : Nat
  c : Nat
  t : Nat
  d : List Nat
  s : Nat
  n : Nat
  st : Nat
  co : Nat
structure Rep.ok (r : Rep) : Prop where
  ha : r.a = 1 ∨ r.a = 2 ∨ r.a = 3 ∨ r.a = 5
  hc : r.c ≤ 16383
  ht : r.t < 1099511627776
  hd1 : 1 ≤ r.d.length
  hd2 : r.d.length ≤ 100
  h8 : ∀ x ∈ r.d, x < 256
  hk : r.a = 1 → r.d = ackB r.s r.n r.st r.co ∧ Ver.ok (r.s : Int) (r.n : Int) (r.st : Int) (r.co : Int) = true
def Rep.pay (r : Rep) : List Nat := tcC r.t ++ r.d
def Rep.m (r : Rep) : Nat := 226 - r.d.length
def Rep.dat (r : Rep) : List Nat := Pkt.tel r.a r.c r.pay ++ Pkt.idl r.m
def Rep.frm (i : Nat) (r : Rep) : List Nat := tmB i r.dat
def Rep.up (i : Nat) (r : Rep) : List Nat := Scr.mark ++ Scr.mix (r.frm i) (r.frm i).length
def Rep.tk (r : Rep) (ts : List (Int × Int)) : List (Int × Int) := if r.a = 1 then Trk.take ts (r.s : Int) (r.n : Int) (r.st : Int) (r.co : Int) else ts
def Rep.arc (r : Rep) (A : Arc.Arch) : Arc.Arch := Arc.add A r.a r.c r.t r.d
theorem Rep.pay_len (r : Rep) : r.pay.length = 6 + r.d.length := by simp [Rep.pay, tcC, tcR]; omega
theorem Rep.pay_lt {r : Rep} (h : r.ok) : ∀ x ∈ r.pay, x < 256 := by
  intro x hx
  rcases List.mem_append.1 hx with hx | hx
  · rcases List.mem_cons.1 hx with rfl | hx
    · decide
    · exact tcR_lt r.t x hx
  · exact h.h8 x hx
theorem Rep.a_lt {r : Rep} (h : r.ok) : r.a < 256 := by rcases h.ha with e | e | e | e <;> omega
theorem Rep.dat_len {r : Rep} (h : r.ok) : r.dat.length = 244 := by
  have := h.hd2
  simp only [Rep.dat, List.length_append, Pkt.tel_len, Pkt.idl_len, Rep.pay_len, Rep.m]
  omega
theorem Rep.tk_len (r : Rep) (ts : List (Int × Int)) : (r.tk ts).length = ts.length := by
  unfold Rep.tk; split
  · exact Trk.take_len _ _ _ _ _
  · rfl
theorem Rep.arc_ok {r : Rep} (h : r.ok) {N : Nat} {A : Arc.Arch} (hA : Arc.ok N A) : Arc.ok (N + 1) (r.arc A) :=
  Arc.add_ok hA _ _ _ _ (by have := Rep.a_lt h; omega) (by have := h.hc; omega) h.ht (by have := h.hd2; omega) h.h8
theorem idl_lt (n : Nat) (h : n ≤ 60000) : ∀ x ∈ Pkt.idl n, x < 256 := by
  intro x hx
  rcases List.mem_append.1 hx with hx | hx
  · simp only [Pkt.hdI, List.mem_cons, List.not_mem_nil, or_false] at hx
    rcases hx with rfl | rfl | rfl | rfl | rfl | rfl <;> omega
  · rw [List.eq_of_mem_replicate hx]; decide
theorem Rep.dat_lt {r : Rep} (h : r.ok) : ∀ x ∈ r.dat, x < 256 := by
  intro x hx
  rcases List.mem_append.1 hx with hx | hx
  · exact Pkt.tel_lt r.a r.c r.pay (Rep.a_lt h) h.hc (Rep.pay_lt h) (by rw [Rep.pay_len]; have := h.hd2; omega) x hx
  · exact idl_lt _ (by unfold Rep.m; omega) x hx
/-- What a list of reports does to the tracker and to the archive. -/
def tkAll (l : List Rep) (ts : List (Int × Int)) : List (Int × Int) := l.foldl (fun ts r => r.tk ts) ts
def arcAll (l : List Rep) (A : Arc.Arch) : Arc.Arch := l.foldl (fun A r => r.arc A) A
theorem tkAll_len : ∀ (l : List Rep) (ts : List (Int × Int)), (tkAll l ts).length = ts.length
  | [], ts => rfl
  | r :: l, ts => by show (tkAll l (r.tk ts)).length = _; rw [tkAll_len, Rep.tk_len]
end Dn
namespace Go.Proofs.YtnklmadmenkdoaaGreat
open Go.RowKit Go.Proofs.Num Go.ChangeShapes
/-- A report as an argument. -/
structure RepA where
  a : Int
  c : Int
  t : Int
  s : Int
  n : Int
  st : Int
  co : Int
  da : Option Addr
  dc : Nat
  d : List Nat
def RepE (w : World) (cs : List Value) (o : RepA) : Prop :=
  cs = [.int .i64 o.a, .int .i64 o.c, .int .i64 o.t, .int .i64 o.s, .int .i64 o.n, .int .i64 o.st, .int .i64 o.co, .slice o.da o.d.length o.dc] ∧ RdB w (.slice o.da o.d.length o.dc) o.d ∧ (o.da = none → o.dc = 0)
abbrev RepsAt (w : World) (v : Value) (S : List RepA) : Prop := SliceOf w 8 RepE v S
section
variable {H : Type} {enc : TypeId × Value → H} {w : World} {base : Nat} {spare : Nat → Bool} {held : Bool}
set_option maxRecDepth 100000 in
set_option maxHeartbeats 2000000 in
theorem open_reps {v : Value} {d : DataW H} {ps : List MemPlace} {r : Reach} {b0 : Nat} (hval : Value.okWide Tryz.prog w r b0 58 v) (h : DataW.Trod enc Tryz.prog w base spare held 58 v d ps) : ∃ S, RepsAt w v S := by
  obtain ⟨va, vl, vc, rfl⟩ := WideShapes.okWide_slice Tryz.underlying58 hval
  obtain ⟨fu, h⟩ := h
  obtain ⟨v', hv, S, hS⟩ := open_sliceC (E := RepE) (size := 8) Tryz.underlying58 (by kernel_rfl) (by decide) (by
    intro n cs x h hl
    match cs, hl with
    | [u0, u1, u2, u3, u4, u5, u6, u7], _ =>
      obtain ⟨xs, m, _, _, _, hlen, hf⟩ := DataW.trod_struct Tryz.underlying63 h
      match xs, hlen with
      | [x0, x1, x2, x3, x4], _ =>
        have g0 : DataW.trod enc Tryz.prog w base spare held m 3 (([u0, u1, u2, u3, u4, u5, u6, u7].drop 0).take (Tryz.prog.cellsOf 3)) = some x0 := hf 0 _ rfl
        have g1 : DataW.trod enc Tryz.prog w base spare held m 3 (([u0, u1, u2, u3, u4, u5, u6, u7].drop 1).take (Tryz.prog.cellsOf 3)) = some x1 := hf 1 _ rfl
        have g2 : DataW.trod enc Tryz.prog w base spare held m 3 (([u0, u1, u2, u3, u4, u5, u6, u7].drop 2).take (Tryz.prog.cellsOf 3)) = some x2 := hf 2 _ rfl
        have g3 : DataW.trod enc Tryz.prog w base spare held m 61 (([u0, u1, u2, u3, u4, u5, u6, u7].drop 3).take (Tryz.prog.cellsOf 61)) = some x3 := hf 3 _ rfl
        have g4 : DataW.trod enc Tryz.prog w base spare held m 35 (([u0, u1, u2, u3, u4, u5, u6, u7].drop 7).take (Tryz.prog.cellsOf 35)) = some x4 := hf 4 _ rfl
        rw [show Tryz.prog.cellsOf 3 = 1 by kernel_rfl] at g0 g1 g2
        rw [show Tryz.prog.cellsOf 35 = 1 by kernel_rfl] at g4
        rw [show Tryz.prog.cellsOf 61 = 4 by kernel_rfl] at g3
        obtain ⟨n0, e0, _, w0⟩ := DataW.trod_int Tryz.underlying3 g0
        obtain ⟨n1, e1, _, w1⟩ := DataW.trod_int Tryz.underlying3 g1
        obtain ⟨n2, e2, _, w2⟩ := DataW.trod_int Tryz.underlying3 g2
        obtain ⟨v4, e4, ys4, hy4, hz4⟩ := open_rowC Tryz.underlying35 Tryz.underlying5 (by kernel_rfl) g4
        have g3' : DataW.trod enc Tryz.prog w base spare held m 61 [u3, u4, u5, u6] = some x3 := g3
        have hnl := open_nilok Tryz.underlying35 g4
        obtain ⟨ys, m2, _, _, _, hlen2, hf2⟩ := DataW.trod_struct Tryz.underlying61 g3'
        match ys, hlen2 with
        | [y0, y1, y2, y3], _ =>
          have k0 : DataW.trod enc Tryz.prog w base spare held m2 3 (([u3, u4, u5, u6].drop 0).take (Tryz.prog.cellsOf 3)) = some y0 := hf2 0 _ rfl
          have k1 : DataW.trod enc Tryz.prog w base spare held m2 3 (([u3, u4, u5, u6].drop 1).take (Tryz.prog.cellsOf 3)) = some y1 := hf2 1 _ rfl
          have k2 : DataW.trod enc Tryz.prog w base spare held m2 3 (([u3, u4, u5, u6].drop 2).take (Tryz.prog.cellsOf 3)) = some y2 := hf2 2 _ rfl
          have k3 : DataW.trod enc Tryz.prog w base spare held m2 25 (([u3, u4, u5, u6].drop 3).take (Tryz.prog.cellsOf 25)) = some y3 := hf2 3 _ rfl
          rw [show Tryz.prog.cellsOf 3 = 1 by kernel_rfl] at k0 k1 k2
          rw [show Tryz.prog.cellsOf 25 = 1 by kernel_rfl] at k3
          obtain ⟨m0, f0, _, _⟩ := DataW.trod_int Tryz.underlying3 k0
          obtain ⟨m1, f1, _, _⟩ := DataW.trod_int Tryz.underlying3 k1
          obtain ⟨m2', f2, _, _⟩ := DataW.trod_int Tryz.underlying3 k2
          obtain ⟨m3, f3, _, _⟩ := DataW.trod_int Tryz.underlying25 k3
          obtain ⟨l4, k4, hl4⟩ := nats_of (k := .u8) (fun x hx => wf8 (hz4 x hx))
          rw [k4] at hy4
          obtain ⟨a4, c4, hv4⟩ := hy4.eq
          have hnl2 := hnl a4 _ c4 (by rw [e4, hv4])
          simp at e0 e1 e2 e4 f0 f1 f2 f3
          subst hv4
          refine ⟨⟨n0, n1, n2, m0, m1, m2', m3, a4, c4, l4⟩, ?_, ⟨by simpa [u8s] using hy4, hl4⟩, hnl2⟩
          rw [e0, e1, e2, e4, f0, f1, f2, f3, List.length_map]) h
  simp only [Value.cells, List.cons.injEq, and_true] at hv
  exact ⟨S, by rw [hv]; exact hS⟩
end
/-- It can be sent. -/
structure RepA.ok (x : RepA) : Prop where
  ha : x.a = 1 ∨ x.a = 2 ∨ x.a = 3 ∨ x.a = 5
  hc : 0 ≤ x.c ∧ x.c ≤ 16383
  ht : 0 ≤ x.t ∧ x.t < 1099511627776
  hd : 1 ≤ x.d.length ∧ x.d.length ≤ 100
  hk : x.a = 1 → Ver.ok x.s x.n x.st x.co = true
/-- What it is on its way. -/
def RepA.rep (x : RepA) : Dn.Rep := ⟨x.a.toNat, x.c.toNat, x.t.toNat, if x.a = 1 then ackB x.s.toNat x.n.toNat x.st.toNat x.co.toNat else x.d, x.s.toNat, x.n.toNat, x.st.toNat, x.co.toNat⟩
theorem ackB_lt {s n st co : Nat} (h1 : s ≤ 15) (h2 : n ≤ 65535) (h3 : st ≤ 5) (h4 : co ≤ 17) : ∀ x ∈ ackB s n st co, x < 256 := by
  intro x hx
  simp only [ackB, List.mem_cons, List.not_mem_nil, or_false] at hx
  omega
theorem RepA.rep_ok {x : RepA} (h : x.ok) (h8 : ∀ y ∈ x.d, y < 256) : x.rep.ok := by
  have hk := h.hk
  have ha := h.ha
  have hc := h.hc
  have ht := h.ht
  have hd := h.hd
  by_cases h1 : x.a = 1
  · have hok := (Ver.ok_iff _ _ _ _).1 (hk h1)
    have e : x.rep.d = ackB x.s.toNat x.n.toNat x.st.toNat x.co.toNat := by unfold RepA.rep; simp only [h1, if_true]
    refine ⟨?_, ?_, ?_, by rw [e]; show 1 ≤ 5; decide, by rw [e]; show 5 ≤ 100; decide, by rw [e]; exact ackB_lt (by omega) (by omega) (by omega) (by omega), fun _ => ⟨e, ?_⟩⟩
    · left; show x.a.toNat = 1; omega
    · show x.c.toNat ≤ 16383; omega
    · show x.t.toNat < 1099511627776; omega
    · show Ver.ok (x.s.toNat : Int) (x.n.toNat : Int) (x.st.toNat : Int) (x.co.toNat : Int) = true
      rw [Int.toNat_of_nonneg hok.1.1, Int.toNat_of_nonneg hok.2.1.1, Int.toNat_of_nonneg (by omega), Int.toNat_of_nonneg hok.2.2.2.1]
      exact hk h1
  · have e : x.rep.d = x.d := by unfold RepA.rep; simp only [h1, if_false]
    refine ⟨?_, ?_, ?_, by rw [e]; exact hd.1, by rw [e]; exact hd.2, by rw [e]; exact h8, fun h2 => ?_⟩
    · show x.a.toNat = 1 ∨ x.a.toNat = 2 ∨ x.a.toNat = 3 ∨ x.a.toNat = 5; omega
    · show x.c.toNat ≤ 16383; omega
    · show x.t.toNat < 1099511627776; omega
    · have h3 : x.a.toNat = 1 := h2
      omega
end Go.Proofs.YtnklmadmenkdoaaGreat
