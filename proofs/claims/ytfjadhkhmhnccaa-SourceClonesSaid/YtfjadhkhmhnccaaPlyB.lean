/- A call on both sending ends. -/
import Derived.Test.YtfjadhkhmhnccaaPlyA
set_option linter.unusedVariables false
set_option linter.unusedSimpArgs false
namespace Fil
def Src.stepV (s : Src) (t : Stp) : Src :=
  if t.kind.tmod 6 = 2 then (s.takeV t.p t.now).1 else if t.kind.tmod 6 = 3 then (s.suspV t.now).1 else if t.kind.tmod 6 = 4 then (s.resV t.now).1 else if t.kind.tmod 6 = 5 then s.canV.1 else (s.nextV t.now).1
theorem Reg.stepV {s : Src} (h : Reg s) (t : Stp) : Reg (s.stepV t) := by
  unfold Src.stepV
  split
  · exact h.takeV _ _
  split
  · exact h.suspV _
  split
  · exact h.resV _
  split
  · exact h.canV
  · exact h.nextV _
theorem reqGo_data' (l : List Rng.R) : ∀ s : Src, (s.reqGo l).data = s.data := by
  induction l with
  | nil => intro s; rfl
  | cons g l ih =>
    intro s
    show ((s.req1 g).reqGo l).data = _
    rw [ih]
    unfold Src.req1
    split <;> rfl
theorem goV_data (s : Src) : s.goV.1.data = s.data := by
  unfold Src.goV
  split
  · rfl
  split
  · rfl
  split
  · rfl
  split
  · rfl
  split
  · rfl
  split
  · rfl
  split
  · unfold Src.fwdV
    split
    · rfl
    · split
      · rfl
      · unfold Src.eofV; split <;> rfl
  · unfold Src.repV
    split
    · rfl
    · split <;> rfl
theorem recV_data (s : Src) (p : Pdu) : (s.recV p).1.data = s.data := by
  unfold Src.recV
  split
  · rfl
  split
  · rfl
  split
  · unfold Src.ackV
    split
    · rfl
    · split <;> rfl
  split
  · unfold Src.reqV
    split
    · rfl
    split
    · rfl
    · exact reqGo_data' _ _
  · unfold Src.endV
    split
    · rfl
    · split <;> rfl
theorem stepV_data (s : Src) (t : Stp) : (s.stepV t).data = s.data := by
  unfold Src.stepV
  split
  · exact (recV_data _ _).trans (pass_data _ _)
  split
  · unfold Src.suspV; split <;> exact pass_data _ _
  split
  · unfold Src.resV; split <;> exact pass_data _ _
  split
  · unfold Src.canV; split <;> rfl
  · exact (goV_data _).trans (pass_data _ _)
theorem updata (u : U) (s : Src) (pa : Option Go.Addr) (pc : Nat) : (u.pdu s pa pc).data = u.data s ∧ (u.pdu s pa pc).gaps = [] := by cases u <;> exact ⟨rfl, rfl⟩
theorem upalt (u : U) (s : Src) (pa pa' : Option Go.Addr) (pc pc' : Nat) : ∃ a2 c2, u.pdu s pa' pc' = { u.pdu s pa pc with da := a2, dc := c2 } ∧ ((a2 = pa' ∧ c2 = pc') ∨ (u.data s = [] ∧ a2 = none ∧ c2 = 0)) ∧ (((u.pdu s pa pc).da = pa ∧ (u.pdu s pa pc).dc = pc) ∨ (u.data s = [] ∧ (u.pdu s pa pc).da = none ∧ (u.pdu s pa pc).dc = 0)) := by
  cases u with
  | piece f t => exact ⟨pa', pc', rfl, Or.inl ⟨rfl, rfl⟩, Or.inl ⟨rfl, rfl⟩⟩
  | non => exact ⟨none, 0, rfl, Or.inr ⟨rfl, rfl, rfl⟩, Or.inr ⟨rfl, rfl, rfl⟩⟩
  | ack => exact ⟨none, 0, rfl, Or.inr ⟨rfl, rfl, rfl⟩, Or.inr ⟨rfl, rfl, rfl⟩⟩
  | head => exact ⟨none, 0, rfl, Or.inr ⟨rfl, rfl, rfl⟩, Or.inr ⟨rfl, rfl, rfl⟩⟩
  | eof c => exact ⟨none, 0, rfl, Or.inr ⟨rfl, rfl, rfl⟩, Or.inr ⟨rfl, rfl, rfl⟩⟩
end Fil
namespace Go.Proofs.Ytfjadhkhmhnccaa
open Go.RowKit Go.Proofs.Num
def stpC (t : Fil.Stp) : Array Value := #[.int .u8 t.kind, .int .i64 t.p.kind, .int .i64 t.p.src, .int .i64 t.p.num, .int .i64 t.p.cls, .string t.p.name, .int .i64 t.p.size, .int .i64 t.p.off, .slice t.p.da t.p.data.length t.p.dc, .int .u32 (t.p.sum : Nat), .int .i64 t.p.code, .slice t.p.ga t.p.gaps.length t.p.gc, .int .i64 t.now]
theorem rdB_unit {w : World} {a a' : Option Addr} {c c' : Nat} {d d' : List Nat} (he : d' = d) (h : (a' = a ∧ c' = c) ∨ (d = [] ∧ a' = none ∧ c' = 0)) (hr : Rd w (.slice a d.length c) (u8s d)) (hb : ∀ x ∈ d, x < 256) : RdB w (.slice a' d'.length c') d' := by
  subst he
  refine ⟨?_, hb⟩
  rcases h with ⟨rfl, rfl⟩ | ⟨rfl, rfl, rfl⟩
  · exact hr
  · exact Rd.of_own (Sts.rowOwn (Sts.rowNil 5 (Sts.nil w))) rfl
section
variable {W w : World} {l : List HProp} (hl : ∀ B ∈ l, Stable B) (zh : Value × List Rng.R) (q bx : Nat) (s : Fil.Src) (da : Option Addr) (dc : Nat) (hs : Sts W (srcP q s :: refP zh bx s (.slice da s.data.length dc) :: l) w) (hG : Fil.Reg s) (hd : RdB W (.slice da s.data.length dc) s.data) (hzr : ∀ A y, Sts W (A :: l) y → RdR y zh.1 zh.2) (t : Fil.Stp)
include hl hs hG
set_option maxRecDepth 100000 in
set_option maxHeartbeats 4000000 in
theorem cStepTake (hzr : ∀ A y, Sts W (A :: l) y → RdR y zh.1 zh.2) (hpr : PduR W t.p) (hname : t.p.name.size ≤ 1000000) (hdata : t.p.data.length < 1000000000) (hgl : t.p.gaps.length < 1000) (hk : t.kind.tmod 6 = 2) : Calls Try.prog 27 #[.pointer (some ⟨q, 0, none⟩), .pointer (some ⟨bx, 0, none⟩), .agg (stpC t)] w fun e w' => e = .returned (.bool true) ∧ Sts W (srcP q (s.takeV t.p t.now).1 :: refP zh bx (s.takeV t.p t.now).1 (.slice da s.data.length dc) :: l) w' := by
  unfold stpC
  have hz : Sts W (blkP w.heap.size (.cells #[.int .u8 t.kind, .int .i64 t.p.kind, .int .i64 t.p.src, .int .i64 t.p.num, .int .i64 t.p.cls, .string t.p.name, .int .i64 t.p.size, .int .i64 t.p.off, .slice t.p.da t.p.data.length t.p.dc, .int .u32 (t.p.sum : Nat), .int .i64 t.p.code, .slice t.p.ga t.p.gaps.length t.p.gc, .int .i64 t.now] 62 (0, 0)) :: srcP q s :: refP zh bx s (.slice da s.data.length dc) :: l) (w.alloc (.cells #[.int .u8 t.kind, .int .i64 t.p.kind, .int .i64 t.p.src, .int .i64 t.p.num, .int .i64 t.p.cls, .string t.p.name, .int .i64 t.p.size, .int .i64 t.p.off, .slice t.p.da t.p.data.length t.p.dc, .int .u32 (t.p.sum : Nat), .int .i64 t.p.code, .slice t.p.ga t.p.gaps.length t.p.gc, .int .i64 t.now] 62)) := hs.alloc (stabC (srcP_stable _ _) (stabC (refP_stable _ _ _ _) hl)) _
  have HS := hid hz
  have HL := hid hl
  have HG := hid hG
  clear hs hz hl hG
  go_enter Try.func27, Try.ntmps27
  go_wp2_with fail
  refine wp_region_ord (.pure 0 (.pure 1 (.pure 2 (.pure 3 (.pure 4 (.pure 6 (.pure 7 (.pure 8 (.pure 9 (.pure 10 (.eff 5 (.eff 11 (.pure 12 (.pure 13 .nil)))))))))))))) (fun y => ∀ j x, (stpC t)[j]? = some x → y.cell? ⟨w.heap.size, j, none⟩ = some x) (fun y => Sts W (blkP w.heap.size (.cells #[.int .u8 t.kind, .int .i64 t.p.kind, .int .i64 t.p.src, .int .i64 t.p.num, .int .i64 t.p.cls, .string t.p.name, .int .i64 t.p.size, .int .i64 t.p.off, .slice t.p.da t.p.data.length t.p.dc, .int .u32 (t.p.sum : Nat), .int .i64 t.p.code, .slice t.p.ga t.p.gaps.length t.p.gc, .int .i64 t.now] 62 (0, 0)) :: srcP q s :: refP zh bx s (.slice da s.data.length dc) :: l) y) (by kernel_rfl) (by kernel_rfl) (HS.out.drew (stabC (blkP_stable _ _) (stabC (srcP_stable _ _) (stabC (refP_stable _ _ _ _) HL.out)))) (fun y hy j x hx => (Sts.boxCell hy j x hx).1) ?_
  iterate 10
    (apply ord_pure (ho := rfl)
     · go_simp
     · intro x hx; have q0 : x.cell? ⟨w.heap.size, 0, none⟩ = some (.int .u8 t.kind) := hx 0 _ rfl; have q1 : x.cell? ⟨w.heap.size, 1, none⟩ = some (.int .i64 t.p.kind) := hx 1 _ rfl; have q2 : x.cell? ⟨w.heap.size, 2, none⟩ = some (.int .i64 t.p.src) := hx 2 _ rfl; have q3 : x.cell? ⟨w.heap.size, 3, none⟩ = some (.int .i64 t.p.num) := hx 3 _ rfl; have q4 : x.cell? ⟨w.heap.size, 4, none⟩ = some (.int .i64 t.p.cls) := hx 4 _ rfl; have q5 : x.cell? ⟨w.heap.size, 5, none⟩ = some (.string t.p.name) := hx 5 _ rfl; have q6 : x.cell? ⟨w.heap.size, 6, none⟩ = some (.int .i64 t.p.size) := hx 6 _ rfl; have q7 : x.cell? ⟨w.heap.size, 7, none⟩ = some (.int .i64 t.p.off) := hx 7 _ rfl; have q8 : x.cell? ⟨w.heap.size, 8, none⟩ = some (.slice t.p.da t.p.data.length t.p.dc) := hx 8 _ rfl; have q9 : x.cell? ⟨w.heap.size, 9, none⟩ = some (.int .u32 (t.p.sum : Nat)) := hx 9 _ rfl; have q10 : x.cell? ⟨w.heap.size, 10, none⟩ = some (.int .i64 t.p.code) := hx 10 _ rfl; have q11 : x.cell? ⟨w.heap.size, 11, none⟩ = some (.slice t.p.ga t.p.gaps.length t.p.gc) := hx 11 _ rfl; have q12 : x.cell? ⟨w.heap.size, 12, none⟩ = some (.int .i64 t.now) := hx 12 _ rfl; go_simp; rfl
     apply ord_norm
     · go_simp; rfl)
  apply ord_eff (ho := rfl)
  · go_simp
  intro y hy
  refine eff_call (f := 25) (by go_simp; try rfl) (cTake (stabC (refP_stable _ _ _ _) (stabC (blkP_stable _ _) HL.out)) q s hy.third' HG.out.good t.p t.now hname hdata hgl (fun A y hy => hpr.g.below (Sts.below hy))) ?_
  rintro e w2 ⟨rfl, hw⟩
  refine ⟨_, rfl, (fun y => ∀ j x, (stpC t)[j]? = some x → y.cell? ⟨w.heap.size, j, none⟩ = some x), (fun y => Sts W (srcP q (s.takeV t.p t.now).1 :: refP zh bx s (.slice da s.data.length dc) :: blkP w.heap.size (.cells #[.int .u8 t.kind, .int .i64 t.p.kind, .int .i64 t.p.src, .int .i64 t.p.num, .int .i64 t.p.cls, .string t.p.name, .int .i64 t.p.size, .int .i64 t.p.off, .slice t.p.da t.p.data.length t.p.dc, .int .u32 (t.p.sum : Nat), .int .i64 t.p.code, .slice t.p.ga t.p.gaps.length t.p.gc, .int .i64 t.now] 62 (0, 0)) :: l) y), hw, (fun y hy j x hx => (Sts.boxCell hy.tail.tail j x hx).1), (fun _ h => h), ?_⟩
  clear hw hy y
  apply ord_norm
  · go_simp; rfl
  apply ord_eff (ho := rfl)
  · go_simp
  intro y hy
  refine eff_call (f := 72) (by go_simp; try rfl) (cRTake (stabC (srcP_stable _ _) (stabC (blkP_stable _ _) HL.out)) zh bx s da dc hy.swap HG.out (fun A y hy => hzr _ y hy.tail.tail) t.p t.now hname hdata hgl (fun A y hy => hpr.g.below (Sts.below hy))) ?_
  rintro e w3 ⟨rfl, hw⟩
  refine ⟨_, rfl, (fun y => ∀ j x, (stpC t)[j]? = some x → y.cell? ⟨w.heap.size, j, none⟩ = some x), (fun y => Sts W (srcP q (s.takeV t.p t.now).1 :: refP zh bx (s.takeV t.p t.now).1 (.slice da s.data.length dc) :: blkP w.heap.size (.cells #[.int .u8 t.kind, .int .i64 t.p.kind, .int .i64 t.p.src, .int .i64 t.p.num, .int .i64 t.p.cls, .string t.p.name, .int .i64 t.p.size, .int .i64 t.p.off, .slice t.p.da t.p.data.length t.p.dc, .int .u32 (t.p.sum : Nat), .int .i64 t.p.code, .slice t.p.ga t.p.gaps.length t.p.gc, .int .i64 t.now] 62 (0, 0)) :: l) y), hw.swap, (fun y hy j x hx => (Sts.boxCell hy.tail.tail j x hx).1), (fun _ h => h), ?_⟩
  clear hw hy y
  apply ord_norm
  · go_simp; rfl
  iterate 2
    (apply ord_pure (ho := rfl)
     · go_simp
     · intro x hx; have q0 : x.cell? ⟨w.heap.size, 0, none⟩ = some (.int .u8 t.kind) := hx 0 _ rfl; have q1 : x.cell? ⟨w.heap.size, 1, none⟩ = some (.int .i64 t.p.kind) := hx 1 _ rfl; have q2 : x.cell? ⟨w.heap.size, 2, none⟩ = some (.int .i64 t.p.src) := hx 2 _ rfl; have q3 : x.cell? ⟨w.heap.size, 3, none⟩ = some (.int .i64 t.p.num) := hx 3 _ rfl; have q4 : x.cell? ⟨w.heap.size, 4, none⟩ = some (.int .i64 t.p.cls) := hx 4 _ rfl; have q5 : x.cell? ⟨w.heap.size, 5, none⟩ = some (.string t.p.name) := hx 5 _ rfl; have q6 : x.cell? ⟨w.heap.size, 6, none⟩ = some (.int .i64 t.p.size) := hx 6 _ rfl; have q7 : x.cell? ⟨w.heap.size, 7, none⟩ = some (.int .i64 t.p.off) := hx 7 _ rfl; have q8 : x.cell? ⟨w.heap.size, 8, none⟩ = some (.slice t.p.da t.p.data.length t.p.dc) := hx 8 _ rfl; have q9 : x.cell? ⟨w.heap.size, 9, none⟩ = some (.int .u32 (t.p.sum : Nat)) := hx 9 _ rfl; have q10 : x.cell? ⟨w.heap.size, 10, none⟩ = some (.int .i64 t.p.code) := hx 10 _ rfl; have q11 : x.cell? ⟨w.heap.size, 11, none⟩ = some (.slice t.p.ga t.p.gaps.length t.p.gc) := hx 11 _ rfl; have q12 : x.cell? ⟨w.heap.size, 12, none⟩ = some (.int .i64 t.now) := hx 12 _ rfl; go_simp; rfl
     apply ord_norm
     · go_simp; rfl)
  refine ord_nil fun z hz => ?_
  have HZ := hid hz
  clear hz HS
  go_wp2_with fail
  go_ret
  exact ⟨rfl, HZ.out.third.tail⟩
set_option maxRecDepth 100000 in
set_option maxHeartbeats 4000000 in
theorem cStepSusp  (hk : t.kind.tmod 6 = 3) : Calls Try.prog 27 #[.pointer (some ⟨q, 0, none⟩), .pointer (some ⟨bx, 0, none⟩), .agg (stpC t)] w fun e w' => e = .returned (.bool true) ∧ Sts W (srcP q (s.suspV t.now).1 :: refP zh bx (s.suspV t.now).1 (.slice da s.data.length dc) :: l) w' := by
  unfold stpC
  have hz : Sts W (blkP w.heap.size (.cells #[.int .u8 t.kind, .int .i64 t.p.kind, .int .i64 t.p.src, .int .i64 t.p.num, .int .i64 t.p.cls, .string t.p.name, .int .i64 t.p.size, .int .i64 t.p.off, .slice t.p.da t.p.data.length t.p.dc, .int .u32 (t.p.sum : Nat), .int .i64 t.p.code, .slice t.p.ga t.p.gaps.length t.p.gc, .int .i64 t.now] 62 (0, 0)) :: srcP q s :: refP zh bx s (.slice da s.data.length dc) :: l) (w.alloc (.cells #[.int .u8 t.kind, .int .i64 t.p.kind, .int .i64 t.p.src, .int .i64 t.p.num, .int .i64 t.p.cls, .string t.p.name, .int .i64 t.p.size, .int .i64 t.p.off, .slice t.p.da t.p.data.length t.p.dc, .int .u32 (t.p.sum : Nat), .int .i64 t.p.code, .slice t.p.ga t.p.gaps.length t.p.gc, .int .i64 t.now] 62)) := hs.alloc (stabC (srcP_stable _ _) (stabC (refP_stable _ _ _ _) hl)) _
  have HS := hid hz
  have HL := hid hl
  have HG := hid hG
  clear hs hz hl hG
  go_enter Try.func27, Try.ntmps27
  go_wp2_with fail
  refine wp_region_ord (.pure 0 (.pure 1 (.pure 2 (.pure 4 (.pure 5 (.pure 6 (.eff 3 (.eff 7 (.pure 8 (.pure 9 .nil)))))))))) (fun y => ∀ j x, (stpC t)[j]? = some x → y.cell? ⟨w.heap.size, j, none⟩ = some x) (fun y => Sts W (blkP w.heap.size (.cells #[.int .u8 t.kind, .int .i64 t.p.kind, .int .i64 t.p.src, .int .i64 t.p.num, .int .i64 t.p.cls, .string t.p.name, .int .i64 t.p.size, .int .i64 t.p.off, .slice t.p.da t.p.data.length t.p.dc, .int .u32 (t.p.sum : Nat), .int .i64 t.p.code, .slice t.p.ga t.p.gaps.length t.p.gc, .int .i64 t.now] 62 (0, 0)) :: srcP q s :: refP zh bx s (.slice da s.data.length dc) :: l) y) (by kernel_rfl) (by kernel_rfl) (HS.out.drew (stabC (blkP_stable _ _) (stabC (srcP_stable _ _) (stabC (refP_stable _ _ _ _) HL.out)))) (fun y hy j x hx => (Sts.boxCell hy j x hx).1) ?_
  iterate 6
    (apply ord_pure (ho := rfl)
     · go_simp
     · intro x hx; have q0 : x.cell? ⟨w.heap.size, 0, none⟩ = some (.int .u8 t.kind) := hx 0 _ rfl; have q1 : x.cell? ⟨w.heap.size, 1, none⟩ = some (.int .i64 t.p.kind) := hx 1 _ rfl; have q2 : x.cell? ⟨w.heap.size, 2, none⟩ = some (.int .i64 t.p.src) := hx 2 _ rfl; have q3 : x.cell? ⟨w.heap.size, 3, none⟩ = some (.int .i64 t.p.num) := hx 3 _ rfl; have q4 : x.cell? ⟨w.heap.size, 4, none⟩ = some (.int .i64 t.p.cls) := hx 4 _ rfl; have q5 : x.cell? ⟨w.heap.size, 5, none⟩ = some (.string t.p.name) := hx 5 _ rfl; have q6 : x.cell? ⟨w.heap.size, 6, none⟩ = some (.int .i64 t.p.size) := hx 6 _ rfl; have q7 : x.cell? ⟨w.heap.size, 7, none⟩ = some (.int .i64 t.p.off) := hx 7 _ rfl; have q8 : x.cell? ⟨w.heap.size, 8, none⟩ = some (.slice t.p.da t.p.data.length t.p.dc) := hx 8 _ rfl; have q9 : x.cell? ⟨w.heap.size, 9, none⟩ = some (.int .u32 (t.p.sum : Nat)) := hx 9 _ rfl; have q10 : x.cell? ⟨w.heap.size, 10, none⟩ = some (.int .i64 t.p.code) := hx 10 _ rfl; have q11 : x.cell? ⟨w.heap.size, 11, none⟩ = some (.slice t.p.ga t.p.gaps.length t.p.gc) := hx 11 _ rfl; have q12 : x.cell? ⟨w.heap.size, 12, none⟩ = some (.int .i64 t.now) := hx 12 _ rfl; go_simp; rfl
     apply ord_norm
     · go_simp; rfl)
  apply ord_eff (ho := rfl)
  · go_simp
  intro y hy
  refine eff_call (f := 28) (by go_simp; try rfl) (cSuspend (stabC (refP_stable _ _ _ _) (stabC (blkP_stable _ _) HL.out)) q s hy.third' t.now) ?_
  rintro e w2 ⟨rfl, hw⟩
  refine ⟨_, rfl, (fun y => ∀ j x, (stpC t)[j]? = some x → y.cell? ⟨w.heap.size, j, none⟩ = some x), (fun y => Sts W (srcP q (s.suspV t.now).1 :: refP zh bx s (.slice da s.data.length dc) :: blkP w.heap.size (.cells #[.int .u8 t.kind, .int .i64 t.p.kind, .int .i64 t.p.src, .int .i64 t.p.num, .int .i64 t.p.cls, .string t.p.name, .int .i64 t.p.size, .int .i64 t.p.off, .slice t.p.da t.p.data.length t.p.dc, .int .u32 (t.p.sum : Nat), .int .i64 t.p.code, .slice t.p.ga t.p.gaps.length t.p.gc, .int .i64 t.now] 62 (0, 0)) :: l) y), hw, (fun y hy j x hx => (Sts.boxCell hy.tail.tail j x hx).1), (fun _ h => h), ?_⟩
  clear hw hy y
  apply ord_norm
  · go_simp; rfl
  apply ord_eff (ho := rfl)
  · go_simp
  intro y hy
  refine eff_call (f := 73) (by go_simp; try rfl) (cRSuspend (stabC (srcP_stable _ _) (stabC (blkP_stable _ _) HL.out)) zh bx s (.slice da s.data.length dc) hy.swap HG.out.ph t.now) ?_
  rintro e w3 ⟨rfl, hw⟩
  refine ⟨_, rfl, (fun y => ∀ j x, (stpC t)[j]? = some x → y.cell? ⟨w.heap.size, j, none⟩ = some x), (fun y => Sts W (srcP q (s.suspV t.now).1 :: refP zh bx (s.suspV t.now).1 (.slice da s.data.length dc) :: blkP w.heap.size (.cells #[.int .u8 t.kind, .int .i64 t.p.kind, .int .i64 t.p.src, .int .i64 t.p.num, .int .i64 t.p.cls, .string t.p.name, .int .i64 t.p.size, .int .i64 t.p.off, .slice t.p.da t.p.data.length t.p.dc, .int .u32 (t.p.sum : Nat), .int .i64 t.p.code, .slice t.p.ga t.p.gaps.length t.p.gc, .int .i64 t.now] 62 (0, 0)) :: l) y), hw.swap, (fun y hy j x hx => (Sts.boxCell hy.tail.tail j x hx).1), (fun _ h => h), ?_⟩
  clear hw hy y
  apply ord_norm
  · go_simp; rfl
  iterate 2
    (apply ord_pure (ho := rfl)
     · go_simp
     · intro x hx; have q0 : x.cell? ⟨w.heap.size, 0, none⟩ = some (.int .u8 t.kind) := hx 0 _ rfl; have q1 : x.cell? ⟨w.heap.size, 1, none⟩ = some (.int .i64 t.p.kind) := hx 1 _ rfl; have q2 : x.cell? ⟨w.heap.size, 2, none⟩ = some (.int .i64 t.p.src) := hx 2 _ rfl; have q3 : x.cell? ⟨w.heap.size, 3, none⟩ = some (.int .i64 t.p.num) := hx 3 _ rfl; have q4 : x.cell? ⟨w.heap.size, 4, none⟩ = some (.int .i64 t.p.cls) := hx 4 _ rfl; have q5 : x.cell? ⟨w.heap.size, 5, none⟩ = some (.string t.p.name) := hx 5 _ rfl; have q6 : x.cell? ⟨w.heap.size, 6, none⟩ = some (.int .i64 t.p.size) := hx 6 _ rfl; have q7 : x.cell? ⟨w.heap.size, 7, none⟩ = some (.int .i64 t.p.off) := hx 7 _ rfl; have q8 : x.cell? ⟨w.heap.size, 8, none⟩ = some (.slice t.p.da t.p.data.length t.p.dc) := hx 8 _ rfl; have q9 : x.cell? ⟨w.heap.size, 9, none⟩ = some (.int .u32 (t.p.sum : Nat)) := hx 9 _ rfl; have q10 : x.cell? ⟨w.heap.size, 10, none⟩ = some (.int .i64 t.p.code) := hx 10 _ rfl; have q11 : x.cell? ⟨w.heap.size, 11, none⟩ = some (.slice t.p.ga t.p.gaps.length t.p.gc) := hx 11 _ rfl; have q12 : x.cell? ⟨w.heap.size, 12, none⟩ = some (.int .i64 t.now) := hx 12 _ rfl; go_simp; rfl
     apply ord_norm
     · go_simp; rfl)
  refine ord_nil fun z hz => ?_
  have HZ := hid hz
  clear hz HS
  go_wp2_with fail
  go_ret
  exact ⟨rfl, HZ.out.third.tail⟩
set_option maxRecDepth 100000 in
set_option maxHeartbeats 4000000 in
theorem cStepRes  (hk : t.kind.tmod 6 = 4) : Calls Try.prog 27 #[.pointer (some ⟨q, 0, none⟩), .pointer (some ⟨bx, 0, none⟩), .agg (stpC t)] w fun e w' => e = .returned (.bool true) ∧ Sts W (srcP q (s.resV t.now).1 :: refP zh bx (s.resV t.now).1 (.slice da s.data.length dc) :: l) w' := by
  unfold stpC
  have hz : Sts W (blkP w.heap.size (.cells #[.int .u8 t.kind, .int .i64 t.p.kind, .int .i64 t.p.src, .int .i64 t.p.num, .int .i64 t.p.cls, .string t.p.name, .int .i64 t.p.size, .int .i64 t.p.off, .slice t.p.da t.p.data.length t.p.dc, .int .u32 (t.p.sum : Nat), .int .i64 t.p.code, .slice t.p.ga t.p.gaps.length t.p.gc, .int .i64 t.now] 62 (0, 0)) :: srcP q s :: refP zh bx s (.slice da s.data.length dc) :: l) (w.alloc (.cells #[.int .u8 t.kind, .int .i64 t.p.kind, .int .i64 t.p.src, .int .i64 t.p.num, .int .i64 t.p.cls, .string t.p.name, .int .i64 t.p.size, .int .i64 t.p.off, .slice t.p.da t.p.data.length t.p.dc, .int .u32 (t.p.sum : Nat), .int .i64 t.p.code, .slice t.p.ga t.p.gaps.length t.p.gc, .int .i64 t.now] 62)) := hs.alloc (stabC (srcP_stable _ _) (stabC (refP_stable _ _ _ _) hl)) _
  have HS := hid hz
  have HL := hid hl
  have HG := hid hG
  clear hs hz hl hG
  go_enter Try.func27, Try.ntmps27
  go_wp2_with fail
  refine wp_region_ord (.pure 0 (.pure 1 (.pure 2 (.pure 4 (.pure 5 (.pure 6 (.eff 3 (.eff 7 (.pure 8 (.pure 9 .nil)))))))))) (fun y => ∀ j x, (stpC t)[j]? = some x → y.cell? ⟨w.heap.size, j, none⟩ = some x) (fun y => Sts W (blkP w.heap.size (.cells #[.int .u8 t.kind, .int .i64 t.p.kind, .int .i64 t.p.src, .int .i64 t.p.num, .int .i64 t.p.cls, .string t.p.name, .int .i64 t.p.size, .int .i64 t.p.off, .slice t.p.da t.p.data.length t.p.dc, .int .u32 (t.p.sum : Nat), .int .i64 t.p.code, .slice t.p.ga t.p.gaps.length t.p.gc, .int .i64 t.now] 62 (0, 0)) :: srcP q s :: refP zh bx s (.slice da s.data.length dc) :: l) y) (by kernel_rfl) (by kernel_rfl) (HS.out.drew (stabC (blkP_stable _ _) (stabC (srcP_stable _ _) (stabC (refP_stable _ _ _ _) HL.out)))) (fun y hy j x hx => (Sts.boxCell hy j x hx).1) ?_
  iterate 6
    (apply ord_pure (ho := rfl)
     · go_simp
     · intro x hx; have q0 : x.cell? ⟨w.heap.size, 0, none⟩ = some (.int .u8 t.kind) := hx 0 _ rfl; have q1 : x.cell? ⟨w.heap.size, 1, none⟩ = some (.int .i64 t.p.kind) := hx 1 _ rfl; have q2 : x.cell? ⟨w.heap.size, 2, none⟩ = some (.int .i64 t.p.src) := hx 2 _ rfl; have q3 : x.cell? ⟨w.heap.size, 3, none⟩ = some (.int .i64 t.p.num) := hx 3 _ rfl; have q4 : x.cell? ⟨w.heap.size, 4, none⟩ = some (.int .i64 t.p.cls) := hx 4 _ rfl; have q5 : x.cell? ⟨w.heap.size, 5, none⟩ = some (.string t.p.name) := hx 5 _ rfl; have q6 : x.cell? ⟨w.heap.size, 6, none⟩ = some (.int .i64 t.p.size) := hx 6 _ rfl; have q7 : x.cell? ⟨w.heap.size, 7, none⟩ = some (.int .i64 t.p.off) := hx 7 _ rfl; have q8 : x.cell? ⟨w.heap.size, 8, none⟩ = some (.slice t.p.da t.p.data.length t.p.dc) := hx 8 _ rfl; have q9 : x.cell? ⟨w.heap.size, 9, none⟩ = some (.int .u32 (t.p.sum : Nat)) := hx 9 _ rfl; have q10 : x.cell? ⟨w.heap.size, 10, none⟩ = some (.int .i64 t.p.code) := hx 10 _ rfl; have q11 : x.cell? ⟨w.heap.size, 11, none⟩ = some (.slice t.p.ga t.p.gaps.length t.p.gc) := hx 11 _ rfl; have q12 : x.cell? ⟨w.heap.size, 12, none⟩ = some (.int .i64 t.now) := hx 12 _ rfl; go_simp; rfl
     apply ord_norm
     · go_simp; rfl)
  apply ord_eff (ho := rfl)
  · go_simp
  intro y hy
  refine eff_call (f := 29) (by go_simp; try rfl) (cResume (stabC (refP_stable _ _ _ _) (stabC (blkP_stable _ _) HL.out)) q s hy.third' t.now) ?_
  rintro e w2 ⟨rfl, hw⟩
  refine ⟨_, rfl, (fun y => ∀ j x, (stpC t)[j]? = some x → y.cell? ⟨w.heap.size, j, none⟩ = some x), (fun y => Sts W (srcP q (s.resV t.now).1 :: refP zh bx s (.slice da s.data.length dc) :: blkP w.heap.size (.cells #[.int .u8 t.kind, .int .i64 t.p.kind, .int .i64 t.p.src, .int .i64 t.p.num, .int .i64 t.p.cls, .string t.p.name, .int .i64 t.p.size, .int .i64 t.p.off, .slice t.p.da t.p.data.length t.p.dc, .int .u32 (t.p.sum : Nat), .int .i64 t.p.code, .slice t.p.ga t.p.gaps.length t.p.gc, .int .i64 t.now] 62 (0, 0)) :: l) y), hw, (fun y hy j x hx => (Sts.boxCell hy.tail.tail j x hx).1), (fun _ h => h), ?_⟩
  clear hw hy y
  apply ord_norm
  · go_simp; rfl
  apply ord_eff (ho := rfl)
  · go_simp
  intro y hy
  refine eff_call (f := 74) (by go_simp; try rfl) (cRResume (stabC (srcP_stable _ _) (stabC (blkP_stable _ _) HL.out)) zh bx s (.slice da s.data.length dc) hy.swap HG.out.ph t.now) ?_
  rintro e w3 ⟨rfl, hw⟩
  refine ⟨_, rfl, (fun y => ∀ j x, (stpC t)[j]? = some x → y.cell? ⟨w.heap.size, j, none⟩ = some x), (fun y => Sts W (srcP q (s.resV t.now).1 :: refP zh bx (s.resV t.now).1 (.slice da s.data.length dc) :: blkP w.heap.size (.cells #[.int .u8 t.kind, .int .i64 t.p.kind, .int .i64 t.p.src, .int .i64 t.p.num, .int .i64 t.p.cls, .string t.p.name, .int .i64 t.p.size, .int .i64 t.p.off, .slice t.p.da t.p.data.length t.p.dc, .int .u32 (t.p.sum : Nat), .int .i64 t.p.code, .slice t.p.ga t.p.gaps.length t.p.gc, .int .i64 t.now] 62 (0, 0)) :: l) y), hw.swap, (fun y hy j x hx => (Sts.boxCell hy.tail.tail j x hx).1), (fun _ h => h), ?_⟩
  clear hw hy y
  apply ord_norm
  · go_simp; rfl
  iterate 2
    (apply ord_pure (ho := rfl)
     · go_simp
     · intro x hx; have q0 : x.cell? ⟨w.heap.size, 0, none⟩ = some (.int .u8 t.kind) := hx 0 _ rfl; have q1 : x.cell? ⟨w.heap.size, 1, none⟩ = some (.int .i64 t.p.kind) := hx 1 _ rfl; have q2 : x.cell? ⟨w.heap.size, 2, none⟩ = some (.int .i64 t.p.src) := hx 2 _ rfl; have q3 : x.cell? ⟨w.heap.size, 3, none⟩ = some (.int .i64 t.p.num) := hx 3 _ rfl; have q4 : x.cell? ⟨w.heap.size, 4, none⟩ = some (.int .i64 t.p.cls) := hx 4 _ rfl; have q5 : x.cell? ⟨w.heap.size, 5, none⟩ = some (.string t.p.name) := hx 5 _ rfl; have q6 : x.cell? ⟨w.heap.size, 6, none⟩ = some (.int .i64 t.p.size) := hx 6 _ rfl; have q7 : x.cell? ⟨w.heap.size, 7, none⟩ = some (.int .i64 t.p.off) := hx 7 _ rfl; have q8 : x.cell? ⟨w.heap.size, 8, none⟩ = some (.slice t.p.da t.p.data.length t.p.dc) := hx 8 _ rfl; have q9 : x.cell? ⟨w.heap.size, 9, none⟩ = some (.int .u32 (t.p.sum : Nat)) := hx 9 _ rfl; have q10 : x.cell? ⟨w.heap.size, 10, none⟩ = some (.int .i64 t.p.code) := hx 10 _ rfl; have q11 : x.cell? ⟨w.heap.size, 11, none⟩ = some (.slice t.p.ga t.p.gaps.length t.p.gc) := hx 11 _ rfl; have q12 : x.cell? ⟨w.heap.size, 12, none⟩ = some (.int .i64 t.now) := hx 12 _ rfl; go_simp; rfl
     apply ord_norm
     · go_simp; rfl)
  refine ord_nil fun z hz => ?_
  have HZ := hid hz
  clear hz HS
  go_wp2_with fail
  go_ret
  exact ⟨rfl, HZ.out.third.tail⟩
set_option maxRecDepth 100000 in
set_option maxHeartbeats 4000000 in
theorem cStepCan (hk : t.kind.tmod 6 = 5) : Calls Try.prog 27 #[.pointer (some ⟨q, 0, none⟩), .pointer (some ⟨bx, 0, none⟩), .agg (stpC t)] w fun e w' => e = .returned (.bool true) ∧ Sts W (srcP q s.canV.1 :: refP zh bx s.canV.1 (.slice da s.data.length dc) :: l) w' := by
  unfold stpC
  have hz : Sts W (blkP w.heap.size (.cells #[.int .u8 t.kind, .int .i64 t.p.kind, .int .i64 t.p.src, .int .i64 t.p.num, .int .i64 t.p.cls, .string t.p.name, .int .i64 t.p.size, .int .i64 t.p.off, .slice t.p.da t.p.data.length t.p.dc, .int .u32 (t.p.sum : Nat), .int .i64 t.p.code, .slice t.p.ga t.p.gaps.length t.p.gc, .int .i64 t.now] 62 (0, 0)) :: srcP q s :: refP zh bx s (.slice da s.data.length dc) :: l) (w.alloc (.cells #[.int .u8 t.kind, .int .i64 t.p.kind, .int .i64 t.p.src, .int .i64 t.p.num, .int .i64 t.p.cls, .string t.p.name, .int .i64 t.p.size, .int .i64 t.p.off, .slice t.p.da t.p.data.length t.p.dc, .int .u32 (t.p.sum : Nat), .int .i64 t.p.code, .slice t.p.ga t.p.gaps.length t.p.gc, .int .i64 t.now] 62)) := hs.alloc (stabC (srcP_stable _ _) (stabC (refP_stable _ _ _ _) hl)) _
  have HS := hid hz
  have HL := hid hl
  have HG := hid hG
  clear hs hz hl hG
  go_enter Try.func27, Try.ntmps27
  go_wp2_with (first | (go_at_call 30; refine (cCancel (stabC (refP_stable _ _ _ _) (stabC (blkP_stable _ _) HL.out)) q s HS.out.third').mono ?_; rintro e w2 ⟨rfl, hw⟩; have H2 := hid hw; clear hw) | (go_at_call 75; refine (cRCancel (stabC (srcP_stable _ _) (stabC (blkP_stable _ _) HL.out)) zh bx s (.slice da s.data.length dc) H2.out.swap HG.out.ph).mono ?_; rintro e w3 ⟨rfl, hw⟩; have H3 := hid hw.swap; clear hw))
  go_ret
  exact ⟨rfl, H3.out.third.tail⟩
set_option maxRecDepth 100000 in
set_option maxHeartbeats 4000000 in
theorem cStepNext (hd : RdB W (.slice da s.data.length dc) s.data) (hzr : ∀ A y, Sts W (A :: l) y → RdR y zh.1 zh.2) (hk : t.kind.tmod 6 ≠ 2 ∧ t.kind.tmod 6 ≠ 3 ∧ t.kind.tmod 6 ≠ 4 ∧ t.kind.tmod 6 ≠ 5) : Calls Try.prog 27 #[.pointer (some ⟨q, 0, none⟩), .pointer (some ⟨bx, 0, none⟩), .agg (stpC t)] w fun e w' => e = .returned (.bool true) ∧ Sts W (srcP q (s.nextV t.now).1 :: refP zh bx (s.nextV t.now).1 (.slice da s.data.length dc) :: l) w' := by
  unfold stpC
  have hz : Sts W (blkP w.heap.size (.cells #[.int .u8 t.kind, .int .i64 t.p.kind, .int .i64 t.p.src, .int .i64 t.p.num, .int .i64 t.p.cls, .string t.p.name, .int .i64 t.p.size, .int .i64 t.p.off, .slice t.p.da t.p.data.length t.p.dc, .int .u32 (t.p.sum : Nat), .int .i64 t.p.code, .slice t.p.ga t.p.gaps.length t.p.gc, .int .i64 t.now] 62 (0, 0)) :: srcP q s :: refP zh bx s (.slice da s.data.length dc) :: l) (w.alloc (.cells #[.int .u8 t.kind, .int .i64 t.p.kind, .int .i64 t.p.src, .int .i64 t.p.num, .int .i64 t.p.cls, .string t.p.name, .int .i64 t.p.size, .int .i64 t.p.off, .slice t.p.da t.p.data.length t.p.dc, .int .u32 (t.p.sum : Nat), .int .i64 t.p.code, .slice t.p.ga t.p.gaps.length t.p.gc, .int .i64 t.now] 62)) := hs.alloc (stabC (srcP_stable _ _) (stabC (refP_stable _ _ _ _) hl)) _
  have HS := hid hz
  have HL := hid hl
  have HG := hid hG
  clear hs hz hl hG
  have k2 : (t.kind.tmod 6 == 2) = false := by rw [beq_eq_false_iff_ne]; exact hk.1
  have k3 : (t.kind.tmod 6 == 3) = false := by rw [beq_eq_false_iff_ne]; exact hk.2.1
  have k4 : (t.kind.tmod 6 == 4) = false := by rw [beq_eq_false_iff_ne]; exact hk.2.2.1
  have k5 : (t.kind.tmod 6 == 5) = false := by rw [beq_eq_false_iff_ne]; exact hk.2.2.2
  have HZR := hid hzr
  have HD := hid hd
  have hbd : ∀ x ∈ (s.nextV t.now).2.data (s.pass t.now), x < 256 := by
    have hb := HG.out.good.b
    rw [← Fil.pass_data s t.now] at hb
    intro x hx
    cases hu : (s.nextV t.now).2 with
    | piece f tt => rw [hu] at hx; exact hb x (List.mem_of_mem_drop (List.mem_of_mem_take hx))
    | non => rw [hu] at hx; cases hx
    | ack => rw [hu] at hx; cases hx
    | head => rw [hu] at hx; cases hx
    | eof c => rw [hu] at hx; cases hx
  have hUP := fun pa pc => Fil.updata (s.nextV t.now).2 (s.pass t.now) pa pc
  have hUA := fun pa pa' pc pc' => Fil.upalt (s.nextV t.now).2 (s.pass t.now) pa pa' pc pc'
  have HC1 := hid (cNext (stabC (refP_stable _ _ _ _) (stabC (blkP_stable _ _) HL.out)) q s HS.out.third' HG.out.good t.now)
  have HC2 := hid (fun (L2 : List HProp) (y : World) (h2 : ∀ B ∈ L2, Stable B) (hy : Sts W (refP zh bx s (.slice da s.data.length dc) :: L2) y) (hz2 : ∀ A y, Sts W (A :: L2) y → RdR y zh.1 zh.2) => cRNext h2 zh bx s da dc hy HG.out HD.out hz2 t.now)
  generalize (s.nextV t.now).2 = u at *
  generalize (s.nextV t.now).1 = s2 at *
  generalize (s.pass t.now) = s1 at *
  have HUP := hid hUP
  have HUA := hid hUA
  have HBD := hid hbd
  clear hk hzr hd hUP hUA hbd
  go_enter Try.func27, Try.ntmps27
  go_wp2_with (first | (go_at_call 20; refine HC1.out.mono ?_; rintro e w2 ⟨pa, pc, rfl, hw⟩; have H2 := hid hw; have HA : Hid (Sts W (blkP w2.heap.size (.cells zeroPdu 45 (0, 0)) :: srcP q s2 :: rowU pa pc (u.data s1) :: refP zh bx s (.slice da s.data.length dc) :: blkP w.heap.size (.cells #[.int .u8 t.kind, .int .i64 t.p.kind, .int .i64 t.p.src, .int .i64 t.p.num, .int .i64 t.p.cls, .string t.p.name, .int .i64 t.p.size, .int .i64 t.p.off, .slice t.p.da t.p.data.length t.p.dc, .int .u32 (t.p.sum : Nat), .int .i64 t.p.code, .slice t.p.ga t.p.gaps.length t.p.gc, .int .i64 t.now] 62 (0, 0)) :: l) (w2.alloc (.cells #[.int .i64 0, .int .i64 0, .int .i64 0, .int .i64 0, .string ⟨#[]⟩, .int .i64 0, .int .i64 0, .slice none 0 0, .int .u32 0, .int .i64 0, .slice none 0 0] 45))) := hid (hw.alloc (stabC (srcP_stable _ _) (stabC (rowU_stable _ _ _) (stabC (refP_stable _ _ _ _) (stabC (blkP_stable _ _) HL.out)))) (.cells zeroPdu 45 (0, 0))); clear hw) | (refine wpList_agg HA.out (stabC (srcP_stable _ _) (stabC (rowU_stable _ _ _) (stabC (refP_stable _ _ _ _) (stabC (blkP_stable _ _) HL.out)))) rfl (.tmp 7) (.tmp 63) 45 rfl (u.pdu s1 pa pc).cells rfl rfl sizePdu rfl rfl ?_; intro w3 hz; have q12 := (Sts.boxCell (hz.tail.tail.tail.tail) 12 _ rfl).1; have HB := hid (hz.perm (List.perm_middle (l₁ := [_, _, _]) (l₂ := blkP w.heap.size (.cells #[.int .u8 t.kind, .int .i64 t.p.kind, .int .i64 t.p.src, .int .i64 t.p.num, .int .i64 t.p.cls, .string t.p.name, .int .i64 t.p.size, .int .i64 t.p.off, .slice t.p.da t.p.data.length t.p.dc, .int .u32 (t.p.sum : Nat), .int .i64 t.p.code, .slice t.p.ga t.p.gaps.length t.p.gc, .int .i64 t.now] 62 (0, 0)) :: l))); clear hz) | (go_at_call 76; refine (HC2.out _ _ (stabC (blkP_stable _ _) (stabC (srcP_stable _ _) (stabC (rowU_stable _ _ _) (stabC (blkP_stable _ _) HL.out)))) HB.out (fun A y hy => HZR.out _ y hy.tail.tail.tail.tail)).mono ?_; rintro e w4 ⟨pa2, pc2, rfl, hw⟩; have HE : Hid (Sts W (blkP w4.heap.size (.cells zeroPdu 45 (0, 0)) :: refP zh bx s2 (.slice da s.data.length dc) :: rowU pa2 pc2 (u.data s1) :: blkP w2.heap.size (.cells (u.pdu s1 pa pc).cells 45 (0, 0)) :: srcP q s2 :: rowU pa pc (u.data s1) :: blkP w.heap.size (.cells #[.int .u8 t.kind, .int .i64 t.p.kind, .int .i64 t.p.src, .int .i64 t.p.num, .int .i64 t.p.cls, .string t.p.name, .int .i64 t.p.size, .int .i64 t.p.off, .slice t.p.da t.p.data.length t.p.dc, .int .u32 (t.p.sum : Nat), .int .i64 t.p.code, .slice t.p.ga t.p.gaps.length t.p.gc, .int .i64 t.now] 62 (0, 0)) :: l) (w4.alloc (.cells #[.int .i64 0, .int .i64 0, .int .i64 0, .int .i64 0, .string ⟨#[]⟩, .int .i64 0, .int .i64 0, .slice none 0 0, .int .u32 0, .int .i64 0, .slice none 0 0] 45))) := hid (hw.alloc (stabC (refP_stable _ _ _ _) (stabC (rowU_stable _ _ _) (stabC (blkP_stable _ _) (stabC (srcP_stable _ _) (stabC (rowU_stable _ _ _) (stabC (blkP_stable _ _) HL.out)))))) (.cells zeroPdu 45 (0, 0))); clear hw) | (refine wpList_agg HE.out (stabC (refP_stable _ _ _ _) (stabC (rowU_stable _ _ _) (stabC (blkP_stable _ _) (stabC (srcP_stable _ _) (stabC (rowU_stable _ _ _) (stabC (blkP_stable _ _) HL.out)))))) rfl (.tmp 9) (.tmp 70) 45 rfl (u.pdu s1 pa2 pc2).cells rfl rfl sizePdu rfl rfl ?_; intro w5 hz; have HF := hid hz; clear hz) | (refine wpList_ld rfl (.tmp 7) 45 rfl rfl _ (ldPdu rfl (HF.out.perm (List.perm_middle (l₁ := [_, _, _]) (l₂ := srcP q s2 :: rowU pa pc (u.data s1) :: blkP w.heap.size (.cells #[.int .u8 t.kind, .int .i64 t.p.kind, .int .i64 t.p.src, .int .i64 t.p.num, .int .i64 t.p.cls, .string t.p.name, .int .i64 t.p.size, .int .i64 t.p.off, .slice t.p.da t.p.data.length t.p.dc, .int .u32 (t.p.sum : Nat), .int .i64 t.p.code, .slice t.p.ga t.p.gaps.length t.p.gc, .int .i64 t.now] 62 (0, 0)) :: l)))) ?_) | (refine wpList_ld rfl (.tmp 9) 45 rfl rfl _ (ldPdu rfl HF.out) ?_) | (go_at_call 77; obtain ⟨a2, c2, he, h2, h1⟩ := HUA.out pa pa2 pc pc2; rw [he]; have g1 : RdB w5 (.slice (u.pdu s1 pa pc).da (u.pdu s1 pa pc).data.length (u.pdu s1 pa pc).dc) (u.pdu s1 pa pc).data := (rdB_unit (HUP.out pa pc).1 h1 (Rd.of_own (Sts.rowOwn HF.out.tail.tail.tail.tail.tail) (u8s_len _)) HBD.out); have g2 : RdB w5 (.slice a2 (u.pdu s1 pa pc).data.length c2) (u.pdu s1 pa pc).data := (rdB_unit (HUP.out pa pc).1 h2 (Rd.of_own (Sts.rowOwn HF.out.tail.tail) (u8s_len _)) HBD.out); refine (cSame w5 (u.pdu s1 pa pc) a2 c2 g1 g2 (HUP.out pa pc).2).mono ?_; rintro e w6 ⟨rfl, hw⟩; have HW := hid (HF.out.quiet (stabC (blkP_stable _ _) (stabC (refP_stable _ _ _ _) (stabC (rowU_stable _ _ _) (stabC (blkP_stable _ _) (stabC (srcP_stable _ _) (stabC (rowU_stable _ _ _) (stabC (blkP_stable _ _) HL.out))))))) hw); clear hw g1 g2 h1 h2 he))
  go_ret
  refine ⟨ret_bool (by simp), ?_⟩
  have h3 := HW.out.tail
  have h4 := (h3.swap.tail.swap.tail)
  exact (h4.swap.third.tail.swap.third.tail).swap
theorem cStep (hd : RdB W (.slice da s.data.length dc) s.data) (hzr : ∀ A y, Sts W (A :: l) y → RdR y zh.1 zh.2) (hpr : PduR W t.p) (hname : t.p.name.size ≤ 1000000) (hdata : t.p.data.length < 1000000000) (hgl : t.p.gaps.length < 1000) : Calls Try.prog 27 #[.pointer (some ⟨q, 0, none⟩), .pointer (some ⟨bx, 0, none⟩), .agg (stpC t)] w fun e w' => e = .returned (.bool true) ∧ Sts W (srcP q (s.stepV t) :: refP zh bx (s.stepV t) (.slice da s.data.length dc) :: l) w' := by
  unfold Fil.Src.stepV
  by_cases h2 : t.kind.tmod 6 = 2
  · rw [if_pos h2]; exact cStepTake hl zh q bx s da dc hs hG t hzr hpr hname hdata hgl h2
  · rw [if_neg h2]
    by_cases h3 : t.kind.tmod 6 = 3
    · rw [if_pos h3]; exact cStepSusp hl zh q bx s da dc hs hG t h3
    · rw [if_neg h3]
      by_cases h4 : t.kind.tmod 6 = 4
      · rw [if_pos h4]; exact cStepRes hl zh q bx s da dc hs hG t h4
      · rw [if_neg h4]
        by_cases h5 : t.kind.tmod 6 = 5
        · rw [if_pos h5]; exact cStepCan hl zh q bx s da dc hs hG t h5
        · rw [if_neg h5]; exact cStepNext hl zh q bx s da dc hs hG t hd hzr ⟨h2, h3, h4, h5⟩
end
section
variable {W w : World} {l : List HProp} (zh : Value × List Rng.R) (q : Nat) (s : Fil.Src) (vd : Value) (hs : Sts W (refP zh q s vd :: l) w)
include hs
set_option maxRecDepth 100000 in
theorem cRState (hph : 0 ≤ s.phase) : Calls Try.prog 18 #[.pointer (some ⟨q, 0, none⟩)] w fun e w' => e = .returned (.int .i64 s.stateV) ∧ w = w' := by
  obtain ⟨wv, h⟩ := Sts.openRef hs
  have hC := Sts.refC h
  have k8 := hC.k8
  have k13 := hC.k13
  have HV := hid (show s.stateV = if s.susp = true then 3 else if s.phase = 0 then 1 else if s.phase = 4 then 4 else if s.phase = 5 then 5 else if s.phase = 6 then 6 else 2 from rfl)
  clear h hC hs
  generalize s.stateV = sv at *
  generalize s.susp = sp at *
  generalize s.phase = ph at *
  have hz : (ph + 1 == 0) = false := by rw [beq_eq_false_iff_ne]; omega
  cases sp with
  | true =>
    have HF : Hid (sv = 3) := hid (by rw [HV.out]; rfl)
    go_enter Try.func18, Try.ntmps18
    go_wp2_with fail
    go_ret
    exact ⟨ret_int HF.out.symm, rfl⟩
  | false =>
    have hp : ph = 0 ∨ ph = 4 ∨ ph = 5 ∨ ph = 6 ∨ (ph ≠ 0 ∧ ph ≠ 4 ∧ ph ≠ 5 ∧ ph ≠ 6) := by omega
    rcases hp with rfl | rfl | rfl | rfl | ⟨n0, n4, n5, n6⟩
    iterate 4
      (have HF := hid HV.out
       simp at HF
       clear HV
       go_enter Try.func18, Try.ntmps18
       go_wp2_with fail
       go_ret
       exact ⟨ret_int HF.out.symm, rfl⟩)
    have HF : Hid (sv = 2) := hid (by rw [HV.out, if_neg (by decide), if_neg n0, if_neg n4, if_neg n5, if_neg n6])
    have b0 : (ph + 1 == 1) = false := by rw [beq_eq_false_iff_ne]; omega
    have b4 : (ph + 1 == 5) = false := by rw [beq_eq_false_iff_ne]; omega
    have b5 : (ph + 1 == 6) = false := by rw [beq_eq_false_iff_ne]; omega
    have b6 : (ph + 1 == 7) = false := by rw [beq_eq_false_iff_ne]; omega
    clear HV n0 n4 n5 n6 hph
    go_enter Try.func18, Try.ntmps18
    go_wp2_with fail
    go_ret
    exact ⟨ret_int HF.out.symm, rfl⟩
end
end Go.Proofs.Ytfjadhkhmhnccaa
