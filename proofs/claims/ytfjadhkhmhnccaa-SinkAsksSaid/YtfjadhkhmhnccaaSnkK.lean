/- The receiving end: the law's example. -/
import Derived.Test.YtfjadhkhmhnccaaSnkG
import Derived.Test.YtfjadhkhmhnccaaSnkI
import Derived.Test.YtfjadhkhmhnccaaSnkJ
import Derived.Test.YtfjadhkhmhnccaaSrcLivB
set_option linter.unusedVariables false
set_option linter.unusedSimpArgs false
namespace Fil
open Go
def Snk.fitB (s : Snk) : Bool := decide (s.got.length < 800000) && s.got.all (fun r => decide (0 ≤ r.1) && decide (r.2 ≤ 1000000000)) && decide (s.data.length < 1000000) && s.data.all (fun x => decide (x < 256))
theorem fit_of {s : Snk} (h : s.fitB = true) : s.Fit ∧ s.got.length < 800000 := by
  unfold Snk.fitB at h
  simp only [Bool.and_eq_true, decide_eq_true_eq, List.all_eq_true] at h
  obtain ⟨⟨⟨h1, h2⟩, h3⟩, h4⟩ := h
  exact ⟨⟨by omega, fun r hr => h2 r hr, h3, h4⟩, h1⟩
theorem fitB_of {s : Snk} (h : s.Fit) (h9 : s.got.length < 800000) : s.fitB = true := by
  unfold Snk.fitB
  simp only [Bool.and_eq_true, decide_eq_true_eq, List.all_eq_true]
  exact ⟨⟨⟨h9, fun r hr => h.hb r hr⟩, h.hd⟩, h.h8⟩
def al1 : Snk := { snk0 2 with now := 5, data := [0, 0, 67, 68], got := [(2, 4)], timer := 5 }
def al2 : Snk := { al1 with fin := true, endSize := 4, sum := 1094861636, nak := true, ack := true }
def al3 : Snk := { al2 with ack := false }
def al4 : Snk := { al3 with nak := false }
def al6 : Snk := { al4 with now := 6, named := true, name := xname, size := 4, timer := 6 }
def al7 : Snk := { al6 with data := [65, 66, 67, 68], got := [(0, 4)], phase := 1 }
def al8 : Snk := { al7 with now := 7, phase := 2, don := true, timer := 7 }
def al9 : Snk := { al8 with don := false }
def al10 : Snk := { al9 with now := 8, ended := true }
theorem al1_eq (va : Option Addr) (vc : Nat) : (snk0 2).takeV (pieceQ 2 va [67, 68] vc) 5 = (al1, 0) := by kernel_rfl
theorem al1_fit (va : Option Addr) (vc : Nat) : (((snk0 2).adv 5).recV (pieceQ 2 va [67, 68] vc)).1.fitB = true := by kernel_rfl
theorem al2_eq : al1.takeV (endP 2 4 (sumV [65, 66, 67, 68])) 5 = (al2, 0) := by kernel_rfl
theorem al2_fit : ((al1.adv 5).recV (endP 2 4 (sumV [65, 66, 67, 68]))).1.fitB = true := by kernel_rfl
theorem al6_eq : al4.takeV (metaP 2 4) 6 = (al6, 0) := by kernel_rfl
theorem al6_fit : ((al4.adv 6).recV (metaP 2 4)).1.fitB = true := by kernel_rfl
theorem al7_eq (va : Option Addr) (vc : Nat) : al6.takeV (pieceQ 0 va [65, 66] vc) 6 = (al7, 0) := by kernel_rfl
theorem al7_fit (va : Option Addr) (vc : Nat) : ((al6.adv 6).recV (pieceQ 0 va [65, 66] vc)).1.fitB = true := by kernel_rfl
theorem al8_eq : al7.closeV 0 7 = (al8, 0) := by kernel_rfl
def doneP : Pdu := { kind := 7, src := 1, num := 5 }
theorem al10_eq : al9.takeV doneP 8 = (al10, 0) := by kernel_rfl
theorem al10_fit : ((al9.adv 8).recV doneP).1.fitB = true := by kernel_rfl
theorem al4_gaps : al3.gapsV = [(0, 0), (0, 2)] := by kernel_rfl
end Fil
namespace Go.Proofs.Ytfjadhkhmhnccaa
open Go.RowKit Go.Proofs.Num
section
variable {W w : World} {l : List HProp} (hl : ∀ B ∈ l, Stable B)
include hl
theorem cTakeS (q : Nat) (s s' : Fil.Snk) (e0 : Int) (now : Int) (p : Fil.Pdu) (hs : Sts W (snkP q s :: l) w) (hn : p.name.size ≤ 1000) (hd : p.data.length ≤ 1000) (hg : p.ga = none ∧ p.gaps = [] ∧ p.gc = 0) (hr : RdP W l p) (hdn0 : p.kind = 3 → s.don = false) (f1 : s.fitB = true) (f2 : ((s.adv now).recV p).1.fitB = true) (h : s.takeV p now = (s', e0)) :
    Calls Try.prog 36 #[.pointer (some ⟨q, 0, none⟩), .agg p.cells, .int .i64 now] w fun e w' => e = .returned (.int .i64 e0) ∧ Sts W (snkP q s' :: l) w' := by
  have k := cTakeW hl q s hs now p (by omega) (by omega) (by rw [hg.2.1]; decide) (fun A y _ => by rw [hg.1, hg.2.1, hg.2.2]; exact RdR.nil y) hr hdn0 (Fil.fit_of f1).1 (Fil.fit_of f1).2 (Fil.fit_of f2).1
  rw [h] at k
  exact k
omit hl in
theorem rdP_row {va : Option Addr} {vc po : Nat} {ds : List Nat} (h8 : ∀ x ∈ ds, x < 256) : RdP W (rowP 5 1 (.slice va ds.length vc) ds.length (u8s ds) :: l) (Fil.pieceQ po va ds vc) := fun y L hy => by
  obtain ⟨F, hF⟩ := hy.mem (A := rowP 5 1 (.slice va ds.length vc) ds.length (u8s ds)) (by simp)
  exact ⟨Rd.of_own hF.1 (u8s_len _), h8⟩
omit hl in
theorem rdP_none {p : Fil.Pdu} (h : p.da = none ∧ p.data = [] ∧ p.dc = 0) : RdP W l p := fun y L hy => by
  rw [h.1, h.2.1, h.2.2]
  exact ⟨Rd.nil y _ _ (by unfold maxLen; omega), by simp⟩
end
theorem cell_four (w : World) (x y z u0 : Value) (t : TypeId) : ∀ j u, [x, y, z, u0][j]? = some u → (w.alloc (.cells #[x, y, z, u0] t)).cell? ((⟨w.heap.size, 0, none⟩ : Addr).add j) = some u := cell_four_new w x y z u0 t
theorem rdR_two (w : World) (f t f2 t2 : Int) : RdR (w.alloc (.cells #[.int .i64 f, .int .i64 t, .int .i64 f2, .int .i64 t2] 81)) (.slice (some ⟨w.heap.size, 0, none⟩) 2 2) [(f, t), (f2, t2)] := by
  have hc := cell_four_new w (.int .i64 f) (.int .i64 t) (.int .i64 f2) (.int .i64 t2) 81
  refine ⟨_, 2, rfl, ⟨by simp, by unfold maxLen; omega⟩, fun j hj => ⟨w.heap.size, 0, rfl, ?_, ?_, ?_⟩⟩
  · show _ < (w.heap.push _).size; simp
  · have h0 : j = 0 ∨ j = 1 := by simp at hj; omega
    rcases h0 with rfl | rfl
    · have := hc 0 _ rfl; rwa [plain_add] at this
    · have := hc 2 _ rfl; rwa [plain_add] at this
  · have h0 : j = 0 ∨ j = 1 := by simp at hj; omega
    rcases h0 with rfl | rfl
    · have := hc 1 _ rfl; rwa [plain_add] at this
    · have := hc 3 _ rfl; rwa [plain_add] at this
theorem rdABCD {W y : World} {L : List HProp} {b0 : Nat} (hs : Sts W L y) (h : blkP b0 (.cells #[.int .u8 65, .int .u8 66, .int .u8 67, .int .u8 68] 5 (4, 5)) ∈ L) : RdB y (.slice (some ⟨b0, 0, none⟩) 4 4) [65, 66, 67, 68] := ⟨(Rds.blk (l := L) rfl (by decide) h) emp y hs.withEmp, by decide⟩
set_option maxRecDepth 100000 in
set_option maxHeartbeats 8000000 in
theorem cAlive28 (w : World) : Calls Try.prog 32 #[] w fun e w' => e = .returned (.bool true) ∧ Below w.heap.size w w' := by
  have H0 := hid (Sts.nil w)
  go_enter Try.func32, Try.ntmps32
  go_wp2_with fail
  refine (cLId _).mono ?_
  rintro e w1 ⟨rfl, hb⟩
  have H1 := hid (H0.out.quiet stab0 hb)
  clear hb H0
  go_wp2_with fail
  refine (cLConfig _).mono ?_
  rintro e w2 ⟨rfl, hb⟩
  have H2 := hid (H1.out.quiet stab0 hb)
  clear hb H1
  go_wp2_with fail
  refine (cKNewOk stab0 1 5 2 2 10 2 H2.out (by decide)).mono ?_
  rintro e w3 ⟨q, rfl, h⟩
  have H3 : Hid (Sts w [snkP q (Fil.snk0 2)] w3) := hid h
  clear h H2
  have kc := fun (w : World) (C : Array Value) (n c : Nat) => Lib.run_convert_bytes_const (P := Try.prog) w 24 5 C n c Try.underlying24 Try.underlying5
  go_wp2_with fail
  clear kc
  have H4 := hid (H3.out.alloc (stab1 (snkP_stable _ _)) (.cells #[.int .u8 65, .int .u8 66, .int .u8 67, .int .u8 68] 5 (4, 5))).swap
  clear H3
  generalize w3.heap.size = b0 at *
  generalize w3.alloc (.cells #[.int .u8 65, .int .u8 66, .int .u8 67, .int .u8 68] 5 (4, 5)) = w4 at *
  refine (cLPiece w4 _ [65, 66, 67, 68] (rdABCD H4.out (by simp)) 2 4 (by decide) (by decide) (by decide)).mono ?_
  rintro e w5 ⟨va, vc, rfl, hN⟩
  have H5 : Hid (Sts w [snkP q (Fil.snk0 2), rowP 5 1 (.slice va 2 vc) 2 (u8s [67, 68]), blkP b0 (.cells #[.int .u8 65, .int .u8 66, .int .u8 67, .int .u8 68] 5 (4, 5))] w5) := hid ((H4.out.new (stabC (snkP_stable _ _) (stabC (blkP_stable _ _) stab0)) hN).swap)
  clear H4 hN
  go_wp2_with fail
  refine (cTakeS (stabC (rowP_stable _ _ _ _ _) (stabC (blkP_stable _ _) stab0)) q _ _ _ 5 (Fil.pieceQ 2 va [67, 68] vc) H5.out (show (0 : Nat) ≤ 1000 by omega) (show (2 : Nat) ≤ 1000 by omega) ⟨rfl, rfl, rfl⟩ (rdP_row (by decide)) (fun _ => rfl) (by kernel_rfl) (Fil.al1_fit va vc) (Fil.al1_eq va vc)).mono ?_
  rintro e w6 ⟨rfl, h⟩
  have H6 := hid h.swap.tail
  clear h H5
  go_wp2_with fail
  refine (cLEnd w6 2 _ [65, 66, 67, 68] (rdABCD H6.out (by simp)) (by decide)).mono ?_
  rintro e w7 ⟨rfl, hb⟩
  have H7 := hid (H6.out.quiet (stabC (snkP_stable _ _) (stabC (blkP_stable _ _) stab0)) hb)
  clear hb H6
  go_wp2_with fail
  refine (cTakeS (stabC (blkP_stable _ _) stab0) q _ _ _ 5 (Fil.endP 2 4 (Fil.sumV [65, 66, 67, 68])) H7.out (by decide) (by decide) ⟨rfl, rfl, rfl⟩ (rdP_none ⟨rfl, rfl, rfl⟩) (fun _ => rfl) (by kernel_rfl) Fil.al2_fit Fil.al2_eq).mono ?_
  rintro e w8 ⟨rfl, h⟩
  have H8 := hid h
  clear h H7
  go_wp2_with fail
  refine (cNxtAck (stabC (blkP_stable _ _) stab0) q _ Fil.al2 H8.out 5 rfl rfl rfl).mono ?_
  rintro e w9 ⟨rfl, h⟩
  have H9 : Hid (Sts w (blkP w9.heap.size (.cells zeroPdu 45 (0, 0)) :: [snkP q Fil.al3, blkP b0 (.cells #[.int .u8 65, .int .u8 66, .int .u8 67, .int .u8 68] 5 (4, 5))]) (w9.alloc (.cells #[.int .i64 0, .int .i64 0, .int .i64 0, .int .i64 0, .string ⟨#[]⟩, .int .i64 0, .int .i64 0, .slice none 0 0, .int .u32 0, .int .i64 0, .slice none 0 0] 45))) := hid (Sts.alloc (stabC (snkP_stable _ _) (stabC (blkP_stable _ _) stab0)) h (.cells zeroPdu 45 (0, 0)))
  clear h H8
  go_wp2_with (first | (refine wpList_agg H9.out (stabC (snkP_stable _ _) (stabC (blkP_stable _ _) stab0)) rfl (.tmp 6) (.tmp 40) 45 rfl (Fil.al2.unitP 6).cells rfl rfl sizePdu rfl rfl ?_; intro w10 hz; have H10 := hid hz.swap; clear hz H9))
  generalize w9.heap.size = b6 at *
  refine (cNxtNakB (stabC (blkP_stable _ _) (stabC (blkP_stable _ _) stab0)) q _ Fil.al3 H10.out 5 rfl rfl rfl (by decide) rfl (by decide) rfl rfl 4 rfl (by decide) (by decide) Fil.al4 rfl [(0, 0), (0, 2)] Fil.al4_gaps).mono ?_
  rintro e w11 ⟨ga, gc, rfl, h⟩
  have H11 : Hid (Sts w (blkP w11.heap.size (.cells zeroPdu 45 (0, 0)) :: [snkP q Fil.al4, rowP 81 2 (.slice ga 2 gc) 2 (Fil.rcells [(0, 0), (0, 2)]), blkP b6 (.cells (Fil.al2.unitP 6).cells 45 (0, 0)), blkP b0 (.cells #[.int .u8 65, .int .u8 66, .int .u8 67, .int .u8 68] 5 (4, 5))]) (w11.alloc (.cells #[.int .i64 0, .int .i64 0, .int .i64 0, .int .i64 0, .string ⟨#[]⟩, .int .i64 0, .int .i64 0, .slice none 0 0, .int .u32 0, .int .i64 0, .slice none 0 0] 45))) := hid (Sts.alloc (stabC (snkP_stable _ _) (stabC (rowP_stable _ _ _ _ _) (stabC (blkP_stable _ _) (stabC (blkP_stable _ _) stab0)))) h (.cells zeroPdu 45 (0, 0)))
  clear h H10
  go_wp2_with (first | (refine wpList_agg H11.out (stabC (snkP_stable _ _) (stabC (rowP_stable _ _ _ _ _) (stabC (blkP_stable _ _) (stabC (blkP_stable _ _) stab0)))) rfl (.tmp 8) (.tmp 45) 45 rfl ({ kind := 4, src := 1, num := 5, ga := ga, gaps := [(0, 0), (0, 2)], gc := gc } : Fil.Pdu).cells rfl rfl sizePdu rfl rfl ?_; intro w12 hz; have H12 := hid hz.swap; clear hz H11))
  generalize w11.heap.size = b8 at *
  refine (cNxtZero (stabC (blkP_stable _ _) (stabC (rowP_stable _ _ _ _ _) (stabC (blkP_stable _ _) (stabC (blkP_stable _ _) stab0)))) q _ Fil.al4 H12.out 5 rfl rfl rfl (by decide) rfl (by decide) rfl).mono ?_
  rintro e w13 ⟨rfl, h⟩
  have H13 := hid (Sts.alloc (stabC (snkP_stable _ _) (stabC (blkP_stable _ _) (stabC (rowP_stable _ _ _ _ _) (stabC (blkP_stable _ _) (stabC (blkP_stable _ _) stab0))))) h (.cells zeroPdu 45 (0, 0)))
  clear h H12
  go_wp2_with (first | (refine wpList_agg H13.out (stabC (snkP_stable _ _) (stabC (blkP_stable _ _) (stabC (rowP_stable _ _ _ _ _) (stabC (blkP_stable _ _) (stabC (blkP_stable _ _) stab0))))) rfl (.tmp 10) (.tmp 50) 45 rfl zeroPdu rfl rfl sizePdu rfl rfl ?_; intro w14 hz; have H14 := hid hz.tail; clear hz H13))
  refine (cLMeta w14 2 _ 4 4).mono ?_
  rintro e w15 ⟨rfl, hb⟩
  have H15 := hid (H14.out.quiet (stabC (snkP_stable _ _) (stabC (blkP_stable _ _) (stabC (rowP_stable _ _ _ _ _) (stabC (blkP_stable _ _) (stabC (blkP_stable _ _) stab0))))) hb)
  clear hb H14
  go_wp2_with fail
  refine (cTakeS (stabC (blkP_stable _ _) (stabC (rowP_stable _ _ _ _ _) (stabC (blkP_stable _ _) (stabC (blkP_stable _ _) stab0)))) q _ _ _ 6 (Fil.metaP 2 4) H15.out (by decide) (by decide) ⟨rfl, rfl, rfl⟩ (rdP_none ⟨rfl, rfl, rfl⟩) (fun _ => rfl) (by kernel_rfl) Fil.al6_fit Fil.al6_eq).mono ?_
  rintro e w16 ⟨rfl, h⟩
  have H16 := hid h
  clear h H15
  go_wp2_with fail
  refine (cLPiece w16 _ [65, 66, 67, 68] (rdABCD H16.out (by simp)) 0 2 (by decide) (by decide) (by decide)).mono ?_
  rintro e w17 ⟨va2, vc2, rfl, hN⟩
  have H17 := hid ((H16.out.new (stabC (snkP_stable _ _) (stabC (blkP_stable _ _) (stabC (rowP_stable _ _ _ _ _) (stabC (blkP_stable _ _) (stabC (blkP_stable _ _) stab0))))) hN).swap)
  clear H16 hN
  go_wp2_with fail
  refine (cTakeS (stabC (rowP_stable _ _ _ _ _) (stabC (blkP_stable _ _) (stabC (rowP_stable _ _ _ _ _) (stabC (blkP_stable _ _) (stabC (blkP_stable _ _) stab0))))) q _ _ _ 6 (Fil.pieceQ 0 va2 [65, 66] vc2) H17.out (show (0 : Nat) ≤ 1000 by omega) (show (2 : Nat) ≤ 1000 by omega) ⟨rfl, rfl, rfl⟩ (rdP_row (by decide)) (fun _ => rfl) (by kernel_rfl) (Fil.al7_fit va2 vc2) (Fil.al7_eq va2 vc2)).mono ?_
  rintro e w18 ⟨rfl, h⟩
  have H18 := hid h.swap.tail
  clear h H17
  go_wp2_with fail
  refine (cFileYes (stabC (blkP_stable _ _) (stabC (rowP_stable _ _ _ _ _) (stabC (blkP_stable _ _) (stabC (blkP_stable _ _) stab0)))) q Fil.al7 H18.out (Or.inl rfl) (Fil.fit_of (s := Fil.al7) (by kernel_rfl)).1).mono ?_
  rintro e w19 ⟨fr, rfl, h⟩
  have H19 : Hid (Sts w [rowP 5 1 fr 4 (u8s [65, 66, 67, 68]), snkP q Fil.al7, blkP b8 (.cells ({ kind := 4, src := 1, num := 5, ga := ga, gaps := [(0, 0), (0, 2)], gc := gc } : Fil.Pdu).cells 45 (0, 0)), rowP 81 2 (.slice ga 2 gc) 2 (Fil.rcells [(0, 0), (0, 2)]), blkP b6 (.cells (Fil.al2.unitP 6).cells 45 (0, 0)), blkP b0 (.cells #[.int .u8 65, .int .u8 66, .int .u8 67, .int .u8 68] 5 (4, 5))] w19) := hid h
  have e8 : w19.cell? ⟨b8, 0, none⟩ = some (.int .i64 4) := (Sts.boxCell H19.out.tail.tail 0 _ rfl).1
  have g8 : w19.cell? ⟨b8, 10, none⟩ = some (.slice ga 2 gc) := (Sts.boxCell H19.out.tail.tail 10 _ rfl).1
  have e6 : w19.cell? ⟨b6, 0, none⟩ = some (.int .i64 6) := (Sts.boxCell H19.out.tail.tail.tail.tail 0 _ rfl).1
  clear h H18
  rw [show Fil.al7.name = ⟨#[120]⟩ from rfl]
  go_wp2_with fail
  have HSA := hid (H19.out.alloc (stabC (rowP_stable _ _ _ _ _) (stabC (snkP_stable _ _) (stabC (blkP_stable _ _) (stabC (rowP_stable _ _ _ _ _) (stabC (blkP_stable _ _) (stabC (blkP_stable _ _) stab0)))))) (.cells #[.int .i64 0, .int .i64 0, .int .i64 0, .int .i64 2] 81 (0, 0)))
  clear e8 g8 e6 H19
  refine (cLSame _ _ _ [(0, 0), (0, 2)] (RdR.of_own (Sts.rowOwnK (HSA.out.tail.tail.tail.tail)) rfl) (rdR_two w19 0 0 0 2) (by decide)).mono ?_
  rintro e w20 ⟨rfl, hb⟩
  have H20 := hid (HSA.out.tail.quiet (stabC (rowP_stable _ _ _ _ _) (stabC (snkP_stable _ _) (stabC (blkP_stable _ _) (stabC (rowP_stable _ _ _ _ _) (stabC (blkP_stable _ _) (stabC (blkP_stable _ _) stab0)))))) hb)
  clear hb HSA
  have cv : (convert 24 9 fr).run Try.prog w20 = .ok (.string ⟨#[65, 66, 67, 68]⟩) w20 := RdB.str (l := [65, 66, 67, 68]) ⟨Rd.of_own (Sts.rowOwn H20.out) rfl, by decide⟩ 24 9 5 Try.underlying24 Try.underlying5 Try.underlying9
  have H21 : Hid (Sts w [snkP q Fil.al7] w20) := hid H20.out.tail.swap.tail.swap.tail.swap.tail.swap.tail
  clear H20
  go_wp2_with fail
  clear cv
  refine (cStateK q Fil.al7 H21.out).mono ?_
  rintro e w21 ⟨rfl, rfl⟩
  rw [show Fil.al7.stateV = 2 from rfl]
  go_wp2_with fail
  have hcl := cCloseK stab0 q Fil.al7 H21.out 0 7
  rw [Fil.al8_eq] at hcl
  refine hcl.mono ?_
  rintro e w22 ⟨rfl, h⟩
  have H22 : Hid (Sts w [snkP q Fil.al8] w22) := hid h
  clear h hcl H21
  go_wp2_with fail
  refine (cNxtRep2 stab0 q _ Fil.al8 H22.out 7 rfl rfl rfl (by decide) (by decide) rfl).mono ?_
  rintro e w23 ⟨rfl, h⟩
  have H23 : Hid (Sts w (blkP w23.heap.size (.cells zeroPdu 45 (0, 0)) :: [snkP q Fil.al9]) (w23.alloc (.cells #[.int .i64 0, .int .i64 0, .int .i64 0, .int .i64 0, .string ⟨#[]⟩, .int .i64 0, .int .i64 0, .slice none 0 0, .int .u32 0, .int .i64 0, .slice none 0 0] 45))) := hid (Sts.alloc (stabC (snkP_stable _ _) stab0) h (.cells zeroPdu 45 (0, 0)))
  clear h H22
  go_wp2_with (first | (refine wpList_agg H23.out (stabC (snkP_stable _ _) stab0) rfl (.tmp 16) (.tmp 117) 45 rfl Fil.al8.reportP.cells rfl rfl sizePdu rfl rfl ?_; intro w24 hz; have H24 := hid hz.swap; clear hz H23))
  generalize w23.heap.size = b16 at *
  refine (cLId _).mono ?_
  rintro e w25 ⟨rfl, hb⟩
  have H25 := hid (H24.out.quiet (stabC (snkP_stable _ _) (stabC (blkP_stable _ _) stab0)) hb)
  clear hb H24
  go_wp2_with fail
  refine (cTakeS (stabC (blkP_stable _ _) stab0) q _ _ _ 8 Fil.doneP H25.out (show (0 : Nat) ≤ 1000 by omega) (show (0 : Nat) ≤ 1000 by omega) ⟨rfl, rfl, rfl⟩ (rdP_none ⟨rfl, rfl, rfl⟩) (fun _ => rfl) (by kernel_rfl) Fil.al10_fit Fil.al10_eq).mono ?_
  rintro e w26 ⟨rfl, h⟩
  have H26 := hid h
  have e16 : w26.cell? ⟨b16, 0, none⟩ = some (.int .i64 5) := (Sts.boxCell h.tail 0 _ rfl).1
  have c16 : w26.cell? ⟨b16, 9, none⟩ = some (.int .i64 0) := (Sts.boxCell h.tail 9 _ rfl).1
  clear h H25
  go_wp2_with fail
  refine (cStateK q Fil.al10 H26.out).mono ?_
  rintro e w27 ⟨rfl, rfl⟩
  rw [show Fil.al10.stateV = 4 from rfl]
  go_wp2_with fail
  go_ret
  exact ⟨rfl, H26.out.below⟩
end Go.Proofs.Ytfjadhkhmhnccaa
