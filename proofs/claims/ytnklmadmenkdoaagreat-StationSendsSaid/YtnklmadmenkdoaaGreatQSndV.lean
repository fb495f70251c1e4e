/- A tick of the ground segment in which nothing arrives. -/
import Derived.Test.YtnklmadmenkdoaaGreatQSndU
set_option linter.unusedVariables false
set_option linter.unusedSimpArgs false
namespace Go.Proofs.YtnklmadmenkdoaaGreat
open Go.RowKit Go.Proofs.Num
theorem share4 {G : Nat → Option Addr → Nat → World → Prop} {goal : Prop} (S : Nat → Option Addr → Nat → World → Prop) (main : (∀ g1 a b z, S g1 a b z → G g1 a b z) → goal) (key : ∀ g1 a b z, S g1 a b z → G g1 a b z) : goal := main key
theorem Sts.sub {W w : World} {l m : List HProp} (h : Sts W l w) (s : m.Sublist l) : Sts W m w := by
  obtain ⟨r, hr⟩ := s.exists_perm_append
  have h2 := h.perm hr
  obtain ⟨F, a, b, c⟩ := h2
  obtain ⟨F1, F2, a1, _, _, hF⟩ := stars_app.1 a
  exact ⟨F1, a1, b, fun k hk => c k ((hF k).2 (Or.inl hk))⟩
theorem share1 {G : Nat → World → Prop} {goal : Prop} (S : Nat → World → Prop) (main : (∀ g1 z, S g1 z → G g1 z) → goal) (key : ∀ g1 z, S g1 z → G g1 z) : goal := main key
set_option maxRecDepth 100000 in
theorem szPduS : ∀ w, (Go.sizeOf 135).run Tryz.prog w = .ok 11 w := fun w => by first | rfl | simp [go_sem] | kernel_rfl
set_option maxRecDepth 100000 in
theorem eff_allocPdu {L : Prop} {o : Oper} {a : Act} {D : WP} {K : Act → WP → WP → Prop} {W y : World} {l : List HProp} (hl : ∀ B ∈ l, Stable B) (hS : Sts W l y) (ho : o.op = .alloc 135) (hD : ∀ z g, Sts W (blkP g (.cells pdu0 135 (0, 0)) :: l) z → D z)
    (hk : ∀ g, K (a.put o.dst (.pointer (some ⟨g, 0, none⟩))) D (fun z => Sts W (blkP g (.cells pdu0 135 (0, 0)) :: l) z)) : effUpon Tryz.prog L o.dst a D K ((execOp a.eval o).run Tryz.prog y) := by
  have h := hS.alloc hl (.cells pdu0 135)
  refine eff_value (w := y.alloc (.cells pdu0 135)) (v := .pointer (some ⟨y.heap.size, 0, none⟩)) D _ ?_ h (fun z hz => hD z _ hz) (fun _ h => h) (hk _)
  unfold execOp
  simp only [ho]
  kernel_rfl
theorem cFopStateP {W w : World} {l : List HProp} {fq fl fr now tm : Nat} {us : List (List Nat)} (hs : Sts W (fopP fq us fl fr now tm :: l) w) : Calls Tryz.prog 51 #[.pointer (some ⟨fq, 0, none⟩)] w fun e w' => e = .returned (.int .i64 1) ∧ w = w' := by
  obtain ⟨uv, vs, h0⟩ := Sts.openF hs
  exact cFopState fq 16 uv 0 (fl : Int) (fr : Int) 5 0 20 10 1 (now : Int) (tm : Int) 0 h0
theorem cFopQueuedP {W w : World} {l : List HProp} {fq fl fr now tm : Nat} {us : List (List Nat)} (hs : Sts W (fopP fq us fl fr now tm :: l) w) : Calls Tryz.prog 53 #[.pointer (some ⟨fq, 0, none⟩)] w fun e w' => e = .returned (.int .i64 (us.length : Int)) ∧ w = w' := by
  obtain ⟨uv, vs, h0⟩ := Sts.openF hs
  obtain ⟨ua, uc, hue⟩ := own_slice h0.tail.rowOwn
  subst hue
  exact cFopQueued fq 16 ua us.length uc 0 (fl : Int) (fr : Int) 5 0 20 10 1 (now : Int) (tm : Int) 0 h0
set_option maxRecDepth 100000 in
theorem eff_allocTc {L : Prop} {o : Oper} {a : Act} {D : WP} {K : Act → WP → WP → Prop} {W y : World} {l : List HProp} (hl : ∀ B ∈ l, Stable B) (hS : Sts W l y) (ho : o.op = .alloc 46) (hD : ∀ z g, Sts W (blkP g (.cells zeroTc 46 (0, 0)) :: l) z → D z)
    (hk : ∀ g, K (a.put o.dst (.pointer (some ⟨g, 0, none⟩))) D (fun z => Sts W (blkP g (.cells zeroTc 46 (0, 0)) :: l) z)) : effUpon Tryz.prog L o.dst a D K ((execOp a.eval o).run Tryz.prog y) := by
  have h := hS.alloc hl (.cells zeroTc 46)
  refine eff_value (w := y.alloc (.cells zeroTc 46)) (v := .pointer (some ⟨y.heap.size, 0, none⟩)) D _ ?_ h (fun z hz => hD z _ hz) (fun _ h => h) (hk _)
  unfold execOp
  simp only [ho]
  kernel_rfl
/-- The frames of the units from fl on. -/
def frs (us : List (List Nat)) (fl j : Nat) : List (List Nat) := (List.range j).map (fun i => tcB false false 5 0 (fl + i) (us.getD (fl + i) []))
theorem frs_succ (us : List (List Nat)) (fl j : Nat) : frs us fl (j + 1) = frs us fl j ++ [tcB false false 5 0 (fl + j) (us.getD (fl + j) [])] := by simp [frs, List.range_succ]
/-- What a tick leaves: the frames that went out. -/
def stepPost (W : World) (l : List HProp) (g fi u0 u1 u2 ar tq c fq mp next k : Nat) (us : List (List Nat)) (fl t : Nat) (e : Ending) (w' : World) : Prop :=
  ∃ ov ovs j fn' tm', e = .returned ov ∧ j = min 4 (us.length - fl) ∧ fn' ≤ t + 1 ∧ tm' ≤ t + 1 ∧ Sts W (fopP fq us (fl + j) (fl + j) fn' tm' :: blkP g (.cells (staC fi u0 u1 u2 ar tq c fq mp (t + 1) next) 119 (0, 0)) :: blkP mp (cntO k) :: trkP tq k :: couP c (t + 1) :: rowP 35 1 ov j ovs :: rowsP 5 ovs (frs us fl j) :: l) w'
section
variable {W w : World} {l : List HProp} (hl : ∀ B ∈ l, Stable B) (g fi u0 u1 u2 ar tq c fq mp next k : Nat) (us : List (List Nat)) (fl fnow tm t : Nat)
include hl
set_option maxRecDepth 100000 in
set_option maxHeartbeats 8000000 in
theorem cStep (hs : Sts W (blkP g (.cells (staC fi u0 u1 u2 ar tq c fq mp t next) 119 (0, 0)) :: blkP mp (cntO k) :: fopP fq us fl fl fnow tm :: trkP tq k :: couP c t :: l) w) (ht : t < 19) (hft : fnow ≤ t + 1) (htm : tm ≤ t + 1) (hfl : fl ≤ us.length) (hus : us.length < 16) (hu : ∀ u ∈ us, 1 ≤ u.length ∧ u.length ≤ 1017) (hub : ∀ u ∈ us, ∀ x ∈ u, x < 256) :
    Calls Tryz.prog 13 #[.pointer (some ⟨g, 0, none⟩), .slice none 0 0] w (stepPost W l g fi u0 u1 u2 ar tq c fq mp next k us fl t) := by
  have HUSE := hid (cStaUsable g fi u0 u1 u2 ar tq c fq mp hs)
  have HS := hid hs
  have HL := hid hl
  obtain ⟨n, hn⟩ : ∃ n, n = t + 1 := ⟨_, rfl⟩
  have c9 : w.cell? ⟨g, 9, none⟩ = some (.int .i64 (t : Int)) := (Sts.boxCell hs 9 _ rfl).1
  have b1 : ((t : Int) == 1099511627776) = false := by rw [beq_eq_false_iff_ne]; omega
  have e1 : wrap64 ((t : Int) + 1) = (n : Int) := by unfold wrap64; omega
  have e2 : IntKind.i64.wrap ((t : Int) + 1) = (n : Int) := by rw [IntKind.wrap_i64]; omega
  have HN := hid hn
  have HT := hid ht
  have HFT := hid hft
  have HTM := hid htm
  have HFL := hid hfl
  have HUS := hid hus
  have HU := hid hu
  have HUB := hid hub
  have HLR := hid (show ∀ B ∈ blkP mp (cntO k) :: fopP fq us fl fl fnow tm :: trkP tq k :: couP c t :: l, Stable B from stabC (blkP_stable _ _) (stabC (fopP_stable _ _ _ _ _ _) (stabC (trkP_stable _ _) (stabC (couP_stable _ _) hl))))
  have HCN := hid (show ∀ (l' : List HProp) (_ : ∀ B ∈ l', Stable B) (y : World) (_ : Sts W (couP c t :: l') y), Calls Tryz.prog 54 #[.pointer (some ⟨c, 0, none⟩), .int .i64 (n : Int)] y fun e w' => e = .returned (.tuple #[.agg pdu0, .bool false]) ∧ Sts W (couP c n :: l') w' from by intro l' hl' y hy; rw [hn]; exact cCouNext hl' c t (by omega) hy)
  clear hs hl ht hft htm hfl hus hu hub hn
  go_enter Tryz.func13, Tryz.ntmps13
  go_wp2_with (first
    | (go_at_call 42; refine HUSE.out.mono ?_; rintro e w1 ⟨rfl, rfl⟩)
    | (refine wpList_cellS HS.out HLR.out rfl (.tmp 37) (.tmp 35) 3 rfl 9 (.int .i64 (n : Int)) rfl rfl szInt (show 9 < 13 by decide) rfl ?_; intro w2 h2
       have H2 : Hid (Sts W (blkP g (.cells (staC fi u0 u1 u2 ar tq c fq mp n next) 119 (0, 0)) :: blkP mp (cntO k) :: fopP fq us fl fl fnow tm :: trkP tq k :: couP c t :: l) w2) := hid h2
       have c10 : w2.cell? ⟨g, 10, none⟩ = some (.pointer (some ⟨fq, 0, none⟩)) := (Sts.boxCell h2 10 _ rfl).1
       clear h2))
  have HFOP := hid (show Sts W (fopP fq us fl fl fnow tm :: blkP g (.cells (staC fi u0 u1 u2 ar tq c fq mp n next) 119 (0, 0)) :: blkP mp (cntO k) :: trkP tq k :: couP c t :: l) w2 from H2.out.third)
  have HST := hid (cFopStateP HFOP.out)
  have HQU := hid (cFopQueuedP HFOP.out)
  have dq : decide (248 < (us.length : Int)) = false := decide_eq_false (by have := HUS.out; omega)
  have H3 := hid (show Sts W (couP c t :: blkP g (.cells (staC fi u0 u1 u2 ar tq c fq mp n next) 119 (0, 0)) :: blkP mp (cntO k) :: fopP fq us fl fl fnow tm :: trkP tq k :: l) w2 from H2.out.perm (List.perm_middle (l₁ := [_, _, _, _])))
  have HL3 := hid (show ∀ B ∈ blkP g (.cells (staC fi u0 u1 u2 ar tq c fq mp n next) 119 (0, 0)) :: blkP mp (cntO k) :: fopP fq us fl fl fnow tm :: trkP tq k :: l, Stable B from stabC (blkP_stable _ _) (stabC (blkP_stable _ _) (stabC (fopP_stable _ _ _ _ _ _) (stabC (trkP_stable _ _) HL.out))))
  go_loopw [40] (fun i wr => i = .int .i64 0 ∧ wr = w2) (fun _ _ => 0)
  case atStart => exact ⟨rfl, rfl⟩
  case round =>
    obtain ⟨rfl, rfl⟩ := hrel
    go_wp2_with (first
      | (go_at_call 51; refine HST.out.mono ?_; rintro e w1 ⟨rfl, rfl⟩))
    go_loopw [114] (fun i wr' => i = .int .i64 0 ∧ wr' = wr) (fun _ _ => 0)
    case atStart => exact ⟨rfl, rfl⟩
    case round =>
      obtain ⟨rfl, rfl⟩ := hrel
      go_wp2_with (first
        | (go_at_call 53; refine HQU.out.mono ?_; rintro e w1 ⟨rfl, rfl⟩))
      apply share1 (fun gp z => Sts W (blkP gp (.cells pdu0 135 (0, 0)) :: couP c n :: blkP g (.cells (staC fi u0 u1 u2 ar tq c fq mp n next) 119 (0, 0)) :: blkP mp (cntO k) :: fopP fq us fl fl fnow tm :: trkP tq k :: l) z)
      · intro key
        refine wp_region_ordQ (.pure 0 (.pure 1 (.pure 2 (.pure 3 (.pure 4 (.pure 5 (.pure 6 (.pure 7 (.pure 8 (.eff2 9 13 (.pure 10 (.pure 11 (.pure 12 (.eff 13 (.eff 14 (.pure 15 .nil)))))) (.eff 9 (.pure 10 (.pure 11 (.pure 12 (.eff 14 (.pure 15 .nil)))))))))))))))) (fun y => y.cell? ⟨g, 6, none⟩ = some (.pointer (some ⟨c, 0, none⟩)) ∧ y.cell? ⟨g, 9, none⟩ = some (.int .i64 (n : Int))) (fun y => Sts W (couP c t :: blkP g (.cells (staC fi u0 u1 u2 ar tq c fq mp n next) 119 (0, 0)) :: blkP mp (cntO k) :: fopP fq us fl fl fnow tm :: trkP tq k :: l) y) (by kernel_rfl) (by kernel_rfl) (H3.out.drew (stabC (couP_stable _ _) HL3.out)) (fun y hy => ⟨(Sts.boxCell hy.tail 6 _ rfl).1, (Sts.boxCell hy.tail 9 _ rfl).1⟩) ?_
        iterate 9
          (apply ordq_pure (ho := rfl)
           · go_simp
           · intro x hx; obtain ⟨k0, k1⟩ := hx; go_simp; rfl
           apply ordq_norm
           · go_simp; rfl)
        refine ordq_eff2 ?_ ?_
        · apply ordq_eff (ho := rfl)
          · go_simp
          intro y hy
          refine eff_call (f := 54) (by go_simp) (HCN.out _ HL3.out y hy) ?_
          rintro e w4 ⟨rfl, h5⟩
          refine ⟨_, rfl, (fun y => y.cell? ⟨g, 6, none⟩ = some (.pointer (some ⟨c, 0, none⟩)) ∧ y.cell? ⟨g, 9, none⟩ = some (.int .i64 (n : Int))), (fun y => Sts W (couP c n :: blkP g (.cells (staC fi u0 u1 u2 ar tq c fq mp n next) 119 (0, 0)) :: blkP mp (cntO k) :: fopP fq us fl fl fnow tm :: trkP tq k :: l) y), h5, (fun y hy => ⟨(Sts.boxCell hy.tail 6 _ rfl).1, (Sts.boxCell hy.tail 9 _ rfl).1⟩), (fun _ h => h), ?_⟩
          clear h5 hy y
          apply ordq_norm
          · go_simp; rfl
          iterate 3
            (apply ordq_pure (ho := rfl)
             · go_simp
             · intro x hx; go_simp; rfl
             apply ordq_norm
             · go_simp; rfl)
          apply ordq_eff (ho := rfl)
          · go_simp
          intro y hy
          refine eff_allocPdu (stabC (couP_stable _ _) HL3.out) hy rfl (fun z gp hz => ⟨(Sts.boxCell hz.tail.tail 6 _ rfl).1, (Sts.boxCell hz.tail.tail 9 _ rfl).1⟩) ?_
          intro gp
          apply ordq_norm
          · go_simp; rfl
          clear hy y
          apply ordq_eff (ho := rfl)
          · go_simp
          intro y hy
          refine eff_aggS hy (stabC (couP_stable _ _) HL3.out) (.tmp 12) (.tmp 133) 135 rfl pdu0 ?_ ?_ szPduS rfl rfl (fun y => y.cell? ⟨g, 6, none⟩ = some (.pointer (some ⟨c, 0, none⟩)) ∧ y.cell? ⟨g, 9, none⟩ = some (.int .i64 (n : Int))) (fun z hz => ⟨(Sts.boxCell hz.tail.tail 6 _ rfl).1, (Sts.boxCell hz.tail.tail 9 _ rfl).1⟩) ?_
          · go_simp
          · go_simp
          apply ordq_norm
          · go_simp; rfl
          clear hy y
          iterate 1
            (apply ordq_pure (ho := rfl)
             · go_simp
             · intro x hx; go_simp; rfl
             apply ordq_norm
             · go_simp; rfl)
          refine ordq_nil fun z hz => ?_
          exact key gp z hz
        · apply ordq_eff (ho := rfl)
          · go_simp
          intro y hy
          refine eff_allocPdu (stabC (couP_stable _ _) HL3.out) hy rfl (fun z gp hz => ⟨(Sts.boxCell hz.tail.tail 6 _ rfl).1, (Sts.boxCell hz.tail.tail 9 _ rfl).1⟩) ?_
          intro gp
          apply ordq_norm
          · go_simp; rfl
          clear hy y
          apply ordq_eff (ho := rfl)
          · go_simp
          intro y hy
          refine eff_call (f := 54) (by go_simp) (HCN.out _ (stabC (blkP_stable gp (.cells pdu0 135 (0, 0))) HL3.out) y hy.swap) ?_
          rintro e w4 ⟨rfl, h5⟩
          refine ⟨_, rfl, (fun y => y.cell? ⟨g, 6, none⟩ = some (.pointer (some ⟨c, 0, none⟩)) ∧ y.cell? ⟨g, 9, none⟩ = some (.int .i64 (n : Int))), (fun y => Sts W (couP c n :: blkP gp (.cells pdu0 135 (0, 0)) :: blkP g (.cells (staC fi u0 u1 u2 ar tq c fq mp n next) 119 (0, 0)) :: blkP mp (cntO k) :: fopP fq us fl fl fnow tm :: trkP tq k :: l) y), h5, (fun y hy => ⟨(Sts.boxCell hy.tail.tail 6 _ rfl).1, (Sts.boxCell hy.tail.tail 9 _ rfl).1⟩), (fun _ h => h), ?_⟩
          clear h5 hy y
          apply ordq_norm
          · go_simp; rfl
          iterate 3
            (apply ordq_pure (ho := rfl)
             · go_simp
             · intro x hx; go_simp; rfl
             apply ordq_norm
             · go_simp; rfl)
          apply ordq_eff (ho := rfl)
          · go_simp
          intro y hy
          refine eff_aggS hy.swap (stabC (couP_stable _ _) HL3.out) (.tmp 12) (.tmp 133) 135 rfl pdu0 ?_ ?_ szPduS rfl rfl (fun y => y.cell? ⟨g, 6, none⟩ = some (.pointer (some ⟨c, 0, none⟩)) ∧ y.cell? ⟨g, 9, none⟩ = some (.int .i64 (n : Int))) (fun z hz => ⟨(Sts.boxCell hz.tail.tail 6 _ rfl).1, (Sts.boxCell hz.tail.tail 9 _ rfl).1⟩) ?_
          · go_simp
          · go_simp
          apply ordq_norm
          · go_simp; rfl
          clear hy y
          iterate 1
            (apply ordq_pure (ho := rfl)
             · go_simp
             · intro x hx; go_simp; rfl
             apply ordq_norm
             · go_simp; rfl)
          refine ordq_nil fun z hz => ?_
          exact key gp z hz
      · intro gp z hz
        have HZ := hid (show Sts W (blkP g (.cells (staC fi u0 u1 u2 ar tq c fq mp n next) 119 (0, 0)) :: blkP mp (cntO k) :: fopP fq us fl fl fnow tm :: trkP tq k :: couP c n :: l) z from hz.tail.perm (List.perm_append_comm (l₁ := [_]) (l₂ := [_, _, _, _]) |>.append_right l))
        clear hz H3 HQU HST HFOP H2 HS c9 c10
        go_wp2_with fail
        go_loopw [16, 148] (fun o i wr => ∃ j fn' tm' ovs, j ≤ 4 ∧ i = .int .i64 ((j : Nat) : Int) ∧ fl + j ≤ us.length ∧ fn' ≤ n ∧ tm' ≤ n ∧ Sts W (fopP fq us (fl + j) (fl + j) fn' tm' :: blkP g (.cells (staC fi u0 u1 u2 ar tq c fq mp n next) 119 (0, 0)) :: blkP mp (cntO k) :: trkP tq k :: couP c n :: rowP 35 1 o j ovs :: rowsP 5 ovs (frs us fl j) :: l) wr) (fun _ i _ => 4 - (intOf i).toNat)
        case atStart =>
          refine ⟨0, fnow, tm, [], by decide, rfl, HFL.out, by have := HN.out; have := HFT.out; omega, by have := HN.out; have := HTM.out; omega, ?_⟩
          have h1 := ((Sts.rowNil 35 (Sts.withEmp HZ.out)).perm (List.perm_append_comm (l₁ := [_, _]) (l₂ := [_, _, _, _, _]) |>.append_right l))
          exact h1.perm (List.Perm.trans ((List.Perm.swap _ _ _).trans (List.Perm.refl _) |>.cons _ |> fun h => h) (List.Perm.swap _ _ _))
        case round =>
          obtain ⟨j, fn', tm', ovs, hj, rfl, hfj, hfn, htm', hs⟩ := hrel
          obtain ⟨oa, oc, hoe⟩ := own_slice (hs.perm (List.perm_middle (l₁ := [_, _, _, _, _]))).rowOwn
          subst hoe
          have hovs : ovs.length = j := by obtain ⟨F, hF⟩ := (hs.tail.tail.tail.tail.tail.tail).head; have := rowsP_len hF; simpa [frs] using this
          by_cases h4 : j < 4
          · have hjb : (j : Int) < 4 := by omega
            by_cases hlt : fl + j < us.length
            · have hjn : ((fl + j : Nat) : Int) = (fl : Int) + (j : Int) := by omega
              obtain ⟨u, hu0⟩ : ∃ u, u = us[fl + j] := ⟨_, rfl⟩
              have hul := HU.out us[fl + j] (List.getElem_mem hlt)
              have hub := HUB.out us[fl + j] (List.getElem_mem hlt)
              rw [← hu0] at hul hub
              have hug : us.getD (fl + j) [] = u := by rw [List.getD_eq_getElem?_getD, List.getElem?_eq_getElem hlt, hu0]; rfl
              have HNX := hid (show ∀ (l' : List HProp) (_ : ∀ B ∈ l', Stable B) (y : World) (_ : Sts W (fopP fq us (fl + j) (fl + j) fn' tm' :: l') y), Calls Tryz.prog 56 #[.pointer (some ⟨fq, 0, none⟩), .int .i64 (n : Int)] y fun e w' => ∃ ra rc, e = .returned (.tuple #[.agg (tcV false false 5 0 (fl + j) (.slice ra u.length rc)), .bool true]) ∧ Sts W (fopP fq us (fl + j + 1) (fl + j + 1) n n :: rowP 5 1 (.slice ra u.length rc) u.length (u8s u) :: l') w' from by
                intro l' hl' y hy
                have h := cFopNextSend hl' fq us (fl + j) fn' tm' hy n hfn (by have h1 := HT.out; have h2 := HN.out; omega) hlt HUS.out HU.out
                rw [← hu0] at h
                exact h)
              have HUL := hid hul
              have HUBB := hid hub
              have HUG := hid hug
              have HJ := hid h4
              have HOV := hid hovs
              have HS0 := hid hs
              have hj4 : decide ((j : Int) < 4) = true := decide_eq_true (by omega)
              have HFN := hid hfn
              have HLT := hid hlt
              clear hul hub hug hu0 hs hfn htm' hovs hjn hfj hlt h4
              go_wp2_with fail
              apply share4 (fun gp ra rc z => Sts W (blkP gp (.cells (tcV false false 5 0 (fl + j) (.slice ra u.length rc)) 46 (0, 0)) :: fopP fq us (fl + j + 1) (fl + j + 1) n n :: rowP 5 1 (.slice ra u.length rc) u.length (u8s u) :: blkP g (.cells (staC fi u0 u1 u2 ar tq c fq mp n next) 119 (0, 0)) :: blkP mp (cntO k) :: trkP tq k :: couP c n :: rowP 35 1 (.slice oa j oc) j ovs :: rowsP 5 ovs (frs us fl j) :: l) z)
              · intro key
                refine wp_region_ordQ (.pure 0 (.pure 1 (.pure 2 (.pure 3 (.pure 4 (.pure 5 (.pure 6 (.pure 7 (.eff2 8 12 (.pure 9 (.pure 10 (.pure 11 (.eff 12 (.eff 13 (.pure 14 .nil)))))) (.eff 8 (.pure 9 (.pure 10 (.pure 11 (.eff 13 (.pure 14 .nil))))))))))))))) (fun y => y.cell? ⟨g, 10, none⟩ = some (.pointer (some ⟨fq, 0, none⟩)) ∧ y.cell? ⟨g, 9, none⟩ = some (.int .i64 (n : Int))) (fun y => Sts W (fopP fq us (fl + j) (fl + j) fn' tm' :: blkP g (.cells (staC fi u0 u1 u2 ar tq c fq mp n next) 119 (0, 0)) :: blkP mp (cntO k) :: trkP tq k :: couP c n :: rowP 35 1 (.slice oa j oc) j ovs :: rowsP 5 ovs (frs us fl j) :: l) y) (by kernel_rfl) (by kernel_rfl) (HS0.out.drew (stabC (fopP_stable _ _ _ _ _ _) (stabC (blkP_stable _ _) (stabC (blkP_stable _ _) (stabC (trkP_stable _ _) (stabC (couP_stable _ _) (stabC (rowP_stable _ _ _ _ _) (stabC (rowsP_stable _ _ _) HL.out)))))))) (fun y hy => ⟨(Sts.boxCell hy.tail 10 _ rfl).1, (Sts.boxCell hy.tail 9 _ rfl).1⟩) ?_
                iterate 8
                  (apply ordq_pure (ho := rfl)
                   · go_simp
                   · intro x hx; obtain ⟨k0, k1⟩ := hx; go_simp; rfl
                   apply ordq_norm
                   · go_simp; rfl)
                refine ordq_eff2 ?_ ?_
                · apply ordq_eff (ho := rfl)
                  · go_simp
                  intro y hy
                  refine eff_call (f := 56) (by go_simp) (HNX.out _ (stabC (blkP_stable _ _) (stabC (blkP_stable _ _) (stabC (trkP_stable _ _) (stabC (couP_stable _ _) (stabC (rowP_stable _ _ _ _ _) (stabC (rowsP_stable _ _ _) HL.out)))))) y hy) ?_
                  rintro e w4 ⟨ra, rc, rfl, h5⟩
                  refine ⟨_, rfl, (fun y => y.cell? ⟨g, 10, none⟩ = some (.pointer (some ⟨fq, 0, none⟩)) ∧ y.cell? ⟨g, 9, none⟩ = some (.int .i64 (n : Int))), (fun y => Sts W (fopP fq us (fl + j + 1) (fl + j + 1) n n :: rowP 5 1 (.slice ra u.length rc) u.length (u8s u) :: blkP g (.cells (staC fi u0 u1 u2 ar tq c fq mp n next) 119 (0, 0)) :: blkP mp (cntO k) :: trkP tq k :: couP c n :: rowP 35 1 (.slice oa j oc) j ovs :: rowsP 5 ovs (frs us fl j) :: l) y), h5, (fun y hy => ⟨(Sts.boxCell hy.tail.tail 10 _ rfl).1, (Sts.boxCell hy.tail.tail 9 _ rfl).1⟩), (fun _ h => h), ?_⟩
                  clear h5 hy y
                  apply ordq_norm
                  · go_simp; rfl
                  iterate 3
                    (apply ordq_pure (ho := rfl)
                     · go_simp
                     · intro x hx; go_simp; rfl
                     apply ordq_norm
                     · go_simp; rfl)
                  apply ordq_eff (ho := rfl)
                  · go_simp
                  intro y hy
                  refine eff_allocTc (stabC (fopP_stable _ _ _ _ _ _) (stabC (rowP_stable _ _ _ _ _) (stabC (blkP_stable _ _) (stabC (blkP_stable _ _) (stabC (trkP_stable _ _) (stabC (couP_stable _ _) (stabC (rowP_stable _ _ _ _ _) (stabC (rowsP_stable _ _ _) HL.out)))))))) hy rfl (fun z gp hz => ⟨(Sts.boxCell hz.tail.tail.tail 10 _ rfl).1, (Sts.boxCell hz.tail.tail.tail 9 _ rfl).1⟩) ?_
                  intro gp
                  apply ordq_norm
                  · go_simp; rfl
                  clear hy y
                  apply ordq_eff (ho := rfl)
                  · go_simp
                  intro y hy
                  refine eff_aggS hy (stabC (fopP_stable _ _ _ _ _ _) (stabC (rowP_stable _ _ _ _ _) (stabC (blkP_stable _ _) (stabC (blkP_stable _ _) (stabC (trkP_stable _ _) (stabC (couP_stable _ _) (stabC (rowP_stable _ _ _ _ _) (stabC (rowsP_stable _ _ _) HL.out)))))))) (.tmp 17) (.tmp 160) 46 rfl (tcV false false 5 0 (fl + j) (.slice ra u.length rc)) ?_ ?_ szTc rfl rfl (fun y => y.cell? ⟨g, 10, none⟩ = some (.pointer (some ⟨fq, 0, none⟩)) ∧ y.cell? ⟨g, 9, none⟩ = some (.int .i64 (n : Int))) (fun z hz => ⟨(Sts.boxCell hz.tail.tail.tail 10 _ rfl).1, (Sts.boxCell hz.tail.tail.tail 9 _ rfl).1⟩) ?_
                  · go_simp
                  · go_simp
                  apply ordq_norm
                  · go_simp; rfl
                  clear hy y
                  iterate 1
                    (apply ordq_pure (ho := rfl)
                     · go_simp
                     · intro x hx; go_simp; rfl
                     apply ordq_norm
                     · go_simp; rfl)
                  refine ordq_nil fun z hz => ?_
                  exact key gp ra rc z hz
                · apply ordq_eff (ho := rfl)
                  · go_simp
                  intro y hy
                  refine eff_allocTc (stabC (fopP_stable _ _ _ _ _ _) (stabC (blkP_stable _ _) (stabC (blkP_stable _ _) (stabC (trkP_stable _ _) (stabC (couP_stable _ _) (stabC (rowP_stable _ _ _ _ _) (stabC (rowsP_stable _ _ _) HL.out))))))) hy rfl (fun z gp hz => ⟨(Sts.boxCell hz.tail.tail 10 _ rfl).1, (Sts.boxCell hz.tail.tail 9 _ rfl).1⟩) ?_
                  intro gp
                  apply ordq_norm
                  · go_simp; rfl
                  clear hy y
                  apply ordq_eff (ho := rfl)
                  · go_simp
                  intro y hy
                  refine eff_call (f := 56) (by go_simp) (HNX.out _ (stabC (blkP_stable gp (.cells zeroTc 46 (0, 0))) (stabC (blkP_stable _ _) (stabC (blkP_stable _ _) (stabC (trkP_stable _ _) (stabC (couP_stable _ _) (stabC (rowP_stable _ _ _ _ _) (stabC (rowsP_stable _ _ _) HL.out))))))) y hy.swap) ?_
                  rintro e w4 ⟨ra, rc, rfl, h5⟩
                  refine ⟨_, rfl, (fun y => y.cell? ⟨g, 10, none⟩ = some (.pointer (some ⟨fq, 0, none⟩)) ∧ y.cell? ⟨g, 9, none⟩ = some (.int .i64 (n : Int))), (fun y => Sts W (fopP fq us (fl + j + 1) (fl + j + 1) n n :: rowP 5 1 (.slice ra u.length rc) u.length (u8s u) :: blkP gp (.cells zeroTc 46 (0, 0)) :: blkP g (.cells (staC fi u0 u1 u2 ar tq c fq mp n next) 119 (0, 0)) :: blkP mp (cntO k) :: trkP tq k :: couP c n :: rowP 35 1 (.slice oa j oc) j ovs :: rowsP 5 ovs (frs us fl j) :: l) y), h5, (fun y hy => ⟨(Sts.boxCell hy.tail.tail.tail 10 _ rfl).1, (Sts.boxCell hy.tail.tail.tail 9 _ rfl).1⟩), (fun _ h => h), ?_⟩
                  clear h5 hy y
                  apply ordq_norm
                  · go_simp; rfl
                  iterate 3
                    (apply ordq_pure (ho := rfl)
                     · go_simp
                     · intro x hx; go_simp; rfl
                     apply ordq_norm
                     · go_simp; rfl)
                  apply ordq_eff (ho := rfl)
                  · go_simp
                  intro y hy
                  refine eff_aggS hy.third (stabC (fopP_stable _ _ _ _ _ _) (stabC (rowP_stable _ _ _ _ _) (stabC (blkP_stable _ _) (stabC (blkP_stable _ _) (stabC (trkP_stable _ _) (stabC (couP_stable _ _) (stabC (rowP_stable _ _ _ _ _) (stabC (rowsP_stable _ _ _) HL.out)))))))) (.tmp 17) (.tmp 160) 46 rfl (tcV false false 5 0 (fl + j) (.slice ra u.length rc)) ?_ ?_ szTc rfl rfl (fun y => y.cell? ⟨g, 10, none⟩ = some (.pointer (some ⟨fq, 0, none⟩)) ∧ y.cell? ⟨g, 9, none⟩ = some (.int .i64 (n : Int))) (fun z hz => ⟨(Sts.boxCell hz.tail.tail.tail 10 _ rfl).1, (Sts.boxCell hz.tail.tail.tail 9 _ rfl).1⟩) ?_
                  · go_simp
                  · go_simp
                  apply ordq_norm
                  · go_simp; rfl
                  clear hy y
                  iterate 1
                    (apply ordq_pure (ho := rfl)
                     · go_simp
                     · intro x hx; go_simp; rfl
                     apply ordq_norm
                     · go_simp; rfl)
                  refine ordq_nil fun z hz => ?_
                  exact key gp ra rc z hz
              · intro gp ra rc z hz
                have HZ2 := hid hz
                clear hz HS0
                have HEN := hid (cTcEncode false false 5 0 (fl + j) ra rc u z (by decide) (by decide) (by have h1 := HLT.out; have h2 := HUS.out; omega) HUL.out.1 HUL.out.2 (Or.inr rfl) ⟨Sts.rdRow HZ2.out.tail.tail (u8s_len u), HUBB.out⟩ (NilOk.own HZ2.out.tail.tail.rowOwn))
                obtain ⟨P, hP⟩ : ∃ P, P = tcB false false 5 0 (fl + j) u := ⟨_, rfl⟩
                rw [← hP] at HEN
                have HP := hid hP
                clear hP
                go_wp2_with (first
                  | (refine wpList_ldS rfl (.tmp 17) 46 rfl rfl (.agg (tcV false false 5 0 (fl + j) (.slice ra u.length rc))) (ldTc rfl HZ2.out) ?_)
                  | (go_at_call 57; refine HEN.out.mono ?_; rintro e w7 ⟨r, rfl, hN⟩
                     have h7 := Sts.new (stabC (blkP_stable _ _) (stabC (fopP_stable _ _ _ _ _ _) (stabC (rowP_stable _ _ _ _ _) (stabC (blkP_stable _ _) (stabC (blkP_stable _ _) (stabC (trkP_stable _ _) (stabC (couP_stable _ _) (stabC (rowP_stable _ _ _ _ _) (stabC (rowsP_stable _ _ _) HL.out))))))))) HZ2.out hN
                     rw [u8s_len] at h7
                     obtain ⟨pa, pc, rfl⟩ := own_slice h7.rowOwn
                     have h8 := Sts.alloc (stabC (rowP_stable _ _ _ _ _) (stabC (blkP_stable _ _) (stabC (fopP_stable _ _ _ _ _ _) (stabC (rowP_stable _ _ _ _ _) (stabC (blkP_stable _ _) (stabC (blkP_stable _ _) (stabC (trkP_stable _ _) (stabC (couP_stable _ _) (stabC (rowP_stable _ _ _ _ _) (stabC (rowsP_stable _ _ _) HL.out)))))))))) h7 (.cells #[.slice pa P.length pc] 35)
                     have hc := (Sts.boxCell h8 0 _ rfl).1
                     have HC := hid hc
                     have H8 := hid ((h8).perm (List.perm_middle (l₁ := [_, _, _, _, _, _, _, _, _])))
                     clear h7 h8 hN hc)
                  | (at_builtin; refine wpList_app1 HOV.out 43 35 (.slice none 0 0) 24 Tryz.underlying43 infoS8 rfl (by decide) rfl (.tmp 171) (.tmp 173) rfl H8.out (stabC (blkP_stable _ _) (stabC (rowP_stable _ _ _ _ _) (stabC (blkP_stable _ _) (stabC (fopP_stable _ _ _ _ _ _) (stabC (rowP_stable _ _ _ _ _) (stabC (blkP_stable _ _) (stabC (blkP_stable _ _) (stabC (trkP_stable _ _) (stabC (couP_stable _ _) (stabC (rowsP_stable _ _ _) HL.out)))))))))) w7.heap.size (.slice pa P.length pc) rfl rfl HC.out rfl (by have := HJ.out; omega) ?_; intro v1 w8 h9
                     have h10 := (((((((Sts.sub h9 (.cons_cons _ (.cons _ (.cons_cons _ (.cons _ (.cons_cons _ (.cons _ (.cons_cons _ (.cons_cons _ (.cons_cons _ (.cons_cons _ (.cons_cons _ (List.Sublist.refl _))))))))))))).perm (List.perm_middle (l₁ := [_, _, _, _, _, _]))).perm (List.perm_middle (l₁ := [_, _, _, _, _, _]))).perm (List.perm_middle (l₁ := [_, _, _, _, _, _]))).perm (List.perm_middle (l₁ := [_, _, _, _, _, _]))).perm (List.perm_middle (l₁ := [_, _, _, _, _, _]))).perm (List.perm_middle (l₁ := [_, _, _, _, _, _, _]))).perm (List.perm_middle (l₁ := [_, _, _, _, _, _, _]))
                     have h11 : Sts W (rowsP 5 (ovs ++ [.slice pa P.length pc]) (frs us fl j ++ [P]) :: fopP fq us (fl + j + 1) (fl + j + 1) n n :: blkP g (.cells (staC fi u0 u1 u2 ar tq c fq mp n next) 119 (0, 0)) :: blkP mp (cntO k) :: trkP tq k :: couP c n :: rowP 35 1 v1 (j + 1) (ovs ++ [.slice pa P.length pc]) :: l) w8 := Sts.join h10 (fun F hF => rowsP_snoc hF)
                     have H11 := hid (((((((h11).perm (List.perm_middle (l₁ := [_, _, _, _, _, _]))).perm (List.perm_middle (l₁ := [_, _, _, _, _, _]))).perm (List.perm_middle (l₁ := [_, _, _, _, _, _]))).perm (List.perm_middle (l₁ := [_, _, _, _, _, _]))).perm (List.perm_middle (l₁ := [_, _, _, _, _, _]))).perm (List.perm_middle (l₁ := [_, _, _, _, _, _])))
                     clear h9 h10 h11))
                go_roundw
                case rel =>
                  refine ⟨j + 1, n, n, ovs ++ [.slice pa P.length pc], by have := HJ.out; omega, by first | rfl | go_num, by have := HLT.out; omega, Nat.le_refl _, Nat.le_refl _, ?_⟩
                  rw [frs_succ, HUG.out, ← HP.out]
                  exact H11.out
                case measure => simp [intOf]; have := HJ.out; omega
            · have HNX := hid (show ∀ (l' : List HProp) (_ : ∀ B ∈ l', Stable B) (y : World) (_ : Sts W (fopP fq us (fl + j) (fl + j) fn' tm' :: l') y), Calls Tryz.prog 56 #[.pointer (some ⟨fq, 0, none⟩), .int .i64 (n : Int)] y fun e w' => e = .returned (.tuple #[.agg zeroTc, .bool false]) ∧ Sts W (fopP fq us (fl + j) (fl + j) n tm' :: l') w' from by
                intro l' hl' y hy
                have h1 := HT.out
                have h2 := HN.out
                have h3 := HUS.out
                by_cases h0 : us.length = 0
                · exact cFopNextNo hl' fq us (fl + j) fn' tm' hy n hfn (by omega) h0
                · exact cFopNextWait hl' fq us (fl + j) fn' tm' hy n hfn (by omega) (by omega) h3 (by omega) (by omega) (by omega))
              have HJE := hid (show j = min 4 (us.length - fl) by omega)
              have HTM1 := hid htm'
              have HS0 := hid hs
              have hj4 : decide ((j : Int) < 4) = true := decide_eq_true (by omega)
              clear hs hfn htm' hovs hfj hlt h4
              go_wp2_with fail
              apply share1 (fun gp z => Sts W (blkP gp (.cells zeroTc 46 (0, 0)) :: fopP fq us (fl + j) (fl + j) n tm' :: blkP g (.cells (staC fi u0 u1 u2 ar tq c fq mp n next) 119 (0, 0)) :: blkP mp (cntO k) :: trkP tq k :: couP c n :: rowP 35 1 (.slice oa j oc) j ovs :: rowsP 5 ovs (frs us fl j) :: l) z)
              · intro key
                refine wp_region_ordQ (.pure 0 (.pure 1 (.pure 2 (.pure 3 (.pure 4 (.pure 5 (.pure 6 (.pure 7 (.eff2 8 12 (.pure 9 (.pure 10 (.pure 11 (.eff 12 (.eff 13 (.pure 14 .nil)))))) (.eff 8 (.pure 9 (.pure 10 (.pure 11 (.eff 13 (.pure 14 .nil))))))))))))))) (fun y => y.cell? ⟨g, 10, none⟩ = some (.pointer (some ⟨fq, 0, none⟩)) ∧ y.cell? ⟨g, 9, none⟩ = some (.int .i64 (n : Int))) (fun y => Sts W (fopP fq us (fl + j) (fl + j) fn' tm' :: blkP g (.cells (staC fi u0 u1 u2 ar tq c fq mp n next) 119 (0, 0)) :: blkP mp (cntO k) :: trkP tq k :: couP c n :: rowP 35 1 (.slice oa j oc) j ovs :: rowsP 5 ovs (frs us fl j) :: l) y) (by kernel_rfl) (by kernel_rfl) (HS0.out.drew (stabC (fopP_stable _ _ _ _ _ _) (stabC (blkP_stable _ _) (stabC (blkP_stable _ _) (stabC (trkP_stable _ _) (stabC (couP_stable _ _) (stabC (rowP_stable _ _ _ _ _) (stabC (rowsP_stable _ _ _) HL.out)))))))) (fun y hy => ⟨(Sts.boxCell hy.tail 10 _ rfl).1, (Sts.boxCell hy.tail 9 _ rfl).1⟩) ?_
                iterate 8
                  (apply ordq_pure (ho := rfl)
                   · go_simp
                   · intro x hx; obtain ⟨k0, k1⟩ := hx; go_simp; rfl
                   apply ordq_norm
                   · go_simp; rfl)
                refine ordq_eff2 ?_ ?_
                · apply ordq_eff (ho := rfl)
                  · go_simp
                  intro y hy
                  refine eff_call (f := 56) (by go_simp) (HNX.out _ (stabC (blkP_stable _ _) (stabC (blkP_stable _ _) (stabC (trkP_stable _ _) (stabC (couP_stable _ _) (stabC (rowP_stable _ _ _ _ _) (stabC (rowsP_stable _ _ _) HL.out)))))) y hy) ?_
                  rintro e w4 ⟨rfl, h5⟩
                  refine ⟨_, rfl, (fun y => y.cell? ⟨g, 10, none⟩ = some (.pointer (some ⟨fq, 0, none⟩)) ∧ y.cell? ⟨g, 9, none⟩ = some (.int .i64 (n : Int))), (fun y => Sts W (fopP fq us (fl + j) (fl + j) n tm' :: blkP g (.cells (staC fi u0 u1 u2 ar tq c fq mp n next) 119 (0, 0)) :: blkP mp (cntO k) :: trkP tq k :: couP c n :: rowP 35 1 (.slice oa j oc) j ovs :: rowsP 5 ovs (frs us fl j) :: l) y), h5, (fun y hy => ⟨(Sts.boxCell hy.tail 10 _ rfl).1, (Sts.boxCell hy.tail 9 _ rfl).1⟩), (fun _ h => h), ?_⟩
                  clear h5 hy y
                  apply ordq_norm
                  · go_simp; rfl
                  iterate 3
                    (apply ordq_pure (ho := rfl)
                     · go_simp
                     · intro x hx; go_simp; rfl
                     apply ordq_norm
                     · go_simp; rfl)
                  apply ordq_eff (ho := rfl)
                  · go_simp
                  intro y hy
                  refine eff_allocTc (stabC (fopP_stable _ _ _ _ _ _) (stabC (blkP_stable _ _) (stabC (blkP_stable _ _) (stabC (trkP_stable _ _) (stabC (couP_stable _ _) (stabC (rowP_stable _ _ _ _ _) (stabC (rowsP_stable _ _ _) HL.out))))))) hy rfl (fun z gp hz => ⟨(Sts.boxCell hz.tail.tail 10 _ rfl).1, (Sts.boxCell hz.tail.tail 9 _ rfl).1⟩) ?_
                  intro gp
                  apply ordq_norm
                  · go_simp; rfl
                  clear hy y
                  apply ordq_eff (ho := rfl)
                  · go_simp
                  intro y hy
                  refine eff_aggS hy (stabC (fopP_stable _ _ _ _ _ _) (stabC (blkP_stable _ _) (stabC (blkP_stable _ _) (stabC (trkP_stable _ _) (stabC (couP_stable _ _) (stabC (rowP_stable _ _ _ _ _) (stabC (rowsP_stable _ _ _) HL.out))))))) (.tmp 17) (.tmp 160) 46 rfl zeroTc ?_ ?_ szTc rfl rfl (fun y => y.cell? ⟨g, 10, none⟩ = some (.pointer (some ⟨fq, 0, none⟩)) ∧ y.cell? ⟨g, 9, none⟩ = some (.int .i64 (n : Int))) (fun z hz => ⟨(Sts.boxCell hz.tail.tail 10 _ rfl).1, (Sts.boxCell hz.tail.tail 9 _ rfl).1⟩) ?_
                  · go_simp
                  · go_simp
                  apply ordq_norm
                  · go_simp; rfl
                  clear hy y
                  iterate 1
                    (apply ordq_pure (ho := rfl)
                     · go_simp
                     · intro x hx; go_simp; rfl
                     apply ordq_norm
                     · go_simp; rfl)
                  refine ordq_nil fun z hz => ?_
                  exact key gp z hz
                · apply ordq_eff (ho := rfl)
                  · go_simp
                  intro y hy
                  refine eff_allocTc (stabC (fopP_stable _ _ _ _ _ _) (stabC (blkP_stable _ _) (stabC (blkP_stable _ _) (stabC (trkP_stable _ _) (stabC (couP_stable _ _) (stabC (rowP_stable _ _ _ _ _) (stabC (rowsP_stable _ _ _) HL.out))))))) hy rfl (fun z gp hz => ⟨(Sts.boxCell hz.tail.tail 10 _ rfl).1, (Sts.boxCell hz.tail.tail 9 _ rfl).1⟩) ?_
                  intro gp
                  apply ordq_norm
                  · go_simp; rfl
                  clear hy y
                  apply ordq_eff (ho := rfl)
                  · go_simp
                  intro y hy
                  refine eff_call (f := 56) (by go_simp) (HNX.out _ (stabC (blkP_stable gp (.cells zeroTc 46 (0, 0))) (stabC (blkP_stable _ _) (stabC (blkP_stable _ _) (stabC (trkP_stable _ _) (stabC (couP_stable _ _) (stabC (rowP_stable _ _ _ _ _) (stabC (rowsP_stable _ _ _) HL.out))))))) y hy.swap) ?_
                  rintro e w4 ⟨rfl, h5⟩
                  refine ⟨_, rfl, (fun y => y.cell? ⟨g, 10, none⟩ = some (.pointer (some ⟨fq, 0, none⟩)) ∧ y.cell? ⟨g, 9, none⟩ = some (.int .i64 (n : Int))), (fun y => Sts W (fopP fq us (fl + j) (fl + j) n tm' :: blkP gp (.cells zeroTc 46 (0, 0)) :: blkP g (.cells (staC fi u0 u1 u2 ar tq c fq mp n next) 119 (0, 0)) :: blkP mp (cntO k) :: trkP tq k :: couP c n :: rowP 35 1 (.slice oa j oc) j ovs :: rowsP 5 ovs (frs us fl j) :: l) y), h5, (fun y hy => ⟨(Sts.boxCell hy.tail.tail 10 _ rfl).1, (Sts.boxCell hy.tail.tail 9 _ rfl).1⟩), (fun _ h => h), ?_⟩
                  clear h5 hy y
                  apply ordq_norm
                  · go_simp; rfl
                  iterate 3
                    (apply ordq_pure (ho := rfl)
                     · go_simp
                     · intro x hx; go_simp; rfl
                     apply ordq_norm
                     · go_simp; rfl)
                  apply ordq_eff (ho := rfl)
                  · go_simp
                  intro y hy
                  refine eff_aggS hy.swap (stabC (fopP_stable _ _ _ _ _ _) (stabC (blkP_stable _ _) (stabC (blkP_stable _ _) (stabC (trkP_stable _ _) (stabC (couP_stable _ _) (stabC (rowP_stable _ _ _ _ _) (stabC (rowsP_stable _ _ _) HL.out))))))) (.tmp 17) (.tmp 160) 46 rfl zeroTc ?_ ?_ szTc rfl rfl (fun y => y.cell? ⟨g, 10, none⟩ = some (.pointer (some ⟨fq, 0, none⟩)) ∧ y.cell? ⟨g, 9, none⟩ = some (.int .i64 (n : Int))) (fun z hz => ⟨(Sts.boxCell hz.tail.tail 10 _ rfl).1, (Sts.boxCell hz.tail.tail 9 _ rfl).1⟩) ?_
                  · go_simp
                  · go_simp
                  apply ordq_norm
                  · go_simp; rfl
                  clear hy y
                  iterate 1
                    (apply ordq_pure (ho := rfl)
                     · go_simp
                     · intro x hx; go_simp; rfl
                     apply ordq_norm
                     · go_simp; rfl)
                  refine ordq_nil fun z hz => ?_
                  exact key gp z hz
              · intro gp z hz
                have HZ2 := hid hz.tail
                clear hz HS0
                go_wp2_with fail
                go_ret
                exact ⟨_, ovs, j, n, tm', rfl, HJE.out, Nat.le_of_eq HN.out, HN.out ▸ HTM1.out, HN.out ▸ HZ2.out⟩
          · obtain rfl : j = 4 := by omega
            have HJE := hid (show 4 = min 4 (us.length - fl) by omega)
            have HFN := hid hfn
            have HTM1 := hid htm'
            have HS0 := hid hs
            clear hs hfn htm' hovs hfj h4
            go_wp2_with fail
            go_ret
            exact ⟨_, ovs, 4, fn', tm', rfl, HJE.out, HN.out ▸ HFN.out, HN.out ▸ HTM1.out, HN.out ▸ HS0.out⟩
end
end Go.Proofs.YtnklmadmenkdoaaGreat
