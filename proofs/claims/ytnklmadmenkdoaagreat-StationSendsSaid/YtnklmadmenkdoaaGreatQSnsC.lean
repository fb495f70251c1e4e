/- Commands are transmitted in order; invalid ones are rejected: the law, every input. -/
import Derived.Test.YtnklmadmenkdoaaGreatQSnsE
set_option linter.unusedVariables false
set_option linter.unusedSimpArgs false
namespace Go.Proofs.YtnklmadmenkdoaaGreat
open Go.RowKit Go.Proofs.Num Go.ChangeShapes
attribute [local irreducible] wpQuiet
theorem wpQuiet_norm {P : Program} {ops : Array Oper} {C : World → Prop} {Q : Act → Prop} {l : List Oper} {a a' : Act} (ha : a = a') (h : wpQuiet P ops C Q l a') : wpQuiet P ops C Q l a := ha ▸ h
/-- The state after some commands: what was taken lies in the slice wv. -/
def Taken (W wr : World) (g fi u0 u1 u2 ar tq c fq mp : Nat) (cs : List Cmd.Ord) (wv : Value) : Prop :=
  Sts W (stL g fi u0 u1 u2 ar tq c fq mp cs.length (Cmd.uC 0 cs) 0 0 0 0 ++ [couP c 0, rowP 39 5 wv cs.length (Cmd.wC 0 cs)]) wr ∧ ∀ x ∈ cs, OrdOk W x
theorem len_of_own {w : World} {e : TypeId} {s n : Nat} {v : Value} {xs : List Value} (h : w.ownsRow 0 e s v n xs) : ∃ a c, v = .slice a n c := own_slice h
theorem eff_allocCmd {L : Prop} {o : Oper} {a : Act} {D : WP} {K : Act → WP → WP → Prop} {W y : World} {l : List HProp} (hl : ∀ B ∈ l, Stable B) (hS : Sts W l y) (ho : o.op = .alloc 39) (hD : ∀ z g, Sts W (blkP g (.cells zeroCmd 39 (0, 0)) :: l) z → D z)
    (hk : ∀ g, K (a.put o.dst (.pointer (some ⟨g, 0, none⟩))) D (fun z => Sts W (blkP g (.cells zeroCmd 39 (0, 0)) :: l) z)) : effUpon Tryz.prog L o.dst a D K ((execOp a.eval o).run Tryz.prog y) := by
  have h := hS.alloc hl (.cells zeroCmd 39)
  refine eff_value (w := y.alloc (.cells zeroCmd 39)) (v := .pointer (some ⟨y.heap.size, 0, none⟩)) D _ ?_ h (fun z hz => hD z _ hz) (fun _ h => h) (hk _)
  unfold execOp
  simp only [ho]
  kernel_rfl
/-- What a command leaves: taken or rejected. -/
theorem cCommandAny (w2 : World) (g fi u0 u1 u2 ar tq c fq mp : Nat) (cs : List Cmd.Ord) (o : Odr) (M : Nat) (hM : M = cs.length + 1) (hk : cs.length < 12) (hA : Rd w2 (.slice o.aa o.args.length o.ca) (i64s o.args)) (hD : RdB w2 (.slice o.ad o.data.length o.cd) o.data) (hnl : o.ad = none → o.cd = 0) (hs : -9223372036854775808 ≤ o.s ∧ o.s < 9223372036854775808) (h6 : o.data.length ≤ 600) :
    ∃ (N E : Int) (cs2 : List Cmd.Ord) (R : Bool), R = Cmd.cmdOk o.s o.args o.data.length ∧
      (∀ y l, (∀ B ∈ l, Stable B) → Sts w2 (stL g fi u0 u1 u2 ar tq c fq mp cs.length (Cmd.uC 0 cs) 0 0 0 0 ++ l) y → Calls Tryz.prog 11 #[.pointer (some ⟨g, 0, none⟩), .int .i64 o.s, .slice o.aa o.args.length o.ca, .slice o.ad o.data.length o.cd] y fun e w' => e = .returned (.tuple #[.int .i64 N, .int .i64 E]) ∧ Sts w2 (stL g fi u0 u1 u2 ar tq c fq mp cs2.length (Cmd.uC 0 cs2) 0 0 0 0 ++ l) w') ∧
      ((R = true ∧ N = (M : Int) ∧ E = 0 ∧ ∃ x, cs2 = cs ++ [x] ∧ OrdOk w2 x ∧ x.cells M = [.int .i64 1, .int .i64 (M : Int), .int .i64 o.s, .slice o.aa o.args.length o.ca, .slice o.ad o.data.length o.cd]) ∨ (R = false ∧ N = 0 ∧ E = 1 ∧ cs2 = cs)) := by
  cases hok : Cmd.cmdOk o.s o.args o.data.length with
  | false =>
    refine ⟨0, 1, cs, false, rfl, fun y l hl hy => ?_, Or.inr ⟨rfl, rfl, rfl, rfl⟩⟩
    exact cCommandNo hl g fi u0 u1 u2 ar tq c fq mp cs.length (Cmd.uC 0 cs) 0 0 0 0 hy o.s o.aa o.ca o.args o.ad o.cd o.data.length hs (hA.below hy.below) (by omega) hk hok
  | true =>
    have hsv : ∃ sv : Nat, o.s = (sv : Int) := by
      have h := hok
      unfold Cmd.cmdOk Cmd.isS at h
      simp only [Bool.and_eq_true, decide_eq_true_eq] at h
      exact ⟨o.s.toNat, by omega⟩
    obtain ⟨sv, hsv⟩ := hsv
    refine ⟨(M : Int), 0, cs ++ [⟨sv, o.aa, o.ca, o.args, o.ad, o.cd, o.data⟩], true, rfl, fun y l hl hy => ?_, Or.inl ⟨rfl, rfl, rfl, _, rfl, ⟨by rw [← hsv]; exact hok, hA, hD, hnl, h6⟩, by simp [Cmd.Ord.cells, hsv]⟩⟩
    rw [hsv, List.length_append, Cmd.uC_snoc, hM]
    have h := cCommandOk hl g fi u0 u1 u2 ar tq c fq mp cs.length (Cmd.uC 0 cs) 0 0 0 0 hy sv o.aa o.ca o.args o.ad o.cd o.data (hA.below hy.below) (hD.below hy.below) (by omega) hnl hk (by rw [Cmd.uC_len]; omega) (by rw [← hsv]; exact hok)
    rw [Nat.zero_add]
    exact h
set_option maxRecDepth 100000 in
set_option maxHeartbeats 8000000 in
theorem cSends (w : World) (v : Value) (os : List Odr) (h : OdrsAt w v os) : Calls Tryz.prog 3 #[v] w fun e w' => e = .returned (.bool true) ∧ Below w.heap.size w w' := by
  obtain ⟨a, cap, rfl, hcap, _⟩ := id h
  have HO := hid h
  clear h
  by_cases hbig : 12 < os.length
  · have d1 : decide (12 < ((os.length : Nat) : Int)) = true := decide_eq_true (by omega)
    go_enter Tryz.func3, Tryz.ntmps3
    go_wp2_with (first | (go_at_call 8; refine (cAwake56 _).mono ?_; rintro e w1 ⟨rfl, hb1⟩; have HB1 := hid hb1; clear hb1))
    go_ret
    exact ⟨rfl, HB1.out⟩
  have d1 : decide (12 < ((os.length : Nat) : Int)) = false := decide_eq_false (by omega)
  go_enter Tryz.func3, Tryz.ntmps3
  go_wp2_with (first
    | (go_at_call 8; refine (cAwake56 _).mono ?_; rintro e w1 ⟨rfl, hb1⟩; have HB1 := hid hb1; clear hb1)
    | (go_at_call 10; refine (cConfig _).mono ?_; rintro e w2 ⟨rfl, hb2⟩; have HB2 := hid ((Sts.quiet stab0 (Sts.nil_below HB1.out) hb2).below); clear hb2)
    | (go_at_call 9; refine (cStart _).mono ?_; rintro e w3 ⟨g, fi, n0, n1, n2, ar, tq, c, fq, mp, rfl, h3⟩; have H3 := hid h3; clear h3))
  have HO2 : Hid (OdrsAt w2 (.slice a os.length cap) os) := hid (SliceOf.below HO.out (fun cs s hs => ⟨hs.1, hs.2.1.below HB2.out, hs.2.2.1.below HB2.out, hs.2.2.2⟩) HB2.out)
  have H4 : Hid (Taken w2 w3 g fi n0 n1 n2 ar tq c fq mp [] (.slice none 0 0)) := hid ⟨(Sts.rowNilS 39 5 H3.out).perm (List.perm_middle (l₁ := [_, _, _, _, _]) (l₂ := [])).symm, by simp⟩
  clear H3 HO
  go_loopw [5, 6] (fun wv i wr => ∃ k cs, k ≤ os.length ∧ i = .int .i64 (k : Int) ∧ cs.length ≤ k ∧ Taken w2 wr g fi n0 n1 n2 ar tq c fq mp cs wv) (fun _ i _ => os.length - (intOf i).toNat)
  case atStart => exact ⟨0, [], Nat.zero_le _, rfl, Nat.le_refl _, H4.out⟩
  case round =>
    obtain ⟨k, cs, hk, rfl, hck, hT⟩ := hrel
    clear H4
    obtain ⟨wa, wcp, rfl⟩ := len_of_own (Sts.rowOwnS (hT.1.perm (List.perm_middle (l₁ := [_, _, _, _, _]) (l₂ := []))))
    have HT := hid hT
    by_cases hlt : k < os.length
    · obtain ⟨_, _, e0, _, hx⟩ := HO2.out
      obtain ⟨b, off, c3, ha, hb, hl3, hcells, hE⟩ := hx k hlt
      injection e0 with e1 e2 e3
      subst e1
      subst ha
      obtain ⟨o, ho⟩ : ∃ o, o = os[k] := ⟨_, rfl⟩
      rw [← ho] at hE
      obtain ⟨rfl, hA, hD, hnl, hs⟩ := hE
      have q0 : wr.cell? ⟨b, off + k * 3, none⟩ = some (.int .i64 o.s) := (hT.1.below.cell hb).trans (hcells 0 (by simp))
      have q1 : wr.cell? ⟨b, off + k * 3 + 1, none⟩ = some (.slice o.aa o.args.length o.ca) := (hT.1.below.cell hb).trans (hcells 1 (by simp))
      have q2 : wr.cell? ⟨b, off + k * 3 + 2, none⟩ = some (.slice o.ad o.data.length o.cd) := (hT.1.below.cell hb).trans (hcells 2 (by simp))
      have HC := hid (show ∀ y l, Sts w2 l y → y.cell? ⟨b, off + k * 3, none⟩ = some (.int .i64 o.s) ∧ y.cell? ⟨b, off + k * 3 + 1, none⟩ = some (.slice o.aa o.args.length o.ca) ∧ y.cell? ⟨b, off + k * 3 + 2, none⟩ = some (.slice o.ad o.data.length o.cd) from fun y l hy => ⟨(hy.below.cell hb).trans (hcells 0 (by simp)), (hy.below.cell hb).trans (hcells 1 (by simp)), (hy.below.cell hb).trans (hcells 2 (by simp))⟩)
      have HA := hid hA
      have HD := hid hD
      have HNL := hid hnl
      have HSV := hid hs
      have hk0 : (0 : Int) ≤ (k : Int) := Int.natCast_nonneg _
      have hk1 : (k : Int) < ((os.length : Nat) : Int) := by omega
      have hk12 : k < 12 := by omega
      clear hx hcells hA hD hnl hs e2 e3 ho hT
      by_cases g1 : 12 < o.args.length
      · have d2 : decide (12 < ((o.args.length : Nat) : Int)) = true := decide_eq_true (by omega)
        go_wp2_with fail
        go_ret
        exact ⟨rfl, (Sts.quiet stab0 (Sts.nil_below HB2.out) HT.out.1.below).below⟩
      have d2 : decide (12 < ((o.args.length : Nat) : Int)) = false := decide_eq_false (by omega)
      by_cases g2 : 600 < o.data.length
      · have d3 : decide (600 < ((o.data.length : Nat) : Int)) = true := decide_eq_true (by omega)
        go_wp2_with fail
        go_ret
        exact ⟨rfl, (Sts.quiet stab0 (Sts.nil_below HB2.out) HT.out.1.below).below⟩
      have d3 : decide (600 < ((o.data.length : Nat) : Int)) = false := decide_eq_false (by omega)
      obtain ⟨M, hM⟩ : ∃ M, M = cs.length + 1 := ⟨_, rfl⟩
      have hM1 : ((cs.length : Nat) : Int) + 1 = (M : Int) := by omega
      have hM2 : M ≤ 12 := by omega
      have hM3 : IntKind.i64.wrap (M : Int) = (M : Int) := by rw [IntKind.wrap_i64]; omega
      obtain ⟨N, E, cs2, R, hR, hCM, hKD⟩ := cCommandAny w2 g fi n0 n1 n2 ar tq c fq mp cs o M hM (by omega) HA.out HD.out HNL.out HSV.out (by omega)
      have HR := hid hR
      have HCM := hid hCM
      have HKD := hid hKD
      have HM := hid hM
      have HG := hid (And.intro g1 g2)
      have hcs12 : cs.length < 12 := by omega
      clear hR hCM hKD hM q0 q1 q2
      have HST := hid (stL_stable g fi n0 n1 n2 ar tq c fq mp cs.length (Cmd.uC 0 cs) 0 0 0 0 (stabC (couP_stable c 0) (stabC (rowP_stable 39 5 (.slice wa cs.length wcp) cs.length (Cmd.wC 0 cs)) stab0)))
      have q0 := (HC.out _ _ HT.out.1).1
      have q1 := (HC.out _ _ HT.out.1).2.1
      have q2 := (HC.out _ _ HT.out.1).2.2
      go_wp2_with fail
      clear q0 q1 q2
      refine wp_region_ordQ (.pure 0 (.pure 1 (.pure 2 (.pure 3 (.pure 4 (.pure 5 (.pure 6 (.pure 7 (.pure 8 (.pure 9 (.pure 10 (.pure 11 (.pure 12 (.pure 13 (.pure 14 (.pure 15 (.pure 16 (.pure 17 (.pure 18 (.eff 19 (.eff 20 .nil))))))))))))))))))))) (fun y => ∃ l, Sts w2 l y) (fun y => Sts w2 (stL g fi n0 n1 n2 ar tq c fq mp cs.length (Cmd.uC 0 cs) 0 0 0 0 ++ [couP c 0, rowP 39 5 (.slice wa cs.length wcp) cs.length (Cmd.wC 0 cs)]) y) (by kernel_rfl) (by kernel_rfl) (HT.out.1.drew HST.out) (fun y hy => ⟨_, hy⟩) ?_
      iterate 19
        (apply ordq_pure (ho := rfl)
         · go_simp
         · intro x hx; obtain ⟨l, hx⟩ := hx; obtain ⟨q0, q1, q2⟩ := HC.out x _ hx; go_simp; rfl
         apply ordq_norm
         · go_simp; rfl)
      apply ordq_eff (ho := rfl)
      · go_simp
      intro y hy
      refine eff_allocCmd HST.out hy rfl (fun z g7 hz => ⟨_, hz⟩) ?_
      intro g7
      apply ordq_norm
      · go_simp; rfl
      clear hy y
      apply ordq_eff (ho := rfl)
      · go_simp
      intro y hy
      refine eff_aggS hy HST.out (.tmp 7) (.tmp 77) 39 rfl (cmdV 1 (M : Int) o.s (.slice o.aa o.args.length o.ca) (.slice o.ad o.data.length o.cd)) ?_ ?_ szCmdR rfl rfl (fun y => ∃ l, Sts w2 l y) (fun z hz => ⟨_, hz⟩) ?_
      · go_simp
      · go_simp; rfl
      apply ordq_norm
      · go_simp; rfl
      clear hy y
      refine ordq_nil fun z hz => ?_
      have HZ : Hid (Sts w2 (stL g fi n0 n1 n2 ar tq c fq mp cs.length (Cmd.uC 0 cs) 0 0 0 0 ++ [couP c 0, rowP 39 5 (.slice wa cs.length wcp) cs.length (Cmd.wC 0 cs), blkP g7 (.cells (cmdV 1 (M : Int) o.s (.slice o.aa o.args.length o.ca) (.slice o.ad o.data.length o.cd)) 39 (0, 0))]) z) := hid (hz.perm (List.perm_append_comm (l₁ := [_]) (l₂ := (stL g fi n0 n1 n2 ar tq c fq mp cs.length (Cmd.uC 0 cs) 0 0 0 0 ++ [couP c 0, rowP 39 5 (.slice wa cs.length wcp) cs.length (Cmd.wC 0 cs)]))))
      clear hz
      have HST2 := hid (stabC (couP_stable c 0) (stabC (rowP_stable 39 5 (.slice wa cs.length wcp) cs.length (Cmd.wC 0 cs)) (stabC (blkP_stable g7 (.cells (cmdV 1 (M : Int) o.s (.slice o.aa o.args.length o.ca) (.slice o.ad o.data.length o.cd)) 39 (0, 0))) stab0)))
      go_wp2_with fail
      refine wp_region_ordQ (.pure 0 (.pure 1 (.pure 2 (.pure 3 (.pure 4 (.pure 5 (.pure 6 (.pure 7 (.pure 8 (.pure 9 (.pure 10 (.pure 11 (.pure 12 (.pure 13 (.pure 14 (.pure 15 (.eff 16 (.pure 17 (.pure 18 (.pure 19 (.pure 20 (.pure 21 .nil)))))))))))))))))))))) (fun y => ∃ l, Sts w2 l y) (fun y => Sts w2 (stL g fi n0 n1 n2 ar tq c fq mp cs.length (Cmd.uC 0 cs) 0 0 0 0 ++ [couP c 0, rowP 39 5 (.slice wa cs.length wcp) cs.length (Cmd.wC 0 cs), blkP g7 (.cells (cmdV 1 (M : Int) o.s (.slice o.aa o.args.length o.ca) (.slice o.ad o.data.length o.cd)) 39 (0, 0))]) y) (by kernel_rfl) (by kernel_rfl) (HZ.out.drew (stL_stable g fi n0 n1 n2 ar tq c fq mp cs.length (Cmd.uC 0 cs) 0 0 0 0 HST2.out)) (fun y hy => ⟨_, hy⟩) ?_
      iterate 16
        (apply ordq_pure (ho := rfl)
         · go_simp
         · intro x hx; obtain ⟨l, hx⟩ := hx; obtain ⟨q0, q1, q2⟩ := HC.out x _ hx; go_simp; rfl
         apply ordq_norm
         · go_simp; rfl)
      apply ordq_eff (ho := rfl)
      · go_simp
      intro y hy
      refine eff_call (f := 11) (by go_simp) (HCM.out y _ HST2.out hy) ?_
      rintro e w5 ⟨rfl, h5⟩
      refine ⟨_, rfl, (fun y => ∃ l, Sts w2 l y), (fun y => Sts w2 (stL g fi n0 n1 n2 ar tq c fq mp cs2.length (Cmd.uC 0 cs2) 0 0 0 0 ++ [couP c 0, rowP 39 5 (.slice wa cs.length wcp) cs.length (Cmd.wC 0 cs), blkP g7 (.cells (cmdV 1 (M : Int) o.s (.slice o.aa o.args.length o.ca) (.slice o.ad o.data.length o.cd)) 39 (0, 0))]) y), h5, (fun y hy => ⟨_, hy⟩), (fun _ h => h), ?_⟩
      clear h5 hy y
      apply ordq_norm
      · go_simp; rfl
      iterate 5
        (apply ordq_pure (ho := rfl)
         · go_simp
         · intro x hx; go_simp; rfl
         apply ordq_norm
         · go_simp; rfl)
      refine ordq_nil fun z2 hz => ?_
      have HZ2 := hid hz
      have HSS := hid (stL_stable g fi n0 n1 n2 ar tq c fq mp cs2.length (Cmd.uC 0 cs2) 0 0 0 0 HST2.out)
      clear hz HZ
      have HGB : Hid (Sts w2 (blkP g7 (.cells (cmdV 1 (M : Int) o.s (.slice o.aa o.args.length o.ca) (.slice o.ad o.data.length o.cd)) 39 (0, 0)) :: (stL g fi n0 n1 n2 ar tq c fq mp cs2.length (Cmd.uC 0 cs2) 0 0 0 0 ++ [couP c 0, rowP 39 5 (.slice wa cs.length wcp) cs.length (Cmd.wC 0 cs)])) z2) := hid (HZ2.out.perm (List.perm_append_comm (l₁ := stL g fi n0 n1 n2 ar tq c fq mp cs2.length (Cmd.uC 0 cs2) 0 0 0 0 ++ [couP c 0, rowP 39 5 (.slice wa cs.length wcp) cs.length (Cmd.wC 0 cs)]) (l₂ := [_])))
      have hV := cRValid z2 1 (M : Int) o.s o.aa o.ca o.args o.ad o.cd o.data.length (by omega) (by omega) HSV.out (HA.out.below HZ2.out.below) (by have := HG.out.2; omega)
      rw [← HR.out] at hV
      have HV := hid hV
      have HLD := hid (ldCmd (cs := (cmdV 1 (M : Int) o.s (.slice o.aa o.args.length o.ca) (.slice o.ad o.data.length o.cd))) rfl HGB.out)
      clear hV
      rcases HKD.out with ⟨h1, h2, h3, x, h4, h5, h6⟩ | ⟨h1, h2, h3, h4⟩
      · subst h2
        subst h3
        have HX := hid (And.intro h5 h6)
        have HCS := hid h4
        subst h1
        clear h5 h6 h4
        go_wp2_with (first
          | (refine wpList_ldS rfl (.tmp 7) 39 rfl rfl (.agg (cmdV 1 (M : Int) o.s (.slice o.aa o.args.length o.ca) (.slice o.ad o.data.length o.cd))) HLD.out ?_)
          | (go_at_call 12; refine HV.out.mono ?_; rintro e w6 ⟨rfl, h7⟩
             have H7 := hid (Sts.quiet HSS.out HZ2.out h7)
             have HG7 := hid (ldCmd (cs := (cmdV 1 (M : Int) o.s (.slice o.aa o.args.length o.ca) (.slice o.ad o.data.length o.cd))) rfl (Sts.quiet (stabC (blkP_stable _ _) (stL_stable g fi n0 n1 n2 ar tq c fq mp cs2.length (Cmd.uC 0 cs2) 0 0 0 0 (stabC (couP_stable c 0) (stabC (rowP_stable _ _ _ _ _) stab0)))) HGB.out h7))
             clear h7)
          | (refine wpList_ldS rfl (.tmp 7) 39 rfl rfl (.agg (cmdV 1 (M : Int) o.s (.slice o.aa o.args.length o.ca) (.slice o.ad o.data.length o.cd))) HG7.out ?_)
          | (refine wpList_bld5 rfl (.tmp 101) rfl 1 (M : Int) o.s o.aa o.ad o.args.length o.ca o.data.length o.cd rfl H7.out HSS.out ?_; intro g8 w8 h8; have H8 := hid (h8.perm (List.perm_middle (l₁ := [_, _, _, _, _, _]) (l₂ := [_]))); clear h8)
          | (at_builtin; refine wpList_app5 rfl (.tmp 100) (.tmp 102) rfl rfl H8.out (stL_stable g fi n0 n1 n2 ar tq c fq mp cs2.length (Cmd.uC 0 cs2) 0 0 0 0 (stabC (couP_stable c 0) (stabC (blkP_stable _ _) stab0))) rfl rfl (by intro u hu; simp at hu; rcases hu with rfl | rfl | rfl | rfl | rfl <;> rfl) (by omega) ?_; intro v9 w9 h9
             rw [← HM.out] at h9
             obtain ⟨a9, c9, rfl⟩ := len_of_own (Sts.rowOwnS h9)
             have H9 := hid h9
             clear h9))
        go_roundw
        case rel =>
          refine ⟨k + 1, cs2, by omega, by first | rfl | go_num, by rw [HCS.out, List.length_append, List.length_singleton]; omega, ?_, ?_⟩
          · have e5 : cs2.length = M := by rw [HCS.out, List.length_append, List.length_singleton, HM.out]
            have e6 : Cmd.wC 0 cs2 = Cmd.wC 0 cs ++ [.int .i64 1, .int .i64 (M : Int), .int .i64 o.s, .slice o.aa o.args.length o.ca, .slice o.ad o.data.length o.cd] := by
              rw [HCS.out, Cmd.wC_snoc, Nat.zero_add, ← HM.out, HX.out.2]
            have h10 := Sts.sub (H9.out.perm (List.perm_middle (l₁ := [_, _, _, _, _]) (l₂ := [_])).symm) (List.sublist_append_left (l₁ := [_, _, _, _, _, _]) (l₂ := [_]))
            rw [e6]
            rw [e5] at h10 ⊢
            exact h10
          · intro y hy
            rw [HCS.out] at hy
            rcases List.mem_append.1 hy with h | h
            · exact HT.out.2 y h
            · rw [List.mem_singleton] at h; subst h; exact HX.out.1
        case measure => simp [intOf]; omega
      · subst h2
        subst h3
        subst h4
        subst h1
        go_wp2_with (first
          | (refine wpList_ldS rfl (.tmp 7) 39 rfl rfl (.agg (cmdV 1 (M : Int) o.s (.slice o.aa o.args.length o.ca) (.slice o.ad o.data.length o.cd))) HLD.out ?_)
          | (go_at_call 12; refine HV.out.mono ?_; rintro e w6 ⟨rfl, h7⟩
             have H7 := hid (Sts.quiet HSS.out HZ2.out h7)
             clear h7))
        go_roundw
        case rel =>
          refine ⟨k + 1, cs2, by omega, by first | rfl | go_num, by omega, ?_, HT.out.2⟩
          exact Sts.sub H7.out (List.sublist_append_left (l₁ := [_, _, _, _, _, _]) (l₂ := [_]))
        case measure => simp [intOf]; omega
    · have hn12 : cs.length ≤ 12 := by omega
      have HUN := hid (units_ok HT.out.2 hn12)
      have HT0 : Hid (Sts w2 (blkP g (.cells (staC fi n0 n1 n2 ar tq c fq mp (0) (cs.length + 1)) 119 (0, 0)) :: blkP mp (cntO cs.length) :: fopP fq (Cmd.uC 0 cs) (0) (0) 0 0 :: trkP tq cs.length :: couP c (0) :: [rowP 39 5 (.slice wa cs.length wcp) cs.length (Cmd.wC 0 cs)]) wr) := hid HT.out.1
      have HOK := hid HT.out.2
      clear HT hT hck hk
      go_wp2_with fail
      go_loopw [10, 11] (fun va vt wr => ∃ t A0 fn tm : Nat, t ≤ 3 ∧ vt = .int .i64 (t : Int) ∧ va = .int .i64 (A0 : Int) ∧ A0 ≤ cs.length ∧ fn ≤ t + 1 ∧ tm ≤ t + 1 ∧ Sts w2 (blkP g (.cells (staC fi n0 n1 n2 ar tq c fq mp (t) (cs.length + 1)) 119 (0, 0)) :: blkP mp (cntO cs.length) :: fopP fq (Cmd.uC 0 cs) (A0) (A0) fn tm :: trkP tq cs.length :: couP c (t) :: [rowP 39 5 (.slice wa cs.length wcp) cs.length (Cmd.wC 0 cs)]) wr) (fun _ vt _ => 3 - (intOf vt).toNat)
      case atStart => exact ⟨0, 0, 0, 0, by decide, rfl, rfl, Nat.zero_le _, by decide, by decide, HT0.out⟩
      case round =>
        clear HT0
        obtain ⟨t, A0, fn, tm, ht, rfl, rfl, hA0, hfn, htm, hs⟩ := hrel
        have HS := hid hs
        by_cases ht3 : t < 3
        · have hst := cStep (l := [rowP 39 5 (.slice wa cs.length wcp) cs.length (Cmd.wC 0 cs)]) (stabC (rowP_stable _ _ _ _ _) stab0) g fi n0 n1 n2 ar tq c fq mp (cs.length + 1) cs.length (Cmd.uC 0 cs) A0 fn tm t hs (by omega) hfn htm (by rw [Cmd.uC_len]; exact hA0) (by rw [Cmd.uC_len]; omega) HUN.out.1 HUN.out.2
          have HSTEP := hid hst
          obtain ⟨j0, hj0⟩ : ∃ j0, j0 = min 4 (cs.length - A0) := ⟨_, rfl⟩
          have hmin : min (4 : Int) (((cs.length : Nat) : Int) - (A0 : Int)) = (j0 : Int) := by omega
          have HJ0 := hid hj0
          clear hs hst hj0
          go_wp2_with (first
            | (go_at_call 13; refine HSTEP.out.mono ?_; rintro e w5 ⟨ov, ovs, j, fn', tm', rfl, hj, hf1, hf2, h5⟩
               rw [Cmd.uC_len] at hj
               obtain ⟨oa, oc, rfl⟩ := len_of_own (Sts.rowOwnS (h5.perm (List.perm_middle (l₁ := [_, _, _, _, _]))))
               obtain rfl : j = j0 := by rw [HJ0.out]; exact hj
               have hj4 : j ≤ 4 := by omega
               have hjn : A0 + j ≤ cs.length := by omega
               have HJ := hid hj
               have HF := hid (And.intro hf1 hf2)
               have H5 := hid h5
               clear hj hf1 hf2 h5))
          have HSL := hid (show ∀ B ∈ fopP fq (Cmd.uC 0 cs) (A0 + j) (A0 + j) fn' tm' :: blkP g (.cells (staC fi n0 n1 n2 ar tq c fq mp (t + 1) (cs.length + 1)) 119 (0, 0)) :: blkP mp (cntO cs.length) :: trkP tq cs.length :: couP c (t + 1) :: rowP 35 1 (.slice oa j oc) j ovs :: rowsP 5 ovs (frs (Cmd.uC 0 cs) A0 j) :: [rowP 39 5 (.slice wa cs.length wcp) cs.length (Cmd.wC 0 cs)], Stable B from stabC (fopP_stable _ _ _ _ _ _) (stabC (blkP_stable _ _) (stabC (blkP_stable _ _) (stabC (trkP_stable _ _) (stabC (couP_stable _ _) (stabC (rowP_stable _ _ _ _ _) (stabC (rowsP_stable _ _ _) (stabC (rowP_stable _ _ _ _ _) stab0))))))))
          go_loopw [10, 13] (fun va vi wq => ∃ i : Nat, i ≤ j ∧ vi = .int .i64 (i : Int) ∧ va = .int .i64 ((A0 + i : Nat) : Int) ∧ Sts w2 (fopP fq (Cmd.uC 0 cs) (A0 + j) (A0 + j) fn' tm' :: blkP g (.cells (staC fi n0 n1 n2 ar tq c fq mp (t + 1) (cs.length + 1)) 119 (0, 0)) :: blkP mp (cntO cs.length) :: trkP tq cs.length :: couP c (t + 1) :: rowP 35 1 (.slice oa j oc) j ovs :: rowsP 5 ovs (frs (Cmd.uC 0 cs) A0 j) :: [rowP 39 5 (.slice wa cs.length wcp) cs.length (Cmd.wC 0 cs)]) wq) (fun _ vi _ => j - (intOf vi).toNat)
          case atStart => exact ⟨0, Nat.zero_le _, rfl, rfl, H5.out⟩
          case round =>
            clear H5
            obtain ⟨i, hi, rfl, rfl, hs⟩ := hrel
            have HXL := hid hs
            by_cases hij : i < j
            · obtain ⟨A, hA⟩ : ∃ A, A = A0 + i := ⟨_, rfl⟩
              have hAn : A < cs.length := by omega
              obtain ⟨e, he, hu, he4, he6, heb, hub, hul⟩ := unit_facts HOK.out hn12 A hAn
              obtain ⟨a1, nf, c1, hov, hn1, hfr⟩ := frame_at (hs.perm (List.perm_middle (l₁ := [_, _, _, _, _, _]))) i hij _ (by rw [← hA]; exact hu) hub
              rw [← hA] at hfr ⊢
              have hov' := (hs.perm (List.perm_middle (l₁ := [_, _, _, _, _]))).rowOwn
              obtain ⟨gq, gqc, hoa⟩ := own_pos hov' (by omega)
              injection hoa with hoa1 hoa2 hoa3
              subst hoa1
              have hce : wr.cell? ⟨gq, i, none⟩ = some (.slice a1 nf c1) := by
                have h := Sts.rowCell (hs.perm (List.perm_middle (l₁ := [_, _, _, _, _]))) i (by omega) _ hov
                exact h
              obtain ⟨gw, gwc, hwa⟩ := own_pos5 (Sts.rowOwnS (hs.perm (List.perm_middle (l₁ := [_, _, _, _, _, _, _]) (l₂ := [])))) (by omega)
              injection hwa with hwa1 hwa2 hwa3
              subst hwa1
              have hi0 : (0 : Int) ≤ (i : Int) := Int.natCast_nonneg _
              have hi1 : (i : Int) < (j : Int) := by omega
              obtain ⟨d, hd⟩ : ∃ d, d = Cmd.pkB true false 10 3 A e := ⟨_, rfl⟩
              rw [← hd] at hub hul hfr
              obtain ⟨x, hx⟩ : ∃ x, x = cs[A] := ⟨_, rfl⟩
              rw [← hx] at he
              have HXO : Hid (OrdOk w2 x) := hid (by rw [hx]; exact HOK.out _ (List.getElem_mem hAn))
              have HXC := hid hx
              have HD := hid hd
              have HE := hid he
              have HEL := hid (And.intro he4 (And.intro he6 heb))
              have K1 := hid (cR14Decode (s := A) (a := a1) (cap := c1) (w := wr) (n := nf) d (by omega) (by omega) (by omega) (by rw [hn1, ← hd]) hfr)
              have HUB := hid hub
              have HUL := hid hul
              have HHA := hid hA
              have hd600 : d.length ≤ 606 := by omega
              have hd1 : 1 ≤ d.length := by omega
              have he1 : 1 ≤ e.length := by omega
              have he600 : e.length ≤ 600 := he6
              have hA12 : A < 12 := by omega
              clear hs hu hov hn1 hfr hov' hoa2 hoa3 hwa2 hwa3 hd he he4 he6 heb hub hul hx hA
              go_wp2_with (first
                | (go_at_call 14; refine K1.out.mono ?_; rintro e1 w6 ⟨r1, rc1, rfl, hN1⟩
                   have h := Sts.new stab0 (Sts.nil wr) hN1
                   rw [u8s_len] at h
                   have HT1 := hid (Sts.alloc (stabC (rowP_stable _ _ _ _ _) stab0) h (.cells zeroTc 46))
                   clear h hN1)
                | (refine wpList_aggS HT1.out (stabC (rowP_stable _ _ _ _ _) stab0) rfl (.tmp 14) (.tmp 144) 46 rfl (tcV false false 5 0 A (.slice r1 d.length rc1)) rfl rfl szTc rfl rfl ?_; intro w7 h7
                   have H7 := hid h7
                   have f5 : w7.cell? ⟨w6.heap.size, 5, none⟩ = some (.slice r1 d.length rc1) := (Sts.boxCell h7 5 _ rfl).1
                   have q7 : RdB w7 (.slice r1 d.length rc1) d := Sts.rdB8 h7.tail HUB.out
                   have k2 := cR10Decode (c := A) (a := r1) (cap := rc1) (w := w7) d.length e (by omega) (by omega) (by omega) HUL.out (by rw [← HD.out]; exact q7)
                   rw [← HUL.out] at k2
                   have K2 := hid k2
                   clear h7 q7 k2 HT1)
                | (go_at_call 15; refine K2.out.mono ?_; rintro e2 w8 ⟨r2, rc2, rfl, hN2⟩
                   have h := Sts.new (stabC (blkP_stable _ _) (stabC (rowP_stable _ _ _ _ _) stab0)) H7.out hN2
                   rw [u8s_len] at h
                   have HT2 := hid (Sts.alloc (stabC (rowP_stable _ _ _ _ _) (stabC (blkP_stable _ _) (stabC (rowP_stable _ _ _ _ _) stab0))) h (.cells zeroTc 50))
                   clear h hN2)
                | (refine wpList_aggS HT2.out (stabC (rowP_stable _ _ _ _ _) (stabC (blkP_stable _ _) (stabC (rowP_stable _ _ _ _ _) stab0))) rfl (.tmp 16) (.tmp 150) 50 rfl (pkV true false 10 3 A (.slice r2 e.length rc2)) rfl rfl szPk rfl rfl ?_; intro w9 h9
                   have H9 := hid h9
                   have q9 : RdB w9 (.slice r2 e.length rc2) e := Sts.rdB8 h9.tail HEL.out.2.2
                   obtain ⟨b2, o2, hr2, _, _⟩ := RdB.at q9 (by omega)
                   subst hr2
                   have g5 : w9.cell? ⟨w8.heap.size, 5, none⟩ = some (.slice (some ⟨b2, o2, none⟩) e.length rc2) := (Sts.boxCell h9 5 _ rfl).1
                   have K3 := hid (cRDecode w9 b2 o2 e.length rc2 1 (A + 1) x.sv x.args x.data (by decide) (by omega) (by have := HXO.out.2.2.2.2; omega) HXO.out.1 (by rw [← HE.out]; exact q9))
                   clear h9 q9 HT2)
                | (go_at_call 16; refine K3.out.mono ?_; rintro e3 w10 ⟨aa, ca, ad, cd, rfl, hAr, hDr, hnlr, hb10⟩
                   have HS10 : Hid (Sts w10 (blkP w10.heap.size (.cells zeroCmd 39 (0, 0)) :: []) (w10.alloc (.cells zeroCmd 39))) := hid (Sts.alloc stab0 (Sts.nil w10) _)
                   have H10 := hid (Sts.quiet (stabC (blkP_stable _ _) (stabC (rowP_stable _ _ _ _ _) (stabC (blkP_stable _ _) (stabC (rowP_stable _ _ _ _ _) stab0)))) H9.out hb10)
                   have HAR := hid hAr
                   have HDR := hid hDr
                   clear hAr hDr hnlr hb10)
                | (refine wpList_aggS HS10.out stab0 rfl (.tmp 19) (.tmp 157) 39 rfl (cmdV 1 ((A + 1 : Nat) : Int) (x.sv : Int) (.slice aa x.args.length ca) (.slice ad x.data.length cd)) rfl rfl szCmdR rfl rfl ?_; intro w11 h11
                   have H11 := hid h11
                   have H12 := hid (Sts.quiet (stabC (blkP_stable _ _) (stabC (rowP_stable _ _ _ _ _) (stabC (blkP_stable _ _) (stabC (rowP_stable _ _ _ _ _) stab0)))) H10.out h11.below)
                   clear h11 HS10))
              have HXL11 := hid (Sts.quiet HSL.out HXL.out H12.out.below)
              have hq := want_cells (Sts.rowOwnS (HXL11.out.perm (List.perm_middle (l₁ := [_, _, _, _, _, _, _]) (l₂ := [])))) A hAn
              rw [← HXC.out] at hq
              have HWC := hid hq
              clear hq
              have HFC := hid (show ∀ y, Sts w11 [] y → y.cell? ⟨w6.heap.size, 0, none⟩ = some (.bool false) ∧ y.cell? ⟨w6.heap.size, 2, none⟩ = some (.int .i64 5) ∧ y.cell? ⟨w6.heap.size, 4, none⟩ = some (.int .i64 (A : Int)) ∧ y.cell? ⟨w6.heap.size, 5, none⟩ = some (.slice r1 d.length rc1) ∧ y.cell? ⟨w8.heap.size, 0, none⟩ = some (.bool true) ∧ y.cell? ⟨w8.heap.size, 2, none⟩ = some (.int .i64 10) ∧ y.cell? ⟨w8.heap.size, 4, none⟩ = some (.int .i64 (A : Int)) from fun y hy => ⟨cellK hy (Sts.boxCell H12.out.tail.tail 0 _ rfl).1, cellK hy (Sts.boxCell H12.out.tail.tail 2 _ rfl).1, cellK hy (Sts.boxCell H12.out.tail.tail 4 _ rfl).1, cellK hy (Sts.boxCell H12.out.tail.tail 5 _ rfl).1, cellK hy (Sts.boxCell H12.out 0 _ rfl).1, cellK hy (Sts.boxCell H12.out 2 _ rfl).1, cellK hy (Sts.boxCell H12.out 4 _ rfl).1⟩)
              have HSM := hid (fun (y : World) (hy : Sts w11 [] y) => cRSame y 1 ((A + 1 : Nat) : Int) (x.sv : Int) aa x.aa ad x.ad ca x.ca cd x.cd x.args x.data ((HAR.out.below H11.out.below).below hy.below) ((HXO.out.2.1.below HXL11.out.below).below hy.below) ((HDR.out.below H11.out.below).below hy.below) ((HXO.out.2.2.1.below HXL11.out.below).below hy.below) (by have := (HXO.out).1; have h3 := Cmd.argN_le (x.sv : Int); unfold Cmd.cmdOk at this; simp only [Bool.and_eq_true, decide_eq_true_eq] at this; omega))
              refine wp_region_quiet_class (fun y => Sts w11 [] y) (by kernel_rfl) (Eq.trans (b := Region.lexB .any ops35.toArray) (by kernel_rfl) lex35_ok) (Sts.drew stab0 (Sts.nil w11)) ?_
              iterate 49
                (refine quiet_want (by kernel_rfl) (fun K hK => ?_)
                 apply quiet_val
                 · intro w' hw'; obtain ⟨f0, f2, f4, f6, p0, p2, p4⟩ := HFC.out w' hw'; go_simp; rfl
                 refine hK _ ?_
                 clear hK K
                 refine wpQuiet_norm (by go_simp; rfl) ?_)
              refine quiet_want (by kernel_rfl) (fun K hK => ?_)
              apply quiet_val
              · intro w' hw'
                exact exec_ldS (.tmp 19) 39 rfl rfl (ldCmd rfl (Sts.quiet (stabC (blkP_stable _ _) stab0) H11.out hw'.below))
              refine hK _ ?_
              clear hK K
              refine wpQuiet_norm (by go_simp; rfl) ?_
              iterate 3
                (refine quiet_want (by kernel_rfl) (fun K hK => ?_)
                 apply quiet_val
                 · intro w' hw'; obtain ⟨f0, f2, f4, f6, p0, p2, p4⟩ := HFC.out w' hw'; go_simp; rfl
                 refine hK _ ?_
                 clear hK K
                 refine wpQuiet_norm (by go_simp; rfl) ?_)
              refine quiet_want (by kernel_rfl) (fun K hK => ?_)
              apply quiet_val
              · intro w' hw'
                exact exec_ldS (.tmp 211) 39 rfl rfl (ldCmd5 (cellK hw' HWC.out.1) (cellK hw' HWC.out.2.1) (cellK hw' HWC.out.2.2.1) (cellK hw' HWC.out.2.2.2.1) (cellK hw' HWC.out.2.2.2.2))
              refine hK _ ?_
              clear hK K
              refine wpQuiet_norm (by go_simp; rfl) ?_
              refine quiet_want (by kernel_rfl) (fun K hK => ?_)
              refine quiet_call (.bool true) 17 #[.agg (cmdV 1 ((A + 1 : Nat) : Int) (x.sv : Int) (.slice aa x.args.length ca) (.slice ad x.data.length cd)), .agg (cmdV 1 ((A + 1 : Nat) : Int) (x.sv : Int) (.slice x.aa x.args.length x.ca) (.slice x.ad x.data.length x.cd))] (fun w' => ?_) (fun w' hw' => ?_) ?_
              · go_simp; rfl
              · exact (HSM.out w' hw').mono fun e w'' hh => ⟨hh.1, Sts.quiet stab0 hw' hh.2⟩
              refine hK _ ?_
              clear hK K
              refine wpQuiet_norm (by go_simp; rfl) ?_
              iterate 2
                (refine quiet_want (by kernel_rfl) (fun K hK => ?_)
                 apply quiet_val
                 · intro w' hw'; obtain ⟨f0, f2, f4, f6, p0, p2, p4⟩ := HFC.out w' hw'; go_simp; rfl
                 refine hK _ ?_
                 clear hK K
                 refine wpQuiet_norm (by go_simp; rfl) ?_)
              refine wpQuiet_nil ?_
              intro z hz
              have HZ := hid hz
              clear hz
              go_wp2_with fail
              go_roundw
              case rel => exact ⟨i + 1, by omega, by first | rfl | go_num, by rw [show ((A0 + (i + 1) : Nat) : Int) = (A : Int) + 1 by have := HHA.out; omega], Sts.quiet HSL.out HXL11.out HZ.out.below⟩
              case measure => simp [intOf]; omega
            · have hij2 : i = j := by omega
              have HIJ := hid hij2
              clear hs hij2
              go_wp2_with fail
              go_roundw
              case rel =>
                refine ⟨t + 1, A0 + j, fn', tm', by omega, by first | rfl | go_num, by rw [HIJ.out], hjn, by have := HF.out.1; omega, by have := HF.out.2; omega, ?_⟩
                have h1 := Sts.sub HXL.out (List.Sublist.cons_cons _ (List.Sublist.cons_cons _ (List.Sublist.cons_cons _ (List.Sublist.cons_cons _ (List.Sublist.cons_cons _ ((List.Sublist.refl _).cons _ |>.cons _))))))
                exact h1.perm (List.perm_middle (l₁ := [_, _])).symm
              case measure => simp [intOf]; omega
        · clear hs
          go_wp2_with fail
          go_ret
          exact ⟨rfl, (Sts.quiet stab0 (Sts.nil_below HB2.out) HS.out.below).below⟩
end Go.Proofs.YtnklmadmenkdoaaGreat
