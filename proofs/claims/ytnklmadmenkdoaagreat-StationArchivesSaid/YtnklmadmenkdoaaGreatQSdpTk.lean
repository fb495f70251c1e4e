/- A time code, decoded. The tracker finds commands and takes reports. The tracker takes a report; the stage of a command. -/
import Derived.Test.YtnklmadmenkdoaaGreatQSdpM
import Derived.Test.YtnklmadmenkdoaaGreatQCucA
import Derived.Test.YtnklmadmenkdoaaGreatQSndR
import Derived.Test.YtnklmadmenkdoaaGreatQTkB
set_option linter.unusedVariables false
set_option linter.unusedSimpArgs false
namespace Go.Proofs.YtnklmadmenkdoaaGreat
open Go.RowKit Go.Proofs.Num
theorem share6 {G : Nat → Nat → Nat → Nat → World → Prop} {goal : Prop} (S : Nat → Nat → Nat → Nat → World → Prop) (main : (∀ a b c d z, S a b c d z → G a b c d z) → goal) (key : ∀ a b c d z, S a b c d z → G a b c d z) : goal := main key
set_option maxRecDepth 100000 in
theorem eff_allocF {L : Prop} {o : Oper} {a : Act} {D : WP} {K : Act → WP → WP → Prop} {W y : World} {l : List HProp} (hl : ∀ B ∈ l, Stable B) (hS : Sts W l y) (ho : o.op = .alloc 316) (hD : ∀ z g, Sts W (blkP g (.cells #[.int .i64 0, .int .i64 0] 316 (0, 0)) :: l) z → D z)
    (hk : ∀ g, K (a.put o.dst (.pointer (some ⟨g, 0, none⟩))) D (fun z => Sts W (blkP g (.cells #[.int .i64 0, .int .i64 0] 316 (0, 0)) :: l) z)) : effUpon Tryz.prog L o.dst a D K ((execOp a.eval o).run Tryz.prog y) := by
  have h := hS.alloc hl (.cells #[.int .i64 0, .int .i64 0] 316)
  refine eff_value (w := y.alloc (.cells #[.int .i64 0, .int .i64 0] 316)) (v := .pointer (some ⟨y.heap.size, 0, none⟩)) D _ ?_ h (fun z hz => hD z _ hz) (fun _ h => h) (hk _)
  unfold execOp
  simp only [ho]
  kernel_rfl
theorem results_cell_4 {fn : Func} {p u x y : Tmp} {ty : TypeId} (h : fn.results = #[.tmp u, .cell p ty, .tmp x, .tmp y]) (tmps : Array Value) (P : Program) (w : World) :
    (results fn tmps).run P w =
      ((asAddr (tmps.getD p undef)).run P w).andThen fun a w₁ => ((loadVar ty a).run P w₁).andThen fun v w₂ => .ok (.tuple #[tmps.getD u undef, v, tmps.getD x undef, tmps.getD y undef]) w₂ := by
  simp only [results, h]
  simp [Sem.run_bind, Result.andThen]
/-- A time code of four bytes of seconds and one of their fraction. -/
def tcR (t : Nat) : List Nat := [t / 256 / 16777216 % 256, t / 256 / 65536 % 256, t / 256 / 256 % 256, t / 256 % 256, t % 256]
def tcC (t : Nat) : List Nat := 29 :: tcR t
theorem tcR_num (t : Nat) (h : t < 1099511627776) : Octr.num (tcR t) 0 4 = t / 256 ∧ Octr.num (tcR t) 4 1 = t % 256 := by
  constructor <;> simp [Octr.num, tcR]
  omega
theorem tcR_lt (t : Nat) : ∀ x ∈ tcR t, x < 256 := by
  intro x hx
  simp only [tcR, List.mem_cons, List.not_mem_nil, or_false] at hx
  omega
set_option maxRecDepth 100000 in
set_option maxHeartbeats 4000000 in
theorem cCucDecode (w : World) (t : Nat) (d : List Nat) (b boff cap N : Nat) (ht : t < 1099511627776) (hN : N = 6 + d.length) (hd : d.length ≤ 300) (hR : RdB w (.slice (some ⟨b, boff, none⟩) N cap) (tcC t ++ d)) :
    Calls Tryz.prog 214 #[.slice (some ⟨b, boff, none⟩) N cap] w fun e w' => e = .returned (.tuple #[.int .i64 (t : Int), .agg #[.int .i64 4, .int .i64 1], .int .i64 6, .int .i64 0]) ∧ Below w.heap.size w w' := by
  have HS : Hid (Sts w (blkP w.heap.size (.cells #[.int .i64 0, .int .i64 0] 316 (0, 0)) :: []) (w.alloc (.cells #[.int .i64 0, .int .i64 0] 316))) := hid (Sts.alloc stab0 (Sts.nil w) _)
  have HLB : Hid (∀ B ∈ [blkP w.heap.size (.cells #[.int .i64 0, .int .i64 0] 316 (0, 0))], Stable B) := hid (stabC (blkP_stable _ _) stab0)
  have hcap := (Rd.cap hR.1).2
  have CB := hid (show ∀ y : World, Below w.heap.size w y → y.cell? ⟨b, boff, none⟩ = some (.int .u8 29) from fun y hy => by
    obtain ⟨b', off', e, hb, hcl⟩ := RdB.at hR (by simp [tcC])
    injection e with e
    injection e with e1 e2
    subst e1; subst e2
    have h := hcl 0 (by simp [tcC])
    rw [Nat.add_zero] at h
    exact (hy.cell hb).trans h)
  have HX := hid (show ∀ y : World, Below w.heap.size w y → RdB y (.slice (some ⟨b, boff + 1, none⟩) 5 (cap - 1)) (tcR t) from fun y hy => by
    have h0 : RdB w (.slice (some ⟨b, boff, none⟩) N cap) ([29] ++ tcR t ++ d) := hR
    exact (RdB.mid h0 (cap - 1) (by show 5 ≤ cap - 1 ∧ _; unfold maxLen at *; omega)).below hy)
  have c0 : (w.alloc (.cells #[.int .i64 0, .int .i64 0] 316)).cell? ⟨b, boff, none⟩ = some (.int .u8 29) := CB.out _ HS.out.below
  have d1 : decide ((N : Int) < 6) = false := decide_eq_false (by omega)
  have d0 : ((N : Int) == 0) = false := by rw [beq_eq_false_iff_ne]; omega
  have i0 : 0 < N := by omega
  have i0' : (0 : Int) < (N : Int) := by omega
  have s1 : (6 : Int) ≤ (cap : Int) := by omega
  have s2 : ¬ cap = 1 := by omega
  have HNUM := hid (tcR_num t ht)
  obtain ⟨u, hu⟩ : ∃ u, u = t / 256 := ⟨_, rfl⟩
  obtain ⟨f, hf⟩ : ∃ f, f = t % 256 := ⟨_, rfl⟩
  rw [← hu, ← hf] at HNUM
  have w1 : IntKind.i64.wrap (u : Int) = (u : Int) := by rw [IntKind.wrap_i64]; omega
  have w2 : IntKind.i64.wrap (f : Int) = (f : Int) := by rw [IntKind.wrap_i64]; omega
  have w3 : wrap64 ((u : Int) * 256) = ((u * 256 : Nat) : Int) := by unfold wrap64; omega
  have w4 : wrap64 ((u : Int) * 256 + (f : Int)) = (t : Int) := by unfold wrap64; omega
  have n0 : (N : Int) ≠ 0 := by omega
  have w13 : IntKind.u8.wrap 13 = 13 := by decide
  clear hR hcap ht hN hd hu hf
  go_enter Tryz.func214, Tryz.ntmps214
  go_wp2_with fail
  apply share6 (fun g off c fp z => Sts w (blkP fp (.cells #[.int .i64 4, .int .i64 1] 316 (0, 0)) :: [blkP w.heap.size (.cells #[.int .i64 0, .int .i64 0] 316 (0, 0))]) z)
  · intro key
    refine wp_region_ordQ (.pure 1 (.pure 2 (.pure 3 (.pure 4 (.eff2 0 7 (.pure 5 (.pure 6 (.eff 7 (.eff 8 .nil)))) (.eff 0 (.pure 5 (.pure 6 (.eff 8 .nil))))))))) (fun y => y.cell? ⟨b, boff, none⟩ = some (.int .u8 29)) (fun y => Sts w ([blkP w.heap.size (.cells #[.int .i64 0, .int .i64 0] 316 (0, 0))]) y) (by kernel_rfl) (by kernel_rfl) (HS.out.drew (HLB.out)) (fun y hy => CB.out y hy.below) ?_
    iterate 4
      (apply ordq_pure (ho := rfl)
       · go_simp
       · intro x hx; go_simp; rfl
       apply ordq_norm
       · go_simp; rfl)
    refine ordq_eff2 ?_ ?_
    · apply ordq_eff (ho := rfl)
      · go_simp
      intro y hy
      refine eff_call (f := 267) (by go_simp) (cCucAllP HLB.out hy) ?_
      rintro e w3 ⟨g, off, c, rfl, hc, h3⟩
      refine ⟨_, rfl, (fun y => y.cell? ⟨b, boff, none⟩ = some (.int .u8 29) ∧ y.cell? ⟨g, off + 26, none⟩ = some (.int .i64 4) ∧ y.cell? ⟨g, off + 27, none⟩ = some (.int .i64 1)), (fun y => Sts w (cucP g off c :: [blkP w.heap.size (.cells #[.int .i64 0, .int .i64 0] 316 (0, 0))]) y), h3, (fun y hy => ⟨CB.out y hy.below, cuc_cells hy⟩), (fun _ h => h.1), ?_⟩
      clear h3 hy y 
      apply ordq_norm
      · go_simp; rfl
      iterate 2
        (apply ordq_pure (ho := rfl)
         · go_simp
         · intro x hx; obtain ⟨k0, k1, k2⟩ := hx; go_simp; rfl
         apply ordq_norm
         · go_simp; rfl)
      apply ordq_eff (ho := rfl)
      · go_simp
      intro y hy
      refine eff_allocF (stabC (cucP_stable _ _ _) HLB.out) hy rfl (fun z fp hz => ⟨CB.out z hz.below, cuc_cells hz.tail⟩) ?_
      intro fp
      apply ordq_norm
      · go_simp; rfl
      clear hy y
      apply ordq_eff (ho := rfl)
      · go_simp
      intro y hy
      refine eff_aggS hy (stabC (cucP_stable _ _ _) HLB.out) (.tmp 6) (.tmp 32) 316 rfl #[.int .i64 4, .int .i64 1] ?_ ?_ szFmt rfl rfl (fun y => y.cell? ⟨b, boff, none⟩ = some (.int .u8 29) ∧ y.cell? ⟨g, off + 26, none⟩ = some (.int .i64 4) ∧ y.cell? ⟨g, off + 27, none⟩ = some (.int .i64 1)) (fun z hz => ⟨CB.out z hz.below, cuc_cells hz.tail⟩) ?_
      · go_simp
      · go_simp
      apply ordq_norm
      · go_simp; rfl
      clear hy y
      refine ordq_nil fun z hz => ?_
      exact key g off c fp z (Sts.sub hz (.cons_cons _ (.cons _ (List.Sublist.refl _))))
    · apply ordq_eff (ho := rfl)
      · go_simp
      intro y hy
      refine eff_allocF HLB.out hy rfl (fun z fp hz => CB.out z hz.below) ?_
      intro fp
      apply ordq_norm
      · go_simp; rfl
      clear hy y
      apply ordq_eff (ho := rfl)
      · go_simp
      intro y hy
      refine eff_call (f := 267) (by go_simp) (cCucAllP (stabC (blkP_stable _ _) HLB.out) hy) ?_
      rintro e w3 ⟨g, off, c, rfl, hc, h3⟩
      refine ⟨_, rfl, (fun y => y.cell? ⟨b, boff, none⟩ = some (.int .u8 29) ∧ y.cell? ⟨g, off + 26, none⟩ = some (.int .i64 4) ∧ y.cell? ⟨g, off + 27, none⟩ = some (.int .i64 1)), (fun y => Sts w (cucP g off c :: blkP fp (.cells #[.int .i64 0, .int .i64 0] 316 (0, 0)) :: [blkP w.heap.size (.cells #[.int .i64 0, .int .i64 0] 316 (0, 0))]) y), h3, (fun y hy => ⟨CB.out y hy.below, cuc_cells hy⟩), (fun _ h => h.1), ?_⟩
      clear h3 hy y 
      apply ordq_norm
      · go_simp; rfl
      iterate 2
        (apply ordq_pure (ho := rfl)
         · go_simp
         · intro x hx; obtain ⟨k0, k1, k2⟩ := hx; go_simp; rfl
         apply ordq_norm
         · go_simp; rfl)
      apply ordq_eff (ho := rfl)
      · go_simp
      intro y hy
      refine eff_aggS hy.swap (stabC (cucP_stable _ _ _) HLB.out) (.tmp 6) (.tmp 32) 316 rfl #[.int .i64 4, .int .i64 1] ?_ ?_ szFmt rfl rfl (fun y => y.cell? ⟨b, boff, none⟩ = some (.int .u8 29) ∧ y.cell? ⟨g, off + 26, none⟩ = some (.int .i64 4) ∧ y.cell? ⟨g, off + 27, none⟩ = some (.int .i64 1)) (fun z hz => ⟨CB.out z hz.below, cuc_cells hz.tail⟩) ?_
      · go_simp
      · go_simp
      apply ordq_norm
      · go_simp; rfl
      clear hy y
      refine ordq_nil fun z hz => ?_
      exact key g off c fp z (Sts.sub hz (.cons_cons _ (.cons _ (List.Sublist.refl _))))
  · intro g off c fp z hz
    have f0 : z.cell? ⟨fp, 0, none⟩ = some (.int .i64 4) := (Sts.boxCell hz 0 _ rfl).1
    have f1 : z.cell? ⟨fp, 1, none⟩ = some (.int .i64 1) := (Sts.boxCell hz 1 _ rfl).1
    have HZ := hid hz
    clear hz
    go_wp2_with fail
    refine (cCucSize z).mono ?_
    rintro e z1 ⟨rfl, h1⟩
    have h2 := HZ.out.quiet (stabC (blkP_stable _ _) HLB.out) h1
    have f0a : z1.cell? ⟨fp, 0, none⟩ = some (.int .i64 4) := (Sts.boxCell h2 0 _ rfl).1
    have f1a : z1.cell? ⟨fp, 1, none⟩ = some (.int .i64 1) := (Sts.boxCell h2 1 _ rfl).1
    have HZ1 := hid h2
    clear h1 h2 HZ f0 f1
    go_wp2_with fail
    refine (cCucSize z1).mono ?_
    rintro e z2 ⟨rfl, h1⟩
    have h2 := HZ1.out.quiet (stabC (blkP_stable _ _) HLB.out) h1
    have KN := hid (cOrNew (stabC (blkP_stable _ _) HLB.out) h2 (.slice (some ⟨b, boff + 1, none⟩) 5 (cap - 1)) (tcR t) (HX.out _ h2.below) (NilOk.some _ _ _) (by show 5 < 1000000; decide) (by show 1 ≤ 5; decide))
    clear h1 h2 HZ1 f0a f1a
    go_wp2_with fail
    refine KN.out.mono ?_
    rintro e z3 ⟨p, g9, gc, rfl, h3⟩
    have f0b : z3.cell? ⟨fp, 0, none⟩ = some (.int .i64 4) := (Sts.boxCell h3.tail.tail 0 _ rfl).1
    have KU := hid (cOrUint (stabC (blkP_stable _ _) HLB.out) p g9 gc 0 4 (tcR t) (tcR_lt t) (by decide) (by decide) (by show 4 ≤ 5; decide) (by show 5 < 1000; decide) h3)
    rw [HNUM.out.1] at KU
    clear h3 KN
    go_wp2_with fail
    refine KU.out.mono ?_
    rintro e z4 ⟨rfl, v4, hv4, h4⟩
    have hv4' := hv4 (by show 4 < 5; decide)
    subst hv4'
    have f1b : z4.cell? ⟨fp, 1, none⟩ = some (.int .i64 1) := (Sts.boxCell h4.tail.tail 1 _ rfl).1
    have H4 : Hid (Sts w (blkP p (rdrO (.slice (some ⟨g9, 4, none⟩) 1 (gc - 4))) :: rowP 5 1 (.slice (some ⟨g9, 0, none⟩) 5 gc) 5 (u8s (tcR t)) :: blkP fp (.cells #[.int .i64 4, .int .i64 1] 316 (0, 0)) :: [blkP w.heap.size (.cells #[.int .i64 0, .int .i64 0] 316 (0, 0))]) z4) := hid h4
    clear h4 hv4 KU f0b
    go_wp2_with fail
    rw [w3]
    go_loopw [8, 52] (fun x i wr => (x = .int .i64 ((u * 256 : Nat) : Int) ∧ i = .int .i64 0 ∧ wr = z4) ∨ (x = .int .i64 (t : Int) ∧ i = .int .i64 1 ∧ ∃ v9, Sts w (blkP p (rdrO v9) :: rowP 5 1 (.slice (some ⟨g9, 0, none⟩) 5 gc) 5 (u8s (tcR t)) :: blkP fp (.cells #[.int .i64 4, .int .i64 1] 316 (0, 0)) :: [blkP w.heap.size (.cells #[.int .i64 0, .int .i64 0] 316 (0, 0))]) wr)) (fun _ i _ => 1 - (intOf i).toNat)
    case atStart => exact Or.inl ⟨rfl, rfl, rfl⟩
    case round =>
      rcases hrel with ⟨rfl, rfl, rfl⟩ | ⟨rfl, rfl, v9, hs⟩
      · have KU := hid (cOrUint (stabC (blkP_stable _ _) HLB.out) p g9 gc 4 1 (tcR t) (tcR_lt t) (by decide) (by decide) (by show 5 ≤ 5; decide) (by show 5 < 1000; decide) H4.out)
        rw [HNUM.out.2] at KU
        go_wp2_with (go_at_call 269; refine KU.out.mono ?_; rintro e z5 ⟨rfl, v5, hv5, h5⟩; have H5 := hid h5; clear h5 hv5)
        refine ⟨⟨_, _, _, _, _, _, _, _, _, _, _, _, _, _, _, _, _, _, _, _, _, _, _, ?_, rfl⟩, ?_⟩
        · refine Or.inr ?_
          exact ⟨by rw [w4], rfl, v5, H5.out⟩
        · simp [intOf]
      · have HE := hid (hs.perm (List.perm_middle (l₁ := [_, _])))
        clear hs H4
        go_wp2_with fail
        refine wp_region_ordQ (.pure 0 (.pure 1 (.pure 2 (.eff 3 (.pure 4 (.eff 5 (.pure 6 (.pure 7 .nil)))))))) (fun y => (loadVar 316 ⟨fp, 0, none⟩).run Tryz.prog y = .ok (.agg #[.int .i64 4, .int .i64 1]) y) (fun y => Sts w (blkP fp (.cells #[.int .i64 4, .int .i64 1] 316 (0, 0)) :: blkP p (rdrO v9) :: rowP 5 1 (.slice (some ⟨g9, 0, none⟩) 5 gc) 5 (u8s (tcR t)) :: [blkP w.heap.size (.cells #[.int .i64 0, .int .i64 0] 316 (0, 0))]) y) (by kernel_rfl) (by kernel_rfl) (HE.out.drew (stabC (blkP_stable _ _) (stabC (blkP_stable _ _) (stabC (rowP_stable _ _ _ _ _) HLB.out)))) (fun y hy => ldFmt rfl hy) ?_
        iterate 1
          (apply ordq_pure (ho := rfl)
           · go_simp
           · intro x hx; go_simp; rfl
           apply ordq_norm
           · go_simp; rfl)
        apply ordq_pure (ho := rfl)
        · go_simp
        · exact fun x hx => exec_ldS (.tmp 6) 316 rfl rfl hx
        apply ordq_norm
        · go_simp; rfl
        apply ordq_pure (ho := rfl)
        · go_simp
        · exact fun x hx => exec_ldS (.tmp 6) 316 rfl rfl hx
        apply ordq_norm
        · go_simp; rfl
        apply ordq_eff (ho := rfl)
        · go_simp
        intro y hy
        refine eff_call (f := 268) (by go_simp) (cCucSize y) ?_
        rintro e w3 ⟨rfl, h3⟩
        have h4 := hy.quiet (stabC (blkP_stable _ _) (stabC (blkP_stable _ _) (stabC (rowP_stable _ _ _ _ _) HLB.out))) h3
        clear h3
        refine ⟨_, rfl, (fun y => (loadVar 316 ⟨fp, 0, none⟩).run Tryz.prog y = .ok (.agg #[.int .i64 4, .int .i64 1]) y), (fun y => Sts w (blkP fp (.cells #[.int .i64 4, .int .i64 1] 316 (0, 0)) :: blkP p (rdrO v9) :: rowP 5 1 (.slice (some ⟨g9, 0, none⟩) 5 gc) 5 (u8s (tcR t)) :: [blkP w.heap.size (.cells #[.int .i64 0, .int .i64 0] 316 (0, 0))]) y), h4, (fun y hy => ldFmt rfl hy), (fun _ h => h), ?_⟩
        clear h4 hy y 
        apply ordq_norm
        · go_simp; rfl
        iterate 1
          (apply ordq_pure (ho := rfl)
           · go_simp
           · intro x hx; go_simp; rfl
           apply ordq_norm
           · go_simp; rfl)
        apply ordq_eff (ho := rfl)
        · go_simp
        intro y hy
        refine eff_aggS (hy.perm (List.perm_append_comm (l₁ := [_, _, _]) (l₂ := [_]))) (stabC (blkP_stable _ _) (stabC (blkP_stable _ _) (stabC (rowP_stable _ _ _ _ _) stab0))) (.tmp 3) (.tmp 70) 316 rfl #[.int .i64 4, .int .i64 1] ?_ ?_ szFmt rfl rfl (fun y => (loadVar 316 ⟨fp, 0, none⟩).run Tryz.prog y = .ok (.agg #[.int .i64 4, .int .i64 1]) y) (fun z hz => ldFmt rfl hz.tail) ?_
        · go_simp
        · go_simp
        apply ordq_norm
        · go_simp; rfl
        clear hy y
        iterate 2
          (apply ordq_pure (ho := rfl)
           · go_simp
           · intro x hx; go_simp; rfl
           apply ordq_norm
           · go_simp; rfl)
        refine ordq_nil fun z hz => ?_
        have HZ := hid hz
        clear hz HE
        go_wp2_with fail
        refine bodyPost_ret (v := .tuple #[.int .i64 (t : Int), .agg #[.int .i64 4, .int .i64 1], .int .i64 6, .int .i64 0]) ?_ rfl ⟨rfl, HZ.out.below⟩
        rw [results_cell_4 Tryz.results214]
        show ((asAddr (.pointer (some ⟨w.heap.size, 0, none⟩))).run Tryz.prog z).andThen _ = _
        rw [show (asAddr (.pointer (some ⟨w.heap.size, 0, none⟩))).run Tryz.prog z = .ok ⟨w.heap.size, 0, none⟩ z by simp [asAddr]]
        show ((loadVar 316 ⟨w.heap.size, 0, none⟩).run Tryz.prog z).andThen _ = _
        rw [ldFmt rfl HZ.out]
        rfl
end Go.Proofs.YtnklmadmenkdoaaGreat
namespace Trk
/-- A report taken. -/
def take (ts : List (Int × Int)) (s num st co : Int) : List (Int × Int) :=
  if s = 1 ∧ 1 ≤ num ∧ num ≤ ts.length then (if Ver.fol (ts.getD (num - 1).toNat (0, 0)).1 st = true then ts.set (num - 1).toNat (st, co) else ts) else ts
theorem take_len (ts : List (Int × Int)) (s num st co : Int) : (take ts s num st co).length = ts.length := by
  unfold take; split
  · split <;> simp
  · rfl
end Trk
namespace Go.Proofs.YtnklmadmenkdoaaGreat
open Go.RowKit Go.Proofs.Num
end Go.Proofs.YtnklmadmenkdoaaGreat
namespace Go.Proofs.YtnklmadmenkdoaaGreat
open Go.RowKit Go.Proofs.Num
section
variable {W w : World} {l : List HProp} (tq g off c now : Nat) (ts : List (Int × Int))
set_option maxRecDepth 100000 in
set_option maxHeartbeats 4000000 in
theorem cTkTake (hl : ∀ B ∈ l, Stable B) (h : Sts W (trkL tq g off c now ts l) w) (s num st co : Int) (hok : Ver.ok s num st co = true) (n : Nat) (h1 : now ≤ n) (h2 : n ≤ 1000000) (hn : ts.length < 1000) :
    Calls Tryz.prog 216 #[.pointer (some ⟨tq, 0, none⟩), .agg (ackV s num st co), .int .i64 (n : Int)] w fun e w' => ∃ er, e = .returned (.int .i64 er) ∧ Sts W (trkL tq g off c n (Trk.take ts s num st co) l) w' := by
  have hB : Sts W (trkL tq g off c now ts (blkP w.heap.size (.cells (ackV s num st co) 61 (0, 0)) :: l)) (w.alloc (.cells (ackV s num st co) 61)) := (Sts.alloc (trkL_stable _ _ _ _ _ _ hl) h (.cells (ackV s num st co) 61)).third'
  have KV := hid (cTkValid tq g off c now ts hB)
  have KA := hid (cTkAdvance tq g off c now ts (stabC (blkP_stable _ _) hl) hB n h1 h2)
  have KO := hid (show ∀ y : World, Calls Tryz.prog 67 #[.agg (ackV s num st co)] y fun e w' => e = .returned (.bool true) ∧ Below y.heap.size y w' from fun y => by
    have h := cVerValid y s num st co
    rw [hok] at h; exact h)
  have HL := hid hl
  have HN := hid hn
  have HLS := hid (show ∀ B ∈ trkL tq g off c n ts (blkP w.heap.size (.cells (ackV s num st co) 61 (0, 0)) :: l), Stable B from trkL_stable _ _ _ _ _ _ (stabC (blkP_stable _ _) hl))
  clear h hB hok h1 h2 hn hl
  by_cases hf : s = 1 ∧ 1 ≤ num ∧ num ≤ ts.length
  · obtain ⟨hs1, hf1, hf2⟩ := hf
    obtain ⟨j, hnum⟩ : ∃ j : Nat, num = ((j + 1 : Nat) : Int) := ⟨(num - 1).toNat, by omega⟩
    have hj : j < ts.length := by omega
    have KF := hid (show ∀ y : World, Sts W (trkL tq g off c n ts (blkP w.heap.size (.cells (ackV s num st co) 61 (0, 0)) :: l)) y → Calls Tryz.prog 120 #[.pointer (some ⟨tq, 0, none⟩), .int .i64 s, .int .i64 num] y fun e w' => e = .returned (.pointer (some ⟨g, off + j * 5, none⟩)) ∧ y = w' from fun y hy => by
      have q := cTkFindYes tq g off c n ts hy j hj HN.out
      rw [← hnum] at q
      rw [hs1]
      exact q)
    obtain ⟨sj, hsj⟩ : ∃ x, x = ts[j].1 := ⟨_, rfl⟩
    have HG := hid (show ∀ y : World, Sts W (trkL tq g off c n ts (blkP w.heap.size (.cells (ackV s num st co) 61 (0, 0)) :: l)) y → y.cell? ⟨g, off + j * 5 + 3, none⟩ = some (.int .i64 sj) from fun y hy => (trkC tq g off c n ts hy j hj 3 (by decide) _ (by rw [hsj]; rfl)).1)
    have HTK : Hid (Trk.take ts s num st co = if Ver.fol sj st = true then ts.set j (st, co) else ts) := hid (by
      unfold Trk.take
      rw [if_pos ⟨hs1, by omega, by omega⟩, show (num - 1).toNat = j by omega, List.getD_eq_getElem?_getD, List.getElem?_eq_getElem hj, Option.getD_some, ← hsj])
    have HJ := hid hj
    clear hs1 hnum hf1 hf2 hj hsj
    go_enter Tryz.func216, Tryz.ntmps216
    go_wp2_with fail
    refine KV.out.mono ?_
    rintro e w1 ⟨rfl, rfl⟩
    go_wp2_with fail
    refine KA.out.mono ?_
    rintro e w2 ⟨rfl, h2⟩
    have HLD := hid (ldAck rfl h2.third)
    have q0 : w2.cell? ⟨w.heap.size, 0, none⟩ = some (.int .i64 s) := (Sts.boxCell h2.third 0 _ rfl).1
    have H2 := hid h2
    clear h2 KV KA
    go_wp2_with (first
      | (refine wpList_ldS rfl (.tmp 4) 61 rfl rfl (.agg (ackV s num st co)) HLD.out ?_)
      | (go_at_call 67; refine (KO.out _).mono ?_; rintro e w3 ⟨rfl, h3⟩
         have h4 := H2.out.quiet HLS.out h3
         have p0 : w3.cell? ⟨w.heap.size, 0, none⟩ = some (.int .i64 s) := (Sts.boxCell h4.third 0 _ rfl).1
         have p1 : w3.cell? ⟨w.heap.size, 1, none⟩ = some (.int .i64 num) := (Sts.boxCell h4.third 1 _ rfl).1
         have H3 := hid h4
         clear h3 h4)
      | (go_at_call 120; refine (KF.out _ H3.out).mono ?_; rintro e w4 ⟨rfl, rfl⟩))
    refine wp_region_ordQ (.pure 0 (.pure 1 (.pure 2 (.pure 3 (.pure 4 (.pure 5 (.pure 6 (.pure 7 .nil)))))))) (fun y => y.cell? ⟨g, off + j * 5 + 3, none⟩ = some (.int .i64 sj) ∧ y.cell? ⟨w.heap.size, 2, none⟩ = some (.int .i64 st)) (fun y => Sts W (trkL tq g off c n ts (blkP w.heap.size (.cells (ackV s num st co) 61 (0, 0)) :: l)) y) (by kernel_rfl) (by kernel_rfl) (H3.out.drew (trkL_stable _ _ _ _ _ _ (stabC (blkP_stable _ _) HL.out))) (fun y hy => ⟨HG.out y hy, (Sts.boxCell hy.third 2 _ rfl).1⟩) ?_
    iterate 6
      (apply ordq_pure (ho := rfl)
       · go_simp
       · intro x hx; obtain ⟨k0, k1⟩ := hx; go_simp; rfl
       apply ordq_norm
       · go_simp; rfl)
    apply ordq_call (ho := rfl) (f := 19) (args := #[.int .i64 sj, .int .i64 st]) (v := .bool (Ver.fol sj st)) (h2 := fun x _ => cFollows x sj st)
    · go_simp
    · intro x hx; go_simp
    apply ordq_norm
    · go_simp; rfl
    iterate 1
      (apply ordq_pure (ho := rfl)
       · go_simp
       · intro x hx; go_simp; rfl
       apply ordq_norm
       · go_simp; rfl)
    refine ordq_nil fun z hz => ?_
    have H4 := hid hz
    clear hz H3
    rcases Bool.eq_false_or_eq_true (Ver.fol sj st) with hfol | hfol
    · rw [hfol]
      have HT : Hid (Trk.take ts s num st co = ts.set j (st, co)) := hid (by rw [HTK.out, if_pos hfol])
      have g3 := trkC tq g off c n ts H4.out j HJ.out 3 (by decide) _ rfl
      have g4 := trkC tq g off c n ts H4.out j HJ.out 4 (by decide) _ rfl
      have e2 : z.cell? ⟨w.heap.size, 2, none⟩ = some (.int .i64 st) := (Sts.boxCell H4.out.third 2 _ rfl).1
      have e3 : z.cell? ⟨w.heap.size, 3, none⟩ = some (.int .i64 co) := (Sts.boxCell H4.out.third 3 _ rfl).1
      have g3a := g3.1
      have g3f := g3.2
      have hst := Sts.regStore (stabC (regP_stable _ _ _) (stabC (blkP_stable _ _) HL.out)) H4.out.swap (j * 5 + 3) (.int .i64 st) (by rw [Trk.cells_len]; have := HJ.out; omega)
      have hst2 := Sts.regStore (stabC (regP_stable _ _ _) (stabC (blkP_stable _ _) HL.out)) hst (j * 5 + 4) (.int .i64 co) (by rw [List.length_set, Trk.cells_len]; have := HJ.out; omega)
      rw [Trk.cells_set ts 0 j st co HJ.out] at hst2
      rw [← Nat.add_assoc, ← Nat.add_assoc] at hst2
      rw [← Nat.add_assoc] at hst
      have k4 := Sts.regCell hst (j * 5 + 4) (.int .i64 ts[j].2) (by
        rw [List.getElem?_set_ne (by omega)]
        have h1 := Trk.cells_get ts 0 j HJ.out 4 (by decide)
        exact h1)
      rw [← Nat.add_assoc] at k4
      have k4a := k4.1
      have k4f := k4.2
      have k3 : (z.setCell ⟨g, off + j * 5 + 3, none⟩ (.int .i64 st)).cell? ⟨w.heap.size, 3, none⟩ = some (.int .i64 co) := (Sts.boxCell hst.third 3 _ rfl).1
      have HF := hid hst2
      clear hst hst2 g3 g4 k4
      go_wp2
      go_ret
      refine ⟨_, rfl, ?_⟩
      rw [HT.out]
      have h9 := (Sts.sub HF.out (.cons_cons _ (.cons_cons _ (.cons _ (List.Sublist.refl _))))).swap
      have hlen : ts.length = (ts.set j (st, co)).length := by rw [List.length_set]
      unfold trkL
      rw [← hlen]
      exact h9
    · rw [hfol]
      have HT : Hid (Trk.take ts s num st co = ts) := hid (by rw [HTK.out, if_neg (by rw [hfol]; decide)])
      go_wp2_with fail
      go_ret
      refine ⟨_, rfl, ?_⟩
      rw [HT.out]
      exact (Sts.sub H4.out (.cons_cons _ (.cons_cons _ (.cons _ (List.Sublist.refl _)))))
  · have KF := hid (show ∀ y : World, Sts W (trkL tq g off c n ts (blkP w.heap.size (.cells (ackV s num st co) 61 (0, 0)) :: l)) y → _ from fun y hy => cTkFindNo tq g off c n ts hy s num hf HN.out)
    have HT : Hid (Trk.take ts s num st co = ts) := hid (by unfold Trk.take; rw [if_neg hf])
    clear hf
    go_enter Tryz.func216, Tryz.ntmps216
    go_wp2_with fail
    refine KV.out.mono ?_
    rintro e w1 ⟨rfl, rfl⟩
    go_wp2_with fail
    refine KA.out.mono ?_
    rintro e w2 ⟨rfl, h2⟩
    have HLD := hid (ldAck rfl h2.third)
    have H2 := hid h2
    clear h2 KV KA
    go_wp2_with (first
      | (refine wpList_ldS rfl (.tmp 4) 61 rfl rfl (.agg (ackV s num st co)) HLD.out ?_)
      | (go_at_call 67; refine (KO.out _).mono ?_; rintro e w3 ⟨rfl, h3⟩
         have h4 := H2.out.quiet HLS.out h3
         have p0 : w3.cell? ⟨w.heap.size, 0, none⟩ = some (.int .i64 s) := (Sts.boxCell h4.third 0 _ rfl).1
         have p1 : w3.cell? ⟨w.heap.size, 1, none⟩ = some (.int .i64 num) := (Sts.boxCell h4.third 1 _ rfl).1
         have H3 := hid h4
         clear h3 h4)
      | (go_at_call 120; refine (KF.out _ H3.out).mono ?_; rintro e w4 ⟨rfl, rfl⟩))
    go_ret
    refine ⟨_, rfl, ?_⟩
    rw [HT.out]
    exact (Sts.sub H3.out (.cons_cons _ (.cons_cons _ (.cons _ (List.Sublist.refl _)))))
set_option maxRecDepth 100000 in
theorem cTkStage (h : Sts W (trkL tq g off c now ts l) w) (j : Nat) (hj : j < ts.length) (hn : ts.length < 1000) : Calls Tryz.prog 72 #[.pointer (some ⟨tq, 0, none⟩), .int .i64 1, .int .i64 ((j + 1 : Nat) : Int)] w fun e w' => e = .returned (.int .i64 ts[j].1) ∧ w = w' := by
  have KF := hid (cTkFindYes tq g off c now ts h j hj hn)
  have q3 := (trkC tq g off c now ts h j hj 3 (by decide) _ rfl).1
  obtain ⟨J, hJ⟩ : ∃ J : Int, J = ((j + 1 : Nat) : Int) := ⟨_, rfl⟩
  rw [← hJ] at KF ⊢
  obtain ⟨sj, hsj⟩ : ∃ x, x = ts[j].1 := ⟨_, rfl⟩
  rw [← hsj] at q3 ⊢
  clear h hj hn hJ hsj
  go_enter Tryz.func72, Tryz.ntmps72
  go_wp2_with (go_at_call 120; refine KF.out.mono ?_; rintro e w4 ⟨rfl, rfl⟩)
  go_ret
  exact ⟨rfl, rfl⟩
end
end Go.Proofs.YtnklmadmenkdoaaGreat
