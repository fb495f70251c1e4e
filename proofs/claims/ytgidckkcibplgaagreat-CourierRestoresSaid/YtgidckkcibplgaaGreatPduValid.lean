/- The contract of pdu.Valid. -/
import Derived.Test.YtgidckkcibplgaaGreatPduGaps
set_option linter.unusedVariables false
set_option linter.unusedSimpArgs false
namespace Fil
def Pdu.kindB (p : Pdu) : Bool :=
  if p.kind = 1 then withinB p.cls 1 2 && withinB p.size 0 65536 && nameB p.name
  else if p.kind = 2 then withinB p.data.length 1 512 && withinB p.off 0 (65536 - p.data.length)
  else if p.kind = 3 then withinB p.cls 1 2 && withinB p.size 0 65536 && withinB p.code 0 17
  else if p.kind = 4 then gapsB p.gaps
  else if p.kind = 5 then withinB p.code 0 17
  else true
def Pdu.validB (p : Pdu) : Bool := withinB p.kind 1 7 && withinB p.src 0 15 && withinB p.num 0 65535 && p.rest.emptyB && p.kindB
end Fil
namespace Go.Proofs.YtgidckkcibplgaaGreat
open Go.RowKit Go.Proofs.Num
structure PduC (w : World) (b : Nat) (p : Fil.Pdu) : Prop where
  c0 : w.cell? ⟨b, 0, none⟩ = some (.int .i64 p.kind)
  c1 : w.cell? ⟨b, 1, none⟩ = some (.int .i64 p.src)
  c2 : w.cell? ⟨b, 2, none⟩ = some (.int .i64 p.num)
  c3 : w.cell? ⟨b, 3, none⟩ = some (.int .i64 p.cls)
  c4 : w.cell? ⟨b, 4, none⟩ = some (.string p.name)
  c5 : w.cell? ⟨b, 5, none⟩ = some (.int .i64 p.size)
  c6 : w.cell? ⟨b, 6, none⟩ = some (.int .i64 p.off)
  c7 : w.cell? ⟨b, 7, none⟩ = some (.slice p.da p.data.length p.dc)
  c8 : w.cell? ⟨b, 8, none⟩ = some (.int .u32 (p.sum : Nat))
  c9 : w.cell? ⟨b, 9, none⟩ = some (.int .i64 p.code)
  c10 : w.cell? ⟨b, 10, none⟩ = some (.slice p.ga p.gaps.length p.gc)
theorem PduC.boxed {w w2 : World} {p : Fil.Pdu} {t : TypeId} (h : Below (w.heap.size + 1) (w.alloc (.cells p.cells t)) w2) : PduC w2 w.heap.size p := by
  have hn : (w.alloc (.cells p.cells t)).heap[w.heap.size]? = some (.cells p.cells t (0, 0)) := heap_new w _ rfl
  have hc : ∀ j, w2.cell? ⟨w.heap.size, j, none⟩ = p.cells[j]? := fun j => by
    rw [h.cell (p := ⟨w.heap.size, j, none⟩) (by simp)]
    simp only [World.cell?, hn]
    rfl
  exact ⟨hc 0, hc 1, hc 2, hc 3, hc 4, hc 5, hc 6, hc 7, hc 8, hc 9, hc 10⟩
set_option maxRecDepth 100000 in
theorem cValidBad (w : World) (p : Fil.Pdu) (hname : p.name.size ≤ 1000000) (hdata : p.data.length < 1000000000) (hgl : p.gaps.length < 1000000) (hg : RdR w (.slice p.ga p.gaps.length p.gc) p.gaps) (h : (Fil.withinB p.kind 1 7 && Fil.withinB p.src 0 15 && Fil.withinB p.num 0 65535) = false) :
    Calls Tryz.prog 64 #[.agg p.cells] w fun e w' => e = .returned (.bool p.validB) ∧ Below w.heap.size w w' := by
  have hv : p.validB = false := by unfold Fil.Pdu.validB; rw [h]; rfl
  rw [hv]
  clear hv hg
  obtain ⟨kind, src, num, cls, name, size, off, da, data, dc, sum, code, ga, gaps, gc⟩ := p
  unfold Fil.Pdu.cells
  simp only [] at h ⊢
  generalize data.length = dl at *
  generalize gaps.length = gl at *
  have h' : Fil.withinB kind 1 7 = false ∨ (Fil.withinB kind 1 7 = true ∧ Fil.withinB src 0 15 = false) ∨ (Fil.withinB kind 1 7 = true ∧ Fil.withinB src 0 15 = true ∧ Fil.withinB num 0 65535 = false) := by
    cases q1 : Fil.withinB kind 1 7 <;> cases q2 : Fil.withinB src 0 15 <;> cases q3 : Fil.withinB num 0 65535 <;> simp_all
  clear h
  rcases h' with h1 | ⟨h1, h2⟩ | ⟨h1, h2, h3⟩
  · go_enter Tryz.func64, Tryz.ntmps64
    go_wp2_with (first | (go_at_call 112; refine (cWithin _ _ _ _).mono ?_; rintro e w' ⟨rfl, rfl⟩))
    go_ret
    exact ⟨rfl, (Below.refl _ _).alloc (Nat.le_refl _) _⟩
  · go_enter Tryz.func64, Tryz.ntmps64
    go_wp2_with (first | (go_at_call 112; refine (cWithin _ _ _ _).mono ?_; rintro e w' ⟨rfl, rfl⟩))
    go_ret
    exact ⟨rfl, (Below.refl _ _).alloc (Nat.le_refl _) _⟩
  · go_enter Tryz.func64, Tryz.ntmps64
    go_wp2_with (first | (go_at_call 112; refine (cWithin _ _ _ _).mono ?_; rintro e w' ⟨rfl, rfl⟩))
    go_ret
    exact ⟨rfl, (Below.refl _ _).alloc (Nat.le_refl _) _⟩
set_option maxRecDepth 100000 in
set_option maxHeartbeats 1000000 in
theorem cValidGood (w : World) (p : Fil.Pdu) (hname : p.name.size ≤ 1000000) (hdata : p.data.length < 1000000000) (hgl : p.gaps.length < 1000000) (hg : RdR w (.slice p.ga p.gaps.length p.gc) p.gaps) (h1 : Fil.withinB p.kind 1 7 = true) (h2 : Fil.withinB p.src 0 15 = true) (h3 : Fil.withinB p.num 0 65535 = true) :
    Calls Tryz.prog 64 #[.agg p.cells] w fun e w' => e = .returned (.bool p.validB) ∧ Below w.heap.size w w' := by
  have hv : p.validB = (p.rest.emptyB && p.kindB) := by unfold Fil.Pdu.validB; rw [h1, h2, h3]; rfl
  rw [hv]
  clear hv
  have HR := hid (fun w => cRest w p)
  have HE := hid (fun w => cEmpty w p.rest)
  have HBX := hid (fun (w w2 : World) (t : TypeId) h => PduC.boxed (w := w) (w2 := w2) (p := p) (t := t) h)
  have HK : Hid (p.kindB = Fil.Pdu.kindB p) := rfl
  have HGP := hid (fun y (hy : Below w.heap.size w y) => cGaps y _ _ (hg.below hy) hgl)
  have HNM := hid (fun y => cName y p.name hname)
  generalize hk : p.kindB = kb
  have HKB := hid hk
  clear hk hg HK hname
  generalize p.rest.emptyB = eb at *
  generalize p.rest.cells = rc at *
  have HPC : Hid (p.cells = #[.int .i64 p.kind, .int .i64 p.src, .int .i64 p.num, .int .i64 p.cls, .string p.name, .int .i64 p.size, .int .i64 p.off, .slice p.da p.data.length p.dc, .int .u32 (p.sum : Nat), .int .i64 p.code, .slice p.ga p.gaps.length p.gc]) := rfl
  have hB0 : Below w.heap.size w (w.alloc (.cells p.cells 63)) := (Below.refl _ _).alloc (Nat.le_refl _) _
  have HB0 := hid hB0
  clear hB0
  rw [HPC.out] at HR HB0 ⊢
  unfold Fil.Pdu.kindB at HKB
  obtain ⟨kind, src, num, cls, name, size, off, da, data, dc, sum, code, ga, gaps, gc⟩ := p
  simp only [] at *
  have HDL : Hid (data.length < 1000000000) := hid hdata
  clear hdata hgl HPC
  cases eb with
  | false =>
    go_enter Tryz.func64, Tryz.ntmps64
    go_wp2_with (first | (go_at_call 112; refine (cWithin _ _ _ _).mono ?_; rintro e w' ⟨rfl, rfl⟩))
    refine (HR.out _).mono ?_
    rintro e w1 ⟨rfl, hb1⟩
    have HB1 := hid hb1
    clear hb1
    go_wp2_with (first | (go_at_call 112; refine (cWithin _ _ _ _).mono ?_; rintro e w' ⟨rfl, rfl⟩))
    refine (HE.out w1).mono ?_
    rintro e w2 ⟨rfl, hb2⟩
    have hb02 := HB1.out.trans (hb2.mono HB1.out.size)
    have hb03 := hb02
    simp only [show ∀ o, (w.alloc o).heap.size = w.heap.size + 1 from fun o => by simp] at hb03
    have HPC := hid (HBX.out w w2 63 hb03)
    clear hb03
    have HB2 := hid (HB0.out.trans (hb02.mono (by simp)))
    clear hb2 hb02 HB1
    go_wp2_with (first | (go_at_call 112; refine (cWithin _ _ _ _).mono ?_; rintro e w' ⟨rfl, rfl⟩))
    go_ret
    exact ⟨ret_bool (by rw [Bool.false_and]), HB2.out⟩
  | true =>
    rw [Bool.true_and]
    by_cases k1 : kind = 1
    · subst k1
      rw [if_pos rfl, Bool.and_assoc] at HKB
      cases g6 : Fil.withinB cls 1 2 with
      | false =>
        have HKK : Hid (kb = false) := hid (by rw [← HKB.out, g6]; rfl)
        clear HKB
        go_enter Tryz.func64, Tryz.ntmps64
        go_wp2_with (first | (go_at_call 112; refine (cWithin _ _ _ _).mono ?_; rintro e w' ⟨rfl, rfl⟩))
        refine (HR.out _).mono ?_
        rintro e w1 ⟨rfl, hb1⟩
        have HB1 := hid hb1
        clear hb1
        go_wp2_with (first | (go_at_call 112; refine (cWithin _ _ _ _).mono ?_; rintro e w' ⟨rfl, rfl⟩))
        refine (HE.out w1).mono ?_
        rintro e w2 ⟨rfl, hb2⟩
        have hb02 := HB1.out.trans (hb2.mono HB1.out.size)
        have hb03 := hb02
        simp only [show ∀ o, (w.alloc o).heap.size = w.heap.size + 1 from fun o => by simp] at hb03
        have HPC := hid (HBX.out w w2 63 hb03)
        clear hb03
        have HB2 := hid (HB0.out.trans (hb02.mono (by simp)))
        clear hb2 hb02 HB1
        obtain ⟨c0, c1, c2, c3, c4, c5, c6, c7, c8, c9, c10⟩ := HPC.out
        simp only [] at c0 c1 c2 c3 c4 c5 c6 c7 c8 c9 c10
        go_wp2_with (first | (go_at_call 112; refine (cWithin _ _ _ _).mono ?_; rintro e w' ⟨rfl, rfl⟩) | (go_at_call 115; refine (HNM.out _).mono ?_; rintro e w' ⟨rfl, rfl⟩))
        go_ret
        exact ⟨ret_bool (by rw [HKK.out]), HB2.out⟩
      | true =>
        rw [g6, Bool.true_and] at HKB
        cases g8 : Fil.withinB size 0 65536 with
        | false =>
          have HKK : Hid (kb = false) := hid (by rw [← HKB.out, g8]; rfl)
          clear HKB
          go_enter Tryz.func64, Tryz.ntmps64
          go_wp2_with (first | (go_at_call 112; refine (cWithin _ _ _ _).mono ?_; rintro e w' ⟨rfl, rfl⟩))
          refine (HR.out _).mono ?_
          rintro e w1 ⟨rfl, hb1⟩
          have HB1 := hid hb1
          clear hb1
          go_wp2_with (first | (go_at_call 112; refine (cWithin _ _ _ _).mono ?_; rintro e w' ⟨rfl, rfl⟩))
          refine (HE.out w1).mono ?_
          rintro e w2 ⟨rfl, hb2⟩
          have hb02 := HB1.out.trans (hb2.mono HB1.out.size)
          have hb03 := hb02
          simp only [show ∀ o, (w.alloc o).heap.size = w.heap.size + 1 from fun o => by simp] at hb03
          have HPC := hid (HBX.out w w2 63 hb03)
          clear hb03
          have HB2 := hid (HB0.out.trans (hb02.mono (by simp)))
          clear hb2 hb02 HB1
          obtain ⟨c0, c1, c2, c3, c4, c5, c6, c7, c8, c9, c10⟩ := HPC.out
          simp only [] at c0 c1 c2 c3 c4 c5 c6 c7 c8 c9 c10
          go_wp2_with (first | (go_at_call 112; refine (cWithin _ _ _ _).mono ?_; rintro e w' ⟨rfl, rfl⟩) | (go_at_call 115; refine (HNM.out _).mono ?_; rintro e w' ⟨rfl, rfl⟩))
          go_ret
          exact ⟨ret_bool (by rw [HKK.out]), HB2.out⟩
        | true =>
          rw [g8, Bool.true_and] at HKB
          have HKK := hid HKB.out.symm
          clear HKB
          go_enter Tryz.func64, Tryz.ntmps64
          go_wp2_with (first | (go_at_call 112; refine (cWithin _ _ _ _).mono ?_; rintro e w' ⟨rfl, rfl⟩))
          refine (HR.out _).mono ?_
          rintro e w1 ⟨rfl, hb1⟩
          have HB1 := hid hb1
          clear hb1
          go_wp2_with (first | (go_at_call 112; refine (cWithin _ _ _ _).mono ?_; rintro e w' ⟨rfl, rfl⟩))
          refine (HE.out w1).mono ?_
          rintro e w2 ⟨rfl, hb2⟩
          have hb02 := HB1.out.trans (hb2.mono HB1.out.size)
          have hb03 := hb02
          simp only [show ∀ o, (w.alloc o).heap.size = w.heap.size + 1 from fun o => by simp] at hb03
          have HPC := hid (HBX.out w w2 63 hb03)
          clear hb03
          have HB2 := hid (HB0.out.trans (hb02.mono (by simp)))
          clear hb2 hb02 HB1
          obtain ⟨c0, c1, c2, c3, c4, c5, c6, c7, c8, c9, c10⟩ := HPC.out
          simp only [] at c0 c1 c2 c3 c4 c5 c6 c7 c8 c9 c10
          go_wp2_with (first | (go_at_call 112; refine (cWithin _ _ _ _).mono ?_; rintro e w' ⟨rfl, rfl⟩) | (go_at_call 115; refine (HNM.out _).mono ?_; rintro e w' ⟨rfl, rfl⟩))
          go_ret
          exact ⟨ret_bool (by rw [HKK.out]), HB2.out⟩
    · -- not 1
      by_cases k2 : kind = 2
      · subst k2
        rw [if_neg (by decide), if_pos rfl] at HKB
        have hdl9 : (data.length : Int) < 1000000000 := by have := HDL.out; omega
        cases g8 : Fil.withinB data.length 1 512 with
        | false =>
          have HKK : Hid (kb = false) := hid (by rw [← HKB.out, g8]; rfl)
          clear HKB
          go_enter Tryz.func64, Tryz.ntmps64
          go_wp2_with (first | (go_at_call 112; refine (cWithin _ _ _ _).mono ?_; rintro e w' ⟨rfl, rfl⟩))
          refine (HR.out _).mono ?_
          rintro e w1 ⟨rfl, hb1⟩
          have HB1 := hid hb1
          clear hb1
          go_wp2_with (first | (go_at_call 112; refine (cWithin _ _ _ _).mono ?_; rintro e w' ⟨rfl, rfl⟩))
          refine (HE.out w1).mono ?_
          rintro e w2 ⟨rfl, hb2⟩
          have hb02 := HB1.out.trans (hb2.mono HB1.out.size)
          have hb03 := hb02
          simp only [show ∀ o, (w.alloc o).heap.size = w.heap.size + 1 from fun o => by simp] at hb03
          have HPC := hid (HBX.out w w2 63 hb03)
          clear hb03
          have HB2 := hid (HB0.out.trans (hb02.mono (by simp)))
          clear hb2 hb02 HB1
          obtain ⟨c0, c1, c2, c3, c4, c5, c6, c7, c8, c9, c10⟩ := HPC.out
          simp only [] at c0 c1 c2 c3 c4 c5 c6 c7 c8 c9 c10
          go_wp2_with (first | (go_at_call 112; refine (cWithin _ _ _ _).mono ?_; rintro e w' ⟨rfl, rfl⟩))
          go_ret
          exact ⟨ret_bool (by rw [HKK.out]), HB2.out⟩
        | true =>
          rw [g8, Bool.true_and] at HKB
          have HKK := hid HKB.out.symm
          clear HKB
          go_enter Tryz.func64, Tryz.ntmps64
          go_wp2_with (first | (go_at_call 112; refine (cWithin _ _ _ _).mono ?_; rintro e w' ⟨rfl, rfl⟩))
          refine (HR.out _).mono ?_
          rintro e w1 ⟨rfl, hb1⟩
          have HB1 := hid hb1
          clear hb1
          go_wp2_with (first | (go_at_call 112; refine (cWithin _ _ _ _).mono ?_; rintro e w' ⟨rfl, rfl⟩))
          refine (HE.out w1).mono ?_
          rintro e w2 ⟨rfl, hb2⟩
          have hb02 := HB1.out.trans (hb2.mono HB1.out.size)
          have hb03 := hb02
          simp only [show ∀ o, (w.alloc o).heap.size = w.heap.size + 1 from fun o => by simp] at hb03
          have HPC := hid (HBX.out w w2 63 hb03)
          clear hb03
          have HB2 := hid (HB0.out.trans (hb02.mono (by simp)))
          clear hb2 hb02 HB1
          obtain ⟨c0, c1, c2, c3, c4, c5, c6, c7, c8, c9, c10⟩ := HPC.out
          simp only [] at c0 c1 c2 c3 c4 c5 c6 c7 c8 c9 c10
          go_wp2_with (first | (go_at_call 112; refine (cWithin _ _ _ _).mono ?_; rintro e w' ⟨rfl, rfl⟩))
          go_ret
          exact ⟨ret_bool (by rw [HKK.out]), HB2.out⟩
      · -- not 2
        by_cases k3 : kind = 3
        · subst k3
          rw [if_neg (by decide), if_neg (by decide), if_pos rfl, Bool.and_assoc] at HKB
          cases g10 : Fil.withinB cls 1 2 with
          | false =>
            have HKK : Hid (kb = false) := hid (by rw [← HKB.out, g10]; rfl)
            clear HKB
            go_enter Tryz.func64, Tryz.ntmps64
            go_wp2_with (first | (go_at_call 112; refine (cWithin _ _ _ _).mono ?_; rintro e w' ⟨rfl, rfl⟩))
            refine (HR.out _).mono ?_
            rintro e w1 ⟨rfl, hb1⟩
            have HB1 := hid hb1
            clear hb1
            go_wp2_with (first | (go_at_call 112; refine (cWithin _ _ _ _).mono ?_; rintro e w' ⟨rfl, rfl⟩))
            refine (HE.out w1).mono ?_
            rintro e w2 ⟨rfl, hb2⟩
            have hb02 := HB1.out.trans (hb2.mono HB1.out.size)
            have hb03 := hb02
            simp only [show ∀ o, (w.alloc o).heap.size = w.heap.size + 1 from fun o => by simp] at hb03
            have HPC := hid (HBX.out w w2 63 hb03)
            clear hb03
            have HB2 := hid (HB0.out.trans (hb02.mono (by simp)))
            clear hb2 hb02 HB1
            obtain ⟨c0, c1, c2, c3, c4, c5, c6, c7, c8, c9, c10⟩ := HPC.out
            simp only [] at c0 c1 c2 c3 c4 c5 c6 c7 c8 c9 c10
            go_wp2_with (first | (go_at_call 112; refine (cWithin _ _ _ _).mono ?_; rintro e w' ⟨rfl, rfl⟩))
            go_ret
            exact ⟨ret_bool (by rw [HKK.out]), HB2.out⟩
          | true =>
            rw [g10, Bool.true_and] at HKB
            cases g12 : Fil.withinB size 0 65536 with
            | false =>
              have HKK : Hid (kb = false) := hid (by rw [← HKB.out, g12]; rfl)
              clear HKB
              go_enter Tryz.func64, Tryz.ntmps64
              go_wp2_with (first | (go_at_call 112; refine (cWithin _ _ _ _).mono ?_; rintro e w' ⟨rfl, rfl⟩))
              refine (HR.out _).mono ?_
              rintro e w1 ⟨rfl, hb1⟩
              have HB1 := hid hb1
              clear hb1
              go_wp2_with (first | (go_at_call 112; refine (cWithin _ _ _ _).mono ?_; rintro e w' ⟨rfl, rfl⟩))
              refine (HE.out w1).mono ?_
              rintro e w2 ⟨rfl, hb2⟩
              have hb02 := HB1.out.trans (hb2.mono HB1.out.size)
              have hb03 := hb02
              simp only [show ∀ o, (w.alloc o).heap.size = w.heap.size + 1 from fun o => by simp] at hb03
              have HPC := hid (HBX.out w w2 63 hb03)
              clear hb03
              have HB2 := hid (HB0.out.trans (hb02.mono (by simp)))
              clear hb2 hb02 HB1
              obtain ⟨c0, c1, c2, c3, c4, c5, c6, c7, c8, c9, c10⟩ := HPC.out
              simp only [] at c0 c1 c2 c3 c4 c5 c6 c7 c8 c9 c10
              go_wp2_with (first | (go_at_call 112; refine (cWithin _ _ _ _).mono ?_; rintro e w' ⟨rfl, rfl⟩))
              go_ret
              exact ⟨ret_bool (by rw [HKK.out]), HB2.out⟩
            | true =>
              rw [g12, Bool.true_and] at HKB
              have HKK := hid HKB.out.symm
              clear HKB
              go_enter Tryz.func64, Tryz.ntmps64
              go_wp2_with (first | (go_at_call 112; refine (cWithin _ _ _ _).mono ?_; rintro e w' ⟨rfl, rfl⟩))
              refine (HR.out _).mono ?_
              rintro e w1 ⟨rfl, hb1⟩
              have HB1 := hid hb1
              clear hb1
              go_wp2_with (first | (go_at_call 112; refine (cWithin _ _ _ _).mono ?_; rintro e w' ⟨rfl, rfl⟩))
              refine (HE.out w1).mono ?_
              rintro e w2 ⟨rfl, hb2⟩
              have hb02 := HB1.out.trans (hb2.mono HB1.out.size)
              have hb03 := hb02
              simp only [show ∀ o, (w.alloc o).heap.size = w.heap.size + 1 from fun o => by simp] at hb03
              have HPC := hid (HBX.out w w2 63 hb03)
              clear hb03
              have HB2 := hid (HB0.out.trans (hb02.mono (by simp)))
              clear hb2 hb02 HB1
              obtain ⟨c0, c1, c2, c3, c4, c5, c6, c7, c8, c9, c10⟩ := HPC.out
              simp only [] at c0 c1 c2 c3 c4 c5 c6 c7 c8 c9 c10
              go_wp2_with (first | (go_at_call 112; refine (cWithin _ _ _ _).mono ?_; rintro e w' ⟨rfl, rfl⟩))
              go_ret
              exact ⟨ret_bool (by rw [HKK.out]), HB2.out⟩
        · -- not 3
          by_cases k4 : kind = 4
          · subst k4
            rw [if_neg (by decide), if_neg (by decide), if_neg (by decide), if_pos rfl] at HKB
            have HKK := hid HKB.out.symm
            clear HKB
            go_enter Tryz.func64, Tryz.ntmps64
            go_wp2_with (first | (go_at_call 112; refine (cWithin _ _ _ _).mono ?_; rintro e w' ⟨rfl, rfl⟩))
            refine (HR.out _).mono ?_
            rintro e w1 ⟨rfl, hb1⟩
            have HB1 := hid hb1
            clear hb1
            go_wp2_with (first | (go_at_call 112; refine (cWithin _ _ _ _).mono ?_; rintro e w' ⟨rfl, rfl⟩))
            refine (HE.out w1).mono ?_
            rintro e w2 ⟨rfl, hb2⟩
            have hb02 := HB1.out.trans (hb2.mono HB1.out.size)
            have hb03 := hb02
            simp only [show ∀ o, (w.alloc o).heap.size = w.heap.size + 1 from fun o => by simp] at hb03
            have HPC := hid (HBX.out w w2 63 hb03)
            clear hb03
            have HB2 := hid (HB0.out.trans (hb02.mono (by simp)))
            clear hb2 hb02 HB1
            obtain ⟨c0, c1, c2, c3, c4, c5, c6, c7, c8, c9, c10⟩ := HPC.out
            simp only [] at c0 c1 c2 c3 c4 c5 c6 c7 c8 c9 c10
            go_wp2_with (first | (go_at_call 112; refine (cWithin _ _ _ _).mono ?_; rintro e w' ⟨rfl, rfl⟩))
            refine (HGP.out w2 HB2.out).mono ?_
            rintro e w3 ⟨rfl, hb3⟩
            have HB3 := hid (HB2.out.trans (hb3.mono HB2.out.size))
            clear hb3 c0 c1 c2 c3 c4 c5 c6 c7 c8 c9 c10
            go_wp2_with (first | (go_at_call 112; refine (cWithin _ _ _ _).mono ?_; rintro e w' ⟨rfl, rfl⟩))
            go_ret
            exact ⟨ret_bool (by rw [HKK.out]), HB3.out⟩
          · -- not 4
            by_cases k5 : kind = 5
            · subst k5
              rw [if_neg (by decide), if_neg (by decide), if_neg (by decide), if_neg (by decide), if_pos rfl] at HKB
              have HKK := hid HKB.out.symm
              clear HKB
              go_enter Tryz.func64, Tryz.ntmps64
              go_wp2_with (first | (go_at_call 112; refine (cWithin _ _ _ _).mono ?_; rintro e w' ⟨rfl, rfl⟩))
              refine (HR.out _).mono ?_
              rintro e w1 ⟨rfl, hb1⟩
              have HB1 := hid hb1
              clear hb1
              go_wp2_with (first | (go_at_call 112; refine (cWithin _ _ _ _).mono ?_; rintro e w' ⟨rfl, rfl⟩))
              refine (HE.out w1).mono ?_
              rintro e w2 ⟨rfl, hb2⟩
              have hb02 := HB1.out.trans (hb2.mono HB1.out.size)
              have hb03 := hb02
              simp only [show ∀ o, (w.alloc o).heap.size = w.heap.size + 1 from fun o => by simp] at hb03
              have HPC := hid (HBX.out w w2 63 hb03)
              clear hb03
              have HB2 := hid (HB0.out.trans (hb02.mono (by simp)))
              clear hb2 hb02 HB1
              obtain ⟨c0, c1, c2, c3, c4, c5, c6, c7, c8, c9, c10⟩ := HPC.out
              simp only [] at c0 c1 c2 c3 c4 c5 c6 c7 c8 c9 c10
              go_wp2_with (first | (go_at_call 112; refine (cWithin _ _ _ _).mono ?_; rintro e w' ⟨rfl, rfl⟩))
              go_ret
              exact ⟨ret_bool (by rw [HKK.out]), HB2.out⟩
            · -- not 5
              rw [if_neg k1, if_neg k2, if_neg k3, if_neg k4, if_neg k5] at HKB
              have q1 : (kind == 1) = false := by simpa using k1
              have q2 : (kind == 2) = false := by simpa using k2
              have q3 : (kind == 3) = false := by simpa using k3
              have q4 : (kind == 4) = false := by simpa using k4
              have q5 : (kind == 5) = false := by simpa using k5
              have HKK := hid HKB.out.symm
              clear HKB
              go_enter Tryz.func64, Tryz.ntmps64
              go_wp2_with (first | (go_at_call 112; refine (cWithin _ _ _ _).mono ?_; rintro e w' ⟨rfl, rfl⟩))
              refine (HR.out _).mono ?_
              rintro e w1 ⟨rfl, hb1⟩
              have HB1 := hid hb1
              clear hb1
              go_wp2_with (first | (go_at_call 112; refine (cWithin _ _ _ _).mono ?_; rintro e w' ⟨rfl, rfl⟩))
              refine (HE.out w1).mono ?_
              rintro e w2 ⟨rfl, hb2⟩
              have hb02 := HB1.out.trans (hb2.mono HB1.out.size)
              have hb03 := hb02
              simp only [show ∀ o, (w.alloc o).heap.size = w.heap.size + 1 from fun o => by simp] at hb03
              have HPC := hid (HBX.out w w2 63 hb03)
              clear hb03
              have HB2 := hid (HB0.out.trans (hb02.mono (by simp)))
              clear hb2 hb02 HB1
              obtain ⟨c0, c1, c2, c3, c4, c5, c6, c7, c8, c9, c10⟩ := HPC.out
              simp only [] at c0 c1 c2 c3 c4 c5 c6 c7 c8 c9 c10
              go_wp2_with (first | (go_at_call 112; refine (cWithin _ _ _ _).mono ?_; rintro e w' ⟨rfl, rfl⟩))
              go_ret
              exact ⟨ret_bool (by rw [HKK.out]), HB2.out⟩
end Go.Proofs.YtgidckkcibplgaaGreat
