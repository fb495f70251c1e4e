/- The sending end takes a unit. The rows of the services: command.table, command.find. -/
import Derived.Test.YtnklmadmenkdoaaGreatQSndN
import Derived.Test.YtnklmadmenkdoaaGreatQSndA
import Derived.Test.YtnklmadmenkdoaaGreatQStr
set_option linter.unusedVariables false
set_option linter.unusedSimpArgs false
namespace Go.Proofs.YtnklmadmenkdoaaGreat
open Go.RowKit Go.Proofs.Num
set_option maxRecDepth 100000 in
theorem szSlS : ∀ w, (Go.sizeOf 43).run Tryz.prog w = .ok 1 w := fun w => by first | rfl | simp [go_sem] | kernel_rfl
theorem exec_cellS {W w : World} {l : List HProp} {b : Nat} {c : Array Value} {t0 : TypeId} {o : Oper} {a : Act} (hS : Sts W (blkP b (.cells c t0 (0, 0)) :: l) w) (hl : ∀ B ∈ l, Stable B) (p v : Operand) (t : TypeId) (ho : o.op = .store t p v) (j : Nat) (x : Value)
    (hp : a.eval p = .pointer (some ⟨b, j, none⟩)) (hv : a.eval v = x) (hz : ∀ w, (Go.sizeOf t).run Tryz.prog w = .ok 1 w) (hj : j < c.size) (h1 : cellBS x = true) :
    (execOp a.eval o).run Tryz.prog w = .ok .skip (w.setCell ⟨b, j, none⟩ x) ∧ Sts W (blkP b (.cells (c.setIfInBounds j x) t0 (0, 0)) :: l) (w.setCell ⟨b, j, none⟩ x) := by
  have hb : w.heap[b]? = some (.cells c t0 (0, 0)) := by obtain ⟨F, hF⟩ := hS.head; exact hF.1
  have h3 := cell_blk hb (Array.getElem?_eq_getElem hj)
  have h4 : w.frozen? ⟨b, j, none⟩ = false := free_blk hb
  refine ⟨?_, Sts.store hl hS (j := j) x⟩
  unfold execOp
  simp only [ho, hp, hv]
  cases x
  all_goals first
    | (simp [cellBS] at h1; done)
    | (simp [go_sem, Instr.storeAt, storeVar, hz, Value.cells, h3, h4, Result.andThen])
theorem effS_cellS {L : Prop} {W w : World} {l : List HProp} {b : Nat} {c : Array Value} {t0 : TypeId} {o : Oper} {a : Act} {D : WP} {K : Act → WP → WP → Prop} (hL : L) (hS : Sts W (blkP b (.cells c t0 (0, 0)) :: l) w) (hl : ∀ B ∈ l, Stable B) (p v : Operand) (t : TypeId) (ho : o.op = .store t p v) (j : Nat) (x : Value)
    (hp : a.eval p = .pointer (some ⟨b, j, none⟩)) (hv : a.eval v = x) (hz : ∀ w, (Go.sizeOf t).run Tryz.prog w = .ok 1 w) (hj : j < c.size) (h1 : cellBS x = true) (S' : WP) (h : ∀ w', Sts W (blkP b (.cells (c.setIfInBounds j x) t0 (0, 0)) :: l) w' → S' w')
    (hk : K (a.put o.dst undef) (fun _ => True) S') : effUpon Tryz.prog L o.dst a D K ((execOp a.eval o).run Tryz.prog w) := by
  obtain ⟨h2, h3⟩ := exec_cellS hS hl p v t ho j x hp hv hz hj h1
  exact effS_skip (fun _ => True) S' hL h2 (h _ h3) (fun _ _ => trivial) hk
section
variable {W w : World} {l : List HProp} (hl : ∀ B ∈ l, Stable B) (fq : Nat) (us : List (List Nat)) (fl fr now tm : Nat) (hs : Sts W (fopP fq us fl fr now tm :: l) w)
include hl hs
set_option maxRecDepth 100000 in
set_option maxHeartbeats 2000000 in
theorem cFopSend (a : Option Addr) (cap : Nat) (u : List Nat) (hR : Rds W l (.slice a u.length cap) (u8s u)) (hv : NilOk (.slice a u.length cap)) (h1 : 1 ≤ u.length) (h2 : u.length ≤ 1017) (hn : us.length < 200) :
    Calls Tryz.prog 117 #[.pointer (some ⟨fq, 0, none⟩), .slice a u.length cap] w fun e w' => e = .returned (.int .i64 0) ∧ Sts W (fopP fq (us ++ [u]) fl fr now tm :: l) w' := by
  obtain ⟨uv, vs, h0⟩ := Sts.openF hs
  have HUS := hid (cFopUsable fq 16 uv 0 (fl : Int) (fr : Int) 5 0 20 10 1 (now : Int) (tm : Int) 0 h0)
  obtain ⟨ua, uc, hue⟩ := own_slice h0.tail.rowOwn
  subst hue
  have hvl : vs.length = us.length := by obtain ⟨F, hF⟩ := h0.tail.tail.head; exact rowsP_len hF
  have c1 : w.cell? ⟨fq, 1, none⟩ = some (.slice ua us.length uc) := (Sts.boxCell h0 1 _ rfl).1
  have HL2 := hid (show ∀ B ∈ rowP 35 1 (.slice ua us.length uc) us.length vs :: rowsP 5 vs us :: l, Stable B from stabC (rowP_stable _ _ _ _ _) (stabC (rowsP_stable _ _ _) hl))
  have HL := hid hl
  have H0 := hid h0
  have d1 : decide ((u.length : Int) < 1) = false := decide_eq_false (by omega)
  have d2 : decide (1017 < (u.length : Int)) = false := decide_eq_false (by omega)
  have d3 : decide (256 ≤ (us.length : Int)) = false := decide_eq_false (by omega)
  have HR := hid hR
  have HV := hid hv
  have HN := hid hn
  have HVL := hid hvl
  have HU := hid h2
  have HU1 := hid h1
  clear h0 hs hl hR hv h1 h2 hn hvl
  go_enter Tryz.func117, Tryz.ntmps117
  go_wp2_with (first | (go_at_call 129; refine HUS.out.mono ?_; rintro e w1 ⟨rfl, rfl⟩))
  refine wp_region_ordQS (fun i => i == 13) (.pure 0 (.pure 1 (.pure 2 (.pure 3 (.pure 4 (.pure 5 (.pure 6 (.eff 7 (.eff 8 (.eff 9 (.pure 10 (.pure 11 (.pure 12 (.eff 13 .nil)))))))))))))) (fun y => y.cell? ⟨fq, 1, none⟩ = some (.slice ua us.length uc)) (fun y => Sts W (blkP fq (.cells (fopA fl fr now tm (.slice ua us.length uc)) 216 (0, 0)) :: rowP 35 1 (.slice ua us.length uc) us.length vs :: rowsP 5 vs us :: l) y) (by kernel_rfl) (by kernel_rfl) (H0.out.drew (stabC (blkP_stable _ _) HL2.out)) (fun y hy => (Sts.boxCell hy 1 _ rfl).1) ?_
  iterate 7
    (apply ordq_pure (ho := rfl)
     · go_simp
     · intro x hx; go_simp; rfl
     apply ordq_norm
     · go_simp; rfl)
  apply ordq_eff (ho := rfl)
  · go_simp
  intro y hy
  refine eff_call (f := 148) (by go_simp) (cClone8 y _ u (HR.out _ y hy.tail.tail.tail.withEmp) HV.out (by have := HU.out; omega)) ?_
  rintro e w3 ⟨r, rfl, hN, -⟩
  have h4 := Sts.new (stabC (blkP_stable _ _) HL2.out) hy hN
  rw [u8s_len] at h4
  obtain ⟨ra, rc, hre⟩ := own_slice h4.rowOwn
  subst hre
  refine ⟨_, rfl, (fun y => y.cell? ⟨fq, 1, none⟩ = some (.slice ua us.length uc)), (fun y => Sts W (rowP 5 1 (.slice ra u.length rc) u.length (u8s u) :: blkP fq (.cells (fopA fl fr now tm (.slice ua us.length uc)) 216 (0, 0)) :: rowP 35 1 (.slice ua us.length uc) us.length vs :: rowsP 5 vs us :: l) y), h4, (fun y hy => (Sts.boxCell hy.tail 1 _ rfl).1), (fun _ h => h), ?_⟩
  clear h4 hN hy y
  apply ordq_norm
  · go_simp; rfl
  apply ordq_eff (ho := rfl)
  · go_simp
  intro y hy
  have hy2 := Sts.alloc (stabC (rowP_stable _ _ _ _ _) (stabC (blkP_stable _ _) HL2.out)) hy (.cells #[.slice ra u.length rc] 35)
  refine eff_value (fun y => y.cell? ⟨fq, 1, none⟩ = some (.slice ua us.length uc)) (fun y' => Sts W (blkP y.heap.size (.cells #[.slice ra u.length rc] 35 (0, 0)) :: rowP 5 1 (.slice ra u.length rc) u.length (u8s u) :: blkP fq (.cells (fopA fl fr now tm (.slice ua us.length uc)) 216 (0, 0)) :: rowP 35 1 (.slice ua us.length uc) us.length vs :: rowsP 5 vs us :: l) y') (v := .slice (some ⟨y.heap.size, 0, none⟩) 1 1) (w := y.alloc (.cells #[.slice ra u.length rc] 35)) ?_ hy2 (fun y hy => (Sts.boxCell hy.tail.tail 1 _ rfl).1) (fun _ h => h) ?_
  · go_simp
  apply ordq_norm
  · go_simp; rfl
  clear hy hy2
  generalize y.heap.size = gx at *
  clear y
  apply ordq_eff (ho := rfl)
  · go_simp
  intro y hy
  have hc := (Sts.boxCell hy 0 _ rfl).1
  have hy3 := hy.perm (List.perm_middle (l₁ := [_, _, _]))
  refine eff_app1 HVL.out 43 35 (.slice none 0 0) 24 Tryz.underlying43 infoS8 rfl (by decide) (stabC (blkP_stable _ _) (stabC (rowP_stable _ _ _ _ _) (stabC (blkP_stable _ _) (stabC (rowsP_stable _ _ _) HL.out)))) hy3 (.tmp 31) (.tmp 34) rfl gx (.slice ra u.length rc) ?_ ?_ hc rfl (by have := HN.out; omega) (fun y v' hy => (Sts.boxCell hy.tail.tail.tail 1 _ rfl).1) ?_
  · go_simp
  · go_simp
  intro v1
  apply ordq_norm
  · go_simp; rfl
  clear hy hy3 hc y
  iterate 3
    (apply ordq_pure (ho := rfl)
     · go_simp
     · intro x hx; go_simp; rfl
     apply ordq_norm
     · go_simp; rfl)
  apply ordq_eff (ho := rfl)
  · go_simp
  intro y hy
  obtain ⟨a1, cc1, rfl⟩ := own_slice hy.rowOwn
  have hy4 := (hy.perm (List.perm_middle (l₁ := [_, _, _])))
  refine effS_cellS rfl hy4 (stabC (rowP_stable _ _ _ _ _) (stabC (blkP_stable _ _) (stabC (rowP_stable _ _ _ _ _) (stabC (rowsP_stable _ _ _) HL.out)))) (.tmp 38) (.tmp 35) 43 rfl 1 (.slice a1 (us.length + 1) cc1) ?_ ?_ szSlS (show 1 < 15 by decide) rfl (fun y' => Sts W (fopP fq (us ++ [u]) fl fr now tm :: l) y') ?_ ?_
  · go_simp
  · go_simp
  · intro w' h7
    replace h7 : Sts W (blkP fq (.cells (fopA fl fr now tm (.slice a1 (us.length + 1) cc1)) 216 (0, 0)) :: rowP 35 1 (.slice a1 (us.length + 1) cc1) (us.length + 1) (vs ++ [.slice ra u.length rc]) :: blkP gx (.cells #[.slice ra u.length rc] 35 (0, 0)) :: rowP 5 1 (.slice ra u.length rc) u.length (u8s u) :: rowsP 5 vs us :: l) w' := h7
    have h8 := (Sts.third h7).tail
    have h9 : Sts W (rowsP 5 (vs ++ [.slice ra u.length rc]) (us ++ [u]) :: blkP fq (.cells (fopA fl fr now tm (.slice a1 (us.length + 1) cc1)) 216 (0, 0)) :: rowP 35 1 (.slice a1 (us.length + 1) cc1) (us.length + 1) (vs ++ [.slice ra u.length rc]) :: l) w' :=
      Sts.join (h8.perm ((List.perm_append_comm (l₁ := [_, _]) (l₂ := [_, _])).append_right l)) (fun F hF => rowsP_snoc hF)
    refine Sts.closeF (uv := .slice a1 (us.length + 1) cc1) (vs := vs ++ [.slice ra u.length rc]) ?_
    unfold fopO
    rw [List.length_append]
    exact Sts.third' h9
  apply ordq_norm
  · go_simp; rfl
  refine ordq_nil fun z hz => ?_
  have HZ := hid hz
  clear hz hy hy4 y
  go_wp2_with fail
  go_ret
  exact ⟨rfl, HZ.out⟩
end
end Go.Proofs.YtnklmadmenkdoaaGreat
namespace Cmd
def svA : List Nat := [0, 1, 2, 2, 1, 2, 2, 2, 1, 1, 2, 2, 1, 2, 2, 2, 1, 1, 2, 2, 2, 1, 0, 1, 2, 3, 2, 0]
def svD : List Nat := [0, 0, 0, 1, 0, 0, 0, 0, 1, 0, 0, 1, 0, 0, 0, 1, 0, 0, 1, 0, 0, 1, 1, 0, 0, 0, 0, 0]
/-- Is there such a service; how many arguments it has, whether it has data. -/
def isS (s : Int) : Bool := decide (1 ≤ s) && decide (s ≤ 28)
def argN (s : Int) : Nat := if isS s = true then svA.getD (s - 1).toNat 0 else 0
def datN (s : Int) : Nat := if isS s = true then svD.getD (s - 1).toNat 0 else 0
theorem argN_le (s : Int) : argN s ≤ 3 := by
  unfold argN
  split
  · have : ∀ i, svA.getD i 0 ≤ 3 := by
      intro i
      by_cases h : i < 28
      · have : ∀ i, i < 28 → svA.getD i 0 ≤ 3 := by decide +kernel
        exact this i h
      · rw [List.getD_eq_getElem?_getD, List.getElem?_eq_none (by show 28 ≤ i; omega)]; simp
    exact this _
  · omega
theorem datN_le (s : Int) : datN s ≤ 1 := by
  unfold datN
  split
  · have : ∀ i, svD.getD i 0 ≤ 1 := by
      intro i
      by_cases h : i < 28
      · have : ∀ i, i < 28 → svD.getD i 0 ≤ 1 := by decide +kernel
        exact this i h
      · rw [List.getD_eq_getElem?_getD, List.getElem?_eq_none (by show 28 ≤ i; omega)]; simp
    exact this _
  · omega
end Cmd
namespace Go.Proofs.YtnklmadmenkdoaaGreat
open Go.RowKit Go.Proofs.Num
structure FRow where
  nm : List UInt8
  ar : Int
  da : Bool
  lo : Int
  hi : Int
def FRow.cells (r : FRow) : List Value := [.string ⟨r.nm.toArray⟩, .int .i64 r.ar, .bool r.da, .int .i64 r.lo, .int .i64 r.hi]
def frowsL : List FRow := [⟨[], 0, false, 0, 0⟩,
  ⟨[112, 105, 110, 103], 0, false, 1, 4⟩,
  ⟨[115, 101, 116, 109, 111, 100, 101], 1, false, 1, 4⟩,
  ⟨[115, 101, 116, 112, 97, 114, 97, 109], 2, false, 1, 4⟩,
  ⟨[104, 107, 100, 101, 102, 105, 110, 101], 2, true, 1, 4⟩,
  ⟨[104, 107, 100, 101, 108, 101, 116, 101], 1, false, 1, 4⟩,
  ⟨[104, 107, 101, 110, 97, 98, 108, 101], 2, false, 1, 4⟩,
  ⟨[109, 111, 110, 101, 110, 97, 98, 108, 101], 2, false, 1, 4⟩,
  ⟨[101, 118, 101, 110, 116, 101, 110, 97, 98, 108, 101], 2, false, 1, 4⟩,
  ⟨[97, 99, 116, 97, 100, 100], 1, true, 2, 4⟩,
  ⟨[97, 99, 116, 100, 101, 108, 101, 116, 101], 1, false, 2, 4⟩,
  ⟨[97, 99, 116, 101, 110, 97, 98, 108, 101], 2, false, 2, 4⟩,
  ⟨[115, 99, 104, 101, 100, 105, 110, 115, 101, 114, 116], 2, true, 2, 4⟩,
  ⟨[115, 99, 104, 101, 100, 100, 101, 108, 101, 116, 101], 1, false, 2, 4⟩,
  ⟨[115, 99, 104, 101, 100, 115, 104, 105, 102, 116], 2, false, 2, 4⟩,
  ⟨[115, 99, 104, 101, 100, 101, 110, 97, 98, 108, 101], 2, false, 2, 4⟩,
  ⟨[115, 101, 113, 108, 111, 97, 100], 2, true, 2, 4⟩,
  ⟨[115, 101, 113, 115, 116, 97, 114, 116], 1, false, 3, 4⟩,
  ⟨[115, 101, 113, 115, 116, 111, 112], 1, false, 1, 4⟩,
  ⟨[109, 101, 109, 108, 111, 97, 100], 2, true, 1, 2⟩,
  ⟨[109, 101, 109, 100, 117, 109, 112], 2, false, 1, 4⟩,
  ⟨[109, 101, 109, 99, 104, 101, 99, 107], 2, false, 1, 4⟩,
  ⟨[102, 105, 108, 101, 115, 101, 110, 100], 1, true, 2, 4⟩,
  ⟨[102, 105, 108, 101, 100, 101, 108, 101, 116, 101], 0, true, 2, 4⟩,
  ⟨[102, 105, 108, 101, 99, 111, 110, 116, 114, 111, 108], 1, false, 1, 4⟩,
  ⟨[117, 110, 105, 116, 115, 119, 105, 116, 99, 104], 2, false, 1, 2⟩,
  ⟨[114, 101, 99, 114, 101, 112, 108, 97, 121], 3, false, 2, 4⟩,
  ⟨[114, 101, 99, 100, 101, 108, 101, 116, 101], 2, false, 2, 4⟩,
  ⟨[114, 101, 98, 111, 111, 116], 0, false, 1, 2⟩]
def ftabV : Array Value := (frowsL.flatMap FRow.cells).toArray
set_option maxRecDepth 100000 in
theorem sizeTab : ∀ w, (Go.sizeOf 305).run Tryz.prog w = .ok 145 w := fun w => by first | rfl | simp [go_sem] | kernel_rfl
set_option maxRecDepth 100000 in
theorem infoTab : (Tryz.prog.info? 305).map (·.size) = some 145 := by kernel_rfl
theorem ldTab {W w : World} {b : Nat} {l : List HProp} (h : Sts W (blkP b (.cells ftabV 305 (0, 0)) :: l) w) : (loadVar 305 ⟨b, 0, none⟩).run Tryz.prog w = .ok (.agg ftabV) w := by
  have hb : w.heap[b]? = some (.cells ftabV 305 (0, 0)) := by obtain ⟨F, hF⟩ := h.head; exact hF.1
  exact run_loadVar_row (P := Tryz.prog) w b 305 305 ftabV (0, 0) _ hb Tryz.underlying305 rfl (by rw [infoTab]; rfl)
section
variable {w : World}
set_option maxRecDepth 100000 in
set_option maxHeartbeats 8000000 in
theorem cTable : Calls Tryz.prog 197 #[] w fun e w' => e = .returned (.agg ftabV) ∧ Below w.heap.size w w' := by
  have hz : ∀ cs, Sts w [blkP w.heap.size (.cells cs 305 (0, 0))] (w.alloc (.cells cs 305)) := fun cs => (Sts.nil w).alloc stab0 _
  go_enter Tryz.func197, Tryz.ntmps197
  go_wp2_with (refine wpList_aggS (hz _) stab0 rfl (.tmp 0) (.tmp 29) 305 rfl ftabV rfl (by kernel_rfl) (sizeTab) (by rfl) (by kernel_rfl) ?_; intro w1 hw1; have HF := hid hw1; clear hw1)
  refine post_cell1S HF.out Tryz.results197 rfl rfl (ldTab HF.out) ⟨rfl, HF.out.below⟩
end
def frow0 : FRow := ⟨[], 0, false, 0, 0⟩
def frowAt (k : Nat) : Array Value := ((frowsL.getD k frow0).cells).toArray
theorem frows_piece : ∀ (l : List FRow) (k : Nat), k < l.length → ((l.flatMap FRow.cells).drop (k * 5)).take 5 = (l.getD k frow0).cells
  | [], k, h => absurd h (by simp)
  | r :: l, 0, h => by simp [FRow.cells]
  | r :: l, k + 1, h => by
    have ih := frows_piece l k (by simpa using h)
    have e : ((r :: l).flatMap FRow.cells).drop ((k + 1) * 5) = (l.flatMap FRow.cells).drop (k * 5) := by
      rw [List.flatMap_cons, show (k + 1) * 5 = r.cells.length + k * 5 by simp [FRow.cells]; omega, List.drop_append]
      simp
    rw [e, ih]; simp
theorem ftab_piece (k : Nat) (h : k < 29) : ftabV.extract (k * 5) (k * 5 + 5) = frowAt k := by
  apply Array.ext'
  have := frows_piece frowsL k h
  rw [Array.toList_extract]
  simp only [ftabV, frowAt]
  rw [← this]
  simp
set_option maxRecDepth 100000 in
theorem sizeFRow : ∀ w, (Go.sizeOf 222).run Tryz.prog w = .ok 5 w := fun w => by first | rfl | simp [go_sem] | kernel_rfl
set_option maxRecDepth 100000 in
theorem infoFRow : (Tryz.prog.info? 222).map (·.size) = some 5 := by kernel_rfl
theorem ldFRow {W w : World} {b : Nat} {l : List HProp} {k : Nat} (h : Sts W (blkP b (.cells (frowAt k) 222 (0, 0)) :: l) w) : (loadVar 222 ⟨b, 0, none⟩).run Tryz.prog w = .ok (.agg (frowAt k)) w := by
  have hb : w.heap[b]? = some (.cells (frowAt k) 222 (0, 0)) := by obtain ⟨F, hF⟩ := h.head; exact hF.1
  exact run_loadVar_row (P := Tryz.prog) w b 222 222 (frowAt k) (0, 0) _ hb Tryz.underlying222 rfl (by rw [infoFRow]; rfl)
theorem run_frow (k : Nat) (hk : k < 29) (x : World) : (Instr.index 305 (.agg ftabV) (.int .i64 (k : Int))).run Tryz.prog x = .ok (.agg (frowAt k)) x := by
  have h1 : (0 : Int) ≤ (k : Int) ∧ (k : Int) < (29 : Nat) := by omega
  have e := ftab_piece k hk
  have ag := Tryz.isAgg222
  simp only [Instr.index, asIntOf, Sem.run_bind, run_underlying Tryz.underlying305]
  simp [Result.andThen, h1, sizeFRow, ag, part, e]
  intro h
  omega
def ffindV (n : Int) : Nat := if 1 ≤ n ∧ n < 29 then n.toNat else 0
section
variable {w : World}
set_option maxHeartbeats 4000000 in
theorem cFindT (n : Int) : Calls Tryz.prog 113 #[.int .i64 n] w fun e w' => e = .returned (.tuple #[.agg (frowAt (ffindV n)), .bool (decide (1 ≤ n ∧ n < 29))]) ∧ Below w.heap.size w w' := by
  have hz : ∀ cs, Sts w [blkP w.heap.size (.cells cs 222 (0, 0))] (w.alloc (.cells cs 222)) := fun cs => (Sts.nil w).alloc stab0 _
  obtain ⟨r, hr⟩ : ∃ r, r = decide (1 ≤ n ∧ n < 29) := ⟨_, rfl⟩
  obtain ⟨f, hf⟩ : ∃ f, f = ffindV n := ⟨_, rfl⟩
  rw [← hr, ← hf]
  by_cases hn : 1 ≤ n ∧ n < 29
  · obtain ⟨k, hk⟩ : ∃ k : Nat, (k : Int) = n := ⟨n.toNat, by omega⟩
    subst hk
    have hf2 : f = k := by rw [hf, ffindV, if_pos hn]; omega
    have hr2 : r = true := by rw [hr]; simp; omega
    subst hf2 hr2
    have hrow := run_frow f (by omega)
    obtain ⟨h1, h2⟩ := hn
    clear hr hf
    obtain ⟨cs, hcs⟩ : ∃ cs, cs = frowAt f := ⟨_, rfl⟩
    have HC := hid hcs
    rw [← hcs] at hrow
    have hsz : cs.size = 5 := by rw [hcs]; rfl
    have hone : cs.toList.all (fun v => v.oneCell') = true := by rw [hcs]; rfl
    have hld : ∀ (W y : World) b l, Sts W (blkP b (.cells cs 222 (0, 0)) :: l) y → (loadVar 222 ⟨b, 0, none⟩).run Tryz.prog y = .ok (.agg cs) y := by
      intro W y b l h; rw [hcs] at h ⊢; exact ldFRow h
    clear hcs
    have HLD := hid hld
    have HSZ := hid hsz
    have HONE := hid hone
    clear hld hsz hone
    go_enter Tryz.func113, Tryz.ntmps113
    go_wp2_with (first | (go_at_call 197; refine (cTable).mono ?_; rintro e w1 ⟨rfl, hb1⟩; have HB := hid hb1; clear hb1) | (refine wpList_aggS ((hz _).quiet (stab1 (blkP_stable _ _)) HB.out) stab0 rfl (.tmp 2) (.tmp 13) 222 rfl cs rfl rfl (by rw [HSZ.out]; exact sizeFRow) (by rw [HSZ.out]; rfl) HONE.out ?_; intro w2 hw2; have HF := hid hw2; clear hw2))
    refine post_cell2S HF.out Tryz.results113 rfl rfl (HLD.out _ _ _ _ HF.out) _ rfl ⟨by rw [HC.out]; rfl, HF.out.below⟩
  · have hf2 : f = 0 := by rw [hf, ffindV, if_neg hn]
    have hr2 : r = false := by rw [hr]; simp; omega
    subst hf2 hr2
    clear hr hf
    rcases (show n < 1 ∨ (1 ≤ n ∧ 29 ≤ n) by omega) with h1 | ⟨h1, h2⟩
    · go_enter Tryz.func113, Tryz.ntmps113
      go_wp2_with (refine wpList_aggS (hz _) stab0 rfl (.tmp 2) (.tmp 10) 222 rfl (frowAt 0) rfl rfl sizeFRow rfl rfl ?_; intro w2 hw2; have HF := hid hw2; clear hw2)
      refine post_cell2S HF.out Tryz.results113 rfl rfl (ldFRow HF.out) _ rfl ⟨rfl, HF.out.below⟩
    · go_enter Tryz.func113, Tryz.ntmps113
      go_wp2_with (refine wpList_aggS (hz _) stab0 rfl (.tmp 2) (.tmp 10) 222 rfl (frowAt 0) rfl rfl sizeFRow rfl rfl ?_; intro w2 hw2; have HF := hid hw2; clear hw2)
      refine post_cell2S HF.out Tryz.results113 rfl rfl (ldFRow HF.out) _ rfl ⟨rfl, HF.out.below⟩
end
theorem ffind_row (k : Nat) (hk : k < 29) : ∃ nm lo hi : Value, frowAt k = #[nm, .int .i64 ((Cmd.argN k : Nat) : Int), .bool (Nat.beq (Cmd.datN k) 1), lo, hi] ∧ nm.oneCell' = true ∧ lo.oneCell' = true ∧ hi.oneCell' = true := by
  have h : k = 0 ∨ k = 1 ∨ k = 2 ∨ k = 3 ∨ k = 4 ∨ k = 5 ∨ k = 6 ∨ k = 7 ∨ k = 8 ∨ k = 9 ∨ k = 10 ∨ k = 11 ∨ k = 12 ∨ k = 13 ∨ k = 14 ∨ k = 15 ∨ k = 16 ∨ k = 17 ∨ k = 18 ∨ k = 19 ∨ k = 20 ∨ k = 21 ∨ k = 22 ∨ k = 23 ∨ k = 24 ∨ k = 25 ∨ k = 26 ∨ k = 27 ∨ k = 28 := by omega
  rcases h with rfl | rfl | rfl | rfl | rfl | rfl | rfl | rfl | rfl | rfl | rfl | rfl | rfl | rfl | rfl | rfl | rfl | rfl | rfl | rfl | rfl | rfl | rfl | rfl | rfl | rfl | rfl | rfl | rfl <;> exact ⟨_, _, _, rfl, rfl, rfl, rfl⟩
/-- What find hands back. -/
theorem cFind (w : World) (s : Int) (h1 : -9223372036854775808 ≤ s) (h2 : s < 9223372036854775808) :
    Calls Tryz.prog 113 #[.int .i64 s] w fun e w' => ∃ nm lo hi : Value, e = .returned (.tuple #[.agg #[nm, .int .i64 ((Cmd.argN s : Nat) : Int), .bool (Nat.beq (Cmd.datN s) 1), lo, hi], .bool (Cmd.isS s)]) ∧ (nm.oneCell' = true ∧ lo.oneCell' = true ∧ hi.oneCell' = true) ∧ Below w.heap.size w w' := by
  refine (cFindT s).mono ?_
  rintro e w' ⟨rfl, hb⟩
  have e1 : decide (1 ≤ s ∧ s < 29) = Cmd.isS s := by
    unfold Cmd.isS
    rw [Bool.eq_iff_iff]
    simp only [Bool.and_eq_true, decide_eq_true_eq]
    omega
  rw [e1]
  by_cases hn : 1 ≤ s ∧ s < 29
  · obtain ⟨k, hk⟩ : ∃ k : Nat, s = (k : Int) := ⟨s.toNat, by omega⟩
    subst hk
    obtain ⟨nm, lo, hi, q, q1, q2, q3⟩ := ffind_row k (by omega)
    rw [show ffindV (k : Int) = k by unfold ffindV; rw [if_pos hn]; omega, q]
    exact ⟨nm, lo, hi, rfl, ⟨q1, q2, q3⟩, hb⟩
  · have e2 : Cmd.isS s = false := by rw [← e1]; exact decide_eq_false hn
    have e3 : Cmd.argN s = 0 := by unfold Cmd.argN; rw [e2]; rfl
    have e4 : Cmd.datN s = 0 := by unfold Cmd.datN; rw [e2]; rfl
    rw [show ffindV s = 0 by unfold ffindV; rw [if_neg hn], e3, e4]
    exact ⟨_, _, _, rfl, ⟨rfl, rfl, rfl⟩, hb⟩
end Go.Proofs.YtnklmadmenkdoaaGreat
