/- Reading a fault. Reading a fault: the walk. -/
import Derived.Test.YtimnhheagdhpgaaDoorScrY
set_option linter.unusedVariables false
set_option linter.unusedSimpArgs false
namespace Go.Proofs.YtimnhheagdhpgaaDoor
open Go.RowKit Go.Proofs.Num
open Scr (Str bs numV numsV small svcV fltV nameV bytesV oneV fileV faultV orderV tailV flts)
section
variable {w : World}
set_option maxRecDepth 100000 in
set_option maxHeartbeats 8000000 in
theorem cFaults : Calls Tryd.prog 48 #[] w fun e w' => e = .returned (.slice (some ⟨w.heap.size, 0, none⟩) 8 8) ∧ New w w' 9 (.slice (some ⟨w.heap.size, 0, none⟩) 8 8) (strsV ([] :: flts)) := by
  go_enter Tryd.func48, Tryd.ntmps48
  go_wp2_with fail
  go_ret
  refine ⟨rfl, ⟨⟨rfl, Or.inr ⟨_, _, _, rfl, Nat.le_refl _, heap_new w _ rfl, Nat.le_refl _, by decide, rfl, ?_⟩⟩, (Below.refl _ _).alloc (Nat.le_refl _) _⟩⟩
  kernel_rfl
def fltAt (k : Nat) : Str := (([] : Str) :: flts).getD k []
/-- The kind that the first k names give. -/
def kindAt (a : Str) (k : Nat) : Int := if fltV a < (k : Int) then fltV a else 0
theorem kind_step (a : Str) (k : Nat) (hk : k < 8) : kindAt a (k + 1) = if 0 < k ∧ fltAt k = a then (k : Int) else kindAt a k := by
  have hb := Scr.fltV_bound a
  have ix : ∀ j : Nat, 1 ≤ j → j < 8 → fltV (fltAt j) = (j : Int) := by
    have : ∀ i : Fin 7, fltV (fltAt (i.val + 1)) = ((i.val + 1 : Nat) : Int) := by decide +kernel
    intro j h1 h2
    have e := this ⟨j - 1, by omega⟩
    simp only at e
    rw [show j - 1 + 1 = j by omega] at e
    exact e
  have nx : ∀ j : Nat, 1 ≤ j → j < 8 → fltV a = (j : Int) → fltAt j = a := by
    intro j h1 h2 h3
    have e := Scr.fltN_V (w := a) (by omega)
    rw [h3] at e
    rw [← e]
    have : ∀ i : Fin 7, fltAt (i.val + 1) = Scr.fltN ((i.val + 1 : Nat) : Int) := by decide +kernel
    have e := this ⟨j - 1, by omega⟩
    simp only at e
    rw [show j - 1 + 1 = j by omega] at e
    exact e
  unfold kindAt
  by_cases h : 0 < k ∧ fltAt k = a
  · rw [if_pos h]
    have := ix k h.1 hk
    rw [h.2] at this
    rw [this, if_pos (by omega)]
  · rw [if_neg h]
    by_cases h0 : fltV a < (k : Int)
    · rw [if_pos h0, if_pos (by omega)]
    · rw [if_neg h0]
      by_cases h1 : fltV a < ((k + 1 : Nat) : Int)
      · have e : fltV a = (k : Int) := by omega
        rw [if_pos h1]
        by_cases hk0 : k = 0
        · omega
        · exact absurd ⟨by omega, nx k (by omega) hk e⟩ h
      · rw [if_neg h1]
def numsU (w w' : World) (o : Option (List Int)) (e : Ending) : Prop := ∃ va vn vc, e = .returned (.tuple #[.slice va vn vc, .bool o.isSome]) ∧ New w w' 3 (.slice va vn vc) (intsV (o.getD []))
theorem numsE.uni {w w' : World} {o : Option (List Int)} {e : Ending} (h : numsE w w' o e) : numsU w w' o e := by
  cases o with
  | none =>
    obtain ⟨rfl, hb⟩ := h
    exact ⟨_, _, _, rfl, ⟨⟨rfl, Or.inl ⟨rfl, rfl⟩⟩, hb⟩⟩
  | some t =>
    obtain ⟨v, rfl, hn⟩ := h
    obtain ⟨a, c, rfl⟩ := hn.rd.eq
    exact ⟨_, _, _, rfl, hn⟩
end
end Go.Proofs.YtimnhheagdhpgaaDoor
namespace Go.Proofs.YtimnhheagdhpgaaDoor
open Go.RowKit Go.Proofs.Num
open Scr (Str bs numV numsV small svcV fltV nameV bytesV oneV fileV faultV orderV tailV flts)
section
variable {w : World}
set_option maxRecDepth 100000 in
theorem sizeInt : ∀ w, (Go.sizeOf 3).run Tryd.prog w = .ok 1 w := fun w => by first | rfl | simp [go_sem] | kernel_rfl
set_option maxRecDepth 100000 in
theorem sizeFlt : ∀ w, (Go.sizeOf 27).run Tryd.prog w = .ok 3 w := fun w => by first | rfl | simp [go_sem] | kernel_rfl
set_option maxRecDepth 100000 in
theorem sizeStr : ∀ w, (Go.sizeOf 9).run Tryd.prog w = .ok 1 w := fun w => by first | rfl | simp [go_sem] | kernel_rfl
/-- The words behind the first. -/
theorem run_tail {a : Option Addr} {c : Nat} {l : List Str} (hl : 1 ≤ l.length) (hr : Rd w (.slice a l.length c) (strsV l)) :
    ∃ a', (∀ v : World, (Instr.slice 47 (.slice a l.length c) (some (.int .i64 1)) none none).run Tryd.prog v = .ok (.slice a' (l.length - 1) (c - 1)) v) ∧ Rd w (.slice a' (l.length - 1) (c - 1)) (strsV (l.drop 1)) := by
  obtain ⟨b, off, rfl, -⟩ := str_cell (k := 0) hr (Below.refl _ _) hl
  obtain ⟨-, hc1, hc2⟩ := hr.cap
  have ht' : Tryd.prog.underlying 47 = some (.slice (Tryd.prog.elem 47)) := by simp [Program.elem, Tryd.underlying47]
  have he : Tryd.prog.elem 47 = 9 := by simp [Program.elem, Tryd.underlying47]
  have hrun : ∀ v : World, (Instr.slice 47 (.slice (some ⟨b, off, none⟩) l.length c) (some (.int .i64 1)) none none).run Tryd.prog v = .ok (sliced (some ⟨b, off, none⟩) 1 l.length c 1) v := fun v => by
    rw [run_slice_l v 47 _ _ _ ht' .i64 1 (by omega) (by omega), he, sizeStr]
    rfl
  by_cases hc : c = 1
  · refine ⟨some ⟨b, off, none⟩, fun v => by rw [hrun, sliced, if_pos hc], ?_⟩
    have r := hr.drop 1 (by rw [strsV_len]; exact hl) (some ⟨b, off, none⟩) (c - 1) ⟨by rw [strsV_len]; exact Nat.sub_le_sub_right hc1 1, Nat.le_trans (Nat.sub_le _ _) hc2⟩ (by intro b' off' h e; rw [strsV_len] at h; exact absurd h (Nat.not_lt.2 (hc ▸ hc1)))
    rw [strsV_len] at r
    simpa [strsV] using r
  · refine ⟨some ⟨b, off + 1, none⟩, fun v => by rw [hrun, sliced, if_neg hc]; rfl, ?_⟩
    have r := hr.drop 1 (by rw [strsV_len]; exact hl) (some ⟨b, off + 1, none⟩) (c - 1) ⟨by rw [strsV_len]; exact Nat.sub_le_sub_right hc1 1, Nat.le_trans (Nat.sub_le _ _) hc2⟩ (fun b' off' _ e => by cases e; exact rfl)
    rw [strsV_len] at r
    simpa [strsV] using r
theorem wpList_ld {ops : Array Oper} {rest : List Oper} {o : Oper} {a : Act} {Q : Exit → Act → World → Prop} {w : World} {b j : Nat} (hgd : o.guard = none) (x : Operand) (t : TypeId) (ho : o.op = .load t x) (hx : a.eval x = .pointer (some ⟨b, j, none⟩)) (v : Value)
    (hld : (loadVar t ⟨b, j, none⟩).run Tryd.prog w = .ok v w) (h : wpList Tryd.prog ops Q rest (a.put o.dst v) w) : wpList Tryd.prog ops Q (o :: rest) a w := by
  refine wpList_plain hgd fun K hK => ?_
  have hr : (execOp a.eval o).run Tryd.prog w = .ok (.value v) w := by
    unfold execOp
    simp only [ho, hx]
    have h1 : (Instr.loadAt t (.pointer (some ⟨b, j, none⟩))).run Tryd.prog w = .ok v w := by
      simp only [Instr.loadAt, Instr.sureAddr]
      simp [Sem.run_bind, asAddr, hld, Result.andThen]
    simp [Sem.run_bind, h1, Result.andThen]
  unfold Oper.wp
  rw [hr]
  exact hK _ _ h
theorem newOpenR {w w' : World} {e : TypeId} {v : Value} {ys : List Value} (h : New w w' e v ys) (hn : 0 < ys.length) : ∃ g cap, v = .slice (some ⟨g, 0, none⟩) ys.length cap := by
  obtain ⟨⟨h1, h2⟩, hb⟩ := h
  rcases h2 with ⟨h2, h3⟩ | ⟨g, cap, cur, hv, r⟩
  · omega
  · exact ⟨g, cap, hv⟩
set_option maxRecDepth 100000 in
theorem infoFlt : (Tryd.prog.info? 27).map (·.size) = some 3 := by kernel_rfl
theorem ldFlt {W w : World} {l : List HProp} {b : Nat} {cs : Array Value} (hs : cs.size = 3) (h : Sts W (blkP b (.cells cs 27 (0, 0)) :: l) w) : (loadVar 27 ⟨b, 0, none⟩).run Tryd.prog w = .ok (.agg cs) w := by
  have hb : w.heap[b]? = some (.cells cs 27 (0, 0)) := by obtain ⟨F, hF⟩ := h.head; exact hF.1
  exact run_loadVar_row (P := Tryd.prog) w b 27 27 cs (0, 0) _ hb Tryd.underlying27 rfl (by rw [infoFlt, hs])
end
end Go.Proofs.YtimnhheagdhpgaaDoor
