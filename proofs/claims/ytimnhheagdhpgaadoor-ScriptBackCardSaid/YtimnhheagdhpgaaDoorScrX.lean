/- Acts as values; reading an act of one number. -/
import Derived.Test.YtimnhheagdhpgaaDoorScrV
set_option linter.unusedVariables false
set_option linter.unusedSimpArgs false
namespace Go.Proofs.YtimnhheagdhpgaaDoor
open Go.RowKit Go.Proofs.Num
open Scr (Str bs numV numsV small svcV fltV nameV bytesV oneV)
def actC (a : Scr.Act) (dv av cv : Value) : Array Value := #[.int .i64 a.kind, .int .i64 a.num, .string ⟨a.name.toArray⟩, dv, .int .i64 a.src, .int .i64 a.cnum, .int .i64 a.svc, av, cv, .int .i64 a.fk, .int .i64 a.fat, .int .i64 a.fbit]
set_option maxRecDepth 100000 in
theorem sizeAct : ∀ w, (Go.sizeOf 29).run Tryd.prog w = .ok 12 w := fun w => by first | rfl | simp [go_sem] | kernel_rfl
set_option maxRecDepth 100000 in
theorem infoAct : (Tryd.prog.info? 29).map (·.size) = some 12 := by kernel_rfl
theorem ldAct {W w : World} {l : List HProp} {b : Nat} {cs : Array Value} (hs : cs.size = 12) (h : Sts W (blkP b (.cells cs 29 (0, 0)) :: l) w) : (loadVar 29 ⟨b, 0, none⟩).run Tryd.prog w = .ok (.agg cs) w := by
  have hb : w.heap[b]? = some (.cells cs 29 (0, 0)) := by obtain ⟨F, hF⟩ := h.head; exact hF.1
  exact run_loadVar_row (P := Tryd.prog) w b 29 29 cs (0, 0) _ hb Tryd.underlying29 rfl (by rw [infoAct, hs])
/-- An act that a value holds. -/
structure ActV (w : World) (a : Scr.Act) (dv av cv : Value) : Prop where
  data : Rd w dv (u8v a.data)
  args : Rd w av (intsV a.args)
  cdata : Rd w cv (u8v a.cdata)
theorem ActV.below {w w' : World} {a : Scr.Act} {dv av cv : Value} (h : ActV w a dv av cv) (hb : Below w.heap.size w w') : ActV w' a dv av cv := ⟨h.data.below hb, h.args.below hb, h.cdata.below hb⟩
def rowsA (a : Scr.Act) (dv av cv : Value) : List HProp := [rowP 5 1 dv (u8v a.data).length (u8v a.data), rowP 3 1 av (intsV a.args).length (intsV a.args), rowP 5 1 cv (u8v a.cdata).length (u8v a.cdata)]
theorem rowsA_stable (a : Scr.Act) (dv av cv : Value) : ∀ A ∈ rowsA a dv av cv, Stable A := stabC (rowP_stable _ _ _ _ _) (stabC (rowP_stable _ _ _ _ _) (stab1 (rowP_stable _ _ _ _ _)))
theorem Sts.actV {W w : World} {a : Scr.Act} {dv av cv : Value} {l : List HProp} (h : Sts W (rowsA a dv av cv ++ l) w) : ActV w a dv av cv :=
  have h : Sts W (rowP 5 1 dv (u8v a.data).length (u8v a.data) :: rowP 3 1 av (intsV a.args).length (intsV a.args) :: rowP 5 1 cv (u8v a.cdata).length (u8v a.cdata) :: l) w := h
  ⟨Rd.of_own (Sts.rowOwn h) rfl, Rd.of_own (Sts.rowOwn h.tail) rfl, Rd.of_own (Sts.rowOwn h.tail.tail) rfl⟩
/-- What a call has made comes to what there is. -/
theorem Sts.cat {W w w' : World} {l m : List HProp} (hl : ∀ A ∈ l, Stable A) (h : Sts W l w) (k : Sts w m w') : Sts W (m ++ l) w' := by
  obtain ⟨F, b, c, d⟩ := h
  obtain ⟨G, b2, c2, d2⟩ := k
  have hs := stars_stable hl
  refine ⟨fun k => G k ∨ F k, stars_app.2 ⟨G, F, b2, hs.keep b (Keep.of_below (S := fun _ => False) c2) (fun _ _ h => h), ?_, fun k => Iff.rfl⟩, c.trans (c2.mono c.size), ?_⟩
  · intro k' h1 h2; have := hs.dom b k' h2; have := d2 k' h1; omega
  · rintro k' (h | h)
    · have := c.size; have := d2 k' h; omega
    · exact d k' h
def actE (w w' : World) (o : Option Scr.Act) (e : Ending) : Prop := Below w.heap.size w w' ∧ match o with
  | some a => ∃ dv av cv, e = .returned (.tuple #[.agg (actC a dv av cv), .bool true]) ∧ Sts w (rowsA a dv av cv) w'
  | none => ∃ cs : Array Value, (cs.size = 12 ∧ cs.toList.all (fun v => v.oneCell') = true) ∧ e = .returned (.tuple #[.agg cs, .bool false])
theorem rd_nil (w : World) : Rd w (.slice none 0 0) [] := Rd.nil w none 0 (by decide)
theorem str_cell {w wr : World} {a : Option Addr} {n c k : Nat} {l : List Str} (h : Rd w (.slice a n c) (strsV l)) (hb : Below w.heap.size w wr) (hk : k < l.length) :
    ∃ b off, a = some ⟨b, off, none⟩ ∧ wr.cell? ⟨b, off + k, none⟩ = some (.string ⟨(l[k]).toArray⟩) := by
  obtain ⟨a', c', e', hcap, hx⟩ := h
  injection e' with e1 e2 e3
  subst e1
  obtain ⟨b, off, rfl, hb1, hb2⟩ := hx k (by rw [strsV_len]; exact hk)
  refine ⟨b, off, rfl, ?_⟩
  have := cell_below hb hb2
  rw [this]; simp [strsV, strV]
section
variable {w : World}
set_option maxHeartbeats 4000000 in
theorem cOne (kind : Int) (a : Option Addr) (c : Nat) (l : List Str) (hw : ∀ s ∈ l, s.length ≤ 281474976710656) (hl : l.length < 1000000) (hr : Rd w (.slice a l.length c) (strsV l)) (hE : Env w) :
    Calls Tryd.prog 35 #[.int .i64 kind, .slice a l.length c] w fun e w' => actE w w' (oneV kind l) e := by
  have hz : ∀ cs, Sts w [blkP w.heap.size (.cells cs 29 (0, 0))] (w.alloc (.cells cs 29)) := fun cs => (Sts.nil w).alloc stab0 _
  by_cases h1 : l.length = 1
  · obtain ⟨s, rfl⟩ : ∃ s, l = [s] := by
      cases l with
      | nil => simp at h1
      | cons s r => cases r with
        | nil => exact ⟨s, rfl⟩
        | cons x y => simp at h1
    have hs := hw s (by simp)
    obtain ⟨b, off, rfl, -⟩ := str_cell (k := 0) hr (Below.refl _ _) (by simp)
    have hcw : ∀ o, (w.alloc o).cell? ⟨b, off, none⟩ = some (.string ⟨s.toArray⟩) := fun o => by
      obtain ⟨b', off', e, h⟩ := str_cell (k := 0) hr ((Below.refl w.heap.size w).alloc (Nat.le_refl _) o) (by simp)
      injection e with e; injection e with e1 e2
      subst e1 e2
      exact h
    have hCN : ∀ x, Below w.heap.size w x → Calls Tryd.prog 51 #[.string ⟨s.toArray⟩] x fun e w' => e = .returned (numP (numV s)) ∧ Below x.heap.size x w' := fun x hx => cNumber (w := x) ⟨s.toArray⟩ (by show s.toArray.size ≤ _; simpa using hs) (hE.below hx)
    have HCN := hid hCN
    have HB0 := hid (fun o => (Below.refl w.heap.size w).alloc (Nat.le_refl _) o)
    clear hCN hr hE hw hl hs h1
    have ho : oneV kind [s] = (numV s).map fun n => { Scr.act0 with kind := kind, num := n } := rfl
    rw [ho]
    clear ho
    cases hn : numV s with
    | none =>
      rw [hn] at HCN
      simp only [numP, Option.getD_none, Option.isSome_none] at HCN
      clear hn
      go_enter Tryd.func35, Tryd.ntmps35
      go_wp2_with (first | (go_at_call 51; refine (HCN.out _ (HB0.out _)).mono ?_; rintro e w1 ⟨rfl, hb1⟩; have HB := hid hb1; clear hb1) | (refine wpList_agg ((hz _).quiet (stab1 (blkP_stable _ _)) HB.out) stab0 rfl (.tmp 4) (.tmp 21) 29 rfl (actC { Scr.act0 with kind := kind, num := 0 } (.slice none 0 0) (.slice none 0 0) (.slice none 0 0)) rfl rfl sizeAct rfl rfl ?_; intro w2 hw2; have HF := hid hw2; clear hw2))
      refine post_cell2 HF.out Tryd.results35 rfl rfl (ldAct rfl HF.out) _ rfl ⟨HF.out.below, _, ?_, rfl⟩
      exact ⟨rfl, rfl⟩
    | some n =>
      rw [hn] at HCN
      simp only [numP, Option.getD_some, Option.isSome_some] at HCN
      clear hn
      go_enter Tryd.func35, Tryd.ntmps35
      go_wp2_with (first | (go_at_call 51; refine (HCN.out _ (HB0.out _)).mono ?_; rintro e w1 ⟨rfl, hb1⟩; have HB := hid hb1; clear hb1) | (refine wpList_agg ((hz _).quiet (stab1 (blkP_stable _ _)) HB.out) stab0 rfl (.tmp 4) (.tmp 21) 29 rfl (actC { Scr.act0 with kind := kind, num := n } (.slice none 0 0) (.slice none 0 0) (.slice none 0 0)) rfl rfl sizeAct rfl rfl ?_; intro w2 hw2; have HF := hid hw2; clear hw2))
      refine post_cell2 HF.out Tryd.results35 rfl rfl (ldAct rfl HF.out) _ rfl ⟨HF.out.below, _, _, _, rfl, ((HF.out.tail.rowNil 5).rowNil 3).rowNil 5⟩
  · obtain ⟨N, hN⟩ : ∃ N, N = l.length := ⟨_, rfl⟩
    have ho : oneV kind l = none := by
      cases l with
      | nil => rfl
      | cons s r => cases r with
        | nil => simp at h1
        | cons x y => rfl
    rw [ho, ← hN]
    rw [← hN] at h1
    have h2 : ((N : Int) == 1) = false := by simp; omega
    clear ho hr hN
    go_enter Tryd.func35, Tryd.ntmps35
    go_wp2_with (refine wpList_agg (hz _) stab0 rfl (.tmp 4) (.tmp 11) 29 rfl (actC Scr.act0 (.slice none 0 0) (.slice none 0 0) (.slice none 0 0)) rfl rfl sizeAct rfl rfl ?_; intro w2 hw2; have HF := hid hw2; clear hw2)
    refine post_cell2 HF.out Tryd.results35 rfl rfl (ldAct rfl HF.out) _ rfl ⟨HF.out.below, _, ?_, rfl⟩
    exact ⟨rfl, rfl⟩
end
end Go.Proofs.YtimnhheagdhpgaaDoor
