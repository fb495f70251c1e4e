/- Acts as values; reading an act of one number. Reading a file. -/
import Derived.Test.YtimnhheagdhpgaaDoorScrV
set_option linter.unusedVariables false
set_option linter.unusedSimpArgs false
namespace Go.Proofs.YtimnhheagdhpgaaDoor
open Go.RowKit Go.Proofs.Num
open Scr (Str bs numV numsV small svcV fltV nameV bytesV oneV)
def actC (a : Scr.Act) (dv av cv : Value) : Array Value := #[.int .i64 a.kind, .int .i64 a.num, .string ⟨a.name.toArray⟩, dv, .int .i64 a.src, .int .i64 a.cnum, .int .i64 a.svc, av, cv, .int .i64 a.fk, .int .i64 a.fat, .int .i64 a.fbit]
set_option maxRecDepth 100000 in
theorem sizeAct : ∀ w, (Go.sizeOf 29).run Tryd.prog w = .ok 12 w := fun w => by first | rfl | simp [go_sem] | kernel_rfl
set_option maxRecDepth 100000 in
theorem infoAct : (Tryd.prog.info? 29).map (·.size) = some 12 := by kernel_rfl
theorem ldAct {W w : World} {l : List HProp} {b : Nat} {cs : Array Value} (hs : cs.size = 12) (h : Sts W (blkP b (.cells cs 29 (0, 0)) :: l) w) : (loadVar 29 ⟨b, 0, none⟩).run Tryd.prog w = .ok (.agg cs) w := by
  have hb : w.heap[b]? = some (.cells cs 29 (0, 0)) := by obtain ⟨F, hF⟩ := h.head; exact hF.1
  exact run_loadVar_row (P := Tryd.prog) w b 29 29 cs (0, 0) _ hb Tryd.underlying29 rfl (by rw [infoAct, hs])
/-- An act that a value holds. -/
structure ActV (w : World) (a : Scr.Act) (dv av cv : Value) : Prop where
  data : Rd w dv (u8v a.data)
  args : Rd w av (intsV a.args)
  cdata : Rd w cv (u8v a.cdata)
theorem ActV.below {w w' : World} {a : Scr.Act} {dv av cv : Value} (h : ActV w a dv av cv) (hb : Below w.heap.size w w') : ActV w' a dv av cv := ⟨h.data.below hb, h.args.below hb, h.cdata.below hb⟩
def rowsA (a : Scr.Act) (dv av cv : Value) : List HProp := [rowP 5 1 dv (u8v a.data).length (u8v a.data), rowP 3 1 av (intsV a.args).length (intsV a.args), rowP 5 1 cv (u8v a.cdata).length (u8v a.cdata)]
theorem rowsA_stable (a : Scr.Act) (dv av cv : Value) : ∀ A ∈ rowsA a dv av cv, Stable A := stabC (rowP_stable _ _ _ _ _) (stabC (rowP_stable _ _ _ _ _) (stab1 (rowP_stable _ _ _ _ _)))
theorem Sts.actV {W w : World} {a : Scr.Act} {dv av cv : Value} {l : List HProp} (h : Sts W (rowsA a dv av cv ++ l) w) : ActV w a dv av cv :=
  have h : Sts W (rowP 5 1 dv (u8v a.data).length (u8v a.data) :: rowP 3 1 av (intsV a.args).length (intsV a.args) :: rowP 5 1 cv (u8v a.cdata).length (u8v a.cdata) :: l) w := h
  ⟨Rd.of_own (Sts.rowOwn h) rfl, Rd.of_own (Sts.rowOwn h.tail) rfl, Rd.of_own (Sts.rowOwn h.tail.tail) rfl⟩
/-- What a call has made comes to what there is. -/
theorem Sts.cat {W w w' : World} {l m : List HProp} (hl : ∀ A ∈ l, Stable A) (h : Sts W l w) (k : Sts w m w') : Sts W (m ++ l) w' := by
  obtain ⟨F, b, c, d⟩ := h
  obtain ⟨G, b2, c2, d2⟩ := k
  have hs := stars_stable hl
  refine ⟨fun k => G k ∨ F k, stars_app.2 ⟨G, F, b2, hs.keep b (Keep.of_below (S := fun _ => False) c2) (fun _ _ h => h), ?_, fun k => Iff.rfl⟩, c.trans (c2.mono c.size), ?_⟩
  · intro k' h1 h2; have := hs.dom b k' h2; have := d2 k' h1; omega
  · rintro k' (h | h)
    · have := c.size; have := d2 k' h; omega
    · exact d k' h
def actE (w w' : World) (o : Option Scr.Act) (e : Ending) : Prop := Below w.heap.size w w' ∧ match o with
  | some a => ∃ dv av cv, e = .returned (.tuple #[.agg (actC a dv av cv), .bool true]) ∧ Sts w (rowsA a dv av cv) w'
  | none => ∃ cs : Array Value, (cs.size = 12 ∧ cs.toList.all (fun v => v.oneCell') = true) ∧ e = .returned (.tuple #[.agg cs, .bool false])
theorem rd_nil (w : World) : Rd w (.slice none 0 0) [] := Rd.nil w none 0 (by decide)
theorem str_cell {w wr : World} {a : Option Addr} {n c k : Nat} {l : List Str} (h : Rd w (.slice a n c) (strsV l)) (hb : Below w.heap.size w wr) (hk : k < l.length) :
    ∃ b off, a = some ⟨b, off, none⟩ ∧ wr.cell? ⟨b, off + k, none⟩ = some (.string ⟨(l[k]).toArray⟩) := by
  obtain ⟨a', c', e', hcap, hx⟩ := h
  injection e' with e1 e2 e3
  subst e1
  obtain ⟨b, off, rfl, hb1, hb2⟩ := hx k (by rw [strsV_len]; exact hk)
  refine ⟨b, off, rfl, ?_⟩
  have := cell_below hb hb2
  rw [this]; simp [strsV, strV]
section
variable {w : World}
set_option maxHeartbeats 4000000 in
theorem cOne (kind : Int) (a : Option Addr) (c : Nat) (l : List Str) (hw : ∀ s ∈ l, s.length ≤ 281474976710656) (hl : l.length < 1000000) (hr : Rd w (.slice a l.length c) (strsV l)) (hE : Env w) :
    Calls Tryd.prog 35 #[.int .i64 kind, .slice a l.length c] w fun e w' => actE w w' (oneV kind l) e := by
  have hz : ∀ cs, Sts w [blkP w.heap.size (.cells cs 29 (0, 0))] (w.alloc (.cells cs 29)) := fun cs => (Sts.nil w).alloc stab0 _
  by_cases h1 : l.length = 1
  · obtain ⟨s, rfl⟩ : ∃ s, l = [s] := by
      cases l with
      | nil => simp at h1
      | cons s r => cases r with
        | nil => exact ⟨s, rfl⟩
        | cons x y => simp at h1
    have hs := hw s (by simp)
    obtain ⟨b, off, rfl, -⟩ := str_cell (k := 0) hr (Below.refl _ _) (by simp)
    have hcw : ∀ o, (w.alloc o).cell? ⟨b, off, none⟩ = some (.string ⟨s.toArray⟩) := fun o => by
      obtain ⟨b', off', e, h⟩ := str_cell (k := 0) hr ((Below.refl w.heap.size w).alloc (Nat.le_refl _) o) (by simp)
      injection e with e; injection e with e1 e2
      subst e1 e2
      exact h
    have hCN : ∀ x, Below w.heap.size w x → Calls Tryd.prog 51 #[.string ⟨s.toArray⟩] x fun e w' => e = .returned (numP (numV s)) ∧ Below x.heap.size x w' := fun x hx => cNumber (w := x) ⟨s.toArray⟩ (by show s.toArray.size ≤ _; simpa using hs) (hE.below hx)
    have HCN := hid hCN
    have HB0 := hid (fun o => (Below.refl w.heap.size w).alloc (Nat.le_refl _) o)
    clear hCN hr hE hw hl hs h1
    have ho : oneV kind [s] = (numV s).map fun n => { Scr.act0 with kind := kind, num := n } := rfl
    rw [ho]
    clear ho
    cases hn : numV s with
    | none =>
      rw [hn] at HCN
      simp only [numP, Option.getD_none, Option.isSome_none] at HCN
      clear hn
      go_enter Tryd.func35, Tryd.ntmps35
      go_wp2_with (first | (go_at_call 51; refine (HCN.out _ (HB0.out _)).mono ?_; rintro e w1 ⟨rfl, hb1⟩; have HB := hid hb1; clear hb1) | (refine wpList_agg ((hz _).quiet (stab1 (blkP_stable _ _)) HB.out) stab0 rfl (.tmp 4) (.tmp 21) 29 rfl (actC { Scr.act0 with kind := kind, num := 0 } (.slice none 0 0) (.slice none 0 0) (.slice none 0 0)) rfl rfl sizeAct rfl rfl ?_; intro w2 hw2; have HF := hid hw2; clear hw2))
      refine post_cell2 HF.out Tryd.results35 rfl rfl (ldAct rfl HF.out) _ rfl ⟨HF.out.below, _, ?_, rfl⟩
      exact ⟨rfl, rfl⟩
    | some n =>
      rw [hn] at HCN
      simp only [numP, Option.getD_some, Option.isSome_some] at HCN
      clear hn
      go_enter Tryd.func35, Tryd.ntmps35
      go_wp2_with (first | (go_at_call 51; refine (HCN.out _ (HB0.out _)).mono ?_; rintro e w1 ⟨rfl, hb1⟩; have HB := hid hb1; clear hb1) | (refine wpList_agg ((hz _).quiet (stab1 (blkP_stable _ _)) HB.out) stab0 rfl (.tmp 4) (.tmp 21) 29 rfl (actC { Scr.act0 with kind := kind, num := n } (.slice none 0 0) (.slice none 0 0) (.slice none 0 0)) rfl rfl sizeAct rfl rfl ?_; intro w2 hw2; have HF := hid hw2; clear hw2))
      refine post_cell2 HF.out Tryd.results35 rfl rfl (ldAct rfl HF.out) _ rfl ⟨HF.out.below, _, _, _, rfl, ((HF.out.tail.rowNil 5).rowNil 3).rowNil 5⟩
  · obtain ⟨N, hN⟩ : ∃ N, N = l.length := ⟨_, rfl⟩
    have ho : oneV kind l = none := by
      cases l with
      | nil => rfl
      | cons s r => cases r with
        | nil => simp at h1
        | cons x y => rfl
    rw [ho, ← hN]
    rw [← hN] at h1
    have h2 : ((N : Int) == 1) = false := by simp; omega
    clear ho hr hN
    go_enter Tryd.func35, Tryd.ntmps35
    go_wp2_with (refine wpList_agg (hz _) stab0 rfl (.tmp 4) (.tmp 11) 29 rfl (actC Scr.act0 (.slice none 0 0) (.slice none 0 0) (.slice none 0 0)) rfl rfl sizeAct rfl rfl ?_; intro w2 hw2; have HF := hid hw2; clear hw2)
    refine post_cell2 HF.out Tryd.results35 rfl rfl (ldAct rfl HF.out) _ rfl ⟨HF.out.below, _, ?_, rfl⟩
    exact ⟨rfl, rfl⟩
end
end Go.Proofs.YtimnhheagdhpgaaDoor
namespace Go.Proofs.YtimnhheagdhpgaaDoor
open Go.RowKit Go.Proofs.Num
open Scr (Str bs numV numsV small svcV fltV nameV bytesV oneV fileV faultV orderV tailV)
theorem bytesE.uni {w w' : World} {o : Option (List UInt8)} {e : Ending} (h : bytesE w w' o e) : ∃ va vn vc, e = .returned (.tuple #[.slice va vn vc, .bool o.isSome]) ∧ New w w' 5 (.slice va vn vc) (u8v (o.getD [])) := by
  cases o with
  | none =>
    obtain ⟨rfl, hb⟩ := h
    exact ⟨_, _, _, rfl, ⟨⟨rfl, Or.inl ⟨rfl, rfl⟩⟩, hb⟩⟩
  | some b =>
    obtain ⟨v, rfl, hn⟩ := h
    obtain ⟨a, c, rfl⟩ := hn.rd.eq
    exact ⟨_, _, _, rfl, hn⟩
def fileO (y : Str) : Option Int → Option (List UInt8) → Option Scr.Act
  | some n, some d => some { Scr.act0 with kind := 3, num := n, name := y, data := d }
  | _, _ => none
theorem fileV_three (x y z : Str) : fileV [x, y, z] = if nameV y = true then fileO y (numV x) (bytesV z 65536) else none := by
  cases h1 : numV x <;> cases h2 : bytesV z 65536 <;> simp [fileV, fileO, h1, h2]
theorem size_le {s : Str} (h : s.length < 1000000) : (⟨s.toArray⟩ : ByteArray).size < 1000000 := by show s.toArray.size < _; simpa using h
section
variable {w : World}
set_option maxHeartbeats 8000000 in
theorem cFile (a : Option Addr) (c : Nat) (l : List Str) (hw : ∀ s ∈ l, s.length < 1000000) (hl : l.length < 1000000) (hr : Rd w (.slice a l.length c) (strsV l)) (hE : Env w) :
    Calls Tryd.prog 37 #[.slice a l.length c] w fun e w' => actE w w' (fileV l) e := by
  have hz : ∀ cs, Sts w [blkP w.heap.size (.cells cs 29 (0, 0))] (w.alloc (.cells cs 29)) := fun cs => (Sts.nil w).alloc stab0 _
  by_cases h1 : l.length = 3
  · obtain ⟨x, y, z, rfl⟩ : ∃ x y z, l = [x, y, z] := by
      match l, h1 with
      | [x, y, z], _ => exact ⟨x, y, z, rfl⟩
    have hx := size_le (hw x (by simp))
    have hy := size_le (hw y (by simp))
    have hzz := size_le (hw z (by simp))
    obtain ⟨b, off, rfl, -⟩ := str_cell (k := 0) hr (Below.refl _ _) (by simp)
    have hc : ∀ (k : Nat) (hk : k < [x, y, z].length) (v : World), Below w.heap.size w v → v.cell? ⟨b, off + k, none⟩ = some (.string ⟨([x, y, z][k]).toArray⟩) := fun k hk v hv => by
      obtain ⟨b', off', e, h⟩ := str_cell (k := k) hr hv hk
      injection e with e; injection e with e1 e2
      subst e1 e2
      exact h
    have HC0 := hid (show ∀ v, Below w.heap.size w v → v.cell? ⟨b, off, none⟩ = some (.string ⟨x.toArray⟩) from hc 0 (by simp))
    have HC1 := hid (show ∀ v, Below w.heap.size w v → v.cell? ⟨b, off + 1, none⟩ = some (.string ⟨y.toArray⟩) from hc 1 (by simp))
    have HC2 := hid (show ∀ v, Below w.heap.size w v → v.cell? ⟨b, off + 2, none⟩ = some (.string ⟨z.toArray⟩) from hc 2 (by simp))
    have hCN : ∀ v, Below w.heap.size w v → Calls Tryd.prog 51 #[.string ⟨x.toArray⟩] v fun e w' => e = .returned (numP (numV x)) ∧ Below v.heap.size v w' := fun v hv => cNumber (w := v) ⟨x.toArray⟩ (by omega) (hE.below hv)
    have HCN := hid hCN
    have HNM := hid (fun v : World => cName (w := v) ⟨y.toArray⟩ (by omega))
    have HBY := hid (fun v : World => cBytes (w := v) ⟨z.toArray⟩ (by omega) 65536 (Nat.le_refl _))
    have HB0 := hid (fun o => (Below.refl w.heap.size w).alloc (Nat.le_refl _) o)
    have k0 := fun o => HC0.out (w.alloc o) (HB0.out o)
    have k1 := fun o => HC1.out (w.alloc o) (HB0.out o)
    have k2 := fun o => HC2.out (w.alloc o) (HB0.out o)
    obtain ⟨r, hrr⟩ : ∃ r, r = fileV [x, y, z] := ⟨_, rfl⟩
    rw [← hrr]
    obtain ⟨nv, hnv⟩ : ∃ nv, nv = nameV y := ⟨_, rfl⟩
    rw [show bs ⟨y.toArray⟩ = y from rfl, ← hnv] at HNM
    clear hCN hc hr hw hE hl hx hy hzz h1
    cases nv with
    | false =>
      have hr0 : r = none := by rw [hrr, fileV_three, ← hnv]; rfl
      clear hrr hnv
      subst hr0
      go_enter Tryd.func37, Tryd.ntmps37
      go_wp2_with (first | (go_at_call 56; refine (HNM.out _).mono ?_; rintro e w1 ⟨rfl, hw1⟩; rw [hw1]) | (refine wpList_agg (hz _) stab0 rfl (.tmp 2) (.tmp 18) 29 rfl (actC Scr.act0 (.slice none 0 0) (.slice none 0 0) (.slice none 0 0)) rfl rfl sizeAct rfl rfl ?_; intro w2 hw2; have HF := hid hw2; clear hw2))
      refine post_cell2 HF.out Tryd.results37 rfl rfl (ldAct rfl HF.out) _ rfl ⟨HF.out.below, _, ?_, rfl⟩
      exact ⟨rfl, rfl⟩
    | true =>
      obtain ⟨on, hon⟩ : ∃ on, on = numV x := ⟨_, rfl⟩
      obtain ⟨ob, hob⟩ : ∃ ob, ob = bytesV z 65536 := ⟨_, rfl⟩
      rw [← hon] at HCN
      rw [show bs ⟨z.toArray⟩ = z from rfl, ← hob] at HBY
      have hr0 : r = fileO y on ob := by rw [hrr, fileV_three, ← hnv, hon, hob]; rfl
      have HR := hid hr0
      clear hrr hnv hon hob hr0
      obtain ⟨n, hn⟩ : ∃ n, n = on.getD 0 := ⟨_, rfl⟩
      obtain ⟨i1, hi1⟩ : ∃ i1, i1 = on.isSome := ⟨_, rfl⟩
      obtain ⟨i2, hi2⟩ : ∃ i2, i2 = ob.isSome := ⟨_, rfl⟩
      have HV := hid (show n = on.getD 0 ∧ i1 = on.isSome ∧ i2 = ob.isSome from ⟨hn, hi1, hi2⟩)
      simp only [numP] at HCN
      rw [← hn, ← hi1] at HCN
      clear hn hi1
      cases i1 with
      | false =>
        go_enter Tryd.func37, Tryd.ntmps37
        go_wp2_with (first | (go_at_call 56; refine (HNM.out _).mono ?_; rintro e w1 ⟨rfl, hw1⟩; rw [hw1]) | (go_at_call 51; refine (HCN.out _ (HB0.out _)).mono ?_; rintro e w1 ⟨rfl, hb1⟩; have HB := hid ((HB0.out _).trans (hb1.mono (HB0.out _).size)); have HQ := hid (Sts.quiet (stab1 (blkP_stable _ _)) (hz _) hb1); clear hb1; have d2 := HC2.out _ HB.out) | (go_at_call 54; refine (HBY.out _).mono ?_; intro e w2 hbe; obtain ⟨va, vn, vc, rfl, hnew⟩ := hbe.uni; have HQ2 := hid (Sts.new (stab1 (blkP_stable _ _)) HQ.out hnew).swap; clear hbe hnew; have d1 := HC1.out _ HQ2.out.below) | (refine wpList_agg HQ2.out (stab1 (rowP_stable _ _ _ _ _)) rfl (.tmp 2) (.tmp 38) 29 rfl (actC { Scr.act0 with kind := 3, num := n, name := y } (.slice va vn vc) (.slice none 0 0) (.slice none 0 0)) rfl rfl sizeAct rfl rfl ?_; intro w3 hw3; have HF := hid hw3; clear hw3))
        refine post_cell2 HF.out Tryd.results37 rfl rfl (ldAct rfl HF.out) _ rfl ⟨HF.out.below, ?_⟩
        have hr1 : r = none := by
          have := HV.out.2.1
          rw [HR.out]
          cases on with
          | none => rfl
          | some _ => cases this
        rw [hr1]
        exact ⟨_, ⟨rfl, rfl⟩, rfl⟩
      | true =>
        go_enter Tryd.func37, Tryd.ntmps37
        go_wp2_with (first | (go_at_call 56; refine (HNM.out _).mono ?_; rintro e w1 ⟨rfl, hw1⟩; rw [hw1]) | (go_at_call 51; refine (HCN.out _ (HB0.out _)).mono ?_; rintro e w1 ⟨rfl, hb1⟩; have HB := hid ((HB0.out _).trans (hb1.mono (HB0.out _).size)); have HQ := hid (Sts.quiet (stab1 (blkP_stable _ _)) (hz _) hb1); clear hb1; have d2 := HC2.out _ HB.out) | (go_at_call 54; refine (HBY.out _).mono ?_; intro e w2 hbe; obtain ⟨va, vn, vc, rfl, hnew⟩ := hbe.uni; rw [← hi2]; have HQ2 := hid (Sts.new (stab1 (blkP_stable _ _)) HQ.out hnew).swap; clear hbe hnew; have d1 := HC1.out _ HQ2.out.below) | (refine wpList_agg HQ2.out (stab1 (rowP_stable _ _ _ _ _)) rfl (.tmp 2) (.tmp 38) 29 rfl (actC { Scr.act0 with kind := 3, num := n, name := y } (.slice va vn vc) (.slice none 0 0) (.slice none 0 0)) rfl rfl sizeAct rfl rfl ?_; intro w3 hw3; have HF := hid hw3; clear hw3))
        all_goals (
          refine post_cell2 HF.out Tryd.results37 rfl rfl (ldAct rfl HF.out) _ rfl ⟨HF.out.below, ?_⟩
          obtain ⟨g1, g2, g3⟩ := HV.out
          cases on with
          | none => cases g2
          | some n' =>
            have g1' : n = n' := g1
            subst g1'
            cases ob with
            | none => rw [HR.out]; exact ⟨_, ⟨rfl, rfl⟩, rfl⟩
            | some d =>
              rw [HR.out]
              exact ⟨_, _, _, rfl, ((HF.out.tail.rowNil 5).rowNil 3).third⟩)
  · obtain ⟨N, hN⟩ : ∃ N, N = l.length := ⟨_, rfl⟩
    have ho : fileV l = none := by
      match l, h1 with
      | [], _ => rfl
      | [x], _ => rfl
      | [x, y], _ => rfl
      | [x, y, z], h => simp at h
      | x :: y :: z :: t :: r, _ => rfl
    rw [ho, ← hN]
    rw [← hN] at h1
    have h2 : ((N : Int) == 3) = false := by simp; omega
    clear ho hr hN
    go_enter Tryd.func37, Tryd.ntmps37
    go_wp2_with (refine wpList_agg (hz _) stab0 rfl (.tmp 2) (.tmp 18) 29 rfl (actC Scr.act0 (.slice none 0 0) (.slice none 0 0) (.slice none 0 0)) rfl rfl sizeAct rfl rfl ?_; intro w2 hw2; have HF := hid hw2; clear hw2)
    refine post_cell2 HF.out Tryd.results37 rfl rfl (ldAct rfl HF.out) _ rfl ⟨HF.out.below, _, ?_, rfl⟩
    exact ⟨rfl, rfl⟩
end
end Go.Proofs.YtimnhheagdhpgaaDoor
