/- The texts of scenarios: what both writers know; acts that a slice reads. script.Text: the walk. The specification's Text: the walk. -/
import Derived.Test.YtimnhheagdhpgaaDoorScsW
import Derived.Test.YtimnhheagdhpgaaDoorSclE
set_option linter.unusedVariables false
set_option linter.unusedSimpArgs false
namespace Go.Proofs
open Go.RowKit in
/-- The shelf's writer of a builder, at this program. -/
theorem Tryd.Builder_WriteString (B b : Nat) (bs : List Value) (s : ByteArray) (w : World) (h : Lib.IsBuilder 63 5 B b bs w) (hlen : bs.length + s.size ≤ 140737488355328) (hBw : B ≤ w.heap.size) :
    Calls Tryd.prog 33 #[.pointer (some ⟨b, 0, none⟩), .string s] w fun e w' => e = .returned (.tuple #[.int .i64 s.size, .nilIface]) ∧ (Lib.BuilderAt 63 5 B b (.pointer (some ⟨b, 0, none⟩)) (bs ++ Lib.strCells s) w' ∧ Below B w w') := Any.Builder_WriteString { Tryd.lays156 with } Tryd.Builder_Extra_156 B b bs s w h hlen hBw
end Go.Proofs
namespace Go.Proofs.YtimnhheagdhpgaaDoor
open Go.RowKit Go.Proofs.Num
open Scr (Str bs lineV textsV)
theorem isB_below {T e : TypeId} {B b : Nat} {l : List Value} {w w' : World} (h : Lib.IsBuilder T e B b l w) (hb : Below w.heap.size w w') : Lib.IsBuilder T e B b l w' := by
  have key : ∀ p, Lib.BuilderAt T e B b p l w → Lib.BuilderAt T e B b p l w' := by
    intro p h
    have hlt := Lib.BuilderAt.lt h
    obtain ⟨hB, v, h1, h2, h3⟩ := h
    refine ⟨hB, v, by rw [hb.block b hlt]; exact h1, ?_, h3⟩
    obtain ⟨q1, q2⟩ := h2
    refine ⟨q1, ?_⟩
    rcases q2 with q2 | ⟨g, cap, cur, hv, hg, hc, r⟩
    · exact Or.inl q2
    · refine Or.inr ⟨g, cap, cur, hv, hg, ?_, r⟩
      have hgl : g < w.heap.size := by
        rcases Nat.lt_or_ge g w.heap.size with h' | h'
        · exact h'
        · rw [Array.getElem?_eq_none h'] at hc; cases hc
      rw [hb.block g hgl]; exact hc
  exact h.elim (fun x => Or.inl (key _ x)) (fun x => Or.inr (key _ x))
/-- The acts that a slice reads. -/
def ActsR (w : World) (ad : Option Addr) (l : List Scr.Act) : Prop := ∀ k (hk : k < l.length), ∃ g f dv av cv, ad = some ⟨g, f, none⟩ ∧
  ∀ x, Below w.heap.size w x → (loadVar 29 ⟨g, f + k * 12, none⟩).run Tryd.prog x = .ok (.agg (actC l[k] dv av cv)) x ∧ ActV x l[k] dv av cv
def EAct (w : World) (cs : List Value) (a : Scr.Act) : Prop := ∃ dv av cv, cs = (actC a dv av cv).toList ∧ ActV w a dv av cv ∧ ActI a
theorem actsR_of {w : World} {v : Value} {l : List Scr.Act} (h : SliceOf w 12 EAct v l) : ∃ ad c, v = .slice ad l.length c ∧ ActsR w ad l ∧ ∀ a ∈ l, ActI a := by
  obtain ⟨ad, c, hv, -, hel⟩ := h
  refine ⟨ad, c, hv, fun k hk => ?_, fun a ha => ?_⟩
  · obtain ⟨g, f, cs, h1, h2, h3, h4, dv, av, cv, h5, h6, h7⟩ := hel k hk
    refine ⟨g, f, dv, av, cv, h1, fun x hb => ⟨?_, h6.below hb⟩⟩
    have e := run_loadVar_mid (P := Tryd.prog) x g (f + k * 12) 29 cs _ ?_ Tryd.underlying29 rfl (by rw [h3]; exact infoActS)
    · rw [e, h5]
    · intro j u hu
      refine cell_below hb ?_
      have hj := (List.getElem?_eq_some_iff.1 hu).1
      rw [h4 j hj]
      rw [List.getElem?_eq_getElem hj] at hu
      exact hu
  · obtain ⟨k, hk, rfl⟩ := List.getElem_of_mem ha
    obtain ⟨g, f, cs, h1, h2, h3, h4, dv, av, cv, h5, h6, h7⟩ := hel k hk
    exact h7
theorem run_ixA {w : World} {g f n c k : Nat} (hk : k < n) : (Instr.indexAt 38 (.slice (some ⟨g, f, none⟩) n c) (.int .i64 (k : Int))).run Tryd.prog w = .ok (.pointer (some ⟨g, f + k * 12, none⟩)) w := by
  have e : (⟨g, f, none⟩ : Addr).add (k * 12) = ⟨g, f + k * 12, none⟩ := by rw [Addr.add_mid]
  have hs : Sem.run Tryd.prog (sizeOf 29) w = .ok 12 w := by
    cases hq : Tryd.prog.info? 29 with
    | none => have := infoActS; rw [hq] at this; cases this
    | some i => have := infoActS; rw [hq] at this; simp only [Option.map_some, Option.some.injEq] at this; simp [sizeOf, typeInfo, hq, this]
  have hu := run_underlying (P := Tryd.prog) Tryd.underlying38 w
  simp only [Instr.indexAt, asIntOf, Sem.run_bind, Sem.run_pure, Result.andThen_ok, hu]
  have hk2 : (0 : Int) ≤ (k : Int) ∧ (k : Int) < (n : Int) := by omega
  simp [hk2, hs, e]
theorem exec_ixF {o : Oper} {a : Act} {w : World} {g f n c k : Nat} (x i : Operand) (ho : o.op = .indexAddr 38 x i) (hx : a.eval x = .slice (some ⟨g, f, none⟩) n c) (hi : a.eval i = .int .i64 (k : Int)) (hk : k < n) :
    (execOp a.eval o).run Tryd.prog w = .ok (.value (.pointer (some ⟨g, f + k * 12, none⟩))) w := by
  unfold execOp
  simp only [ho, hx, hi]
  simp [Sem.run_bind, run_ixA hk, Result.andThen]
theorem wpList_ixF {ops : Array Oper} {rest : List Oper} {o : Oper} {a : Act} {Q : Exit → Act → World → Prop} {w : World} {g f n c k : Nat} (hgd : o.guard = none) (x i : Operand) (ho : o.op = .indexAddr 38 x i) (hx : a.eval x = .slice (some ⟨g, f, none⟩) n c) (hi : a.eval i = .int .i64 (k : Int)) (hk : k < n)
    (h : wpList Tryd.prog ops Q rest (a.put o.dst (.pointer (some ⟨g, f + k * 12, none⟩))) w) : wpList Tryd.prog ops Q (o :: rest) a w := by
  refine wpList_plain hgd fun K hK => ?_
  unfold Oper.wp
  rw [exec_ixF x i ho hx hi hk]
  exact hK _ _ h
def TInv (acc : Str) (k : Nat) (l : List Scr.Act) (res : Option Str) : Prop := (textsV (l.drop k)).map (acc ++ ·) = res
theorem TInv.start (l : List Scr.Act) : TInv [] 0 l (textsV l) := by
  unfold TInv
  cases h : textsV l with
  | none => simp [h]
  | some t => simp [h]
theorem TInv.bad {acc : Str} {k : Nat} {l : List Scr.Act} {res : Option Str} (h : TInv acc k l res) (hk : k < l.length) (hn : lineV l[k] = none) : res = none := by
  rw [← h, List.drop_eq_getElem_cons hk]
  simp [textsV, hn]
theorem TInv.step {acc s : Str} {k : Nat} {l : List Scr.Act} {res : Option Str} (h : TInv acc k l res) (hk : k < l.length) (hn : lineV l[k] = some s) : TInv (acc ++ (s ++ [10])) (k + 1) l res := by
  unfold TInv at h ⊢
  rw [← h, List.drop_eq_getElem_cons hk]
  cases ht : textsV (l.drop (k + 1)) with
  | none => simp [textsV, hn, ht]
  | some t => simp [textsV, hn, ht]
theorem TInv.done {acc : Str} {l : List Scr.Act} {res : Option Str} (h : TInv acc l.length l res) : res = some acc := by
  rw [← h]
  simp [textsV]
/-- Acts whose lines are short. -/
structure ShortL (a : Scr.Act) : Prop where
  text : TextOk a
  line : LineOk a
  len : ∀ s, lineV a = some s → s.length ≤ 43000
theorem textsV_len : ∀ {l : List Scr.Act} {t : Str}, (∀ a ∈ l, ∀ s, lineV a = some s → s.length ≤ 43000) → textsV l = some t → t.length ≤ l.length * 43001
  | [], t, _, h => by simp only [textsV] at h; injection h with h; subst h; simp
  | a :: l, t, hs, h => by
    simp only [textsV] at h
    split at h
    · rename_i s r h1 h2
      injection h with h; subst h
      have g1 := hs a (List.mem_cons_self ..) s h1
      have g2 := textsV_len (fun b hb => hs b (List.mem_cons_of_mem _ hb)) h2
      simp only [List.length_append, List.length_cons]
      omega
    · cases h
theorem textsV_iff_none {l : List Scr.Act} : textsV l = none ↔ ∃ a ∈ l, lineV a = none := by
  induction l with
  | nil => simp [textsV]
  | cons a l ih =>
    simp only [textsV, List.mem_cons]
    constructor
    · intro h
      cases h1 : lineV a with
      | none => exact ⟨a, Or.inl rfl, h1⟩
      | some s =>
        cases h2 : textsV l with
        | none => obtain ⟨b, hb, h3⟩ := ih.1 h2; exact ⟨b, Or.inr hb, h3⟩
        | some t => rw [h1, h2] at h; cases h
    · rintro ⟨b, rfl | hb, h3⟩
      · rw [h3]
      · rw [ih.2 ⟨b, hb, h3⟩]
        cases lineV a <;> rfl
end Go.Proofs.YtimnhheagdhpgaaDoor
namespace Go.Proofs.YtimnhheagdhpgaaDoor
open Go.RowKit Go.Proofs.Num
open Scr (Str bs lineV textsV)
section
variable {w : World}
set_option maxRecDepth 100000 in
set_option maxHeartbeats 430000 in
theorem cText17 (ad : Option Addr) (c : Nat) (l : List Scr.Act) (hA : ActsR w ad l) (hO : ∀ a ∈ l, ShortL a) (hn : l.length ≤ 20) (hE : Env w) :
    Calls Tryd.prog 17 #[.slice ad l.length c] w fun e w' => e = .returned (.tuple #[.string ⟨((textsV l).getD []).toArray⟩, .bool (textsV l).isSome]) ∧ Below w.heap.size w w' := by
  obtain ⟨res, hres⟩ : ∃ res, res = textsV l := ⟨_, rfl⟩
  rw [← hres]
  have HT0 := hid (show TInv [] 0 l res from hres ▸ TInv.start l)
  have HE := hid hE
  obtain ⟨n, hnn⟩ : ∃ n, n = l.length := ⟨_, rfl⟩
  have HL := hid (show ∀ k (hk : k < l.length) x dv av cv, Below w.heap.size w x → ActV x (l[k]) dv av cv → Calls Tryd.prog 15 #[.agg (actC (l[k]) dv av cv)] x fun e w' => e = .returned (.tuple #[.string ⟨((lineV (l[k])).getD []).toArray⟩, .bool (lineV (l[k])).isSome]) ∧ Below x.heap.size x w' from fun k hk x dv av cv hb hv => by
    rw [← Scr.lineS_eq]
    exact cLineP (w := x) _ dv av cv (hO _ (List.getElem_mem _)).text hv (hE.below hb))
  have HLEN := hid (show ∀ k (hk : k < l.length), ∀ s, lineV (l[k]) = some s → s.length ≤ 43000 from fun k hk => (hO _ (List.getElem_mem _)).len)
  have HA := hid hA
  have HN := hid hnn
  rw [← hnn] at hn ⊢
  have HB0 := hid (Lib.fresh_isBuilder 63 5 w)
  have HW0 := hid ((Below.refl w.heap.size w).alloc (Nat.le_refl _) (.cells #[.pointer none, .slice none 0 0] 63))
  clear hres hA hO hE hnn
  go_enter Tryd.func17, Tryd.ntmps17
  go_wp2_with fail
  go_loopw [11] (fun i wr => ∃ (k : Nat) (acc : Str), i = .int .i64 k ∧ k ≤ n ∧ acc.length ≤ k * 43001 ∧ Hid (TInv acc k l res) ∧ Hid (Lib.IsBuilder 63 5 w.heap.size w.heap.size (Lib.byteCells acc) wr) ∧ Hid (Below w.heap.size w wr)) (fun i _ => n - (intOf i).toNat)
  case atStart => exact ⟨0, [], rfl, by omega, by simp, hid HT0.out, hid HB0.out, hid HW0.out⟩
  case round =>
    obtain ⟨k, acc, rfl, hk, hacc, HT, HB, HW⟩ := hrel
    by_cases hlt : k < n
    · have hkl : k < l.length := by rw [← HN.out]; exact hlt
      obtain ⟨g, f, dv, av, cv, rfl, hx⟩ := HA.out k hkl
      have HLd := hid (hx wr HW.out)
      have HLine := hid (fun x dv av cv hb hv => HL.out k hkl x dv av cv hb hv)
      have HV := hid (fun x hb => (hx x hb).2)
      have HBX := hid (fun cs => (Sts.nil wr).alloc stab0 (.cells cs 29))
      obtain ⟨q1, q2⟩ := oneC_slices (hx wr HW.out).2
      have HONE := hid q2
      have hl1 := HLEN.out k hkl
      cases hs : lineV (l[k]'hkl) with
      | none =>
        have hbad := HT.out.bad hkl hs
        rw [hs] at HLine
        obtain ⟨a, ha⟩ : ∃ a, a = l[k]'hkl := ⟨_, rfl⟩
        rw [← ha] at HLd HLine HV HONE
        clear hx q1 q2 hl1 hs HT HT0 HL HLEN HA HB0 ha
        subst hbad
        go_wp2_with (first | (refine wpList_ixF rfl (.tmp 9) (.tmp 11) rfl rfl rfl hlt ?_) | (refine wpList_ld rfl (.tmp 13) 29 rfl rfl (.agg (actC a dv av cv)) HLd.out.1 ?_) | (refine wpList_agg (HBX.out _) stab0 rfl (.tmp 6) (.tmp 14) 29 rfl (actC a dv av cv) rfl rfl sizeAct rfl HONE.out ?_; intro w3 h3; have H3 := hid h3; clear h3 HBX) | (refine wpList_ld rfl (.tmp 6) 29 rfl rfl (.agg (actC a dv av cv)) (ldAct rfl H3.out) ?_) | (go_at_call 15; refine (HLine.out _ dv av cv (below_step HW.out H3.out.below) (HV.out _ (below_step HW.out H3.out.below))).mono ?_; rintro e w4 ⟨rfl, hb⟩; have H4 := hid (below_step HW.out (below_step H3.out.below hb)); clear hb))
        all_goals (go_ret2; exact ⟨rfl, H4.out⟩)
      | some s =>
        have hstep := HT.out.step hkl hs
        have hsl := hl1 s hs
        rw [hs] at HLine
        obtain ⟨a, ha⟩ : ∃ a, a = l[k]'hkl := ⟨_, rfl⟩
        rw [← ha] at HLd HLine HV HONE
        have HTS := hid hstep
        obtain ⟨X, hX⟩ : ∃ X : ByteArray, X = ⟨s.toArray⟩ := ⟨_, rfl⟩
        simp only [Option.getD_some, Option.isSome_some] at HLine
        rw [← hX] at HLine
        have hXs : X.size = s.length := by rw [hX]; show s.toArray.size = _; simp
        have hX1 : X.size ≤ 43000 := by omega
        have f1 : ¬ 9223372036854775807 < X.size + 1 := by omega
        have HXC := hid (show Lib.strCells (X ++ ⟨#[10]⟩) = Lib.byteCells (s ++ [10]) by
          rw [hX]
          show Lib.strCells (⟨s.toArray⟩ ++ ⟨([10] : List UInt8).toArray⟩) = _
          rw [ByteArray.mk_append_mk, Lib.strCells_toArray])
        have HXS := hid (show (X ++ ⟨#[10]⟩ : ByteArray).size ≤ 43001 by
          rw [ByteArray.size_append]; show X.size + 1 ≤ _; omega)
        have ha2 : (acc ++ (s ++ [10])).length ≤ (k + 1) * 43001 := by simp; omega
        have hblen : (Lib.byteCells acc).length ≤ 1000000 := by unfold Lib.byteCells; rw [List.length_map]; omega
        have HBL := hid hblen
        have HA2 := hid ha2
        clear hx q1 q2 hl1 hs HT HT0 HL HLEN HA HB0 ha hstep hsl hX hXs hblen ha2 hacc
        go_wp2_with (first | (refine wpList_ixF rfl (.tmp 9) (.tmp 11) rfl rfl rfl hlt ?_) | (refine wpList_ld rfl (.tmp 13) 29 rfl rfl (.agg (actC a dv av cv)) HLd.out.1 ?_) | (refine wpList_agg (HBX.out _) stab0 rfl (.tmp 6) (.tmp 14) 29 rfl (actC a dv av cv) rfl rfl sizeAct rfl HONE.out ?_; intro w3 h3; have H3 := hid h3; clear h3 HBX) | (refine wpList_ld rfl (.tmp 6) 29 rfl rfl (.agg (actC a dv av cv)) (ldAct rfl H3.out) ?_) | (go_at_call 15; refine (HLine.out _ dv av cv (below_step HW.out H3.out.below) (HV.out _ (below_step HW.out H3.out.below))).mono ?_; rintro e w4 ⟨rfl, hb⟩; have H4 := hid (below_step HW.out (below_step H3.out.below hb)); have HB4 := hid (isB_below HB.out (below_step H3.out.below hb)); clear hb) | (go_at_call 33; refine (Tryd.Builder_WriteString _ _ _ _ _ HB4.out (by have := HBL.out; have := HXS.out; omega) H4.out.size).mono ?_; rintro e w5 ⟨rfl, hb5, hw5⟩; rw [HXC.out, ← Lib.byteCells_append] at hb5; have H5 := hid (H4.out.trans hw5); have HB5 := hid (show Lib.IsBuilder 63 5 w.heap.size w.heap.size _ w5 from Or.inr hb5); clear hb5 hw5))
        all_goals (go_roundw
                   case rel => exact ⟨k + 1, acc ++ (s ++ [10]), by simp [intOf], by omega, HA2.out, HTS, HB5, H5⟩
                   case measure => simp [intOf]; omega)
    · obtain rfl : k = n := by omega
      have hd := (show TInv acc l.length l res from HN.out ▸ HT.out).done
      clear HT HT0 HL HLEN HA HB0 hlt HN
      subst hd
      have HBw := hid HW.out.size
      go_wp2_with (first | (go_at_call 34; refine (Tryd.Builder_String_any w.heap.size w.heap.size acc _ HB.out HBw.out).mono ?_; rintro e w6 ⟨rfl, hb⟩; have H6 := hid (HW.out.trans hb); clear hb))
      all_goals (go_ret2; exact ⟨rfl, H6.out⟩)
end
end Go.Proofs.YtimnhheagdhpgaaDoor
namespace Go.Proofs.YtimnhheagdhpgaaDoor
open Go.RowKit Go.Proofs.Num
open Scr (Str bs lineV textsV)
section
variable {w : World}
def text18E (w w' : World) (o : Option Str) (e : Ending) : Prop := e = .returned (.tuple #[.string ⟨(o.getD []).toArray⟩, .bool o.isSome]) ∧ Below w.heap.size w w'
set_option maxRecDepth 100000 in
set_option maxHeartbeats 430000 in
theorem cText18 (ad : Option Addr) (c : Nat) (l : List Scr.Act) (hA : ActsR w ad l) (hO : ∀ a ∈ l, ShortL a) (hn : l.length ≤ 20) :
    Calls Tryd.prog 18 #[.slice ad l.length c] w fun e w' => text18E w w' (textsV l) e := by
  obtain ⟨res, hres⟩ : ∃ res, res = textsV l := ⟨_, rfl⟩
  rw [← hres]
  have HT0 := hid (show TInv (bs ⟨#[]⟩) 0 l res from hres ▸ TInv.start l)
  obtain ⟨n, hnn⟩ : ∃ n, n = l.length := ⟨_, rfl⟩
  have HL := hid (show ∀ k (hk : k < l.length) x dv av cv, ActV x (l[k]) dv av cv → Calls Tryd.prog 16 #[.agg (actC (l[k]) dv av cv)] x fun e w' => lineE x w' (lineV (l[k])) e from fun k hk x dv av cv hv =>
    cLineR (w := x) _ dv av cv (hO _ (List.getElem_mem _)).line hv)
  have HLEN := hid (show ∀ k (hk : k < l.length), ∀ s, lineV (l[k]) = some s → s.length ≤ 43000 from fun k hk => (hO _ (List.getElem_mem _)).len)
  have HA := hid hA
  have HN := hid hnn
  rw [← hnn] at hn ⊢
  clear hres hA hO hnn
  go_enter Tryd.func18, Tryd.ntmps18
  go_wp2_with fail
  go_loopw [4, 5] (fun s i wr => ∃ (k : Nat) (A : ByteArray), s = .string A ∧ i = .int .i64 k ∧ k ≤ n ∧ A.size ≤ k * 43001 ∧ Hid (TInv (bs A) k l res) ∧ Hid (Below w.heap.size w wr)) (fun _ i _ => n - (intOf i).toNat)
  case atStart => exact ⟨0, ⟨#[]⟩, rfl, rfl, by omega, by decide, hid HT0.out, hid (Below.refl _ _)⟩
  case round =>
    obtain ⟨k, A, rfl, rfl, hk, hacc, HT, HW⟩ := hrel
    by_cases hlt : k < n
    · have hkl : k < l.length := by rw [← HN.out]; exact hlt
      obtain ⟨g, f, dv, av, cv, rfl, hx⟩ := HA.out k hkl
      have HLd := hid (hx wr HW.out)
      have HLine := hid (fun x dv av cv hv => HL.out k hkl x dv av cv hv)
      have hl1 := HLEN.out k hkl
      unfold lineE at HLine
      cases hs : lineV (l[k]'hkl) with
      | none =>
        have hbad := HT.out.bad hkl hs
        rw [hs] at HLine
        obtain ⟨a, ha⟩ : ∃ a, a = l[k]'hkl := ⟨_, rfl⟩
        rw [← ha] at HLd HLine
        clear hx hl1 hs HT HT0 HL HLEN HA ha
        subst hbad
        go_wp2_with (first | (refine wpList_ixF rfl (.tmp 15) (.tmp 16) rfl rfl rfl hlt ?_) | (refine wpList_ld rfl (.tmp 17) 29 rfl rfl (.agg (actC a dv av cv)) HLd.out.1 ?_) | (go_at_call 16; refine (HLine.out _ dv av cv HLd.out.2).mono ?_; rintro e w4 ⟨⟨X, rfl, hX⟩, hb⟩; have H4 := hid (below_step HW.out hb); clear hb hX))
        all_goals (go_ret2; exact ⟨rfl, H4.out⟩)
      | some s =>
        have hstep := HT.out.step hkl hs
        have hsl := hl1 s hs
        rw [hs] at HLine
        obtain ⟨a, ha⟩ : ∃ a, a = l[k]'hkl := ⟨_, rfl⟩
        rw [← ha] at HLd HLine
        have HTS := hid hstep
        obtain ⟨T, hT⟩ : ∃ T, T = k * 43001 := ⟨_, rfl⟩
        have HTT := hid hT
        have hacc2 : A.size ≤ T := by omega
        have hT2 : T ≤ 860020 := by omega
        clear hx hl1 hs HT HT0 HL HLEN HA ha hstep hT hacc
        go_wp2_with (first | (refine wpList_ixF rfl (.tmp 15) (.tmp 16) rfl rfl rfl hlt ?_) | (refine wpList_ld rfl (.tmp 17) 29 rfl rfl (.agg (actC a dv av cv)) HLd.out.1 ?_) | (go_at_call 16; refine (HLine.out _ dv av cv HLd.out.2).mono ?_; rintro e w4 ⟨⟨X, rfl, hX⟩, hb⟩; have H4 := hid (below_step HW.out hb); have hX2 := hX s rfl; have hXs : X.size ≤ 43000 := (by rw [Scr.bs_size, hX2]; exact hsl); have HX := hid hX2; have f1 : ¬ 9223372036854775807 < A.size + X.size := (by omega); have f2 : ¬ 9223372036854775807 < A.size + X.size + 1 := (by omega); clear hb hX hX2))
        all_goals (go_roundw
                   case rel => exact ⟨k + 1, A ++ X ++ ⟨#[10]⟩, rfl, by simp [intOf], by omega, (by rw [ByteArray.size_append, ByteArray.size_append]; have := HTT.out; show A.size + X.size + 1 ≤ _; omega), hid (by rw [bs_app, bs_app, HX.out, List.append_assoc]; exact HTS.out), hid H4.out⟩
                   case measure => simp [intOf]; omega)
    · obtain rfl : k = n := by omega
      have hd := (show TInv (bs A) l.length l res from HN.out ▸ HT.out).done
      clear HT HT0 HL HLEN HA hlt HN
      subst hd
      go_wp2_with fail
      all_goals (go_ret2; exact ⟨by simp [Scr.mk_bs], HW.out⟩)
end
end Go.Proofs.YtimnhheagdhpgaaDoor
