/- The laws of the scenario language: what the listed variables give; awake. ScriptParses: the walk. -/
import Derived.Test.YtimnhheagdhpgaaDoorScsP
import Derived.Test.YtimnhheagdhpgaaDoorRows
import Derived.Lib.LaidTab
import Derived.Stop.LaidErr
import Derived.LaidSub
import Derived.LaidMore
import Derived.LaidLaws
import Derived.HandedShaped
import Derived.Shelf.Vars
import Derived.Stop.Joined
set_option linter.unusedVariables false
set_option linter.unusedSimpArgs false
namespace Go
variable {H : Type} {enc : TypeId × Value → H}
/-- The plain wrap, with a condition on the memory and the world's shape. -/
theorem returnsInHanded_and_shaped {a : Assume} {C : Checked} {os : Os} {f : FuncId} {fn : Func} {s : ChangeSpec} {conds : List PathCond} {apart fresh handsOn again : Bool} {X : World → Array Value → Prop}
    (hX : ∀ (w w' : World) (args : Array Value), w.heap = w'.heap → X w args → X w' args)
    (own : ownKnob C.prog.godebug = none) (started : os.Started) (noInit : C.prog.inits.idxOf? f = none) (hfn : C.prog.funcs[f]? = some fn)
    (witness : ∃ (w : World) (tape : Tape) (i : Input), w.os = os ∧ (w.forCall tape i).Shaped C.prog ∧ i.vars = [] ∧ Input.okWide C.prog (w.forCall tape i) .any w.heap.size f i ∧
      ((s.pre enc C.prog fn conds apart (w.forCall tape i).memory i.args ∧ X (w.forCall tape i).memory i.args) ∧ sizedMet enc C.prog fn (OpenSpec.ofChange s) apart (w.forCall tape i).memory i.args) ∧ a.holds C.prog (lone (Frame.enter C.prog f i.args .normal) [] (w.forCall tape i)))
    (contract : ∀ (W : World) (base : Nat) (args : Array Value) (ds gs : List (DataW H)) (before : List MemPlace),
      (∀ (j : Nat) t v, fn.params[j]? = some t → args[j]? = some v → Value.okWide C.prog W .any base t v) →
      DataW.Whole enc C.prog fn.params.toList s.vars apart W args.toList ds gs before →
      W.ShapedOpen C.prog → X W args →
      Calls C.prog f args W fun e W' => ∃ v, e = .returned v ∧ s.post enc C.prog fn apart fresh handsOn again W args v W') :
    ReturnsInHanded a C os f .any (fun w args => (s.pre enc C.prog fn conds apart w args ∧ X w args) ∧ sizedMet enc C.prog fn (OpenSpec.ofChange s) apart w args) (s.post enc C.prog fn apart fresh handsOn again) := by
  refine returnsInHanded_of_calls own started noInit witness ?_
  intro w tape i _ hsh _ hok hpre hholds
  obtain ⟨_, _, _, fn', hfn', _, _, _, _, hval⟩ := hok
  have e : fn' = fn := Option.some.inj (hfn'.symm.trans hfn)
  subst e
  obtain ⟨⟨⟨ds, gs, before, hw, hc⟩, hx⟩, hz⟩ := hpre
  have hw' := DataW.Whole.of_heap (w' := w.forCall tape i) (by rfl) hw
  refine (contract (w.forCall tape i) w.heap.size i.args ds gs before hval hw' hsh (hX _ _ _ (by rfl) hx)).mono fun e W' ⟨v, he, hp⟩ => ?_
  subst he
  exact ChangeSpec.post_blind hp
end Go
namespace Go.Proofs.YtimnhheagdhpgaaDoor
open Go.RowKit Go.Proofs.Num
open Scr (Str bs numV numsV small svcV fltV nameV bytesV oneV fileV faultV orderV tailV flts parseL parseV b8 textV textL svcs svcN fltN ixOf valC digR pairR bytesR rnum magR splitW hexC hexB hexV lineV lineL joinW actR argsR at' parseR)
def laid5 : List (String × DataW Unit) := [("math/bits.deBruijn32tab", Rows.laid_math_bits_deBruijn32tab), ("math/bits.deBruijn64tab", Rows.laid_math_bits_deBruijn64tab), ("internal/strconv.uint64pow10", Rows.laid_internal_strconv_uint64pow10), ("strconv.ErrRange", Rows.laid_strconv_ErrRange), ("strconv.ErrSyntax", Rows.laid_strconv_ErrSyntax)]
theorem starE : "*" ++ "errors.errorString" = "*errors.errorString" := by decide
theorem rowE (u : TypeId) (h : Tryd.prog.typeName? 3 u = some "*errors.errorString") : u = 128 :=
  typeName_ptr_named (nm := "errors.errorString") (by rw [starE]; kernel_rfl) (by kernel_rfl) (by decide) u (by rw [starE]; exact h)
set_option maxRecDepth 100000 in
theorem envOf {W : World} (h : laidMetH Tryd.prog laid5 W) (hs : W.ShapedOpen Tryd.prog) : Env W where
  tab := by
    have h1 := h.filter (fun x => x.1 == "internal/strconv.uint64pow10")
    rw [show laid5.filter (fun x => x.1 == "internal/strconv.uint64pow10") = [("internal/strconv.uint64pow10", Lib.tabData .u64 Lib.pow10Tab)] from by rfl] at h1
    rw [MakeChecks.laidMetH_plain _ _ _ (by kernel_rfl)] at h1
    exact Lib.tabIs_of_head (g := 1) (by kernel_rfl) (by kernel_rfl) Tryd.underlying117 Tryd.underlying104 (by kernel_rfl) (by kernel_rfl) h1
  syn := by
    have h1 := h.filter (fun x => x.1 == "strconv.ErrSyntax")
    rw [show laid5.filter (fun x => x.1 == "strconv.ErrSyntax") = [("strconv.ErrSyntax", Rows.laid_strconv_ErrSyntax)] from by rfl] at h1
    rw [MakeChecks.laidMetH_plain _ _ _ (by kernel_rfl)] at h1
    have hg : Tryd.prog.globalNamed "strconv.ErrSyntax" = some 2 := by kernel_rfl
    obtain ⟨a0, s0, hv0, -, -, -⟩ := laid_sentinel h1 hg (show (Tryd.prog.globals[2]?).map (·.type) = some 65 by kernel_rfl) Tryd.underlying65 rowE Tryd.underlying128 Tryd.underlying130 rfl rfl Tryd.underlying9 (by kernel_rfl) (by kernel_rfl)
    have h0 := World.var?_cell hg hv0 0
    exact ⟨_, _, by simpa using h0⟩
  rng := by
    have h1 := h.filter (fun x => x.1 == "strconv.ErrRange")
    rw [show laid5.filter (fun x => x.1 == "strconv.ErrRange") = [("strconv.ErrRange", Rows.laid_strconv_ErrRange)] from by rfl] at h1
    rw [MakeChecks.laidMetH_plain _ _ _ (by kernel_rfl)] at h1
    have hg : Tryd.prog.globalNamed "strconv.ErrRange" = some 3 := by kernel_rfl
    obtain ⟨a0, s0, hv0, -, -, -⟩ := laid_sentinel h1 hg (show (Tryd.prog.globals[3]?).map (·.type) = some 65 by kernel_rfl) Tryd.underlying65 rowE Tryd.underlying128 Tryd.underlying130 rfl rfl Tryd.underlying9 (by kernel_rfl) (by kernel_rfl)
    have h0 := World.var?_cell hg hv0 0
    exact ⟨_, _, by simpa using h0⟩
  most := by
    exact cell_of_shapedOpen_int (g := 0) (t := 3) (zero := #[.int .i64 0]) hs (of_decide_eq_true (by kernel_rfl)) (by kernel_rfl) rfl (by kernel_rfl) (by kernel_rfl) Tryd.underlying3
theorem rowP_some {W w : World} {e : TypeId} {v : Value} {n : Nat} {xs : List Value} {l : List HProp} (h : Sts W (rowP e 1 v n xs :: l) w) (hn : 0 < n) : ∃ g cap, v = .slice (some ⟨g, 0, none⟩) n cap := by
  rcases (Sts.rowOwn h).2 with ⟨h2, h3⟩ | ⟨g, cap, cur, hv, r⟩
  · omega
  · exact ⟨_, _, hv⟩
theorem awake1 : parseV (bs ⟨#[99, 111, 109, 109, 97, 110, 100, 32, 115, 101, 116, 109, 111, 100, 101, 32, 51]⟩) = some { Scr.act0 with kind := 2, svc := 2, args := [3] } := by
  refine Scr.parse_of_line ?_
  decide +kernel
theorem awake2 : parseV (bs ⟨#[116, 105, 99, 107, 32, 48, 53]⟩) = none := by
  cases h : parseV (bs ⟨#[116, 105, 99, 107, 32, 48, 53]⟩) with
  | none => rfl
  | some a =>
    exfalso
    have h1 := Scr.parseR_eq (bs ⟨#[116, 105, 99, 107, 32, 48, 53]⟩)
    rw [h] at h1
    unfold parseR at h1
    rw [if_neg (by decide +kernel)] at h1
    cases h1
section
variable {w : World}
set_option maxRecDepth 100000 in
set_option maxHeartbeats 8000000 in
theorem cAwake (hE : Env w) : Calls Tryd.prog 11 #[] w fun e w' => e = .returned (.bool true) ∧ Below w.heap.size w w' := by
  have HP1 := hid (cParse (w := w) ⟨#[99, 111, 109, 109, 97, 110, 100, 32, 115, 101, 116, 109, 111, 100, 101, 32, 51]⟩ (by decide) hE)
  have HP2 := hid (show ∀ x, Below w.heap.size w x → Calls Tryd.prog 8 #[.string ⟨#[116, 105, 99, 107, 32, 48, 53]⟩] x fun e w' => parseE x w' none e from fun x hx => by
    rw [← awake2]; exact cParse (w := x) ⟨#[116, 105, 99, 107, 32, 48, 53]⟩ (by decide) (hE.below hx))
  rw [awake1] at HP1
  clear hE
  obtain ⟨a, ha⟩ : ∃ a : Scr.Act, a = { Scr.act0 with kind := 2, svc := 2, args := [3] } := ⟨_, rfl⟩
  rw [← ha] at HP1
  have HA := hid ha
  clear ha
  go_enter Tryd.func11, Tryd.ntmps11
  go_wp2_with fail
  refine HP1.out.mono ?_
  rintro e w1 ⟨dv, av, cv, rfl, hS⟩
  obtain ⟨hz, q2⟩ := oneC_slices (Sts.actV (l := []) (by rw [List.append_nil]; exact hS))
  have HONE := hid q2
  have H1 := hid hS
  have HAA := hid (fun cs => hS.alloc (rowsA_stable _ _ _ _) (.cells cs 29))
  clear hS hz q2
  go_wp2_with (first | (refine wpList_agg (HAA.out _) (rowsA_stable _ _ _ _) rfl (.tmp 1) (.tmp 7) 29 rfl (actC a dv av cv) rfl rfl sizeAct rfl HONE.out ?_; intro w2 h2; have H2 := hid h2; clear h2) | (go_at_call 8; refine (HP2.out _ H2.out.below).mono ?_; rintro e w3 ⟨rfl, hb⟩; have H3 := hid (H2.out.quiet (stabC (blkP_stable _ _) (rowsA_stable _ _ _ _)) hb); have HAB := hid (fun cs => H3.out.alloc (stabC (blkP_stable _ _) (rowsA_stable _ _ _ _)) (.cells cs 29)); clear hb) | (refine wpList_agg (HAB.out _) (stabC (blkP_stable _ _) (rowsA_stable _ _ _ _)) rfl (.tmp 3) (.tmp 11) 29 rfl (actC Scr.act0 (.slice none 0 0) (.slice none 0 0) (.slice none 0 0)) rfl rfl sizeAct rfl rfl ?_; intro w4 h4; have H4 := hid h4; have m := Sts.actM h4.swap; have c0 := m.c0; have c6 := m.c6; have c7 := m.c7; have hrow : Sts w [rowP 3 1 av (intsV a.args).length (intsV a.args), rowP 5 1 dv (u8v a.data).length (u8v a.data), rowP 5 1 cv (u8v a.cdata).length (u8v a.cdata)] w4 := h4.tail.tail.swap; rw [HA.out] at c0 c6 hrow; replace c0 : w4.cell? ⟨w1.heap.size, 0, none⟩ = some (.int .i64 2) := c0; replace c6 : w4.cell? ⟨w1.heap.size, 6, none⟩ = some (.int .i64 2) := c6; obtain ⟨g, cap, hav⟩ := rowP_some hrow (show 0 < 1 by decide); subst hav; have c9 := Sts.rowCell hrow 0 (show 0 < 1 by decide) (.int .i64 3) rfl; replace c7 : w4.cell? ⟨w1.heap.size, 7, none⟩ = some (.slice (some ⟨g, 0, none⟩) 1 cap) := c7; clear m hrow h4))
  all_goals (go_ret; exact ⟨rfl, H4.out.below⟩)
end
end Go.Proofs.YtimnhheagdhpgaaDoor
namespace Go.Proofs.YtimnhheagdhpgaaDoor
open Go.RowKit Go.Proofs.Num
open Scr (Str bs parseV)
theorem stabApp {l m : List HProp} (hl : ∀ A ∈ l, Stable A) (hm : ∀ A ∈ m, Stable A) : ∀ A ∈ l ++ m, Stable A := fun A hA => (List.mem_append.1 hA).elim (hl A) (hm A)
theorem permAB (A B : HProp) (l m : List HProp) : (A :: (l ++ (B :: m))).Perm (B :: (m ++ (A :: l))) := by
  have h1 : (A :: (l ++ (B :: m))).Perm ((A :: l) ++ (B :: m)) := List.Perm.refl _
  have h2 : ((A :: l) ++ (B :: m)).Perm ((B :: m) ++ (A :: l)) := List.perm_append_comm
  exact h1.trans h2
section
variable {w : World}
set_option maxRecDepth 100000 in
set_option maxHeartbeats 16000000 in
theorem parsesLaw (S : ByteArray) (hE : Env w) : Calls Tryd.prog 3 #[.string S] w fun e w' => e = .returned (.bool true) ∧ Below w.heap.size w w' := by
  obtain ⟨N, hN⟩ : ∃ N, N = S.size := ⟨_, rfl⟩
  by_cases hb : 2000 < N
  · have d1 : decide (2000 < (N : Int)) = true := decide_eq_true (by omega)
    have hz : S.size = N := hN.symm
    clear hE hN
    go_enter Tryd.func3, Tryd.ntmps3
    go_wp2_with fail
    all_goals (go_ret; exact ⟨rfl, Below.refl _ _⟩)
  · have d1 : decide (2000 < (N : Int)) = false := decide_eq_false (by omega)
    have d2 : ¬ 2000 < (N : Int) := by omega
    have hz : S.size = N := hN.symm
    have HP := hid (cParse (w := w) S (by omega) hE)
    have HR := hid (fun x : World => cParseR (w := x) S (by omega))
    have HAW := hid (fun x (hx : Below w.heap.size w x) => cAwake (w := x) (hE.below hx))
    have hfew : ∀ a, parseV (bs S) = some a → a.args.length < 1000000 := fun a ha => by
      have h1 := Scr.parseR_eq (bs S)
      rw [ha] at h1
      unfold Scr.parseR at h1
      split at h1
      · injection h1 with h1
        rw [← h1]
        obtain ⟨g1, g2⟩ := words_len (bs S)
        rw [← Scr.bs_size] at g2
        exact (actR_ok (Scr.splitW (bs S)) (fun x hx => by have := g2 x hx; omega)).few
      · cases h1
    have HFEW := hid hfew
    obtain ⟨o, ho⟩ : ∃ o, o = parseV (bs S) := ⟨_, rfl⟩
    rw [← ho] at HP HR HFEW
    clear ho hE hN hfew
    cases o with
    | none =>
      have HSM := hid (fun x : World => cSameR (w := x) Scr.act0 Scr.act0 (.slice none 0 0) (.slice none 0 0) (.slice none 0 0) (.slice none 0 0) (.slice none 0 0) (.slice none 0 0) (act_nil _ rfl rfl rfl x) (act_nil _ rfl rfl rfl x) (by decide) (by decide))
      rw [decide_eq_true rfl] at HSM
      go_enter Tryd.func3, Tryd.ntmps3
      go_wp2_with (first | (go_at_call 8; refine HP.out.mono ?_; rintro e w1 ⟨rfl, hb⟩; have HA := hid (fun cs => (Sts.nil_below hb).alloc stab0 (.cells cs 29)); clear hb) | (refine wpList_agg (HA.out _) stab0 rfl (.tmp 3) (.tmp 13) 29 rfl (actC Scr.act0 (.slice none 0 0) (.slice none 0 0) (.slice none 0 0)) rfl rfl sizeAct rfl rfl ?_; intro w2 h2; have H2 := hid h2; clear h2 HA) | (go_at_call 9; refine (HR.out _).mono ?_; rintro e w3 ⟨rfl, hb⟩; have HA2 := hid (fun cs => (H2.out.quiet (stab1 (blkP_stable _ _)) hb).alloc (stab1 (blkP_stable _ _)) (.cells cs 29)); clear hb) | (refine wpList_agg (HA2.out _) (stab1 (blkP_stable _ _)) rfl (.tmp 5) (.tmp 18) 29 rfl (actC Scr.act0 (.slice none 0 0) (.slice none 0 0) (.slice none 0 0)) rfl rfl sizeAct rfl rfl ?_; intro w4 h4; have H4 := hid h4; clear h4 HA2) | (refine wpList_ld rfl (.tmp 3) 29 rfl rfl (.agg (actC Scr.act0 (.slice none 0 0) (.slice none 0 0) (.slice none 0 0))) (ldAct rfl H4.out.swap) ?_) | (refine wpList_ld rfl (.tmp 5) 29 rfl rfl (.agg (actC Scr.act0 (.slice none 0 0) (.slice none 0 0) (.slice none 0 0))) (ldAct rfl H4.out) ?_) | (go_at_call 10; refine (HSM.out _).mono ?_; rintro e w5 ⟨rfl, hb⟩; have H5 := hid (below_step H4.out.below hb); clear hb) | (go_at_call 11; refine (HAW.out _ H5.out).mono ?_; rintro e w6 ⟨rfl, hb⟩; have H6 := hid (below_step H5.out hb); clear hb))
      all_goals (go_ret; exact ⟨rfl, H6.out⟩)
    | some a =>
      have hfw := HFEW.out a rfl
      have HSM := hid (fun (x : World) dv av cv dv' av' cv' (h1 : ActV x a dv av cv) (h2 : ActV x a dv' av' cv') => cSameR (w := x) a a dv av cv dv' av' cv' h1 h2 hfw hfw)
      rw [decide_eq_true rfl] at HSM
      clear HFEW
      go_enter Tryd.func3, Tryd.ntmps3
      go_wp2_with (first | (go_at_call 8; refine HP.out.mono ?_; rintro e w1 ⟨dv, av, cv, rfl, hS⟩; obtain ⟨-, q2⟩ := oneC_slices (Sts.actV (l := []) (by rw [List.append_nil]; exact hS)); have HONE := hid q2; have HA := hid (fun cs => hS.alloc (rowsA_stable _ _ _ _) (.cells cs 29)); clear hS q2) | (refine wpList_agg (HA.out _) (rowsA_stable _ _ _ _) rfl (.tmp 3) (.tmp 13) 29 rfl (actC a dv av cv) rfl rfl sizeAct rfl HONE.out ?_; intro w2 h2; have H2 := hid h2; clear h2 HA) | (go_at_call 9; refine (HR.out _).mono ?_; rintro e w3 ⟨dv2, av2, cv2, rfl, hS⟩; obtain ⟨-, q2⟩ := oneC_slices (Sts.actV (l := []) (by rw [List.append_nil]; exact hS)); have HONE2 := hid q2; have HC := hid (Sts.cat (stabC (blkP_stable _ _) (rowsA_stable _ _ _ _)) H2.out hS); have HA2 := hid (fun cs => HC.out.alloc (stabApp (rowsA_stable _ _ _ _) (stabC (blkP_stable _ _) (rowsA_stable _ _ _ _))) (.cells cs 29)); clear hS q2) | (refine wpList_agg (HA2.out _) (stabApp (rowsA_stable _ _ _ _) (stabC (blkP_stable _ _) (rowsA_stable _ _ _ _))) rfl (.tmp 5) (.tmp 18) 29 rfl (actC a dv2 av2 cv2) rfl rfl sizeAct rfl HONE2.out ?_; intro w4 h4; have H4 := hid h4; have H4b := hid (show Sts w (blkP w1.heap.size (.cells (actC a dv av cv) 29 (0, 0)) :: (rowsA a dv av cv ++ (blkP w3.heap.size (.cells (actC a dv2 av2 cv2) 29 (0, 0)) :: rowsA a dv2 av2 cv2))) w4 from h4.perm (permAB _ _ _ _)); clear h4 HA2) | (refine wpList_ld rfl (.tmp 3) 29 rfl rfl (.agg (actC a dv av cv)) (ldAct rfl H4b.out) ?_) | (refine wpList_ld rfl (.tmp 5) 29 rfl rfl (.agg (actC a dv2 av2 cv2)) (ldAct rfl H4.out) ?_) | (go_at_call 10; refine (HSM.out _ dv av cv dv2 av2 cv2 (Sts.actV H4b.out.tail) (Sts.actV H4.out.tail)).mono ?_; rintro e w5 ⟨rfl, hb⟩; have H5 := hid (below_step H4.out.below hb); clear hb) | (go_at_call 11; refine (HAW.out _ H5.out).mono ?_; rintro e w6 ⟨rfl, hb⟩; have H6 := hid (below_step H5.out hb); clear hb))
      all_goals (go_ret; exact ⟨rfl, H6.out⟩)
end
end Go.Proofs.YtimnhheagdhpgaaDoor
