/- The specification's Restore, when its numbers are in their ranges. -/
import Derived.Test.YtgidckkcibplgaaGreatResH
import Derived.Test.YtgidckkcibplgaaGreatResG
set_option linter.unusedVariables false
set_option linter.unusedSimpArgs false
namespace Go.Proofs.YtgidckkcibplgaaGreat
open Go.RowKit Go.Proofs.Num
attribute [local irreducible] wpQuiet
theorem wpQuiet_norm {P : Program} {ops : Array Oper} {C : World → Prop} {Q : Act → Prop} {l : List Oper} {a a' : Act} (ha : a = a') (h : wpQuiet P ops C Q l a') : wpQuiet P ops C Q l a := ha ▸ h
set_option maxRecDepth 100000 in
set_option maxHeartbeats 40000000 in
theorem cRRest29T (w : World) (a : Option Addr) (cap : Nat) (l : List Rng.R) (h : RdR w (.slice a l.length cap) l) (hn : l.length < 1000000) (self chunk to re next : Int) (h3 : 0 ≤ self ∧ self ≤ 15) (h4 : 1 ≤ chunk ∧ chunk ≤ 512) (h5 : 1 ≤ to ∧ to ≤ 1048576) (h6 : 0 ≤ re ∧ re ≤ 255) (hb : l.length ≤ 256 ∧ 1 ≤ next ∧ next ≤ 65536) :
    Calls Tryz.prog 12 #[.int .i64 self, .agg #[.int .i64 1, .int .i64 1, .slice none 0 0], .agg #[.int .i64 chunk, .int .i64 to, .int .i64 re], .slice a l.length cap, .int .i64 next] w fun e w' => Below w.heap.size w w' ∧ Rest29 self l next e := by
  have HRD := hid h
  obtain ⟨a', cap', e', hcap, hx⟩ := h
  injection e' with e1 e2 e3
  subst e1 e3
  have HX := hid hx
  have HCAP := hid hcap
  clear hx hcap e2
  have HOK := hid hb
  have e1 : (w.alloc (.cells #[.int .i64 1, .int .i64 1, .slice none 0 0] 34)).heap.size = w.heap.size + 1 := Array.size_push ..
  have e2 : ((w.alloc (.cells #[.int .i64 1, .int .i64 1, .slice none 0 0] 34)).alloc (.cells #[.int .i64 chunk, .int .i64 to, .int .i64 re] 23)).heap.size = w.heap.size + 1 + 1 := by show (Array.push _ _).size = _; rw [Array.size_push, e1]
  have H1 := (Sts.nil w).alloc stab0 (.cells #[.int .i64 1, .int .i64 1, .slice none 0 0] 34)
  have H2 := H1.alloc (stab1 (blkP_stable _ _)) (.cells #[.int .i64 chunk, .int .i64 to, .int .i64 re] 23)
  have HS := H2.alloc (stabC (blkP_stable _ _) (stab1 (blkP_stable _ _))) (.cells zero29 40)
  rw [e1, e2] at HS
  have HS2 := hid HS
  have HT := hid (show ∀ B ∈ [blkP (w.heap.size + 1) (.cells #[.int .i64 chunk, .int .i64 to, .int .i64 re] 23 (0, 0)), blkP w.heap.size (.cells #[.int .i64 1, .int .i64 1, .slice none 0 0] 34 (0, 0))], Stable B from stabC (blkP_stable _ _) (stab1 (blkP_stable _ _)))
  clear HS H1 H2 e1 e2
  have hz29 : zero29 = #[.int .i64 0, .int .i64 0, .int .i64 0, .slice none 0 0, .int .i64 0, .int .i64 0, .int .i64 0, .int .i64 0, .int .i64 0, .slice none 0 0, .slice none 0 0, .slice none 0 0, .bool false, .int .i64 0, .int .i64 0, .bool false] := rfl
  rw [hz29] at HS2
  have H3 := hid h3
  have H4 := hid h4
  have H5 := hid h5
  have H6 := hid h6
  clear h3 h4 h5 h6 hz29
  have d1 : decide ((256 : Int) < (l.length : Int)) = false := decide_eq_false (by omega)
  have d2 : decide (next < 1) = false := decide_eq_false (by omega)
  have d3 : decide (65536 < next) = false := decide_eq_false (by omega)
  clear hb
  go_enter Tryz.func12, Tryz.ntmps12
  go_wp2_with (first
    | (go_at_call 33; refine (cRNew29T (stabC (blkP_stable _ _) HT.out) self chunk to re HS2.out H3.out H4.out H5.out H6.out).mono ?_; rintro e w2 ⟨rfl, h⟩; have HA := hid (h.alloc (stabC (blkP_stable _ _) HT.out) (.cells zero29 40)); clear h HS2)
    | (refine wpList_aggS HA.out (stabC (blkP_stable _ _) HT.out) rfl (.tmp 12) (.tmp 20) 40 rfl (cou29 self chunk to re 1 (.slice none 0 0)) rfl rfl sizeC29 rfl rfl ?_; intro w4 h4; have HB := hid h4; clear h4 HA))
  generalize w2.heap.size = q at *
  have hz : Hid (#[.int .i64 0, .int .i64 0, .int .i64 0, .slice none 0 0, .int .i64 0, .int .i64 0, .int .i64 0, .int .i64 0, .int .i64 0, .slice none 0 0, .slice none 0 0, .slice none 0 0, .bool false, .int .i64 0, .int .i64 0, .bool false] = zero29) := hid rfl
  rw [hz.out] at HB
  have HLL := hid (show ∀ B ∈ [blkP q (.cells (cou29 self chunk to re 1 (.slice none 0 0)) 40 (0, 0)), blkP (w.heap.size + 1 + 1) (.cells zero29 40 (0, 0)), blkP (w.heap.size + 1) (.cells #[.int .i64 chunk, .int .i64 to, .int .i64 re] 23 (0, 0)), blkP w.heap.size (.cells #[.int .i64 1, .int .i64 1, .slice none 0 0] 34 (0, 0))], Stable B from stabC (blkP_stable _ _) (stabC (blkP_stable _ _) HT.out))
  have HL2 := hid (show ∀ B ∈ [blkP q (.cells (cou29 self chunk to re 1 (.slice none 0 0)) 40 (0, 0)), blkP (w.heap.size + 1) (.cells #[.int .i64 chunk, .int .i64 to, .int .i64 re] 23 (0, 0)), blkP w.heap.size (.cells #[.int .i64 1, .int .i64 1, .slice none 0 0] 34 (0, 0))], Stable B from stabC (blkP_stable _ _) HT.out)
  go_loopw [14] (fun i wr => ∃ k : Nat, k ≤ l.length ∧ i = .int .i64 k ∧ (∀ j, j < k → IdGood self l j) ∧ Sts w [blkP q (.cells (cou29 self chunk to re 1 (.slice none 0 0)) 40 (0, 0)), blkP (w.heap.size + 1 + 1) (.cells zero29 40 (0, 0)), blkP (w.heap.size + 1) (.cells #[.int .i64 chunk, .int .i64 to, .int .i64 re] 23 (0, 0)), blkP w.heap.size (.cells #[.int .i64 1, .int .i64 1, .slice none 0 0] 34 (0, 0))] wr) (fun i _ => l.length - (intOf i).toNat)
  case atStart => exact ⟨0, by omega, rfl, fun j hj => by omega, HB.out⟩
  case round =>
    clear HB
    obtain ⟨k, hk, rfl, hpre, hs9⟩ := hrel
    have HS := hid hs9
    have HP := hid hpre
    clear hs9 hpre
    by_cases hlt : k < l.length
    · obtain ⟨b, off, rfl, hb, c0, c1⟩ := HX.out k hlt
      have HC0 := hid c0
      have HC1 := hid c1
      have HBL := hid hb
      obtain ⟨x, hxe⟩ : ∃ x, x = l[k] := ⟨_, rfl⟩
      rw [← hxe] at HC0 HC1
      have HE := hid hxe
      clear c0 c1 hxe hb
      obtain ⟨f, t⟩ := x
      have HD : Hid (∀ y, Sts w [blkP q (.cells (cou29 self chunk to re 1 (.slice none 0 0)) 40 (0, 0)), blkP (w.heap.size + 1 + 1) (.cells zero29 40 (0, 0)), blkP (w.heap.size + 1) (.cells #[.int .i64 chunk, .int .i64 to, .int .i64 re] 23 (0, 0)), blkP w.heap.size (.cells #[.int .i64 1, .int .i64 1, .slice none 0 0] 34 (0, 0))] y → y.cell? ⟨b, off + k * 2, none⟩ = some (.int .i64 f) ∧ y.cell? ⟨b, off + k * 2 + 1, none⟩ = some (.int .i64 t)) := hid fun y hy => ⟨by rw [hy.below.cell HBL.out]; exact HC0.out, by rw [hy.below.cell HBL.out]; exact HC1.out⟩
      rcases (by omega : (f < 0) ∨ (¬ (f < 0) ∧ 15 < f) ∨ (¬ (f < 0) ∧ ¬ (15 < f) ∧ f = self) ∨ (¬ (f < 0) ∧ ¬ (15 < f) ∧ ¬ (f = self) ∧ t < 0) ∨ (¬ (f < 0) ∧ ¬ (15 < f) ∧ ¬ (f = self) ∧ ¬ (t < 0) ∧ 65535 < t) ∨ (¬ (f < 0) ∧ ¬ (15 < f) ∧ ¬ (f = self) ∧ ¬ (t < 0) ∧ ¬ (65535 < t))) with h | h | h | h | h | h
      · have HN : Hid (¬ RestOk self l next) := hid (by have h1 := h; exact bad_not hlt (by rw [← HE.out]; exact Or.inl (Or.inl h1)))
        have g0 : decide (f < 0) = true := decide_eq_true (by omega)
        clear h
        go_wp2_with fail
        refine wp_region_quiet_tail (fun y => Sts w [blkP q (.cells (cou29 self chunk to re 1 (.slice none 0 0)) 40 (0, 0)), blkP (w.heap.size + 1 + 1) (.cells zero29 40 (0, 0)), blkP (w.heap.size + 1) (.cells #[.int .i64 chunk, .int .i64 to, .int .i64 re] 23 (0, 0)), blkP w.heap.size (.cells #[.int .i64 1, .int .i64 1, .slice none 0 0] 34 (0, 0))] y) 48 (by kernel_rfl) (Eq.trans (b := Region.lexTailB .any ops9.toArray 48) (by kernel_rfl) tail9_ok) (HS.out.drew HLL.out) ?_
        simp only [List.take_succ_cons, List.take_zero, List.drop_succ_cons, List.drop_zero]
        refine quiet_want (by kernel_rfl) (fun K hK => ?_)
        apply quiet_val
        · intro w' hw'; obtain ⟨c0, c1⟩ := HD.out w' hw'; go_simp; rfl
        refine hK _ ?_
        clear hK K
        refine wpQuiet_norm (by go_simp; rfl) ?_
        refine quiet_want (by kernel_rfl) (fun K hK => ?_)
        apply quiet_val
        · intro w' hw'; obtain ⟨c0, c1⟩ := HD.out w' hw'; go_simp; rfl
        refine hK _ ?_
        clear hK K
        refine wpQuiet_norm (by go_simp; rfl) ?_
        refine quiet_want (by kernel_rfl) (fun K hK => ?_)
        apply quiet_val
        · intro w' hw'; obtain ⟨c0, c1⟩ := HD.out w' hw'; go_simp; rfl
        refine hK _ ?_
        clear hK K
        refine wpQuiet_norm (by go_simp; rfl) ?_
        refine quiet_want (by kernel_rfl) (fun K hK => ?_)
        apply quiet_val
        · intro w' hw'; obtain ⟨c0, c1⟩ := HD.out w' hw'; go_simp; rfl
        refine hK _ ?_
        clear hK K
        refine wpQuiet_norm (by go_simp; rfl) ?_
        refine quiet_want (by kernel_rfl) (fun K hK => ?_)
        apply quiet_val
        · intro w' hw'; obtain ⟨c0, c1⟩ := HD.out w' hw'; go_simp; rfl
        refine hK _ ?_
        clear hK K
        refine wpQuiet_norm (by go_simp; rfl) ?_
        refine quiet_want (by kernel_rfl) (fun K hK => ?_)
        apply quiet_val
        · intro w' hw'; obtain ⟨c0, c1⟩ := HD.out w' hw'; go_simp; rfl
        refine hK _ ?_
        clear hK K
        refine wpQuiet_norm (by go_simp; rfl) ?_
        refine quiet_want (by kernel_rfl) (fun K hK => ?_)
        apply quiet_val
        · intro w' hw'; obtain ⟨c0, c1⟩ := HD.out w' hw'; go_simp; rfl
        refine hK _ ?_
        clear hK K
        refine wpQuiet_norm (by go_simp; rfl) ?_
        refine quiet_skip (by kernel_rfl) ?_
        refine wpQuiet_norm (by go_simp; rfl) ?_
        refine quiet_skip (by kernel_rfl) ?_
        refine wpQuiet_norm (by go_simp; rfl) ?_
        refine quiet_skip (by kernel_rfl) ?_
        refine wpQuiet_norm (by go_simp; rfl) ?_
        refine quiet_skip (by kernel_rfl) ?_
        refine wpQuiet_norm (by go_simp; rfl) ?_
        refine quiet_skip (by kernel_rfl) ?_
        refine wpQuiet_norm (by go_simp; rfl) ?_
        refine quiet_skip (by kernel_rfl) ?_
        refine wpQuiet_norm (by go_simp; rfl) ?_
        refine quiet_want (by kernel_rfl) (fun K hK => ?_)
        apply quiet_val
        · intro w' hw'; obtain ⟨c0, c1⟩ := HD.out w' hw'; go_simp; rfl
        refine hK _ ?_
        clear hK K
        refine wpQuiet_norm (by go_simp; rfl) ?_
        refine quiet_want (by kernel_rfl) (fun K hK => ?_)
        apply quiet_val
        · intro w' hw'; obtain ⟨c0, c1⟩ := HD.out w' hw'; go_simp; rfl
        refine hK _ ?_
        clear hK K
        refine wpQuiet_norm (by go_simp; rfl) ?_
        refine quiet_skip (by kernel_rfl) ?_
        refine wpQuiet_norm (by go_simp; rfl) ?_
        refine quiet_skip (by kernel_rfl) ?_
        refine wpQuiet_norm (by go_simp; rfl) ?_
        refine quiet_skip (by kernel_rfl) ?_
        refine wpQuiet_norm (by go_simp; rfl) ?_
        refine quiet_skip (by kernel_rfl) ?_
        refine wpQuiet_norm (by go_simp; rfl) ?_
        refine quiet_skip (by kernel_rfl) ?_
        refine wpQuiet_norm (by go_simp; rfl) ?_
        refine quiet_skip (by kernel_rfl) ?_
        refine wpQuiet_norm (by go_simp; rfl) ?_
        refine quiet_skip (by kernel_rfl) ?_
        refine wpQuiet_norm (by go_simp; rfl) ?_
        refine quiet_want (by kernel_rfl) (fun K hK => ?_)
        apply quiet_val
        · intro w' hw'; obtain ⟨c0, c1⟩ := HD.out w' hw'; go_simp; rfl
        refine hK _ ?_
        clear hK K
        refine wpQuiet_norm (by go_simp; rfl) ?_
        refine quiet_want (by kernel_rfl) (fun K hK => ?_)
        apply quiet_val
        · intro w' hw'; obtain ⟨c0, c1⟩ := HD.out w' hw'; go_simp; rfl
        refine hK _ ?_
        clear hK K
        refine wpQuiet_norm (by go_simp; rfl) ?_
        refine quiet_skip (by kernel_rfl) ?_
        refine wpQuiet_norm (by go_simp; rfl) ?_
        refine quiet_skip (by kernel_rfl) ?_
        refine wpQuiet_norm (by go_simp; rfl) ?_
        refine quiet_skip (by kernel_rfl) ?_
        refine wpQuiet_norm (by go_simp; rfl) ?_
        refine quiet_skip (by kernel_rfl) ?_
        refine wpQuiet_norm (by go_simp; rfl) ?_
        refine quiet_skip (by kernel_rfl) ?_
        refine wpQuiet_norm (by go_simp; rfl) ?_
        refine quiet_skip (by kernel_rfl) ?_
        refine wpQuiet_norm (by go_simp; rfl) ?_
        refine quiet_want (by kernel_rfl) (fun K hK => ?_)
        apply quiet_val
        · intro w' hw'; obtain ⟨c0, c1⟩ := HD.out w' hw'; go_simp; rfl
        refine hK _ ?_
        clear hK K
        refine wpQuiet_norm (by go_simp; rfl) ?_
        refine quiet_want (by kernel_rfl) (fun K hK => ?_)
        apply quiet_val
        · intro w' hw'; obtain ⟨c0, c1⟩ := HD.out w' hw'; go_simp; rfl
        refine hK _ ?_
        clear hK K
        refine wpQuiet_norm (by go_simp; rfl) ?_
        refine quiet_skip (by kernel_rfl) ?_
        refine wpQuiet_norm (by go_simp; rfl) ?_
        refine quiet_skip (by kernel_rfl) ?_
        refine wpQuiet_norm (by go_simp; rfl) ?_
        refine quiet_skip (by kernel_rfl) ?_
        refine wpQuiet_norm (by go_simp; rfl) ?_
        refine quiet_skip (by kernel_rfl) ?_
        refine wpQuiet_norm (by go_simp; rfl) ?_
        refine quiet_skip (by kernel_rfl) ?_
        refine wpQuiet_norm (by go_simp; rfl) ?_
        refine quiet_skip (by kernel_rfl) ?_
        refine wpQuiet_norm (by go_simp; rfl) ?_
        refine quiet_want (by kernel_rfl) (fun K hK => ?_)
        apply quiet_val
        · intro w' hw'; obtain ⟨c0, c1⟩ := HD.out w' hw'; go_simp; rfl
        refine hK _ ?_
        clear hK K
        refine wpQuiet_norm (by go_simp; rfl) ?_
        refine quiet_want (by kernel_rfl) (fun K hK => ?_)
        apply quiet_val
        · intro w' hw'; obtain ⟨c0, c1⟩ := HD.out w' hw'; go_simp; rfl
        refine hK _ ?_
        clear hK K
        refine wpQuiet_norm (by go_simp; rfl) ?_
        refine quiet_skip (by kernel_rfl) ?_
        refine wpQuiet_norm (by go_simp; rfl) ?_
        refine quiet_skip (by kernel_rfl) ?_
        refine wpQuiet_norm (by go_simp; rfl) ?_
        refine quiet_skip (by kernel_rfl) ?_
        refine wpQuiet_norm (by go_simp; rfl) ?_
        refine quiet_skip (by kernel_rfl) ?_
        refine wpQuiet_norm (by go_simp; rfl) ?_
        refine quiet_skip (by kernel_rfl) ?_
        refine wpQuiet_norm (by go_simp; rfl) ?_
        refine quiet_skip (by kernel_rfl) ?_
        refine wpQuiet_norm (by go_simp; rfl) ?_
        refine quiet_skip (by kernel_rfl) ?_
        refine wpQuiet_norm (by go_simp; rfl) ?_
        refine quiet_skip (by kernel_rfl) ?_
        refine wpQuiet_norm (by go_simp; rfl) ?_
        refine wpQuiet_nil ?_
        intro z hz9
        have HZ := hid hz9.swap
        clear hz9
        go_wp2_with (first | (refine wpList_aggS HZ.out HL2.out rfl (.tmp 10) (.tmp 93) 40 rfl zero29 rfl rfl sizeC29 rfl rfl ?_; intro w5 h4; have HF := hid h4; clear h4))
        exact post_cell2S HF.out Tryz.results12 rfl rfl (ldC29 rfl HF.out) _ rfl ⟨HF.out.below, rest29F (HN.out)⟩
      · have HN : Hid (¬ RestOk self l next) := hid (by have h1 := h.2; exact bad_not hlt (by rw [← HE.out]; exact Or.inl (Or.inr (Or.inl h1))))
        have g0 : decide (f < 0) = false := decide_eq_false (by omega)
        have g1 : decide (15 < f) = true := decide_eq_true (by omega)
        clear h
        go_wp2_with fail
        refine wp_region_quiet_tail (fun y => Sts w [blkP q (.cells (cou29 self chunk to re 1 (.slice none 0 0)) 40 (0, 0)), blkP (w.heap.size + 1 + 1) (.cells zero29 40 (0, 0)), blkP (w.heap.size + 1) (.cells #[.int .i64 chunk, .int .i64 to, .int .i64 re] 23 (0, 0)), blkP w.heap.size (.cells #[.int .i64 1, .int .i64 1, .slice none 0 0] 34 (0, 0))] y) 48 (by kernel_rfl) (Eq.trans (b := Region.lexTailB .any ops9.toArray 48) (by kernel_rfl) tail9_ok) (HS.out.drew HLL.out) ?_
        simp only [List.take_succ_cons, List.take_zero, List.drop_succ_cons, List.drop_zero]
        refine quiet_want (by kernel_rfl) (fun K hK => ?_)
        apply quiet_val
        · intro w' hw'; obtain ⟨c0, c1⟩ := HD.out w' hw'; go_simp; rfl
        refine hK _ ?_
        clear hK K
        refine wpQuiet_norm (by go_simp; rfl) ?_
        refine quiet_want (by kernel_rfl) (fun K hK => ?_)
        apply quiet_val
        · intro w' hw'; obtain ⟨c0, c1⟩ := HD.out w' hw'; go_simp; rfl
        refine hK _ ?_
        clear hK K
        refine wpQuiet_norm (by go_simp; rfl) ?_
        refine quiet_want (by kernel_rfl) (fun K hK => ?_)
        apply quiet_val
        · intro w' hw'; obtain ⟨c0, c1⟩ := HD.out w' hw'; go_simp; rfl
        refine hK _ ?_
        clear hK K
        refine wpQuiet_norm (by go_simp; rfl) ?_
        refine quiet_want (by kernel_rfl) (fun K hK => ?_)
        apply quiet_val
        · intro w' hw'; obtain ⟨c0, c1⟩ := HD.out w' hw'; go_simp; rfl
        refine hK _ ?_
        clear hK K
        refine wpQuiet_norm (by go_simp; rfl) ?_
        refine quiet_want (by kernel_rfl) (fun K hK => ?_)
        apply quiet_val
        · intro w' hw'; obtain ⟨c0, c1⟩ := HD.out w' hw'; go_simp; rfl
        refine hK _ ?_
        clear hK K
        refine wpQuiet_norm (by go_simp; rfl) ?_
        refine quiet_want (by kernel_rfl) (fun K hK => ?_)
        apply quiet_val
        · intro w' hw'; obtain ⟨c0, c1⟩ := HD.out w' hw'; go_simp; rfl
        refine hK _ ?_
        clear hK K
        refine wpQuiet_norm (by go_simp; rfl) ?_
        refine quiet_want (by kernel_rfl) (fun K hK => ?_)
        apply quiet_val
        · intro w' hw'; obtain ⟨c0, c1⟩ := HD.out w' hw'; go_simp; rfl
        refine hK _ ?_
        clear hK K
        refine wpQuiet_norm (by go_simp; rfl) ?_
        refine quiet_want (by kernel_rfl) (fun K hK => ?_)
        apply quiet_val
        · intro w' hw'; obtain ⟨c0, c1⟩ := HD.out w' hw'; go_simp; rfl
        refine hK _ ?_
        clear hK K
        refine wpQuiet_norm (by go_simp; rfl) ?_
        refine quiet_want (by kernel_rfl) (fun K hK => ?_)
        apply quiet_val
        · intro w' hw'; obtain ⟨c0, c1⟩ := HD.out w' hw'; go_simp; rfl
        refine hK _ ?_
        clear hK K
        refine wpQuiet_norm (by go_simp; rfl) ?_
        refine quiet_want (by kernel_rfl) (fun K hK => ?_)
        apply quiet_val
        · intro w' hw'; obtain ⟨c0, c1⟩ := HD.out w' hw'; go_simp; rfl
        refine hK _ ?_
        clear hK K
        refine wpQuiet_norm (by go_simp; rfl) ?_
        refine quiet_want (by kernel_rfl) (fun K hK => ?_)
        apply quiet_val
        · intro w' hw'; obtain ⟨c0, c1⟩ := HD.out w' hw'; go_simp; rfl
        refine hK _ ?_
        clear hK K
        refine wpQuiet_norm (by go_simp; rfl) ?_
        refine quiet_want (by kernel_rfl) (fun K hK => ?_)
        apply quiet_val
        · intro w' hw'; obtain ⟨c0, c1⟩ := HD.out w' hw'; go_simp; rfl
        refine hK _ ?_
        clear hK K
        refine wpQuiet_norm (by go_simp; rfl) ?_
        refine quiet_want (by kernel_rfl) (fun K hK => ?_)
        apply quiet_val
        · intro w' hw'; obtain ⟨c0, c1⟩ := HD.out w' hw'; go_simp; rfl
        refine hK _ ?_
        clear hK K
        refine wpQuiet_norm (by go_simp; rfl) ?_
        refine quiet_want (by kernel_rfl) (fun K hK => ?_)
        apply quiet_val
        · intro w' hw'; obtain ⟨c0, c1⟩ := HD.out w' hw'; go_simp; rfl
        refine hK _ ?_
        clear hK K
        refine wpQuiet_norm (by go_simp; rfl) ?_
        refine quiet_want (by kernel_rfl) (fun K hK => ?_)
        apply quiet_val
        · intro w' hw'; obtain ⟨c0, c1⟩ := HD.out w' hw'; go_simp; rfl
        refine hK _ ?_
        clear hK K
        refine wpQuiet_norm (by go_simp; rfl) ?_
        refine quiet_skip (by kernel_rfl) ?_
        refine wpQuiet_norm (by go_simp; rfl) ?_
        refine quiet_skip (by kernel_rfl) ?_
        refine wpQuiet_norm (by go_simp; rfl) ?_
        refine quiet_skip (by kernel_rfl) ?_
        refine wpQuiet_norm (by go_simp; rfl) ?_
        refine quiet_skip (by kernel_rfl) ?_
        refine wpQuiet_norm (by go_simp; rfl) ?_
        refine quiet_skip (by kernel_rfl) ?_
        refine wpQuiet_norm (by go_simp; rfl) ?_
        refine quiet_skip (by kernel_rfl) ?_
        refine wpQuiet_norm (by go_simp; rfl) ?_
        refine quiet_skip (by kernel_rfl) ?_
        refine wpQuiet_norm (by go_simp; rfl) ?_
        refine quiet_want (by kernel_rfl) (fun K hK => ?_)
        apply quiet_val
        · intro w' hw'; obtain ⟨c0, c1⟩ := HD.out w' hw'; go_simp; rfl
        refine hK _ ?_
        clear hK K
        refine wpQuiet_norm (by go_simp; rfl) ?_
        refine quiet_want (by kernel_rfl) (fun K hK => ?_)
        apply quiet_val
        · intro w' hw'; obtain ⟨c0, c1⟩ := HD.out w' hw'; go_simp; rfl
        refine hK _ ?_
        clear hK K
        refine wpQuiet_norm (by go_simp; rfl) ?_
        refine quiet_skip (by kernel_rfl) ?_
        refine wpQuiet_norm (by go_simp; rfl) ?_
        refine quiet_skip (by kernel_rfl) ?_
        refine wpQuiet_norm (by go_simp; rfl) ?_
        refine quiet_skip (by kernel_rfl) ?_
        refine wpQuiet_norm (by go_simp; rfl) ?_
        refine quiet_skip (by kernel_rfl) ?_
        refine wpQuiet_norm (by go_simp; rfl) ?_
        refine quiet_skip (by kernel_rfl) ?_
        refine wpQuiet_norm (by go_simp; rfl) ?_
        refine quiet_skip (by kernel_rfl) ?_
        refine wpQuiet_norm (by go_simp; rfl) ?_
        refine quiet_want (by kernel_rfl) (fun K hK => ?_)
        apply quiet_val
        · intro w' hw'; obtain ⟨c0, c1⟩ := HD.out w' hw'; go_simp; rfl
        refine hK _ ?_
        clear hK K
        refine wpQuiet_norm (by go_simp; rfl) ?_
        refine quiet_want (by kernel_rfl) (fun K hK => ?_)
        apply quiet_val
        · intro w' hw'; obtain ⟨c0, c1⟩ := HD.out w' hw'; go_simp; rfl
        refine hK _ ?_
        clear hK K
        refine wpQuiet_norm (by go_simp; rfl) ?_
        refine quiet_skip (by kernel_rfl) ?_
        refine wpQuiet_norm (by go_simp; rfl) ?_
        refine quiet_skip (by kernel_rfl) ?_
        refine wpQuiet_norm (by go_simp; rfl) ?_
        refine quiet_skip (by kernel_rfl) ?_
        refine wpQuiet_norm (by go_simp; rfl) ?_
        refine quiet_skip (by kernel_rfl) ?_
        refine wpQuiet_norm (by go_simp; rfl) ?_
        refine quiet_skip (by kernel_rfl) ?_
        refine wpQuiet_norm (by go_simp; rfl) ?_
        refine quiet_skip (by kernel_rfl) ?_
        refine wpQuiet_norm (by go_simp; rfl) ?_
        refine quiet_want (by kernel_rfl) (fun K hK => ?_)
        apply quiet_val
        · intro w' hw'; obtain ⟨c0, c1⟩ := HD.out w' hw'; go_simp; rfl
        refine hK _ ?_
        clear hK K
        refine wpQuiet_norm (by go_simp; rfl) ?_
        refine quiet_want (by kernel_rfl) (fun K hK => ?_)
        apply quiet_val
        · intro w' hw'; obtain ⟨c0, c1⟩ := HD.out w' hw'; go_simp; rfl
        refine hK _ ?_
        clear hK K
        refine wpQuiet_norm (by go_simp; rfl) ?_
        refine quiet_skip (by kernel_rfl) ?_
        refine wpQuiet_norm (by go_simp; rfl) ?_
        refine quiet_skip (by kernel_rfl) ?_
        refine wpQuiet_norm (by go_simp; rfl) ?_
        refine quiet_skip (by kernel_rfl) ?_
        refine wpQuiet_norm (by go_simp; rfl) ?_
        refine quiet_skip (by kernel_rfl) ?_
        refine wpQuiet_norm (by go_simp; rfl) ?_
        refine quiet_skip (by kernel_rfl) ?_
        refine wpQuiet_norm (by go_simp; rfl) ?_
        refine quiet_skip (by kernel_rfl) ?_
        refine wpQuiet_norm (by go_simp; rfl) ?_
        refine quiet_skip (by kernel_rfl) ?_
        refine wpQuiet_norm (by go_simp; rfl) ?_
        refine quiet_skip (by kernel_rfl) ?_
        refine wpQuiet_norm (by go_simp; rfl) ?_
        refine wpQuiet_nil ?_
        intro z hz9
        have HZ := hid hz9.swap
        clear hz9
        go_wp2_with (first | (refine wpList_aggS HZ.out HL2.out rfl (.tmp 10) (.tmp 93) 40 rfl zero29 rfl rfl sizeC29 rfl rfl ?_; intro w5 h4; have HF := hid h4; clear h4))
        exact post_cell2S HF.out Tryz.results12 rfl rfl (ldC29 rfl HF.out) _ rfl ⟨HF.out.below, rest29F (HN.out)⟩
      · have HN : Hid (¬ RestOk self l next) := hid (by have h1 := h.2.2; exact bad_not hlt (by rw [← HE.out]; exact Or.inl (Or.inr (Or.inr (Or.inl h1)))))
        have g0 : decide (f < 0) = false := decide_eq_false (by omega)
        have g1 : decide (15 < f) = false := decide_eq_false (by omega)
        have g2 : (f == self) = true := by simp; omega
        clear h
        go_wp2_with fail
        refine wp_region_quiet_tail (fun y => Sts w [blkP q (.cells (cou29 self chunk to re 1 (.slice none 0 0)) 40 (0, 0)), blkP (w.heap.size + 1 + 1) (.cells zero29 40 (0, 0)), blkP (w.heap.size + 1) (.cells #[.int .i64 chunk, .int .i64 to, .int .i64 re] 23 (0, 0)), blkP w.heap.size (.cells #[.int .i64 1, .int .i64 1, .slice none 0 0] 34 (0, 0))] y) 48 (by kernel_rfl) (Eq.trans (b := Region.lexTailB .any ops9.toArray 48) (by kernel_rfl) tail9_ok) (HS.out.drew HLL.out) ?_
        simp only [List.take_succ_cons, List.take_zero, List.drop_succ_cons, List.drop_zero]
        refine quiet_want (by kernel_rfl) (fun K hK => ?_)
        apply quiet_val
        · intro w' hw'; obtain ⟨c0, c1⟩ := HD.out w' hw'; go_simp; rfl
        refine hK _ ?_
        clear hK K
        refine wpQuiet_norm (by go_simp; rfl) ?_
        refine quiet_want (by kernel_rfl) (fun K hK => ?_)
        apply quiet_val
        · intro w' hw'; obtain ⟨c0, c1⟩ := HD.out w' hw'; go_simp; rfl
        refine hK _ ?_
        clear hK K
        refine wpQuiet_norm (by go_simp; rfl) ?_
        refine quiet_want (by kernel_rfl) (fun K hK => ?_)
        apply quiet_val
        · intro w' hw'; obtain ⟨c0, c1⟩ := HD.out w' hw'; go_simp; rfl
        refine hK _ ?_
        clear hK K
        refine wpQuiet_norm (by go_simp; rfl) ?_
        refine quiet_want (by kernel_rfl) (fun K hK => ?_)
        apply quiet_val
        · intro w' hw'; obtain ⟨c0, c1⟩ := HD.out w' hw'; go_simp; rfl
        refine hK _ ?_
        clear hK K
        refine wpQuiet_norm (by go_simp; rfl) ?_
        refine quiet_want (by kernel_rfl) (fun K hK => ?_)
        apply quiet_val
        · intro w' hw'; obtain ⟨c0, c1⟩ := HD.out w' hw'; go_simp; rfl
        refine hK _ ?_
        clear hK K
        refine wpQuiet_norm (by go_simp; rfl) ?_
        refine quiet_want (by kernel_rfl) (fun K hK => ?_)
        apply quiet_val
        · intro w' hw'; obtain ⟨c0, c1⟩ := HD.out w' hw'; go_simp; rfl
        refine hK _ ?_
        clear hK K
        refine wpQuiet_norm (by go_simp; rfl) ?_
        refine quiet_want (by kernel_rfl) (fun K hK => ?_)
        apply quiet_val
        · intro w' hw'; obtain ⟨c0, c1⟩ := HD.out w' hw'; go_simp; rfl
        refine hK _ ?_
        clear hK K
        refine wpQuiet_norm (by go_simp; rfl) ?_
        refine quiet_want (by kernel_rfl) (fun K hK => ?_)
        apply quiet_val
        · intro w' hw'; obtain ⟨c0, c1⟩ := HD.out w' hw'; go_simp; rfl
        refine hK _ ?_
        clear hK K
        refine wpQuiet_norm (by go_simp; rfl) ?_
        refine quiet_want (by kernel_rfl) (fun K hK => ?_)
        apply quiet_val
        · intro w' hw'; obtain ⟨c0, c1⟩ := HD.out w' hw'; go_simp; rfl
        refine hK _ ?_
        clear hK K
        refine wpQuiet_norm (by go_simp; rfl) ?_
        refine quiet_want (by kernel_rfl) (fun K hK => ?_)
        apply quiet_val
        · intro w' hw'; obtain ⟨c0, c1⟩ := HD.out w' hw'; go_simp; rfl
        refine hK _ ?_
        clear hK K
        refine wpQuiet_norm (by go_simp; rfl) ?_
        refine quiet_want (by kernel_rfl) (fun K hK => ?_)
        apply quiet_val
        · intro w' hw'; obtain ⟨c0, c1⟩ := HD.out w' hw'; go_simp; rfl
        refine hK _ ?_
        clear hK K
        refine wpQuiet_norm (by go_simp; rfl) ?_
        refine quiet_want (by kernel_rfl) (fun K hK => ?_)
        apply quiet_val
        · intro w' hw'; obtain ⟨c0, c1⟩ := HD.out w' hw'; go_simp; rfl
        refine hK _ ?_
        clear hK K
        refine wpQuiet_norm (by go_simp; rfl) ?_
        refine quiet_want (by kernel_rfl) (fun K hK => ?_)
        apply quiet_val
        · intro w' hw'; obtain ⟨c0, c1⟩ := HD.out w' hw'; go_simp; rfl
        refine hK _ ?_
        clear hK K
        refine wpQuiet_norm (by go_simp; rfl) ?_
        refine quiet_want (by kernel_rfl) (fun K hK => ?_)
        apply quiet_val
        · intro w' hw'; obtain ⟨c0, c1⟩ := HD.out w' hw'; go_simp; rfl
        refine hK _ ?_
        clear hK K
        refine wpQuiet_norm (by go_simp; rfl) ?_
        refine quiet_want (by kernel_rfl) (fun K hK => ?_)
        apply quiet_val
        · intro w' hw'; obtain ⟨c0, c1⟩ := HD.out w' hw'; go_simp; rfl
        refine hK _ ?_
        clear hK K
        refine wpQuiet_norm (by go_simp; rfl) ?_
        refine quiet_want (by kernel_rfl) (fun K hK => ?_)
        apply quiet_val
        · intro w' hw'; obtain ⟨c0, c1⟩ := HD.out w' hw'; go_simp; rfl
        refine hK _ ?_
        clear hK K
        refine wpQuiet_norm (by go_simp; rfl) ?_
        refine quiet_want (by kernel_rfl) (fun K hK => ?_)
        apply quiet_val
        · intro w' hw'; obtain ⟨c0, c1⟩ := HD.out w' hw'; go_simp; rfl
        refine hK _ ?_
        clear hK K
        refine wpQuiet_norm (by go_simp; rfl) ?_
        refine quiet_want (by kernel_rfl) (fun K hK => ?_)
        apply quiet_val
        · intro w' hw'; obtain ⟨c0, c1⟩ := HD.out w' hw'; go_simp; rfl
        refine hK _ ?_
        clear hK K
        refine wpQuiet_norm (by go_simp; rfl) ?_
        refine quiet_want (by kernel_rfl) (fun K hK => ?_)
        apply quiet_val
        · intro w' hw'; obtain ⟨c0, c1⟩ := HD.out w' hw'; go_simp; rfl
        refine hK _ ?_
        clear hK K
        refine wpQuiet_norm (by go_simp; rfl) ?_
        refine quiet_want (by kernel_rfl) (fun K hK => ?_)
        apply quiet_val
        · intro w' hw'; obtain ⟨c0, c1⟩ := HD.out w' hw'; go_simp; rfl
        refine hK _ ?_
        clear hK K
        refine wpQuiet_norm (by go_simp; rfl) ?_
        refine quiet_want (by kernel_rfl) (fun K hK => ?_)
        apply quiet_val
        · intro w' hw'; obtain ⟨c0, c1⟩ := HD.out w' hw'; go_simp; rfl
        refine hK _ ?_
        clear hK K
        refine wpQuiet_norm (by go_simp; rfl) ?_
        refine quiet_want (by kernel_rfl) (fun K hK => ?_)
        apply quiet_val
        · intro w' hw'; obtain ⟨c0, c1⟩ := HD.out w' hw'; go_simp; rfl
        refine hK _ ?_
        clear hK K
        refine wpQuiet_norm (by go_simp; rfl) ?_
        refine quiet_want (by kernel_rfl) (fun K hK => ?_)
        apply quiet_val
        · intro w' hw'; obtain ⟨c0, c1⟩ := HD.out w' hw'; go_simp; rfl
        refine hK _ ?_
        clear hK K
        refine wpQuiet_norm (by go_simp; rfl) ?_
        refine quiet_want (by kernel_rfl) (fun K hK => ?_)
        apply quiet_val
        · intro w' hw'; obtain ⟨c0, c1⟩ := HD.out w' hw'; go_simp; rfl
        refine hK _ ?_
        clear hK K
        refine wpQuiet_norm (by go_simp; rfl) ?_
        refine quiet_skip (by kernel_rfl) ?_
        refine wpQuiet_norm (by go_simp; rfl) ?_
        refine quiet_skip (by kernel_rfl) ?_
        refine wpQuiet_norm (by go_simp; rfl) ?_
        refine quiet_skip (by kernel_rfl) ?_
        refine wpQuiet_norm (by go_simp; rfl) ?_
        refine quiet_skip (by kernel_rfl) ?_
        refine wpQuiet_norm (by go_simp; rfl) ?_
        refine quiet_skip (by kernel_rfl) ?_
        refine wpQuiet_norm (by go_simp; rfl) ?_
        refine quiet_skip (by kernel_rfl) ?_
        refine wpQuiet_norm (by go_simp; rfl) ?_
        refine quiet_want (by kernel_rfl) (fun K hK => ?_)
        apply quiet_val
        · intro w' hw'; obtain ⟨c0, c1⟩ := HD.out w' hw'; go_simp; rfl
        refine hK _ ?_
        clear hK K
        refine wpQuiet_norm (by go_simp; rfl) ?_
        refine quiet_want (by kernel_rfl) (fun K hK => ?_)
        apply quiet_val
        · intro w' hw'; obtain ⟨c0, c1⟩ := HD.out w' hw'; go_simp; rfl
        refine hK _ ?_
        clear hK K
        refine wpQuiet_norm (by go_simp; rfl) ?_
        refine quiet_skip (by kernel_rfl) ?_
        refine wpQuiet_norm (by go_simp; rfl) ?_
        refine quiet_skip (by kernel_rfl) ?_
        refine wpQuiet_norm (by go_simp; rfl) ?_
        refine quiet_skip (by kernel_rfl) ?_
        refine wpQuiet_norm (by go_simp; rfl) ?_
        refine quiet_skip (by kernel_rfl) ?_
        refine wpQuiet_norm (by go_simp; rfl) ?_
        refine quiet_skip (by kernel_rfl) ?_
        refine wpQuiet_norm (by go_simp; rfl) ?_
        refine quiet_skip (by kernel_rfl) ?_
        refine wpQuiet_norm (by go_simp; rfl) ?_
        refine quiet_want (by kernel_rfl) (fun K hK => ?_)
        apply quiet_val
        · intro w' hw'; obtain ⟨c0, c1⟩ := HD.out w' hw'; go_simp; rfl
        refine hK _ ?_
        clear hK K
        refine wpQuiet_norm (by go_simp; rfl) ?_
        refine quiet_want (by kernel_rfl) (fun K hK => ?_)
        apply quiet_val
        · intro w' hw'; obtain ⟨c0, c1⟩ := HD.out w' hw'; go_simp; rfl
        refine hK _ ?_
        clear hK K
        refine wpQuiet_norm (by go_simp; rfl) ?_
        refine quiet_skip (by kernel_rfl) ?_
        refine wpQuiet_norm (by go_simp; rfl) ?_
        refine quiet_skip (by kernel_rfl) ?_
        refine wpQuiet_norm (by go_simp; rfl) ?_
        refine quiet_skip (by kernel_rfl) ?_
        refine wpQuiet_norm (by go_simp; rfl) ?_
        refine quiet_skip (by kernel_rfl) ?_
        refine wpQuiet_norm (by go_simp; rfl) ?_
        refine quiet_skip (by kernel_rfl) ?_
        refine wpQuiet_norm (by go_simp; rfl) ?_
        refine quiet_skip (by kernel_rfl) ?_
        refine wpQuiet_norm (by go_simp; rfl) ?_
        refine quiet_skip (by kernel_rfl) ?_
        refine wpQuiet_norm (by go_simp; rfl) ?_
        refine quiet_skip (by kernel_rfl) ?_
        refine wpQuiet_norm (by go_simp; rfl) ?_
        refine wpQuiet_nil ?_
        intro z hz9
        have HZ := hid hz9.swap
        clear hz9
        go_wp2_with (first | (refine wpList_aggS HZ.out HL2.out rfl (.tmp 10) (.tmp 93) 40 rfl zero29 rfl rfl sizeC29 rfl rfl ?_; intro w5 h4; have HF := hid h4; clear h4))
        exact post_cell2S HF.out Tryz.results12 rfl rfl (ldC29 rfl HF.out) _ rfl ⟨HF.out.below, rest29F (HN.out)⟩
      · have HN : Hid (¬ RestOk self l next) := hid (by have h1 := h.2.2.2; exact bad_not hlt (by rw [← HE.out]; exact Or.inl (Or.inr (Or.inr (Or.inr (Or.inl h1))))))
        have g0 : decide (f < 0) = false := decide_eq_false (by omega)
        have g1 : decide (15 < f) = false := decide_eq_false (by omega)
        have g2 : (f == self) = false := by simp; omega
        have g3 : decide (t < 0) = true := decide_eq_true (by omega)
        clear h
        go_wp2_with fail
        refine wp_region_quiet_tail (fun y => Sts w [blkP q (.cells (cou29 self chunk to re 1 (.slice none 0 0)) 40 (0, 0)), blkP (w.heap.size + 1 + 1) (.cells zero29 40 (0, 0)), blkP (w.heap.size + 1) (.cells #[.int .i64 chunk, .int .i64 to, .int .i64 re] 23 (0, 0)), blkP w.heap.size (.cells #[.int .i64 1, .int .i64 1, .slice none 0 0] 34 (0, 0))] y) 48 (by kernel_rfl) (Eq.trans (b := Region.lexTailB .any ops9.toArray 48) (by kernel_rfl) tail9_ok) (HS.out.drew HLL.out) ?_
        simp only [List.take_succ_cons, List.take_zero, List.drop_succ_cons, List.drop_zero]
        refine quiet_want (by kernel_rfl) (fun K hK => ?_)
        apply quiet_val
        · intro w' hw'; obtain ⟨c0, c1⟩ := HD.out w' hw'; go_simp; rfl
        refine hK _ ?_
        clear hK K
        refine wpQuiet_norm (by go_simp; rfl) ?_
        refine quiet_want (by kernel_rfl) (fun K hK => ?_)
        apply quiet_val
        · intro w' hw'; obtain ⟨c0, c1⟩ := HD.out w' hw'; go_simp; rfl
        refine hK _ ?_
        clear hK K
        refine wpQuiet_norm (by go_simp; rfl) ?_
        refine quiet_want (by kernel_rfl) (fun K hK => ?_)
        apply quiet_val
        · intro w' hw'; obtain ⟨c0, c1⟩ := HD.out w' hw'; go_simp; rfl
        refine hK _ ?_
        clear hK K
        refine wpQuiet_norm (by go_simp; rfl) ?_
        refine quiet_want (by kernel_rfl) (fun K hK => ?_)
        apply quiet_val
        · intro w' hw'; obtain ⟨c0, c1⟩ := HD.out w' hw'; go_simp; rfl
        refine hK _ ?_
        clear hK K
        refine wpQuiet_norm (by go_simp; rfl) ?_
        refine quiet_want (by kernel_rfl) (fun K hK => ?_)
        apply quiet_val
        · intro w' hw'; obtain ⟨c0, c1⟩ := HD.out w' hw'; go_simp; rfl
        refine hK _ ?_
        clear hK K
        refine wpQuiet_norm (by go_simp; rfl) ?_
        refine quiet_want (by kernel_rfl) (fun K hK => ?_)
        apply quiet_val
        · intro w' hw'; obtain ⟨c0, c1⟩ := HD.out w' hw'; go_simp; rfl
        refine hK _ ?_
        clear hK K
        refine wpQuiet_norm (by go_simp; rfl) ?_
        refine quiet_want (by kernel_rfl) (fun K hK => ?_)
        apply quiet_val
        · intro w' hw'; obtain ⟨c0, c1⟩ := HD.out w' hw'; go_simp; rfl
        refine hK _ ?_
        clear hK K
        refine wpQuiet_norm (by go_simp; rfl) ?_
        refine quiet_want (by kernel_rfl) (fun K hK => ?_)
        apply quiet_val
        · intro w' hw'; obtain ⟨c0, c1⟩ := HD.out w' hw'; go_simp; rfl
        refine hK _ ?_
        clear hK K
        refine wpQuiet_norm (by go_simp; rfl) ?_
        refine quiet_want (by kernel_rfl) (fun K hK => ?_)
        apply quiet_val
        · intro w' hw'; obtain ⟨c0, c1⟩ := HD.out w' hw'; go_simp; rfl
        refine hK _ ?_
        clear hK K
        refine wpQuiet_norm (by go_simp; rfl) ?_
        refine quiet_want (by kernel_rfl) (fun K hK => ?_)
        apply quiet_val
        · intro w' hw'; obtain ⟨c0, c1⟩ := HD.out w' hw'; go_simp; rfl
        refine hK _ ?_
        clear hK K
        refine wpQuiet_norm (by go_simp; rfl) ?_
        refine quiet_want (by kernel_rfl) (fun K hK => ?_)
        apply quiet_val
        · intro w' hw'; obtain ⟨c0, c1⟩ := HD.out w' hw'; go_simp; rfl
        refine hK _ ?_
        clear hK K
        refine wpQuiet_norm (by go_simp; rfl) ?_
        refine quiet_want (by kernel_rfl) (fun K hK => ?_)
        apply quiet_val
        · intro w' hw'; obtain ⟨c0, c1⟩ := HD.out w' hw'; go_simp; rfl
        refine hK _ ?_
        clear hK K
        refine wpQuiet_norm (by go_simp; rfl) ?_
        refine quiet_want (by kernel_rfl) (fun K hK => ?_)
        apply quiet_val
        · intro w' hw'; obtain ⟨c0, c1⟩ := HD.out w' hw'; go_simp; rfl
        refine hK _ ?_
        clear hK K
        refine wpQuiet_norm (by go_simp; rfl) ?_
        refine quiet_want (by kernel_rfl) (fun K hK => ?_)
        apply quiet_val
        · intro w' hw'; obtain ⟨c0, c1⟩ := HD.out w' hw'; go_simp; rfl
        refine hK _ ?_
        clear hK K
        refine wpQuiet_norm (by go_simp; rfl) ?_
        refine quiet_want (by kernel_rfl) (fun K hK => ?_)
        apply quiet_val
        · intro w' hw'; obtain ⟨c0, c1⟩ := HD.out w' hw'; go_simp; rfl
        refine hK _ ?_
        clear hK K
        refine wpQuiet_norm (by go_simp; rfl) ?_
        refine quiet_want (by kernel_rfl) (fun K hK => ?_)
        apply quiet_val
        · intro w' hw'; obtain ⟨c0, c1⟩ := HD.out w' hw'; go_simp; rfl
        refine hK _ ?_
        clear hK K
        refine wpQuiet_norm (by go_simp; rfl) ?_
        refine quiet_want (by kernel_rfl) (fun K hK => ?_)
        apply quiet_val
        · intro w' hw'; obtain ⟨c0, c1⟩ := HD.out w' hw'; go_simp; rfl
        refine hK _ ?_
        clear hK K
        refine wpQuiet_norm (by go_simp; rfl) ?_
        refine quiet_want (by kernel_rfl) (fun K hK => ?_)
        apply quiet_val
        · intro w' hw'; obtain ⟨c0, c1⟩ := HD.out w' hw'; go_simp; rfl
        refine hK _ ?_
        clear hK K
        refine wpQuiet_norm (by go_simp; rfl) ?_
        refine quiet_want (by kernel_rfl) (fun K hK => ?_)
        apply quiet_val
        · intro w' hw'; obtain ⟨c0, c1⟩ := HD.out w' hw'; go_simp; rfl
        refine hK _ ?_
        clear hK K
        refine wpQuiet_norm (by go_simp; rfl) ?_
        refine quiet_want (by kernel_rfl) (fun K hK => ?_)
        apply quiet_val
        · intro w' hw'; obtain ⟨c0, c1⟩ := HD.out w' hw'; go_simp; rfl
        refine hK _ ?_
        clear hK K
        refine wpQuiet_norm (by go_simp; rfl) ?_
        refine quiet_want (by kernel_rfl) (fun K hK => ?_)
        apply quiet_val
        · intro w' hw'; obtain ⟨c0, c1⟩ := HD.out w' hw'; go_simp; rfl
        refine hK _ ?_
        clear hK K
        refine wpQuiet_norm (by go_simp; rfl) ?_
        refine quiet_want (by kernel_rfl) (fun K hK => ?_)
        apply quiet_val
        · intro w' hw'; obtain ⟨c0, c1⟩ := HD.out w' hw'; go_simp; rfl
        refine hK _ ?_
        clear hK K
        refine wpQuiet_norm (by go_simp; rfl) ?_
        refine quiet_want (by kernel_rfl) (fun K hK => ?_)
        apply quiet_val
        · intro w' hw'; obtain ⟨c0, c1⟩ := HD.out w' hw'; go_simp; rfl
        refine hK _ ?_
        clear hK K
        refine wpQuiet_norm (by go_simp; rfl) ?_
        refine quiet_want (by kernel_rfl) (fun K hK => ?_)
        apply quiet_val
        · intro w' hw'; obtain ⟨c0, c1⟩ := HD.out w' hw'; go_simp; rfl
        refine hK _ ?_
        clear hK K
        refine wpQuiet_norm (by go_simp; rfl) ?_
        refine quiet_want (by kernel_rfl) (fun K hK => ?_)
        apply quiet_val
        · intro w' hw'; obtain ⟨c0, c1⟩ := HD.out w' hw'; go_simp; rfl
        refine hK _ ?_
        clear hK K
        refine wpQuiet_norm (by go_simp; rfl) ?_
        refine quiet_want (by kernel_rfl) (fun K hK => ?_)
        apply quiet_val
        · intro w' hw'; obtain ⟨c0, c1⟩ := HD.out w' hw'; go_simp; rfl
        refine hK _ ?_
        clear hK K
        refine wpQuiet_norm (by go_simp; rfl) ?_
        refine quiet_want (by kernel_rfl) (fun K hK => ?_)
        apply quiet_val
        · intro w' hw'; obtain ⟨c0, c1⟩ := HD.out w' hw'; go_simp; rfl
        refine hK _ ?_
        clear hK K
        refine wpQuiet_norm (by go_simp; rfl) ?_
        refine quiet_want (by kernel_rfl) (fun K hK => ?_)
        apply quiet_val
        · intro w' hw'; obtain ⟨c0, c1⟩ := HD.out w' hw'; go_simp; rfl
        refine hK _ ?_
        clear hK K
        refine wpQuiet_norm (by go_simp; rfl) ?_
        refine quiet_want (by kernel_rfl) (fun K hK => ?_)
        apply quiet_val
        · intro w' hw'; obtain ⟨c0, c1⟩ := HD.out w' hw'; go_simp; rfl
        refine hK _ ?_
        clear hK K
        refine wpQuiet_norm (by go_simp; rfl) ?_
        refine quiet_want (by kernel_rfl) (fun K hK => ?_)
        apply quiet_val
        · intro w' hw'; obtain ⟨c0, c1⟩ := HD.out w' hw'; go_simp; rfl
        refine hK _ ?_
        clear hK K
        refine wpQuiet_norm (by go_simp; rfl) ?_
        refine quiet_want (by kernel_rfl) (fun K hK => ?_)
        apply quiet_val
        · intro w' hw'; obtain ⟨c0, c1⟩ := HD.out w' hw'; go_simp; rfl
        refine hK _ ?_
        clear hK K
        refine wpQuiet_norm (by go_simp; rfl) ?_
        refine quiet_want (by kernel_rfl) (fun K hK => ?_)
        apply quiet_val
        · intro w' hw'; obtain ⟨c0, c1⟩ := HD.out w' hw'; go_simp; rfl
        refine hK _ ?_
        clear hK K
        refine wpQuiet_norm (by go_simp; rfl) ?_
        refine quiet_skip (by kernel_rfl) ?_
        refine wpQuiet_norm (by go_simp; rfl) ?_
        refine quiet_skip (by kernel_rfl) ?_
        refine wpQuiet_norm (by go_simp; rfl) ?_
        refine quiet_skip (by kernel_rfl) ?_
        refine wpQuiet_norm (by go_simp; rfl) ?_
        refine quiet_skip (by kernel_rfl) ?_
        refine wpQuiet_norm (by go_simp; rfl) ?_
        refine quiet_skip (by kernel_rfl) ?_
        refine wpQuiet_norm (by go_simp; rfl) ?_
        refine quiet_skip (by kernel_rfl) ?_
        refine wpQuiet_norm (by go_simp; rfl) ?_
        refine quiet_want (by kernel_rfl) (fun K hK => ?_)
        apply quiet_val
        · intro w' hw'; obtain ⟨c0, c1⟩ := HD.out w' hw'; go_simp; rfl
        refine hK _ ?_
        clear hK K
        refine wpQuiet_norm (by go_simp; rfl) ?_
        refine quiet_want (by kernel_rfl) (fun K hK => ?_)
        apply quiet_val
        · intro w' hw'; obtain ⟨c0, c1⟩ := HD.out w' hw'; go_simp; rfl
        refine hK _ ?_
        clear hK K
        refine wpQuiet_norm (by go_simp; rfl) ?_
        refine quiet_skip (by kernel_rfl) ?_
        refine wpQuiet_norm (by go_simp; rfl) ?_
        refine quiet_skip (by kernel_rfl) ?_
        refine wpQuiet_norm (by go_simp; rfl) ?_
        refine quiet_skip (by kernel_rfl) ?_
        refine wpQuiet_norm (by go_simp; rfl) ?_
        refine quiet_skip (by kernel_rfl) ?_
        refine wpQuiet_norm (by go_simp; rfl) ?_
        refine quiet_skip (by kernel_rfl) ?_
        refine wpQuiet_norm (by go_simp; rfl) ?_
        refine quiet_skip (by kernel_rfl) ?_
        refine wpQuiet_norm (by go_simp; rfl) ?_
        refine quiet_skip (by kernel_rfl) ?_
        refine wpQuiet_norm (by go_simp; rfl) ?_
        refine quiet_skip (by kernel_rfl) ?_
        refine wpQuiet_norm (by go_simp; rfl) ?_
        refine wpQuiet_nil ?_
        intro z hz9
        have HZ := hid hz9.swap
        clear hz9
        go_wp2_with (first | (refine wpList_aggS HZ.out HL2.out rfl (.tmp 10) (.tmp 93) 40 rfl zero29 rfl rfl sizeC29 rfl rfl ?_; intro w5 h4; have HF := hid h4; clear h4))
        exact post_cell2S HF.out Tryz.results12 rfl rfl (ldC29 rfl HF.out) _ rfl ⟨HF.out.below, rest29F (HN.out)⟩
      · have HN : Hid (¬ RestOk self l next) := hid (by have h1 := h.2.2.2.2; exact bad_not hlt (by rw [← HE.out]; exact Or.inl (Or.inr (Or.inr (Or.inr (Or.inr h1))))))
        have g0 : decide (f < 0) = false := decide_eq_false (by omega)
        have g1 : decide (15 < f) = false := decide_eq_false (by omega)
        have g2 : (f == self) = false := by simp; omega
        have g3 : decide (t < 0) = false := decide_eq_false (by omega)
        have g4 : decide (65535 < t) = true := decide_eq_true (by omega)
        clear h
        go_wp2_with fail
        refine wp_region_quiet_tail (fun y => Sts w [blkP q (.cells (cou29 self chunk to re 1 (.slice none 0 0)) 40 (0, 0)), blkP (w.heap.size + 1 + 1) (.cells zero29 40 (0, 0)), blkP (w.heap.size + 1) (.cells #[.int .i64 chunk, .int .i64 to, .int .i64 re] 23 (0, 0)), blkP w.heap.size (.cells #[.int .i64 1, .int .i64 1, .slice none 0 0] 34 (0, 0))] y) 48 (by kernel_rfl) (Eq.trans (b := Region.lexTailB .any ops9.toArray 48) (by kernel_rfl) tail9_ok) (HS.out.drew HLL.out) ?_
        simp only [List.take_succ_cons, List.take_zero, List.drop_succ_cons, List.drop_zero]
        refine quiet_want (by kernel_rfl) (fun K hK => ?_)
        apply quiet_val
        · intro w' hw'; obtain ⟨c0, c1⟩ := HD.out w' hw'; go_simp; rfl
        refine hK _ ?_
        clear hK K
        refine wpQuiet_norm (by go_simp; rfl) ?_
        refine quiet_want (by kernel_rfl) (fun K hK => ?_)
        apply quiet_val
        · intro w' hw'; obtain ⟨c0, c1⟩ := HD.out w' hw'; go_simp; rfl
        refine hK _ ?_
        clear hK K
        refine wpQuiet_norm (by go_simp; rfl) ?_
        refine quiet_want (by kernel_rfl) (fun K hK => ?_)
        apply quiet_val
        · intro w' hw'; obtain ⟨c0, c1⟩ := HD.out w' hw'; go_simp; rfl
        refine hK _ ?_
        clear hK K
        refine wpQuiet_norm (by go_simp; rfl) ?_
        refine quiet_want (by kernel_rfl) (fun K hK => ?_)
        apply quiet_val
        · intro w' hw'; obtain ⟨c0, c1⟩ := HD.out w' hw'; go_simp; rfl
        refine hK _ ?_
        clear hK K
        refine wpQuiet_norm (by go_simp; rfl) ?_
        refine quiet_want (by kernel_rfl) (fun K hK => ?_)
        apply quiet_val
        · intro w' hw'; obtain ⟨c0, c1⟩ := HD.out w' hw'; go_simp; rfl
        refine hK _ ?_
        clear hK K
        refine wpQuiet_norm (by go_simp; rfl) ?_
        refine quiet_want (by kernel_rfl) (fun K hK => ?_)
        apply quiet_val
        · intro w' hw'; obtain ⟨c0, c1⟩ := HD.out w' hw'; go_simp; rfl
        refine hK _ ?_
        clear hK K
        refine wpQuiet_norm (by go_simp; rfl) ?_
        refine quiet_want (by kernel_rfl) (fun K hK => ?_)
        apply quiet_val
        · intro w' hw'; obtain ⟨c0, c1⟩ := HD.out w' hw'; go_simp; rfl
        refine hK _ ?_
        clear hK K
        refine wpQuiet_norm (by go_simp; rfl) ?_
        refine quiet_want (by kernel_rfl) (fun K hK => ?_)
        apply quiet_val
        · intro w' hw'; obtain ⟨c0, c1⟩ := HD.out w' hw'; go_simp; rfl
        refine hK _ ?_
        clear hK K
        refine wpQuiet_norm (by go_simp; rfl) ?_
        refine quiet_want (by kernel_rfl) (fun K hK => ?_)
        apply quiet_val
        · intro w' hw'; obtain ⟨c0, c1⟩ := HD.out w' hw'; go_simp; rfl
        refine hK _ ?_
        clear hK K
        refine wpQuiet_norm (by go_simp; rfl) ?_
        refine quiet_want (by kernel_rfl) (fun K hK => ?_)
        apply quiet_val
        · intro w' hw'; obtain ⟨c0, c1⟩ := HD.out w' hw'; go_simp; rfl
        refine hK _ ?_
        clear hK K
        refine wpQuiet_norm (by go_simp; rfl) ?_
        refine quiet_want (by kernel_rfl) (fun K hK => ?_)
        apply quiet_val
        · intro w' hw'; obtain ⟨c0, c1⟩ := HD.out w' hw'; go_simp; rfl
        refine hK _ ?_
        clear hK K
        refine wpQuiet_norm (by go_simp; rfl) ?_
        refine quiet_want (by kernel_rfl) (fun K hK => ?_)
        apply quiet_val
        · intro w' hw'; obtain ⟨c0, c1⟩ := HD.out w' hw'; go_simp; rfl
        refine hK _ ?_
        clear hK K
        refine wpQuiet_norm (by go_simp; rfl) ?_
        refine quiet_want (by kernel_rfl) (fun K hK => ?_)
        apply quiet_val
        · intro w' hw'; obtain ⟨c0, c1⟩ := HD.out w' hw'; go_simp; rfl
        refine hK _ ?_
        clear hK K
        refine wpQuiet_norm (by go_simp; rfl) ?_
        refine quiet_want (by kernel_rfl) (fun K hK => ?_)
        apply quiet_val
        · intro w' hw'; obtain ⟨c0, c1⟩ := HD.out w' hw'; go_simp; rfl
        refine hK _ ?_
        clear hK K
        refine wpQuiet_norm (by go_simp; rfl) ?_
        refine quiet_want (by kernel_rfl) (fun K hK => ?_)
        apply quiet_val
        · intro w' hw'; obtain ⟨c0, c1⟩ := HD.out w' hw'; go_simp; rfl
        refine hK _ ?_
        clear hK K
        refine wpQuiet_norm (by go_simp; rfl) ?_
        refine quiet_want (by kernel_rfl) (fun K hK => ?_)
        apply quiet_val
        · intro w' hw'; obtain ⟨c0, c1⟩ := HD.out w' hw'; go_simp; rfl
        refine hK _ ?_
        clear hK K
        refine wpQuiet_norm (by go_simp; rfl) ?_
        refine quiet_want (by kernel_rfl) (fun K hK => ?_)
        apply quiet_val
        · intro w' hw'; obtain ⟨c0, c1⟩ := HD.out w' hw'; go_simp; rfl
        refine hK _ ?_
        clear hK K
        refine wpQuiet_norm (by go_simp; rfl) ?_
        refine quiet_want (by kernel_rfl) (fun K hK => ?_)
        apply quiet_val
        · intro w' hw'; obtain ⟨c0, c1⟩ := HD.out w' hw'; go_simp; rfl
        refine hK _ ?_
        clear hK K
        refine wpQuiet_norm (by go_simp; rfl) ?_
        refine quiet_want (by kernel_rfl) (fun K hK => ?_)
        apply quiet_val
        · intro w' hw'; obtain ⟨c0, c1⟩ := HD.out w' hw'; go_simp; rfl
        refine hK _ ?_
        clear hK K
        refine wpQuiet_norm (by go_simp; rfl) ?_
        refine quiet_want (by kernel_rfl) (fun K hK => ?_)
        apply quiet_val
        · intro w' hw'; obtain ⟨c0, c1⟩ := HD.out w' hw'; go_simp; rfl
        refine hK _ ?_
        clear hK K
        refine wpQuiet_norm (by go_simp; rfl) ?_
        refine quiet_want (by kernel_rfl) (fun K hK => ?_)
        apply quiet_val
        · intro w' hw'; obtain ⟨c0, c1⟩ := HD.out w' hw'; go_simp; rfl
        refine hK _ ?_
        clear hK K
        refine wpQuiet_norm (by go_simp; rfl) ?_
        refine quiet_want (by kernel_rfl) (fun K hK => ?_)
        apply quiet_val
        · intro w' hw'; obtain ⟨c0, c1⟩ := HD.out w' hw'; go_simp; rfl
        refine hK _ ?_
        clear hK K
        refine wpQuiet_norm (by go_simp; rfl) ?_
        refine quiet_want (by kernel_rfl) (fun K hK => ?_)
        apply quiet_val
        · intro w' hw'; obtain ⟨c0, c1⟩ := HD.out w' hw'; go_simp; rfl
        refine hK _ ?_
        clear hK K
        refine wpQuiet_norm (by go_simp; rfl) ?_
        refine quiet_want (by kernel_rfl) (fun K hK => ?_)
        apply quiet_val
        · intro w' hw'; obtain ⟨c0, c1⟩ := HD.out w' hw'; go_simp; rfl
        refine hK _ ?_
        clear hK K
        refine wpQuiet_norm (by go_simp; rfl) ?_
        refine quiet_want (by kernel_rfl) (fun K hK => ?_)
        apply quiet_val
        · intro w' hw'; obtain ⟨c0, c1⟩ := HD.out w' hw'; go_simp; rfl
        refine hK _ ?_
        clear hK K
        refine wpQuiet_norm (by go_simp; rfl) ?_
        refine quiet_want (by kernel_rfl) (fun K hK => ?_)
        apply quiet_val
        · intro w' hw'; obtain ⟨c0, c1⟩ := HD.out w' hw'; go_simp; rfl
        refine hK _ ?_
        clear hK K
        refine wpQuiet_norm (by go_simp; rfl) ?_
        refine quiet_want (by kernel_rfl) (fun K hK => ?_)
        apply quiet_val
        · intro w' hw'; obtain ⟨c0, c1⟩ := HD.out w' hw'; go_simp; rfl
        refine hK _ ?_
        clear hK K
        refine wpQuiet_norm (by go_simp; rfl) ?_
        refine quiet_want (by kernel_rfl) (fun K hK => ?_)
        apply quiet_val
        · intro w' hw'; obtain ⟨c0, c1⟩ := HD.out w' hw'; go_simp; rfl
        refine hK _ ?_
        clear hK K
        refine wpQuiet_norm (by go_simp; rfl) ?_
        refine quiet_want (by kernel_rfl) (fun K hK => ?_)
        apply quiet_val
        · intro w' hw'; obtain ⟨c0, c1⟩ := HD.out w' hw'; go_simp; rfl
        refine hK _ ?_
        clear hK K
        refine wpQuiet_norm (by go_simp; rfl) ?_
        refine quiet_want (by kernel_rfl) (fun K hK => ?_)
        apply quiet_val
        · intro w' hw'; obtain ⟨c0, c1⟩ := HD.out w' hw'; go_simp; rfl
        refine hK _ ?_
        clear hK K
        refine wpQuiet_norm (by go_simp; rfl) ?_
        refine quiet_want (by kernel_rfl) (fun K hK => ?_)
        apply quiet_val
        · intro w' hw'; obtain ⟨c0, c1⟩ := HD.out w' hw'; go_simp; rfl
        refine hK _ ?_
        clear hK K
        refine wpQuiet_norm (by go_simp; rfl) ?_
        refine quiet_want (by kernel_rfl) (fun K hK => ?_)
        apply quiet_val
        · intro w' hw'; obtain ⟨c0, c1⟩ := HD.out w' hw'; go_simp; rfl
        refine hK _ ?_
        clear hK K
        refine wpQuiet_norm (by go_simp; rfl) ?_
        refine quiet_want (by kernel_rfl) (fun K hK => ?_)
        apply quiet_val
        · intro w' hw'; obtain ⟨c0, c1⟩ := HD.out w' hw'; go_simp; rfl
        refine hK _ ?_
        clear hK K
        refine wpQuiet_norm (by go_simp; rfl) ?_
        refine quiet_want (by kernel_rfl) (fun K hK => ?_)
        apply quiet_val
        · intro w' hw'; obtain ⟨c0, c1⟩ := HD.out w' hw'; go_simp; rfl
        refine hK _ ?_
        clear hK K
        refine wpQuiet_norm (by go_simp; rfl) ?_
        refine quiet_want (by kernel_rfl) (fun K hK => ?_)
        apply quiet_val
        · intro w' hw'; obtain ⟨c0, c1⟩ := HD.out w' hw'; go_simp; rfl
        refine hK _ ?_
        clear hK K
        refine wpQuiet_norm (by go_simp; rfl) ?_
        refine quiet_want (by kernel_rfl) (fun K hK => ?_)
        apply quiet_val
        · intro w' hw'; obtain ⟨c0, c1⟩ := HD.out w' hw'; go_simp; rfl
        refine hK _ ?_
        clear hK K
        refine wpQuiet_norm (by go_simp; rfl) ?_
        refine quiet_want (by kernel_rfl) (fun K hK => ?_)
        apply quiet_val
        · intro w' hw'; obtain ⟨c0, c1⟩ := HD.out w' hw'; go_simp; rfl
        refine hK _ ?_
        clear hK K
        refine wpQuiet_norm (by go_simp; rfl) ?_
        refine quiet_want (by kernel_rfl) (fun K hK => ?_)
        apply quiet_val
        · intro w' hw'; obtain ⟨c0, c1⟩ := HD.out w' hw'; go_simp; rfl
        refine hK _ ?_
        clear hK K
        refine wpQuiet_norm (by go_simp; rfl) ?_
        refine quiet_want (by kernel_rfl) (fun K hK => ?_)
        apply quiet_val
        · intro w' hw'; obtain ⟨c0, c1⟩ := HD.out w' hw'; go_simp; rfl
        refine hK _ ?_
        clear hK K
        refine wpQuiet_norm (by go_simp; rfl) ?_
        refine quiet_want (by kernel_rfl) (fun K hK => ?_)
        apply quiet_val
        · intro w' hw'; obtain ⟨c0, c1⟩ := HD.out w' hw'; go_simp; rfl
        refine hK _ ?_
        clear hK K
        refine wpQuiet_norm (by go_simp; rfl) ?_
        refine quiet_skip (by kernel_rfl) ?_
        refine wpQuiet_norm (by go_simp; rfl) ?_
        refine quiet_skip (by kernel_rfl) ?_
        refine wpQuiet_norm (by go_simp; rfl) ?_
        refine quiet_skip (by kernel_rfl) ?_
        refine wpQuiet_norm (by go_simp; rfl) ?_
        refine quiet_skip (by kernel_rfl) ?_
        refine wpQuiet_norm (by go_simp; rfl) ?_
        refine quiet_skip (by kernel_rfl) ?_
        refine wpQuiet_norm (by go_simp; rfl) ?_
        refine quiet_skip (by kernel_rfl) ?_
        refine wpQuiet_norm (by go_simp; rfl) ?_
        refine quiet_skip (by kernel_rfl) ?_
        refine wpQuiet_norm (by go_simp; rfl) ?_
        refine quiet_skip (by kernel_rfl) ?_
        refine wpQuiet_norm (by go_simp; rfl) ?_
        refine wpQuiet_nil ?_
        intro z hz9
        have HZ := hid hz9.swap
        clear hz9
        go_wp2_with (first | (refine wpList_aggS HZ.out HL2.out rfl (.tmp 10) (.tmp 93) 40 rfl zero29 rfl rfl sizeC29 rfl rfl ?_; intro w5 h4; have HF := hid h4; clear h4))
        exact post_cell2S HF.out Tryz.results12 rfl rfl (ldC29 rfl HF.out) _ rfl ⟨HF.out.below, rest29F (HN.out)⟩
      · have HG : Hid (¬ IdBad self (f, t)) := hid (by unfold IdBad; omega)
        have g0 : decide (f < 0) = false := decide_eq_false (by omega)
        have g1 : decide (15 < f) = false := decide_eq_false (by omega)
        have g2 : (f == self) = false := by simp; omega
        have g3 : decide (t < 0) = false := decide_eq_false (by omega)
        have g4 : decide (65535 < t) = false := decide_eq_false (by omega)
        have hsl := fun x => run_slice_toF x ⟨b, off, none⟩ l.length cap k hlt HCAP.out.1
        clear h
        by_cases hin : (f, t) ∈ l.take k
        · have HIN := hid hin
          clear hin
          go_wp2_with fail
          refine wp_region_quiet_tail (fun y => Sts w [blkP q (.cells (cou29 self chunk to re 1 (.slice none 0 0)) 40 (0, 0)), blkP (w.heap.size + 1 + 1) (.cells zero29 40 (0, 0)), blkP (w.heap.size + 1) (.cells #[.int .i64 chunk, .int .i64 to, .int .i64 re] 23 (0, 0)), blkP w.heap.size (.cells #[.int .i64 1, .int .i64 1, .slice none 0 0] 34 (0, 0))] y) 48 (by kernel_rfl) (Eq.trans (b := Region.lexTailB .any ops9.toArray 48) (by kernel_rfl) tail9_ok) (HS.out.drew HLL.out) ?_
          simp only [List.take_succ_cons, List.take_zero, List.drop_succ_cons, List.drop_zero]
          refine quiet_want (by kernel_rfl) (fun K hK => ?_)
          apply quiet_val
          · intro w' hw'; obtain ⟨c0, c1⟩ := HD.out w' hw'; go_simp; rfl
          refine hK _ ?_
          clear hK K
          refine wpQuiet_norm (by go_simp; rfl) ?_
          refine quiet_want (by kernel_rfl) (fun K hK => ?_)
          apply quiet_val
          · intro w' hw'; obtain ⟨c0, c1⟩ := HD.out w' hw'; go_simp; rfl
          refine hK _ ?_
          clear hK K
          refine wpQuiet_norm (by go_simp; rfl) ?_
          refine quiet_want (by kernel_rfl) (fun K hK => ?_)
          apply quiet_val
          · intro w' hw'; obtain ⟨c0, c1⟩ := HD.out w' hw'; go_simp; rfl
          refine hK _ ?_
          clear hK K
          refine wpQuiet_norm (by go_simp; rfl) ?_
          refine quiet_want (by kernel_rfl) (fun K hK => ?_)
          apply quiet_val
          · intro w' hw'; obtain ⟨c0, c1⟩ := HD.out w' hw'; go_simp; rfl
          refine hK _ ?_
          clear hK K
          refine wpQuiet_norm (by go_simp; rfl) ?_
          refine quiet_want (by kernel_rfl) (fun K hK => ?_)
          apply quiet_val
          · intro w' hw'; obtain ⟨c0, c1⟩ := HD.out w' hw'; go_simp; rfl
          refine hK _ ?_
          clear hK K
          refine wpQuiet_norm (by go_simp; rfl) ?_
          refine quiet_want (by kernel_rfl) (fun K hK => ?_)
          apply quiet_val
          · intro w' hw'; obtain ⟨c0, c1⟩ := HD.out w' hw'; go_simp; rfl
          refine hK _ ?_
          clear hK K
          refine wpQuiet_norm (by go_simp; rfl) ?_
          refine quiet_want (by kernel_rfl) (fun K hK => ?_)
          apply quiet_val
          · intro w' hw'; obtain ⟨c0, c1⟩ := HD.out w' hw'; go_simp; rfl
          refine hK _ ?_
          clear hK K
          refine wpQuiet_norm (by go_simp; rfl) ?_
          refine quiet_want (by kernel_rfl) (fun K hK => ?_)
          apply quiet_val
          · intro w' hw'; obtain ⟨c0, c1⟩ := HD.out w' hw'; go_simp; rfl
          refine hK _ ?_
          clear hK K
          refine wpQuiet_norm (by go_simp; rfl) ?_
          refine quiet_want (by kernel_rfl) (fun K hK => ?_)
          apply quiet_val
          · intro w' hw'; obtain ⟨c0, c1⟩ := HD.out w' hw'; go_simp; rfl
          refine hK _ ?_
          clear hK K
          refine wpQuiet_norm (by go_simp; rfl) ?_
          refine quiet_want (by kernel_rfl) (fun K hK => ?_)
          apply quiet_val
          · intro w' hw'; obtain ⟨c0, c1⟩ := HD.out w' hw'; go_simp; rfl
          refine hK _ ?_
          clear hK K
          refine wpQuiet_norm (by go_simp; rfl) ?_
          refine quiet_want (by kernel_rfl) (fun K hK => ?_)
          apply quiet_val
          · intro w' hw'; obtain ⟨c0, c1⟩ := HD.out w' hw'; go_simp; rfl
          refine hK _ ?_
          clear hK K
          refine wpQuiet_norm (by go_simp; rfl) ?_
          refine quiet_want (by kernel_rfl) (fun K hK => ?_)
          apply quiet_val
          · intro w' hw'; obtain ⟨c0, c1⟩ := HD.out w' hw'; go_simp; rfl
          refine hK _ ?_
          clear hK K
          refine wpQuiet_norm (by go_simp; rfl) ?_
          refine quiet_want (by kernel_rfl) (fun K hK => ?_)
          apply quiet_val
          · intro w' hw'; obtain ⟨c0, c1⟩ := HD.out w' hw'; go_simp; rfl
          refine hK _ ?_
          clear hK K
          refine wpQuiet_norm (by go_simp; rfl) ?_
          refine quiet_want (by kernel_rfl) (fun K hK => ?_)
          apply quiet_val
          · intro w' hw'; obtain ⟨c0, c1⟩ := HD.out w' hw'; go_simp; rfl
          refine hK _ ?_
          clear hK K
          refine wpQuiet_norm (by go_simp; rfl) ?_
          refine quiet_want (by kernel_rfl) (fun K hK => ?_)
          apply quiet_val
          · intro w' hw'; obtain ⟨c0, c1⟩ := HD.out w' hw'; go_simp; rfl
          refine hK _ ?_
          clear hK K
          refine wpQuiet_norm (by go_simp; rfl) ?_
          refine quiet_want (by kernel_rfl) (fun K hK => ?_)
          apply quiet_val
          · intro w' hw'; obtain ⟨c0, c1⟩ := HD.out w' hw'; go_simp; rfl
          refine hK _ ?_
          clear hK K
          refine wpQuiet_norm (by go_simp; rfl) ?_
          refine quiet_want (by kernel_rfl) (fun K hK => ?_)
          apply quiet_val
          · intro w' hw'; obtain ⟨c0, c1⟩ := HD.out w' hw'; go_simp; rfl
          refine hK _ ?_
          clear hK K
          refine wpQuiet_norm (by go_simp; rfl) ?_
          refine quiet_want (by kernel_rfl) (fun K hK => ?_)
          apply quiet_val
          · intro w' hw'; obtain ⟨c0, c1⟩ := HD.out w' hw'; go_simp; rfl
          refine hK _ ?_
          clear hK K
          refine wpQuiet_norm (by go_simp; rfl) ?_
          refine quiet_want (by kernel_rfl) (fun K hK => ?_)
          apply quiet_val
          · intro w' hw'; obtain ⟨c0, c1⟩ := HD.out w' hw'; go_simp; rfl
          refine hK _ ?_
          clear hK K
          refine wpQuiet_norm (by go_simp; rfl) ?_
          refine quiet_want (by kernel_rfl) (fun K hK => ?_)
          apply quiet_val
          · intro w' hw'; obtain ⟨c0, c1⟩ := HD.out w' hw'; go_simp; rfl
          refine hK _ ?_
          clear hK K
          refine wpQuiet_norm (by go_simp; rfl) ?_
          refine quiet_want (by kernel_rfl) (fun K hK => ?_)
          apply quiet_val
          · intro w' hw'; obtain ⟨c0, c1⟩ := HD.out w' hw'; go_simp; rfl
          refine hK _ ?_
          clear hK K
          refine wpQuiet_norm (by go_simp; rfl) ?_
          refine quiet_want (by kernel_rfl) (fun K hK => ?_)
          apply quiet_val
          · intro w' hw'; obtain ⟨c0, c1⟩ := HD.out w' hw'; go_simp; rfl
          refine hK _ ?_
          clear hK K
          refine wpQuiet_norm (by go_simp; rfl) ?_
          refine quiet_want (by kernel_rfl) (fun K hK => ?_)
          apply quiet_val
          · intro w' hw'; obtain ⟨c0, c1⟩ := HD.out w' hw'; go_simp; rfl
          refine hK _ ?_
          clear hK K
          refine wpQuiet_norm (by go_simp; rfl) ?_
          refine quiet_want (by kernel_rfl) (fun K hK => ?_)
          apply quiet_val
          · intro w' hw'; obtain ⟨c0, c1⟩ := HD.out w' hw'; go_simp; rfl
          refine hK _ ?_
          clear hK K
          refine wpQuiet_norm (by go_simp; rfl) ?_
          refine quiet_want (by kernel_rfl) (fun K hK => ?_)
          apply quiet_val
          · intro w' hw'; obtain ⟨c0, c1⟩ := HD.out w' hw'; go_simp; rfl
          refine hK _ ?_
          clear hK K
          refine wpQuiet_norm (by go_simp; rfl) ?_
          refine quiet_want (by kernel_rfl) (fun K hK => ?_)
          apply quiet_val
          · intro w' hw'; obtain ⟨c0, c1⟩ := HD.out w' hw'; go_simp; rfl
          refine hK _ ?_
          clear hK K
          refine wpQuiet_norm (by go_simp; rfl) ?_
          refine quiet_want (by kernel_rfl) (fun K hK => ?_)
          apply quiet_val
          · intro w' hw'; obtain ⟨c0, c1⟩ := HD.out w' hw'; go_simp; rfl
          refine hK _ ?_
          clear hK K
          refine wpQuiet_norm (by go_simp; rfl) ?_
          refine quiet_want (by kernel_rfl) (fun K hK => ?_)
          apply quiet_val
          · intro w' hw'; obtain ⟨c0, c1⟩ := HD.out w' hw'; go_simp; rfl
          refine hK _ ?_
          clear hK K
          refine wpQuiet_norm (by go_simp; rfl) ?_
          refine quiet_want (by kernel_rfl) (fun K hK => ?_)
          apply quiet_val
          · intro w' hw'; obtain ⟨c0, c1⟩ := HD.out w' hw'; go_simp; rfl
          refine hK _ ?_
          clear hK K
          refine wpQuiet_norm (by go_simp; rfl) ?_
          refine quiet_want (by kernel_rfl) (fun K hK => ?_)
          apply quiet_val
          · intro w' hw'; obtain ⟨c0, c1⟩ := HD.out w' hw'; go_simp; rfl
          refine hK _ ?_
          clear hK K
          refine wpQuiet_norm (by go_simp; rfl) ?_
          refine quiet_want (by kernel_rfl) (fun K hK => ?_)
          apply quiet_val
          · intro w' hw'; obtain ⟨c0, c1⟩ := HD.out w' hw'; go_simp; rfl
          refine hK _ ?_
          clear hK K
          refine wpQuiet_norm (by go_simp; rfl) ?_
          refine quiet_want (by kernel_rfl) (fun K hK => ?_)
          apply quiet_val
          · intro w' hw'; obtain ⟨c0, c1⟩ := HD.out w' hw'; go_simp; rfl
          refine hK _ ?_
          clear hK K
          refine wpQuiet_norm (by go_simp; rfl) ?_
          refine quiet_want (by kernel_rfl) (fun K hK => ?_)
          apply quiet_val
          · intro w' hw'; obtain ⟨c0, c1⟩ := HD.out w' hw'; go_simp; rfl
          refine hK _ ?_
          clear hK K
          refine wpQuiet_norm (by go_simp; rfl) ?_
          refine quiet_want (by kernel_rfl) (fun K hK => ?_)
          apply quiet_val
          · intro w' hw'; obtain ⟨c0, c1⟩ := HD.out w' hw'; go_simp; rfl
          refine hK _ ?_
          clear hK K
          refine wpQuiet_norm (by go_simp; rfl) ?_
          refine quiet_want (by kernel_rfl) (fun K hK => ?_)
          apply quiet_val
          · intro w' hw'; obtain ⟨c0, c1⟩ := HD.out w' hw'; go_simp; rfl
          refine hK _ ?_
          clear hK K
          refine wpQuiet_norm (by go_simp; rfl) ?_
          refine quiet_want (by kernel_rfl) (fun K hK => ?_)
          apply quiet_val
          · intro w' hw'; obtain ⟨c0, c1⟩ := HD.out w' hw'; go_simp; rfl
          refine hK _ ?_
          clear hK K
          refine wpQuiet_norm (by go_simp; rfl) ?_
          refine quiet_want (by kernel_rfl) (fun K hK => ?_)
          apply quiet_val
          · intro w' hw'; obtain ⟨c0, c1⟩ := HD.out w' hw'; go_simp; rfl
          refine hK _ ?_
          clear hK K
          refine wpQuiet_norm (by go_simp; rfl) ?_
          refine quiet_want (by kernel_rfl) (fun K hK => ?_)
          apply quiet_val
          · intro w' hw'; obtain ⟨c0, c1⟩ := HD.out w' hw'; go_simp; rfl
          refine hK _ ?_
          clear hK K
          refine wpQuiet_norm (by go_simp; rfl) ?_
          refine quiet_want (by kernel_rfl) (fun K hK => ?_)
          apply quiet_val
          · intro w' hw'; obtain ⟨c0, c1⟩ := HD.out w' hw'; go_simp; rfl
          refine hK _ ?_
          clear hK K
          refine wpQuiet_norm (by go_simp; rfl) ?_
          refine quiet_want (by kernel_rfl) (fun K hK => ?_)
          apply quiet_val
          · intro w' hw'; obtain ⟨c0, c1⟩ := HD.out w' hw'; go_simp; rfl
          refine hK _ ?_
          clear hK K
          refine wpQuiet_norm (by go_simp; rfl) ?_
          refine quiet_want (by kernel_rfl) (fun K hK => ?_)
          apply quiet_val
          · intro w' hw'; obtain ⟨c0, c1⟩ := HD.out w' hw'; go_simp; rfl
          refine hK _ ?_
          clear hK K
          refine wpQuiet_norm (by go_simp; rfl) ?_
          refine quiet_want (by kernel_rfl) (fun K hK => ?_)
          apply quiet_val
          · intro w' hw'; obtain ⟨c0, c1⟩ := HD.out w' hw'; go_simp; rfl
          refine hK _ ?_
          clear hK K
          refine wpQuiet_norm (by go_simp; rfl) ?_
          refine quiet_want (by kernel_rfl) (fun K hK => ?_)
          apply quiet_val
          · intro w' hw'; obtain ⟨c0, c1⟩ := HD.out w' hw'; go_simp; rfl
          refine hK _ ?_
          clear hK K
          refine wpQuiet_norm (by go_simp; rfl) ?_
          refine quiet_want (by kernel_rfl) (fun K hK => ?_)
          apply quiet_val
          · intro w' hw'; obtain ⟨c0, c1⟩ := HD.out w' hw'; go_simp; rfl
          refine hK _ ?_
          clear hK K
          refine wpQuiet_norm (by go_simp; rfl) ?_
          refine quiet_want (by kernel_rfl) (fun K hK => ?_)
          apply quiet_val
          · intro w' hw'; obtain ⟨c0, c1⟩ := HD.out w' hw'; go_simp; rfl
          refine hK _ ?_
          clear hK K
          refine wpQuiet_norm (by go_simp; rfl) ?_
          refine quiet_want (by kernel_rfl) (fun K hK => ?_)
          apply quiet_val
          · intro w' hw'; obtain ⟨c0, c1⟩ := HD.out w' hw'; go_simp; rfl
          refine hK _ ?_
          clear hK K
          refine wpQuiet_norm (by go_simp; rfl) ?_
          refine quiet_want (by kernel_rfl) (fun K hK => ?_)
          apply quiet_val
          · intro w' hw'; obtain ⟨c0, c1⟩ := HD.out w' hw'; go_simp; rfl
          refine hK _ ?_
          clear hK K
          refine wpQuiet_norm (by go_simp; rfl) ?_
          refine quiet_want (by kernel_rfl) (fun K hK => ?_)
          refine quiet_call (.bool true) 47 #[.slice (some ⟨b, off, none⟩) k cap, .agg #[.int .i64 f, .int .i64 t]] (fun w' => ?_) (fun w' hw' => ?_) ?_
          · go_simp
          · refine (cHasF w' _ (l.take k) ((HRD.out.takeF k hk).below hw'.below) (by rw [List.length_take]; omega) f t).mono ?_
            rintro e w6 ⟨hb6, bb, rfl, hiff⟩
            obtain rfl : bb = true := hiff.2 HIN.out
            exact ⟨rfl, hw'.quiet HLL.out hb6⟩
          refine hK _ ?_
          clear hK K
          refine wpQuiet_norm (by go_simp; rfl) ?_
          refine wpQuiet_nil ?_
          intro z hz9
          have HZ := hid hz9.swap
          clear hz9
          go_wp2_with (first | (refine wpList_aggS HZ.out HL2.out rfl (.tmp 10) (.tmp 93) 40 rfl zero29 rfl rfl sizeC29 rfl rfl ?_; intro w5 h4; have HF := hid h4; clear h4))
          exact post_cell2S HF.out Tryz.results12 rfl rfl (ldC29 rfl HF.out) _ rfl ⟨HF.out.below, rest29F (bad_not hlt (by rw [← HE.out]; exact Or.inr HIN.out))⟩
        · have HIN := hid hin
          clear hin
          go_wp2_with fail
          refine wp_region_quiet_tail (fun y => Sts w [blkP q (.cells (cou29 self chunk to re 1 (.slice none 0 0)) 40 (0, 0)), blkP (w.heap.size + 1 + 1) (.cells zero29 40 (0, 0)), blkP (w.heap.size + 1) (.cells #[.int .i64 chunk, .int .i64 to, .int .i64 re] 23 (0, 0)), blkP w.heap.size (.cells #[.int .i64 1, .int .i64 1, .slice none 0 0] 34 (0, 0))] y) 48 (by kernel_rfl) (Eq.trans (b := Region.lexTailB .any ops9.toArray 48) (by kernel_rfl) tail9_ok) (HS.out.drew HLL.out) ?_
          simp only [List.take_succ_cons, List.take_zero, List.drop_succ_cons, List.drop_zero]
          refine quiet_want (by kernel_rfl) (fun K hK => ?_)
          apply quiet_val
          · intro w' hw'; obtain ⟨c0, c1⟩ := HD.out w' hw'; go_simp; rfl
          refine hK _ ?_
          clear hK K
          refine wpQuiet_norm (by go_simp; rfl) ?_
          refine quiet_want (by kernel_rfl) (fun K hK => ?_)
          apply quiet_val
          · intro w' hw'; obtain ⟨c0, c1⟩ := HD.out w' hw'; go_simp; rfl
          refine hK _ ?_
          clear hK K
          refine wpQuiet_norm (by go_simp; rfl) ?_
          refine quiet_want (by kernel_rfl) (fun K hK => ?_)
          apply quiet_val
          · intro w' hw'; obtain ⟨c0, c1⟩ := HD.out w' hw'; go_simp; rfl
          refine hK _ ?_
          clear hK K
          refine wpQuiet_norm (by go_simp; rfl) ?_
          refine quiet_want (by kernel_rfl) (fun K hK => ?_)
          apply quiet_val
          · intro w' hw'; obtain ⟨c0, c1⟩ := HD.out w' hw'; go_simp; rfl
          refine hK _ ?_
          clear hK K
          refine wpQuiet_norm (by go_simp; rfl) ?_
          refine quiet_want (by kernel_rfl) (fun K hK => ?_)
          apply quiet_val
          · intro w' hw'; obtain ⟨c0, c1⟩ := HD.out w' hw'; go_simp; rfl
          refine hK _ ?_
          clear hK K
          refine wpQuiet_norm (by go_simp; rfl) ?_
          refine quiet_want (by kernel_rfl) (fun K hK => ?_)
          apply quiet_val
          · intro w' hw'; obtain ⟨c0, c1⟩ := HD.out w' hw'; go_simp; rfl
          refine hK _ ?_
          clear hK K
          refine wpQuiet_norm (by go_simp; rfl) ?_
          refine quiet_want (by kernel_rfl) (fun K hK => ?_)
          apply quiet_val
          · intro w' hw'; obtain ⟨c0, c1⟩ := HD.out w' hw'; go_simp; rfl
          refine hK _ ?_
          clear hK K
          refine wpQuiet_norm (by go_simp; rfl) ?_
          refine quiet_want (by kernel_rfl) (fun K hK => ?_)
          apply quiet_val
          · intro w' hw'; obtain ⟨c0, c1⟩ := HD.out w' hw'; go_simp; rfl
          refine hK _ ?_
          clear hK K
          refine wpQuiet_norm (by go_simp; rfl) ?_
          refine quiet_want (by kernel_rfl) (fun K hK => ?_)
          apply quiet_val
          · intro w' hw'; obtain ⟨c0, c1⟩ := HD.out w' hw'; go_simp; rfl
          refine hK _ ?_
          clear hK K
          refine wpQuiet_norm (by go_simp; rfl) ?_
          refine quiet_want (by kernel_rfl) (fun K hK => ?_)
          apply quiet_val
          · intro w' hw'; obtain ⟨c0, c1⟩ := HD.out w' hw'; go_simp; rfl
          refine hK _ ?_
          clear hK K
          refine wpQuiet_norm (by go_simp; rfl) ?_
          refine quiet_want (by kernel_rfl) (fun K hK => ?_)
          apply quiet_val
          · intro w' hw'; obtain ⟨c0, c1⟩ := HD.out w' hw'; go_simp; rfl
          refine hK _ ?_
          clear hK K
          refine wpQuiet_norm (by go_simp; rfl) ?_
          refine quiet_want (by kernel_rfl) (fun K hK => ?_)
          apply quiet_val
          · intro w' hw'; obtain ⟨c0, c1⟩ := HD.out w' hw'; go_simp; rfl
          refine hK _ ?_
          clear hK K
          refine wpQuiet_norm (by go_simp; rfl) ?_
          refine quiet_want (by kernel_rfl) (fun K hK => ?_)
          apply quiet_val
          · intro w' hw'; obtain ⟨c0, c1⟩ := HD.out w' hw'; go_simp; rfl
          refine hK _ ?_
          clear hK K
          refine wpQuiet_norm (by go_simp; rfl) ?_
          refine quiet_want (by kernel_rfl) (fun K hK => ?_)
          apply quiet_val
          · intro w' hw'; obtain ⟨c0, c1⟩ := HD.out w' hw'; go_simp; rfl
          refine hK _ ?_
          clear hK K
          refine wpQuiet_norm (by go_simp; rfl) ?_
          refine quiet_want (by kernel_rfl) (fun K hK => ?_)
          apply quiet_val
          · intro w' hw'; obtain ⟨c0, c1⟩ := HD.out w' hw'; go_simp; rfl
          refine hK _ ?_
          clear hK K
          refine wpQuiet_norm (by go_simp; rfl) ?_
          refine quiet_want (by kernel_rfl) (fun K hK => ?_)
          apply quiet_val
          · intro w' hw'; obtain ⟨c0, c1⟩ := HD.out w' hw'; go_simp; rfl
          refine hK _ ?_
          clear hK K
          refine wpQuiet_norm (by go_simp; rfl) ?_
          refine quiet_want (by kernel_rfl) (fun K hK => ?_)
          apply quiet_val
          · intro w' hw'; obtain ⟨c0, c1⟩ := HD.out w' hw'; go_simp; rfl
          refine hK _ ?_
          clear hK K
          refine wpQuiet_norm (by go_simp; rfl) ?_
          refine quiet_want (by kernel_rfl) (fun K hK => ?_)
          apply quiet_val
          · intro w' hw'; obtain ⟨c0, c1⟩ := HD.out w' hw'; go_simp; rfl
          refine hK _ ?_
          clear hK K
          refine wpQuiet_norm (by go_simp; rfl) ?_
          refine quiet_want (by kernel_rfl) (fun K hK => ?_)
          apply quiet_val
          · intro w' hw'; obtain ⟨c0, c1⟩ := HD.out w' hw'; go_simp; rfl
          refine hK _ ?_
          clear hK K
          refine wpQuiet_norm (by go_simp; rfl) ?_
          refine quiet_want (by kernel_rfl) (fun K hK => ?_)
          apply quiet_val
          · intro w' hw'; obtain ⟨c0, c1⟩ := HD.out w' hw'; go_simp; rfl
          refine hK _ ?_
          clear hK K
          refine wpQuiet_norm (by go_simp; rfl) ?_
          refine quiet_want (by kernel_rfl) (fun K hK => ?_)
          apply quiet_val
          · intro w' hw'; obtain ⟨c0, c1⟩ := HD.out w' hw'; go_simp; rfl
          refine hK _ ?_
          clear hK K
          refine wpQuiet_norm (by go_simp; rfl) ?_
          refine quiet_want (by kernel_rfl) (fun K hK => ?_)
          apply quiet_val
          · intro w' hw'; obtain ⟨c0, c1⟩ := HD.out w' hw'; go_simp; rfl
          refine hK _ ?_
          clear hK K
          refine wpQuiet_norm (by go_simp; rfl) ?_
          refine quiet_want (by kernel_rfl) (fun K hK => ?_)
          apply quiet_val
          · intro w' hw'; obtain ⟨c0, c1⟩ := HD.out w' hw'; go_simp; rfl
          refine hK _ ?_
          clear hK K
          refine wpQuiet_norm (by go_simp; rfl) ?_
          refine quiet_want (by kernel_rfl) (fun K hK => ?_)
          apply quiet_val
          · intro w' hw'; obtain ⟨c0, c1⟩ := HD.out w' hw'; go_simp; rfl
          refine hK _ ?_
          clear hK K
          refine wpQuiet_norm (by go_simp; rfl) ?_
          refine quiet_want (by kernel_rfl) (fun K hK => ?_)
          apply quiet_val
          · intro w' hw'; obtain ⟨c0, c1⟩ := HD.out w' hw'; go_simp; rfl
          refine hK _ ?_
          clear hK K
          refine wpQuiet_norm (by go_simp; rfl) ?_
          refine quiet_want (by kernel_rfl) (fun K hK => ?_)
          apply quiet_val
          · intro w' hw'; obtain ⟨c0, c1⟩ := HD.out w' hw'; go_simp; rfl
          refine hK _ ?_
          clear hK K
          refine wpQuiet_norm (by go_simp; rfl) ?_
          refine quiet_want (by kernel_rfl) (fun K hK => ?_)
          apply quiet_val
          · intro w' hw'; obtain ⟨c0, c1⟩ := HD.out w' hw'; go_simp; rfl
          refine hK _ ?_
          clear hK K
          refine wpQuiet_norm (by go_simp; rfl) ?_
          refine quiet_want (by kernel_rfl) (fun K hK => ?_)
          apply quiet_val
          · intro w' hw'; obtain ⟨c0, c1⟩ := HD.out w' hw'; go_simp; rfl
          refine hK _ ?_
          clear hK K
          refine wpQuiet_norm (by go_simp; rfl) ?_
          refine quiet_want (by kernel_rfl) (fun K hK => ?_)
          apply quiet_val
          · intro w' hw'; obtain ⟨c0, c1⟩ := HD.out w' hw'; go_simp; rfl
          refine hK _ ?_
          clear hK K
          refine wpQuiet_norm (by go_simp; rfl) ?_
          refine quiet_want (by kernel_rfl) (fun K hK => ?_)
          apply quiet_val
          · intro w' hw'; obtain ⟨c0, c1⟩ := HD.out w' hw'; go_simp; rfl
          refine hK _ ?_
          clear hK K
          refine wpQuiet_norm (by go_simp; rfl) ?_
          refine quiet_want (by kernel_rfl) (fun K hK => ?_)
          apply quiet_val
          · intro w' hw'; obtain ⟨c0, c1⟩ := HD.out w' hw'; go_simp; rfl
          refine hK _ ?_
          clear hK K
          refine wpQuiet_norm (by go_simp; rfl) ?_
          refine quiet_want (by kernel_rfl) (fun K hK => ?_)
          apply quiet_val
          · intro w' hw'; obtain ⟨c0, c1⟩ := HD.out w' hw'; go_simp; rfl
          refine hK _ ?_
          clear hK K
          refine wpQuiet_norm (by go_simp; rfl) ?_
          refine quiet_want (by kernel_rfl) (fun K hK => ?_)
          apply quiet_val
          · intro w' hw'; obtain ⟨c0, c1⟩ := HD.out w' hw'; go_simp; rfl
          refine hK _ ?_
          clear hK K
          refine wpQuiet_norm (by go_simp; rfl) ?_
          refine quiet_want (by kernel_rfl) (fun K hK => ?_)
          apply quiet_val
          · intro w' hw'; obtain ⟨c0, c1⟩ := HD.out w' hw'; go_simp; rfl
          refine hK _ ?_
          clear hK K
          refine wpQuiet_norm (by go_simp; rfl) ?_
          refine quiet_want (by kernel_rfl) (fun K hK => ?_)
          apply quiet_val
          · intro w' hw'; obtain ⟨c0, c1⟩ := HD.out w' hw'; go_simp; rfl
          refine hK _ ?_
          clear hK K
          refine wpQuiet_norm (by go_simp; rfl) ?_
          refine quiet_want (by kernel_rfl) (fun K hK => ?_)
          apply quiet_val
          · intro w' hw'; obtain ⟨c0, c1⟩ := HD.out w' hw'; go_simp; rfl
          refine hK _ ?_
          clear hK K
          refine wpQuiet_norm (by go_simp; rfl) ?_
          refine quiet_want (by kernel_rfl) (fun K hK => ?_)
          apply quiet_val
          · intro w' hw'; obtain ⟨c0, c1⟩ := HD.out w' hw'; go_simp; rfl
          refine hK _ ?_
          clear hK K
          refine wpQuiet_norm (by go_simp; rfl) ?_
          refine quiet_want (by kernel_rfl) (fun K hK => ?_)
          apply quiet_val
          · intro w' hw'; obtain ⟨c0, c1⟩ := HD.out w' hw'; go_simp; rfl
          refine hK _ ?_
          clear hK K
          refine wpQuiet_norm (by go_simp; rfl) ?_
          refine quiet_want (by kernel_rfl) (fun K hK => ?_)
          apply quiet_val
          · intro w' hw'; obtain ⟨c0, c1⟩ := HD.out w' hw'; go_simp; rfl
          refine hK _ ?_
          clear hK K
          refine wpQuiet_norm (by go_simp; rfl) ?_
          refine quiet_want (by kernel_rfl) (fun K hK => ?_)
          apply quiet_val
          · intro w' hw'; obtain ⟨c0, c1⟩ := HD.out w' hw'; go_simp; rfl
          refine hK _ ?_
          clear hK K
          refine wpQuiet_norm (by go_simp; rfl) ?_
          refine quiet_want (by kernel_rfl) (fun K hK => ?_)
          apply quiet_val
          · intro w' hw'; obtain ⟨c0, c1⟩ := HD.out w' hw'; go_simp; rfl
          refine hK _ ?_
          clear hK K
          refine wpQuiet_norm (by go_simp; rfl) ?_
          refine quiet_want (by kernel_rfl) (fun K hK => ?_)
          apply quiet_val
          · intro w' hw'; obtain ⟨c0, c1⟩ := HD.out w' hw'; go_simp; rfl
          refine hK _ ?_
          clear hK K
          refine wpQuiet_norm (by go_simp; rfl) ?_
          refine quiet_want (by kernel_rfl) (fun K hK => ?_)
          apply quiet_val
          · intro w' hw'; obtain ⟨c0, c1⟩ := HD.out w' hw'; go_simp; rfl
          refine hK _ ?_
          clear hK K
          refine wpQuiet_norm (by go_simp; rfl) ?_
          refine quiet_want (by kernel_rfl) (fun K hK => ?_)
          apply quiet_val
          · intro w' hw'; obtain ⟨c0, c1⟩ := HD.out w' hw'; go_simp; rfl
          refine hK _ ?_
          clear hK K
          refine wpQuiet_norm (by go_simp; rfl) ?_
          refine quiet_want (by kernel_rfl) (fun K hK => ?_)
          apply quiet_val
          · intro w' hw'; obtain ⟨c0, c1⟩ := HD.out w' hw'; go_simp; rfl
          refine hK _ ?_
          clear hK K
          refine wpQuiet_norm (by go_simp; rfl) ?_
          refine quiet_want (by kernel_rfl) (fun K hK => ?_)
          apply quiet_val
          · intro w' hw'; obtain ⟨c0, c1⟩ := HD.out w' hw'; go_simp; rfl
          refine hK _ ?_
          clear hK K
          refine wpQuiet_norm (by go_simp; rfl) ?_
          refine quiet_want (by kernel_rfl) (fun K hK => ?_)
          apply quiet_val
          · intro w' hw'; obtain ⟨c0, c1⟩ := HD.out w' hw'; go_simp; rfl
          refine hK _ ?_
          clear hK K
          refine wpQuiet_norm (by go_simp; rfl) ?_
          refine quiet_want (by kernel_rfl) (fun K hK => ?_)
          refine quiet_call (.bool false) 47 #[.slice (some ⟨b, off, none⟩) k cap, .agg #[.int .i64 f, .int .i64 t]] (fun w' => ?_) (fun w' hw' => ?_) ?_
          · go_simp
          · refine (cHasF w' _ (l.take k) ((HRD.out.takeF k hk).below hw'.below) (by rw [List.length_take]; omega) f t).mono ?_
            rintro e w6 ⟨hb6, bb, rfl, hiff⟩
            obtain rfl : bb = false := by cases bb with | false => rfl | true => exact absurd (hiff.1 rfl) HIN.out
            exact ⟨rfl, hw'.quiet HLL.out hb6⟩
          refine hK _ ?_
          clear hK K
          refine wpQuiet_norm (by go_simp; rfl) ?_
          refine wpQuiet_nil ?_
          intro z hz9
          have HZ := hid hz9
          clear hz9
          go_wp2_with fail
          go_roundw
          case rel =>
            refine ⟨k + 1, by omega, by go_num, fun j hj => ?_, HZ.out⟩
            by_cases hjk : j = k
            · subst hjk
              intro _
              rw [← HE.out]
              exact ⟨HG.out, HIN.out⟩
            · exact HP.out j (by omega)
          case measure => simp [intOf]; omega
    · obtain rfl : k = l.length := by omega
      clear HX HCAP
      have HRDZ := hid (HRD.out.below HS.out.below)
      have HAL := hid (HS.out.alloc HLL.out (.cells #[] 38))
      have HAR := hid (HAL.out.weaken (B := rowP 38 2 (.slice (some ⟨wr.heap.size, 0, none⟩) 0 0) 0 []) (fun F h => blkP.rowR (n := 0) (cap := 0) h (by omega) rfl (by unfold maxLen; omega)))
      have HOKK : Hid (RestOk self l next) := hid ⟨HOK.out.1, HOK.out.2.1, HOK.out.2.2, fun j => by
        by_cases hj : j < l.length
        · exact HP.out j hj
        · intro h; exact absurd h hj⟩
      go_wp2_with (first
        | (at_builtin; refine wpList_appendRF (l := []) (m := l) rfl (.tmp 94) (.tmp 95) rfl HAR.out HLL.out rfl _ rfl (HRDZ.out.below ((Below.refl _ _).alloc (Nat.le_refl _) _)) (by simpa using hn) ?_; intro v1 w5 hz5; obtain ⟨va, vn, vc, rfl⟩ := row_sliceF hz5; have HY := hid hz5; clear hz5)
        | (refine wpList_cellS (HY.out.swap) (stabC (rowP_stable _ _ _ _ _) (stabC (blkP_stable _ _) HT.out)) rfl (.tmp 97) (.tmp 96) 24 rfl 10 (.slice va vn vc) rfl rfl szFs (show 10 < 16 by decide) rfl ?_; intro w7 h7; have HY2 := hid h7; clear h7)
        | (refine wpList_cellS HY2.out (stabC (rowP_stable _ _ _ _ _) (stabC (blkP_stable _ _) HT.out)) rfl (.tmp 99) (.tmp 98) 3 rfl 7 (.int .i64 next) rfl rfl szInt (show 7 < 16 by decide) rfl ?_; intro w8 h8; have HY3 := hid h8; clear h8)
        | (refine wpList_ldS rfl (.tmp 12) 40 rfl rfl (.agg (cou29 self chunk to re next (.slice va vn vc))) (ldC29 rfl HY3.out) ?_)
        | (refine wpList_aggS (HY3.out.third) (stabC (blkP_stable _ _) (stabC (rowP_stable _ _ _ _ _) HT.out)) rfl (.tmp 10) (.tmp 100) 40 rfl (cou29 self chunk to re next (.slice va vn vc)) rfl rfl sizeC29 rfl rfl ?_; intro w9 h9; have HF := hid h9; clear h9))
      exact post_cell2S HF.out Tryz.results12 rfl rfl (ldC29 rfl HF.out) _ rfl ⟨HF.out.below, rest29T HOKK.out⟩
end Go.Proofs.YtgidckkcibplgaaGreat
