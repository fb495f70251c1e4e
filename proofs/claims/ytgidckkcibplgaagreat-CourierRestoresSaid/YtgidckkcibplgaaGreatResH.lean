/- The specification's Restore. The specification's Restore: the order of its long region. -/
import Derived.Test.YtgidckkcibplgaaGreatResG
import Derived.Test.YtgidckkcibplgaaGreatQuietTail
set_option linter.unusedVariables false
set_option linter.unusedSimpArgs false
set_option linter.unusedSectionVars false
namespace Go.Proofs.YtgidckkcibplgaaGreat
open Go.RowKit Go.Proofs.Num
/-- What Restore answers. -/
def Rest29 (self : Int) (l : List Rng.R) (next : Int) (e : Ending) : Prop := ∃ cs : Array Value, cs.size = 16 ∧ cs.toList.all (fun v => v.oneCell') = true ∧ ((e = .returned (.tuple #[.agg cs, .int .i64 1]) ∧ ¬ RestOk self l next) ∨ (e = .returned (.tuple #[.agg cs, .int .i64 0]) ∧ RestOk self l next))
theorem rest29F {self : Int} {l : List Rng.R} {next : Int} (h : ¬ RestOk self l next) : Rest29 self l next (.returned (.tuple #[.agg zero29, .int .i64 1])) := ⟨zero29, rfl, rfl, Or.inl ⟨rfl, h⟩⟩
theorem rest29T {self self' chunk to re : Int} {l : List Rng.R} {next next' : Int} {va : Option Addr} {vn vc : Nat} (h : RestOk self l next) : Rest29 self l next (.returned (.tuple #[.agg (cou29 self' chunk to re next' (.slice va vn vc)), .int .i64 0])) := ⟨_, rfl, rfl, Or.inr ⟨rfl, h⟩⟩
set_option maxRecDepth 100000 in
set_option maxHeartbeats 8000000 in
theorem cRRest29F (w : World) (a : Option Addr) (cap : Nat) (l : List Rng.R) (hn : l.length < 1000000) (self chunk to re next : Int) (h3 : 0 ≤ self ∧ self ≤ 15) (h4 : 1 ≤ chunk ∧ chunk ≤ 512) (h5 : 1 ≤ to ∧ to ≤ 1048576) (h6 : 0 ≤ re ∧ re ≤ 255) (hb : ¬ (l.length ≤ 256 ∧ 1 ≤ next ∧ next ≤ 65536)) :
    Calls Tryz.prog 12 #[.int .i64 self, .agg #[.int .i64 1, .int .i64 1, .slice none 0 0], .agg #[.int .i64 chunk, .int .i64 to, .int .i64 re], .slice a l.length cap, .int .i64 next] w fun e w' => Below w.heap.size w w' ∧ Rest29 self l next e := by
  have HN := hid (show ¬ RestOk self l next from fun h => hb ⟨h.1, h.2.1, h.2.2.1⟩)
  have e1 : (w.alloc (.cells #[.int .i64 1, .int .i64 1, .slice none 0 0] 34)).heap.size = w.heap.size + 1 := Array.size_push ..
  have e2 : ((w.alloc (.cells #[.int .i64 1, .int .i64 1, .slice none 0 0] 34)).alloc (.cells #[.int .i64 chunk, .int .i64 to, .int .i64 re] 23)).heap.size = w.heap.size + 1 + 1 := by show (Array.push _ _).size = _; rw [Array.size_push, e1]
  have H1 := (Sts.nil w).alloc stab0 (.cells #[.int .i64 1, .int .i64 1, .slice none 0 0] 34)
  have H2 := H1.alloc (stab1 (blkP_stable _ _)) (.cells #[.int .i64 chunk, .int .i64 to, .int .i64 re] 23)
  have HS := H2.alloc (stabC (blkP_stable _ _) (stab1 (blkP_stable _ _))) (.cells zero29 40)
  rw [e1, e2] at HS
  have HS2 := hid HS
  have HT := hid (show ∀ B ∈ [blkP (w.heap.size + 1) (.cells #[.int .i64 chunk, .int .i64 to, .int .i64 re] 23 (0, 0)), blkP w.heap.size (.cells #[.int .i64 1, .int .i64 1, .slice none 0 0] 34 (0, 0))], Stable B from stabC (blkP_stable _ _) (stab1 (blkP_stable _ _)))
  clear HS H1 H2 e1 e2
  have hz29 : zero29 = #[.int .i64 0, .int .i64 0, .int .i64 0, .slice none 0 0, .int .i64 0, .int .i64 0, .int .i64 0, .int .i64 0, .int .i64 0, .slice none 0 0, .slice none 0 0, .slice none 0 0, .bool false, .int .i64 0, .int .i64 0, .bool false] := rfl
  rw [hz29] at HS2
  have H3 := hid h3
  have H4 := hid h4
  have H5 := hid h5
  have H6 := hid h6
  clear h3 h4 h5 h6 hz29
  generalize l.length = m at *
  rcases (by omega : 256 < m ∨ (¬ (256 < m) ∧ next < 1) ∨ (¬ (256 < m) ∧ ¬ (next < 1) ∧ 65536 < next)) with h | h | h
  · have d1 : decide ((256 : Int) < (m : Int)) = true := decide_eq_true (by omega)
    have d1' : (256 : Int) < (m : Int) := by omega
    clear h hb hn
    go_enter Tryz.func12, Tryz.ntmps12
    go_wp2_with (first
      | (go_at_call 33; refine (cRNew29T (stabC (blkP_stable _ _) HT.out) self chunk to re HS2.out H3.out H4.out H5.out H6.out).mono ?_; rintro e w2 ⟨rfl, h⟩; unfold cou29; have HA := hid (h.alloc (stabC (blkP_stable _ _) HT.out) (.cells zero29 40)); clear h HS2)
      | (refine wpList_aggS HA.out (stabC (blkP_stable _ _) HT.out) rfl (.tmp 12) (.tmp 20) 40 rfl (cou29 self chunk to re 1 (.slice none 0 0)) rfl rfl sizeC29 rfl rfl ?_; intro w4 h4; have HB := hid h4; clear h4 HA; have HBS := hid HB.out.swap; have HTB := hid (stabC (blkP_stable w2.heap.size (.cells (cou29 self chunk to re 1 (.slice none 0 0)) 40 (0, 0))) HT.out))
      | (refine wpList_aggS HBS.out HTB.out rfl (.tmp 10) (.tmp 37) 40 rfl zero29 rfl rfl sizeC29 rfl rfl ?_; intro w5 h4; have HD := hid h4; clear h4))
    exact post_cell2S HD.out Tryz.results12 rfl rfl (ldC29 rfl HD.out) _ rfl ⟨HD.out.below, rest29F HN.out⟩
  · have d1 : decide ((256 : Int) < (m : Int)) = false := decide_eq_false (by omega)
    have d2 : decide (next < 1) = true := decide_eq_true h.2
    clear h hb hn
    go_enter Tryz.func12, Tryz.ntmps12
    go_wp2_with (first
      | (go_at_call 33; refine (cRNew29T (stabC (blkP_stable _ _) HT.out) self chunk to re HS2.out H3.out H4.out H5.out H6.out).mono ?_; rintro e w2 ⟨rfl, h⟩; unfold cou29; have HA := hid (h.alloc (stabC (blkP_stable _ _) HT.out) (.cells zero29 40)); clear h HS2)
      | (refine wpList_aggS HA.out (stabC (blkP_stable _ _) HT.out) rfl (.tmp 12) (.tmp 20) 40 rfl (cou29 self chunk to re 1 (.slice none 0 0)) rfl rfl sizeC29 rfl rfl ?_; intro w4 h4; have HB := hid h4; clear h4 HA; have HBS := hid HB.out.swap; have HTB := hid (stabC (blkP_stable w2.heap.size (.cells (cou29 self chunk to re 1 (.slice none 0 0)) 40 (0, 0))) HT.out))
      | (refine wpList_aggS HBS.out HTB.out rfl (.tmp 10) (.tmp 37) 40 rfl zero29 rfl rfl sizeC29 rfl rfl ?_; intro w5 h4; have HD := hid h4; clear h4))
    exact post_cell2S HD.out Tryz.results12 rfl rfl (ldC29 rfl HD.out) _ rfl ⟨HD.out.below, rest29F HN.out⟩
  · have d1 : decide ((256 : Int) < (m : Int)) = false := decide_eq_false (by omega)
    have d2 : decide (next < 1) = false := decide_eq_false h.2.1
    have d3 : decide (65536 < next) = true := decide_eq_true h.2.2
    clear h hb hn
    go_enter Tryz.func12, Tryz.ntmps12
    go_wp2_with (first
      | (go_at_call 33; refine (cRNew29T (stabC (blkP_stable _ _) HT.out) self chunk to re HS2.out H3.out H4.out H5.out H6.out).mono ?_; rintro e w2 ⟨rfl, h⟩; unfold cou29; have HA := hid (h.alloc (stabC (blkP_stable _ _) HT.out) (.cells zero29 40)); clear h HS2)
      | (refine wpList_aggS HA.out (stabC (blkP_stable _ _) HT.out) rfl (.tmp 12) (.tmp 20) 40 rfl (cou29 self chunk to re 1 (.slice none 0 0)) rfl rfl sizeC29 rfl rfl ?_; intro w4 h4; have HB := hid h4; clear h4 HA; have HBS := hid HB.out.swap; have HTB := hid (stabC (blkP_stable w2.heap.size (.cells (cou29 self chunk to re 1 (.slice none 0 0)) 40 (0, 0))) HT.out))
      | (refine wpList_aggS HBS.out HTB.out rfl (.tmp 10) (.tmp 37) 40 rfl zero29 rfl rfl sizeC29 rfl rfl ?_; intro w5 h4; have HD := hid h4; clear h4))
    exact post_cell2S HD.out Tryz.results12 rfl rfl (ldC29 rfl HD.out) _ rfl ⟨HD.out.below, rest29F HN.out⟩
end Go.Proofs.YtgidckkcibplgaaGreat
namespace Go.Proofs.YtgidckkcibplgaaGreat
open Go.RowKit Go.Proofs.Num
/-- The operations of a region that draws its order. -/
def regOps (n : Nat) : Code → List Oper
  | .region id ops true => if id = n then ops.toList else []
  | .seq a b => regOps n a ++ regOps n b
  | .cond _ a b => regOps n a ++ regOps n b
  | .block _ c => regOps n c
  | .loop c => regOps n c
  | _ => []
def bodyOf (f : Func) : Code := match f.body with | some c => c | none => .skip
noncomputable def ops9 : List Oper := regOps 9 (bodyOf Tryz.f12)
set_option maxRecDepth 100000 in
theorem tail9_ok : Region.lexTailB .any ops9.toArray 48 = true := by kernel_rfl
end Go.Proofs.YtgidckkcibplgaaGreat
