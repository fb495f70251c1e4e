/- The pseudo-random sequence: its first bytes. The specification's integers and byte strings as bytes. The specification's reader: numbers of bytes, integers, byte strings. The pseudo-random sequence upon bytes. The checksum at a frame's end: the program's check. The specification's frame of the uplink, decoded. -/
import Derived.Test.YtnklmadmenkdoaaGreatQScbB
import Derived.Test.YtnklmadmenkdoaaGreatQSndG
import Derived.Test.YtnklmadmenkdoaaGreatQSndN
import Derived.Test.YtnklmadmenkdoaaGreatQCrcMath
import Derived.Test.YtnklmadmenkdoaaGreatQSnrA
set_option linter.unusedVariables false
set_option linter.unusedSimpArgs false
namespace Scr
/-- The first n bytes. -/
def seq (n : Nat) : List Nat := (List.range n).map byt
theorem seq_len (n : Nat) : (seq n).length = n := by simp [seq]
theorem seq_succ (n : Nat) : seq (n + 1) = seq n ++ [byt n] := by simp [seq, List.range_succ]
end Scr
namespace Go.Proofs.Num
open Go.RowKit
/-- What owns cells alone. -/
def CellsP (A : HProp) : Prop := ∀ w F, A w F → ∀ k, F k → ∃ cs t fr, w.heap[k]? = some (.cells cs t fr)
theorem blkP_cells (b : Nat) (cs : Array Value) (t : TypeId) (fr : Nat × Nat) : CellsP (blkP b (.cells cs t fr)) := fun w F h k hk => by
  rw [(h.2 k).1 hk]; exact ⟨_, _, _, h.1⟩
theorem rowP_cells (e : TypeId) (s : Nat) (v : Value) (n : Nat) (xs : List Value) : CellsP (rowP e s v n xs) := fun w F h k hk => by
  have hv := (h.2 k).1 hk
  rcases h.1.2 with ⟨h1, _⟩ | ⟨g, cap, cur, hv2, _, hg, _⟩
  · rw [h1] at hv; simp [Value.ownBlock] at hv
  · rw [hv2] at hv; simp [Value.ownBlock] at hv; subst hv; exact ⟨_, _, _, hg⟩
theorem cellsC {A : HProp} {l : List HProp} (h : CellsP A) (hl : ∀ B ∈ l, CellsP B) : ∀ B ∈ A :: l, CellsP B := by
  intro B hB
  rcases List.mem_cons.1 hB with rfl | hB
  · exact h
  · exact hl B hB
theorem stars_cells : ∀ {l : List HProp}, (∀ B ∈ l, CellsP B) → ∀ w F, stars l w F → ∀ k, F k → ∃ cs t fr, w.heap[k]? = some (.cells cs t fr)
  | [], _, w, F, h, k, hk => (h k hk).elim
  | A :: l, hc, w, F, ⟨F1, F2, a, r, _, hF⟩, k, hk => by
    rcases (hF k).1 hk with h | h
    · exact hc A (by simp) w F1 a k h
    · exact stars_cells (fun B hB => hc B (by simp [hB])) w F2 r k h
/-- A block that is no cells turns. -/
theorem Sts.turn {W w w1 : World} {l : List HProp} (hl : ∀ A ∈ l, Stable A) (hc : ∀ A ∈ l, CellsP A) (h : Sts W l w) {row : Option Nat} (hg : w.grownBy w1 row) (hr : ∀ r, row = some r → W.heap.size ≤ r ∧ ∃ o : Obj, w.heap[r]? = some o ∧ o.isCells = false) : Sts W l w1 := by
  obtain ⟨F, a, hb, hn⟩ := h
  have hk : Keep (fun k => row = some k) w w1 := Keep.of_grown hg (fun k hk _ => hk)
  refine ⟨F, (stars_stable hl).keep a hk (fun k h2 h1 => ?_), hb.grown hg hb.size (fun k hk => (hr k hk).1), hn⟩
  obtain ⟨_, o, ho, hcf⟩ := hr k h1
  obtain ⟨cs, t, fr, hq⟩ := stars_cells hc w F a k h2
  rw [hq] at ho
  injection ho with ho
  subst ho
  cases hcf
end Go.Proofs.Num
namespace Go.Proofs.YtnklmadmenkdoaaGreat
open Go.RowKit Go.Shelf Go.Proofs.Num
set_option maxRecDepth 100000 in
theorem wpListIn_app8 {F : Fence} {n : Nat} {ops : Array Oper} {rest : List Oper} {o : Oper} {a : Act} {Q : Exit → Act → World → Prop} {W w : World} {L : List HProp} {v : Value} {l m : List Nat} (hgd : o.guard = none) (s x : Operand)
    (ho : o.op = .call { callee := .builtin .append, args := #[s, x], argTypes := #[35, 35] }) (hS : Sts W (rowP 5 1 v l.length (u8s l) :: L) w) (hL : ∀ B ∈ L, Stable B)
    (hs : a.eval s = v) (ad : Addr) (c : Nat) (hx : a.eval x = .slice (some ad) m.length c) (hnews : ∀ j u, (u8s m)[j]? = some u → w.cell? (ad.add j) = some u) (hlen : l.length + m.length < 1000000000)
    (h : ∀ v' w', Sts W (rowP 5 1 v' (l.length + m.length) (u8s (l ++ m)) :: L) w' → KeepsOthers w w' → wpListIn F n Tryz.prog ops Q rest (a.put o.dst v') w') : wpListIn F n Tryz.prog ops Q (o :: rest) a w := by
  refine wpListIn_plain hgd fun K hK' => ?_
  obtain ⟨i0, hi, hz0, hz1, hz2⟩ := info_parts info8
  obtain ⟨v', w', hrun, hown, hgr, _, hbl⟩ := run_append_own_at (P := Tryz.prog) w 0 35 o.type 5 i0 (.int .u8 0) 1 1 Tryz.underlying35 hi hz0 hz1 hz2 rfl (by decide) v l.length (u8s l) (Sts.rowOwn hS) ad m.length c (u8s m) (by rw [u8s_len, Nat.mul_one]) hnews (u8s_one m) (by unfold maxLen; omega) (by omega) (Nat.zero_le _)
  have hS2 := Sts.grown hL hS hgr hown (by
    intro k hk
    rcases hbl with h | h
    · exact Or.inl (h ▸ hk)
    · rw [h] at hk; injection hk with hk; exact Or.inr (by omega))
  rw [show u8s l ++ u8s m = u8s (l ++ m) by simp [u8s]] at hS2
  have hko : KeepsOthers w w' := KeepsOthers.of_grownBy hgr (fun j ob hj hob => by
    obtain ⟨F1, q⟩ := hS.head
    obtain ⟨cs, t, fr, hq⟩ := rowP_cells _ _ _ _ _ w F1 q j ((q.2 j).2 hj)
    rw [hq] at hob; injection hob with hob; subst hob; rfl)
  unfold Oper.wpIn
  refine ⟨?_, ?_⟩
  · simp [Oper.about, ho, resolve, Target.leads, Sem.run_pure]
  · rw [Oper.semAt_plain F _ _ (by rw [ho]; intro c hc'; cases hc')]
    simp [execOp, ho, resolve, invoke, builtin, hs, hx, hrun, Result.andThen]
    exact hK' _ _ (h v' w' (by first | exact hS2 | simpa using hS2) hko)
set_option maxRecDepth 100000 in
theorem cScrAll (w : World) : Calls Tryz.prog 255 #[] w fun e w' => e = .returned (.func (.func 285) #[] #[]) ∧ w = w' := by
  go_enter Tryz.func255, Tryz.ntmps255
  go_wp2
  go_ret
  exact ⟨rfl, rfl⟩
theorem row_shape {W w : World} {e : TypeId} {v : Value} {n : Nat} {xs : List Value} {L : List HProp} (h : Sts W (rowP e 1 v n xs :: L) w) : ∃ a c, v = .slice a n c := by
  rcases h.rowOwn.2 with ⟨h1, h2⟩ | ⟨g, cap, cur, hv, _⟩
  · exact ⟨none, 0, by rw [h1, h2]⟩
  · exact ⟨_, cap, hv⟩
attribute [local go_sem] Oper.semAt_some
set_option maxRecDepth 100000 in
set_option maxHeartbeats 2000000 in
theorem cScrSeq (w : World) (n : Nat) (hn : n < 100000000) : Calls Tryz.prog 200 #[.int .i64 (n : Int)] w fun e w' => ∃ r, e = .returned r ∧ New w w' 5 r (u8s (Scr.seq n)) := by
  refine (callsIn_wide (n := 3)).1 ?_
  refine callsIn_of_wp_marks Tryz.func200 rfl trivial ?_ rfl
  simp only [Tryz.ntmps200, List.size_toArray, List.length_cons, List.length_nil, Nat.reduceAdd, Nat.reduceSub, Array.replicate_succ, Array.replicate_zero, List.push_toArray, List.append_toArray, List.nil_append, List.cons_append]
  gi_wp2_with (refine ⟨trivial, ?_⟩; gi_at_call 255; refine (callsIn_wide.2 (cScrAll _)).mono ?_; rintro e w' ⟨rfl, rfl⟩)
  have hA0 := Sts.alloc stab0 (Sts.nil w) (.cells #[.int .i64 (n : Int)] 3)
  have hA1 := hA0.alloc (stabC (blkP_stable _ _) stab0) (.cells #[.slice none 0 0] 35)
  have hA2 := hA1.alloc (stabC (blkP_stable _ _) (stabC (blkP_stable _ _) stab0)) (.cells #[.slice none 0 0] 35)
  have hz1 : (w.alloc (.cells #[.int .i64 (n : Int)] 3)).heap.size = w.heap.size + 1 := by simp
  have hz2 : ((w.alloc (.cells #[.int .i64 (n : Int)] 3)).alloc (.cells #[.slice none 0 0] 35)).heap.size = w.heap.size + 1 + 1 := by simp
  rw [hz2, hz1] at hA2
  generalize hW0 : ((w.alloc (.cells #[.int .i64 (n : Int)] 3)).alloc (.cells #[.slice none 0 0] 35)).alloc (.cells #[.slice none 0 0] 35) = W0 at *
  have hB0 := hA2.below.size
  have hrow := Sts.new (stabC (blkP_stable _ _) (stabC (blkP_stable _ _) (stabC (blkP_stable _ _) stab0))) hA2 (e := 5) (v := .slice none 0 0) (ys := []) ⟨own_nil _ _ _ _, Below.refl _ _⟩
  refine wpIn_endless (F := Fence.wide) rfl (by decide) (gf := 285) (lb := #[]) rfl trivial (enters_of Tryz.func285 (by kernel_rfl) rfl) (enc := fun k => .int .u8 (Scr.byt k : Int)) (N := n) (scr_iter Fence.wide 2 trivial rfl (by decide) n W0) (Below.refl _ _)
    (fun k W => k ≤ n ∧ ∃ v, Sts w [rowP 5 1 v k (u8s (Scr.seq k)), blkP (w.heap.size + 1 + 1) (.cells #[v] 35 (0, 0)), blkP w.heap.size (.cells #[.int .i64 (n : Int)] 3 (0, 0)), blkP (w.heap.size + 1) (.cells #[.slice none 0 0] 35 (0, 0))] W)
    (fun k W => ∃ v, Sts w [rowP 5 1 v n (u8s (Scr.seq n)), blkP (w.heap.size + 1 + 1) (.cells #[v] 35 (0, 0)), blkP w.heap.size (.cells #[.int .i64 (n : Int)] 3 (0, 0)), blkP (w.heap.size + 1) (.cells #[v] 35 (0, 0))] W)
    (fun s A B row hs hg hr => ⟨hs.1, hs.2.imp fun v h => Sts.turn (stabC (rowP_stable _ _ _ _ _) (stabC (blkP_stable _ _) (stabC (blkP_stable _ _) (stabC (blkP_stable _ _) stab0)))) (cellsC (rowP_cells _ _ _ _ _) (cellsC (blkP_cells _ _ _ _) (cellsC (blkP_cells _ _ _ _) (cellsC (blkP_cells _ _ _ _) (fun B hB => by simp at hB))))) h hg (fun r hr' => ⟨Nat.le_trans hB0 (hr r hr').1, (hr r hr').2⟩)⟩)
    (fun s A B row hs hg hr => hs.imp fun v h => Sts.turn (stabC (rowP_stable _ _ _ _ _) (stabC (blkP_stable _ _) (stabC (blkP_stable _ _) (stabC (blkP_stable _ _) stab0)))) (cellsC (rowP_cells _ _ _ _ _) (cellsC (blkP_cells _ _ _ _) (cellsC (blkP_cells _ _ _ _) (cellsC (blkP_cells _ _ _ _) (fun B hB => by simp at hB))))) h hg (fun r hr' => ⟨Nat.le_trans hB0 (hr r hr').1, (hr r hr').2⟩))
    ⟨Nat.zero_le _, .slice none 0 0, hrow.perm ((List.Perm.cons _ (List.Perm.cons _ (List.Perm.swap _ _ _))))⟩
    (fun k => { tmps := #[.int .i64 (n : Int), .pointer (some ⟨w.heap.size, 0, none⟩), .pointer (some ⟨w.heap.size + 1, 0, none⟩), .pointer (some ⟨w.heap.size + 1 + 1, 0, none⟩), .int .u8 (Scr.byt k : Int), .func (.func 285) #[] #[], .int .u8 (Scr.byt k : Int), undef, undef, undef, undef, undef, undef, undef, undef, undef, undef], defers := [] }) ?assign ?body ?stop
  case assign =>
    intro l k W K hK
    gi_wp2
    exact hK
  case body =>
    rintro l k W ⟨hk, v, hs⟩ hkn
    obtain ⟨va, vc, rfl⟩ := row_shape hs
    have c3 : W.cell? ⟨w.heap.size + 1 + 1, 0, none⟩ = some (.slice va k vc) := (Sts.boxCell hs.tail 0 _ rfl).1
    have f3 : W.frozen? ⟨w.heap.size + 1 + 1, 0, none⟩ = false := (Sts.boxCell hs.tail 0 _ rfl).2
    have c1 : W.cell? ⟨w.heap.size, 0, none⟩ = some (.int .i64 (n : Int)) := (Sts.boxCell hs.tail.tail 0 _ rfl).1
    have c2 : W.cell? ⟨w.heap.size + 1, 0, none⟩ = some (.slice none 0 0) := (Sts.boxCell hs.tail.tail.tail 0 _ rfl).1
    have f2 : W.frozen? ⟨w.heap.size + 1, 0, none⟩ = false := (Sts.boxCell hs.tail.tail.tail 0 _ rfl).2
    by_cases hlt : k < n
    · have d1 : decide ((n : Int) ≤ (k : Int)) = false := decide_eq_false (by omega)
      have d2 : decide (n ≤ k) = false := decide_eq_false (by omega)
      obtain ⟨d, hd⟩ : ∃ d, d = Scr.byt k := ⟨_, rfl⟩
      rw [← hd]
      have hs1 : Sts w (rowP 5 1 (.slice va k vc) (Scr.seq k).length (u8s (Scr.seq k)) :: [blkP (w.heap.size + 1 + 1) (.cells #[.slice va k vc] 35 (0, 0)), blkP w.heap.size (.cells #[.int .i64 (n : Int)] 3 (0, 0)), blkP (w.heap.size + 1) (.cells #[.slice none 0 0] 35 (0, 0))]) W := by rw [Scr.seq_len]; exact hs
      have hst := (stabC (blkP_stable (w.heap.size + 1 + 1) (.cells #[.slice va k vc] 35 (0, 0))) (stabC (blkP_stable w.heap.size (.cells #[.int .i64 (n : Int)] 3 (0, 0))) (stabC (blkP_stable (w.heap.size + 1) (.cells #[.slice none 0 0] 35 (0, 0))) stab0)))
      have h1 := (Sts.alloc (stabC (rowP_stable _ _ _ _ _) hst) hs1 (.cells #[.int .u8 (d : Int)] 5)).swap
      have hb1 : (W.alloc (.cells #[.int .u8 (d : Int)] 5)).heap[W.heap.size]? = some (.cells #[.int .u8 (d : Int)] 5 (0, 0)) := by obtain ⟨F, hF⟩ := h1.swap.head; exact hF.1
      have H1 := hid h1
      have HN := hid (news_blk hb1 (news := u8s [d]) rfl)
      have HD := hid hd
      have HST := hid (stabC (blkP_stable W.heap.size (.cells #[.int .u8 (d : Int)] 5 (0, 0))) hst)
      clear hs1 hst h1 hb1 hd
      have HLN : Hid ((Scr.seq k).length + [d].length < 1000000000) := hid (by rw [Scr.seq_len, List.length_singleton]; omega)
      gi_wp2_with (gi_at_builtin; go_loud (apply wpListIn_app8 (s := .tmp 12) (x := .tmp 14) (hS := H1.out) (hL := HST.out) (hgd := rfl) (ad := ⟨W.heap.size, 0, none⟩) (m := [d]) (v := .slice va k vc)); (case ho => rfl); (case hs => rfl); (case hx => rfl); (case hnews => exact HN.out); (case hlen => exact HLN.out); intro v' w' h' hk'; obtain ⟨va', vc', rfl⟩ := row_shape h'; have H2 := hid h'; have HK := hid hk'; have c3' : w'.cell? ⟨w.heap.size + 1 + 1, 0, none⟩ = some (.slice va k vc) := (Sts.boxCell h'.tail.tail 0 _ rfl).1; have f3' : w'.frozen? ⟨w.heap.size + 1 + 1, 0, none⟩ = false := (Sts.boxCell h'.tail.tail 0 _ rfl).2; clear h' hk')
      refine ⟨(KeepsOthers.alloc _ _).trans (HK.out.trans (KeepsOthers.setCell _ _ _)), ⟨by omega, .slice va' ((Scr.seq k).length + 1) vc', ?_⟩, hlt⟩
      have h3 := H2.out.swap.tail
      have h4 := Sts.store (stabC (rowP_stable _ _ _ _ _) (stabC (blkP_stable _ _) (stabC (blkP_stable _ _) stab0))) h3.swap (j := 0) (.slice va' ((Scr.seq k).length + 1) vc')
      rw [Scr.seq_succ, ← HD.out]
      rw [Scr.seq_len, List.length_singleton] at h4
      rw [Scr.seq_len]
      exact h4.swap
    · obtain rfl : k = n := by omega
      have d1 : decide ((k : Int) ≤ (k : Int)) = true := decide_eq_true (by omega)
      gi_wp2
      refine ⟨KeepsOthers.setCell _ _ _, .slice va k vc, ?_⟩
      have h4 := Sts.store (stabC (rowP_stable _ _ _ _ _) (stabC (blkP_stable _ _) (stabC (blkP_stable _ _) stab0))) (hs.perm (List.perm_middle (l₁ := [_, _, _]) (l₂ := []))) (j := 0) (.slice va k vc)
      exact h4.perm (List.perm_middle (l₁ := [_, _, _]) (l₂ := [])).symm
  case stop =>
    rintro D k W hD hk ⟨v, hs⟩ hdef
    gi_wp2
    refine ⟨by simp, .inl ⟨_, _, rfl, run_takeDeferred hdef, ?_⟩⟩
    have hpo := Sts.turn (stabC (rowP_stable _ _ _ _ _) (stabC (blkP_stable _ _) (stabC (blkP_stable _ _) (stabC (blkP_stable _ _) stab0)))) (cellsC (rowP_cells _ _ _ _ _) (cellsC (blkP_cells _ _ _ _) (cellsC (blkP_cells _ _ _ _) (cellsC (blkP_cells _ _ _ _) (fun B hB => by simp at hB))))) hs (grownBy_putObj' W D (.deferred none)) (fun r e => by cases e; exact ⟨Nat.le_trans hB0 hD, _, hdef, rfl⟩)
    have c2 := (Sts.boxCell hpo.tail.tail.tail 0 _ rfl).1
    refine ⟨v, ?_, v, rfl, New.of_sts (hpo.perm (List.perm_append_comm (l₁ := [_]) (l₂ := [_, _, _]))).tail.tail.tail (by rw [u8s_len, Scr.seq_len])⟩
    simp [results, Tryz.f200, go_sem, c2]
end Go.Proofs.YtnklmadmenkdoaaGreat
namespace Go.Proofs.YtnklmadmenkdoaaGreat
open Go.RowKit Go.Proofs.Num
theorem Sts.oneNew {W w : World} {v : Value} {ys : List Nat} {l : List HProp} (hl : ∀ B ∈ l, Stable B) (h : Sts W (rowP 5 1 v ys.length (u8s ys) :: l) w) (d : Nat) :
    Sts W (rowP 5 1 v ys.length (u8s ys) :: blkP w.heap.size (.cells #[.int .u8 (d : Int)] 5 (0, 0)) :: l) (w.alloc (.cells #[.int .u8 (d : Int)] 5)) ∧
    Rd (w.alloc (.cells #[.int .u8 (d : Int)] 5)) (.slice (some ⟨w.heap.size, 0, none⟩) 1 1) (u8s [d]) := by
  have h2 := Sts.alloc (stabC (rowP_stable _ _ _ _ _) hl) h (.cells #[.int .u8 (d : Int)] 5)
  refine ⟨h2.swap, ?_⟩
  obtain ⟨F, q⟩ := Sts.head h2
  exact blk_rd q.1 rfl rfl (by decide)
end Go.Proofs.YtnklmadmenkdoaaGreat
namespace Cmd
end Cmd
namespace Go.Proofs.YtnklmadmenkdoaaGreat
open Go.RowKit Go.Proofs.Num
/-- The byte k of what reads. -/
theorem RdB.byte {w : World} {b off n cap : Nat} {l : List Nat} (h : RdB w (.slice (some ⟨b, off, none⟩) n cap) l) {k y : Nat} (hk : l[k]? = some y) : w.cell? ⟨b, off + k, none⟩ = some (.int .u8 (y : Int)) ∧ y < 256 := by
  obtain ⟨hlt, hy⟩ := List.getElem?_eq_some_iff.1 hk
  obtain ⟨a, c, e, hx⟩ := RdB.open h
  obtain ⟨b', o', e1, _, e2⟩ := hx k hlt
  injection e with q1 q2 q3
  subst q1
  injection e1 with e1
  injection e1 with r1 r2 r3
  subst r1; subst r2
  rw [hy] at e2
  exact ⟨e2, h.2 y (hy ▸ List.getElem_mem hlt)⟩
end Go.Proofs.YtnklmadmenkdoaaGreat
namespace Scr
/-- The sequence upon the first k bytes. -/
def mix (xs : List Nat) (k : Nat) : List Nat := (List.range xs.length).map fun i => if i < k then byt i ^^^ xs.getD i 0 else byt i
theorem mix_len (xs : List Nat) (k : Nat) : (mix xs k).length = xs.length := by simp [mix]
theorem mix_zero (xs : List Nat) : mix xs 0 = seq xs.length := by simp [mix, seq]
theorem mix_get (xs : List Nat) (k i : Nat) (h : i < xs.length) : (mix xs k)[i]? = some (if i < k then byt i ^^^ xs.getD i 0 else byt i) := by
  simp [mix, List.getElem?_map, List.getElem?_range h]
theorem mix_set (xs : List Nat) (k : Nat) (h : k < xs.length) : (mix xs k).set k (byt k ^^^ xs[k]) = mix xs (k + 1) := by
  apply List.ext_getElem?
  intro i
  by_cases hi : i < xs.length
  · rw [List.getElem?_set, mix_get _ _ _ hi, mix_get _ _ _ hi, mix_len]
    by_cases e : k = i
    · subst e
      simp [hi]
    · rw [if_neg e]
      by_cases h2 : i < k
      · rw [if_pos h2, if_pos (by omega)]
      · rw [if_neg h2, if_neg (by omega)]
  · rw [List.getElem?_eq_none (by simp [mix_len]; omega), List.getElem?_eq_none (by simp [mix_len]; omega)]
theorem mix_lt (xs : List Nat) (k : Nat) (h : ∀ x ∈ xs, x < 256) : ∀ x ∈ mix xs k, x < 256 := by
  intro x hx
  simp only [mix, List.mem_map, List.mem_range] at hx
  obtain ⟨i, hi, rfl⟩ := hx
  split
  · refine Nat.xor_lt_two_pow (n := 8) (byt_lt i) ?_
    rw [List.getD_eq_getElem?_getD, List.getElem?_eq_getElem hi]
    exact h _ (List.getElem_mem hi)
  · exact byt_lt i
/-- Twice is not at all. -/
theorem mix_mix (xs : List Nat) : mix (mix xs xs.length) xs.length = xs := by
  apply List.ext_getElem?
  intro i
  by_cases hi : i < xs.length
  · rw [mix_get _ _ _ (by rw [mix_len]; exact hi), if_pos hi, List.getD_eq_getElem?_getD, mix_get _ _ _ hi, if_pos hi, List.getElem?_eq_getElem hi, List.getD_eq_getElem?_getD, List.getElem?_eq_getElem hi, Option.getD_some, Option.getD_some, ← Nat.xor_assoc, Nat.xor_self, Nat.zero_xor]
  · rw [List.getElem?_eq_none (by simp [mix_len]; omega), List.getElem?_eq_none (by omega)]
end Scr
namespace Go.Proofs.YtnklmadmenkdoaaGreat
theorem bits_xor8 (a b : Nat) (ha : a < 256) (hb : b < 256) : bits .xor .u8 (a : Int) (b : Int) = ((a ^^^ b : Nat) : Int) := by
  exact u8_xor_nat a b ha hb
open Go.RowKit Go.Shelf Go.Proofs.Num
set_option maxRecDepth 100000 in
set_option maxHeartbeats 2000000 in
theorem cScrApply (w : World) (v : Value) (xs : List Nat) (hx : RdB w v xs) (hn : xs.length < 100000000) : Calls Tryz.prog 123 #[v] w fun e w' => ∃ r, e = .returned r ∧ New w w' 5 r (u8s (Scr.mix xs xs.length)) := by
  obtain ⟨a, cap, rfl, ha⟩ := hx.open
  have hs := cScrSeq w xs.length hn
  have HX := hid hx
  have HA := hid ha
  have HS := hid hs
  clear hx ha hs
  go_enter Tryz.func123, Tryz.ntmps123
  go_wp2_with (first | (go_at_call 200; refine HS.out.mono ?_; rintro e w1 ⟨r, rfl, h1⟩; have h2 := Sts.new stab0 (Sts.nil w) h1; clear h1; rw [u8s_len, Scr.seq_len, ← Scr.mix_zero] at h2; obtain ⟨ra, rc, rfl⟩ := row_shape h2; have H1 := hid h2; clear h2))
  go_loopw [10] (fun i wr => ∃ k : Nat, k ≤ xs.length ∧ i = .int .i64 (k : Int) ∧ Sts w [rowP 5 1 (.slice ra xs.length rc) xs.length (u8s (Scr.mix xs k))] wr) (fun i _ => xs.length - (intOf i).toNat)
  case atStart => exact ⟨0, Nat.zero_le _, rfl, H1.out⟩
  case round =>
    obtain ⟨k, hk, rfl, hs⟩ := hrel
    clear HS H1
    by_cases hlt : k < xs.length
    · obtain ⟨b, off, rfl, hb, hc⟩ := HA.out k hlt
      obtain ⟨y, hy⟩ : ∃ y, y = xs[k] := ⟨_, rfl⟩
      rw [← hy] at hc
      have hown := Sts.rowOwn hs
      obtain ⟨g, gc, hv⟩ : ∃ g cap, (Value.slice ra xs.length rc) = .slice (some ⟨g, 0, none⟩) xs.length cap := by
        rcases hown.2 with ⟨_, h2⟩ | ⟨g, cap, cur, hv, _⟩
        · omega
        · exact ⟨g, cap, hv⟩
      obtain ⟨rfl, rfl⟩ : ra = some ⟨g, 0, none⟩ ∧ rc = gc := by injection hv with h1 h2 h3; exact ⟨h1, h3⟩
      have hgt := Scr.mix_get xs k k hlt
      rw [if_neg (Nat.lt_irrefl _)] at hgt
      have c1 : wr.cell? ⟨g, k, none⟩ = some (.int .u8 (Scr.byt k : Int)) := Sts.rowCell hs k hlt _ (by simp [u8s, hgt])
      have f1 := Sts.rowFree hs k
      have c2 : wr.cell? ⟨b, off + k, none⟩ = some (.int .u8 (y : Int)) := (RdB.byte (RdB.below HX.out (Sts.below hs)) (k := k) (by rw [List.getElem?_eq_getElem hlt, hy])).1
      have HS := hid hs
      have HY := hid hy
      clear hs hown hgt hc hy hv hb
      go_wp2
      go_region
      all_goals go_wp2
      have hxor : bits .xor .u8 (Scr.byt k : Int) (y : Int) = ((Scr.byt k ^^^ y : Nat) : Int) := bits_xor8 _ _ (Scr.byt_lt k) (HY.out ▸ HX.out.2 _ (List.getElem_mem hlt))
      rw [hxor]
      refine ⟨⟨k + 1, by omega, by go_num, ?_⟩, by simp [intOf]; omega⟩
      have h3 := Sts.drew (stabC (rowP_stable _ _ _ _ _) stab0) (Sts.rowStoreB stab0 HS.out k (Scr.byt k ^^^ y))
      rw [HY.out, Scr.mix_set xs k hlt] at h3
      rw [HY.out]
      exact h3
    · obtain rfl : k = xs.length := by omega
      have HS := hid hs
      clear hs
      go_wp2
      go_ret
      exact ⟨_, rfl, New.of_sts HS.out (by rw [u8s_len, Scr.mix_len])⟩
end Go.Proofs.YtnklmadmenkdoaaGreat
namespace Go.Proofs.YtnklmadmenkdoaaGreat
open Go.RowKit Go.Shelf Go.Proofs.Num
theorem wrap_zero (m : Nat) (h : m < 1000000) : wrap64 (m : Int) = (m : Int) := by unfold wrap64; omega
theorem wrap_one (m : Nat) (h : m < 1000000) : IntKind.i64.wrap ((m : Int) + 1) = (m : Int) + 1 := by rw [IntKind.wrap_i64]; omega
set_option maxRecDepth 100000 in
set_option maxHeartbeats 1000000 in
theorem cCheck16 (w : World) (a : Option Addr) (cap n : Nat) (m : List Nat) (hn : n = m.length + 2) (h : RdB w (.slice a n cap) (Cmd.crcB m)) (hm : m.length < 1000000) :
    Calls Tryz.prog 124 #[.slice a n cap] w fun e w' => e = .returned (.bool true) ∧ Below w.heap.size w w' := by
  obtain ⟨b, o, ha⟩ : ∃ b o, a = some ⟨b, o, none⟩ := by
    obtain ⟨_, _, e, _, hx⟩ := h.1
    injection e with e1 e2 e3
    subst e1
    obtain ⟨b, o, e, _⟩ := hx 0 (by rw [u8s_len, Cmd.crcB_len]; omega)
    exact ⟨b, o, e⟩
  subst ha
  have hcap := (Rd.cap h.1).2
  have ht : RdB w (.slice (some ⟨b, o, none⟩) m.length cap) m := RdB.take h
  have KA := hid (fun (y : World) (hy : Below w.heap.size w y) => cSum16 y _ m (ht.below hy) (by omega))
  have hs := Crc.crc16_lt 65535 m (by decide) (fun x hx => h.2 x (List.mem_append.2 (.inl hx)))
  have c0 := (RdB.byte h (k := m.length) (y := Crc.crc16 65535 m / 256) (by simp [Cmd.crcB, Cmd.sum2])).1
  have c1 := (RdB.byte h (k := m.length + 1) (y := Crc.crc16 65535 m % 256) (by simp [Cmd.crcB, Cmd.sum2])).1
  generalize Crc.crc16 65535 m = s at *
  obtain ⟨A, hA⟩ : ∃ A, A = s / 256 := ⟨_, rfl⟩
  obtain ⟨B, hB⟩ : ∃ B, B = s % 256 := ⟨_, rfl⟩
  rw [← hA] at c0
  rw [← hB] at c1
  have c0' : ∀ n, (w.drewN n).cell? ⟨b, o + m.length, none⟩ = some (.int .u8 (A : Int)) := fun _ => c0
  have c1' : ∀ n, (w.drewN n).cell? ⟨b, o + (m.length + 1), none⟩ = some (.int .u8 (B : Int)) := fun _ => c1
  have e1 : bits .or .u16 ((A : Int) * 256) (B : Int) = (s : Int) := by
    have := u16_or_nat (A * 256) B (by omega) (by omega)
    rw [show ((A * 256 : Nat) : Int) = (A : Int) * 256 by omega] at this
    rw [this, nat_join 8 (A * 256) B (by omega) (by omega)]
    omega
  have hv : ((s : Int) == bits .or .u16 (IntKind.u16.wrap (IntKind.u16.wrap (A : Int) * 256)) (IntKind.u16.wrap (B : Int))) = true := by
    rw [IntKind.wrap_u16, IntKind.wrap_u16, IntKind.wrap_u16, show (A : Int) % 65536 = (A : Int) by omega, show ((A : Int) * 256) % 65536 = (A : Int) * 256 by omega, show (B : Int) % 65536 = (B : Int) by omega, e1]
    simp
  have HV := hid hv
  have d5 : ((m.length : Int) + 1).toNat = m.length + 1 := by omega
  have hle : m.length ≤ cap := by omega
  have hle2 : (m.length : Int) ≤ (cap : Int) := by omega
  have hi1 : (m.length : Int) < (m.length : Int) + 2 := by omega
  have hi2 : (m.length : Int) + 1 < (m.length : Int) + 2 := by omega
  have hi3 : (0 : Int) ≤ (m.length : Int) + 1 := by omega
  have hi4 : (m.length : Int) < ((m.length + 2 : Nat) : Int) := by omega
  have hi5 : (m.length : Int) + 1 < ((m.length + 2 : Nat) : Int) := by omega
  have hz2 : (0 : Int) ≤ (m.length : Int) := by omega
  have d0 : ((m.length + 2 : Nat) : Int) - 2 = (m.length : Int) := by omega
  have d1 : decide ((m.length : Int) ≥ 0) = true := decide_eq_true (by omega)
  have d2 : decide ((0 : Int) ≤ (m.length : Int)) = true := decide_eq_true (by omega)
  have d4 : IntKind.i64.wrap ((m.length : Int) + 1) = (m.length : Int) + 1 := wrap_one _ hm
  have d3 : wrap64 ((m.length : Int)) = (m.length : Int) := wrap_zero _ hm
  have HCAP := hid hcap
  subst hn
  clear h ht hcap hs hA hB e1 hv c0 c1
  go_enter Tryz.func124, Tryz.ntmps124
  go_wp2_with fail
  go_quiet (first | (go_at_call 201; refine Calls.quiet_of_same ((KA.out _ (below_drewN (Below.refl _ _) _)).mono fun _ _ h => ⟨h.1, h.2.symm⟩)))
  rw [HV.out]
  go_wp2_with fail
  go_ret
  exact ⟨by simp, below_drewN (Below.refl _ _) _⟩
end Go.Proofs.YtnklmadmenkdoaaGreat
namespace Go.Proofs.YtnklmadmenkdoaaGreat
open Go.RowKit Go.Proofs.Num
/-- Bytes that read stand in a block. -/
theorem RdB.at {w : World} {a : Option Addr} {n cap : Nat} {l : List Nat} (h : RdB w (.slice a n cap) l) (h0 : 0 < l.length) : ∃ b off, a = some ⟨b, off, none⟩ ∧ b < w.heap.size ∧ ∀ i (hi : i < l.length), w.cell? ⟨b, off + i, none⟩ = some (.int .u8 (l[i] : Nat)) := by
  obtain ⟨a', c', e, hx⟩ := h.open
  injection e with e1 e2 e3
  subst e1
  obtain ⟨b, off, rfl, hb, _⟩ := hx 0 h0
  refine ⟨b, off, rfl, hb, fun i hi => ?_⟩
  obtain ⟨b', off', e', _, hc⟩ := hx i hi
  simp only [Option.some.injEq, Addr.mk.injEq, and_true] at e'
  obtain ⟨rfl, rfl⟩ := e'
  exact hc
/-- The rest of what reads. -/
theorem RdB.mid {w : World} {b off n cap : Nat} {k l m : List Nat} (h : RdB w (.slice (some ⟨b, off, none⟩) n cap) (k ++ l ++ m)) (c : Nat) (hc : l.length ≤ c ∧ c ≤ maxLen) : RdB w (.slice (some ⟨b, off + k.length, none⟩) l.length c) l := by
  obtain ⟨⟨a', c', e, hcap, hx⟩, h2⟩ := h
  injection e with e1 e2 e3
  refine ⟨⟨some ⟨b, off + k.length, none⟩, c, by rw [u8s_len], by rw [u8s_len]; exact hc, fun j hj => ?_⟩, fun x hx => h2 x (List.mem_append_left _ (List.mem_append_right _ hx))⟩
  rw [u8s_len] at hj
  have hj2 : k.length + j < (u8s (k ++ l ++ m)).length := by rw [u8s_len]; simp; omega
  obtain ⟨b', off', e', hb, hcl⟩ := hx (k.length + j) hj2
  rw [← e1] at e'
  simp only [Option.some.injEq, Addr.mk.injEq, and_true] at e'
  obtain ⟨rfl, rfl⟩ := e'
  refine ⟨b, off + k.length, rfl, hb, ?_⟩
  rw [Nat.add_assoc, hcl]
  congr 1
  simp only [u8s, List.getElem_map]
  rw [List.getElem_append_left (by simp; omega), List.getElem_append_right (by omega)]
  simp
end Go.Proofs.YtnklmadmenkdoaaGreat
