/- The ground segment's file entity; whether a configuration is valid. The idle file entity: it has nothing to send. A tick of the ground segment in which nothing arrives. The specification's sum at the end, and whether it is right. -/
import Derived.Test.YtnklmadmenkdoaaGreatQStnC
import Derived.BigQuiet
import Derived.Test.YtnklmadmenkdoaaGreatQNevA
set_option linter.unusedVariables false
set_option linter.unusedSimpArgs false
namespace Go.Proofs.YtnklmadmenkdoaaGreat
open Go.RowKit Go.Proofs.Num
/-- A file entity without transactions: its blocks. -/
def couL (self chunk to re : Int) (c m1 m2 m3 q m : Nat) : List HProp :=
  [blkP c (.cells #[.bool true, .int .i64 self, .pointer (some ⟨q, 0, none⟩), .int .i64 chunk, .int .i64 to, .int .i64 re, .int .i64 0, .int .i64 1, .map (some m1), .map (some m2), .map (some m3), .slice none 0 0, .slice none 0 0, .bool false, .pointer none] 253 (0, 0)), blkP m3 (.map #[] 0), blkP m2 (.map #[] 0), blkP m1 (.map #[] 0), blkP q (.cells #[.int .i64 256, .int .i64 4194304, .map (some m)] 300 (0, 0)), blkP m (.map #[] 0)]
section
variable {W w : World} {l : List HProp} (hl : ∀ B ∈ l, Stable B)
include hl
set_option maxRecDepth 100000 in
set_option maxHeartbeats 2000000 in
theorem cEntity (chunk to re : Int) (hs : Sts W l w) (h4 : 1 ≤ chunk ∧ chunk ≤ 512) (h5 : 1 ≤ to ∧ to ≤ 1048576) (h6 : 0 ≤ re ∧ re ≤ 255) :
    Calls Tryz.prog 38 #[.agg #[.int .i64 chunk, .int .i64 to, .int .i64 re]] w fun e w' => ∃ c m1 m2 m3 q m, e = .returned (.tuple #[.pointer (some ⟨c, 0, none⟩), .int .i64 0]) ∧ Sts W (couL 1 chunk to re c m1 m2 m3 q m ++ l) w' := by
  have HS := hid (hs.alloc hl (.cells #[.int .i64 chunk, .int .i64 to, .int .i64 re] 29))
  have HL := hid (stabC (blkP_stable w.heap.size (.cells #[.int .i64 chunk, .int .i64 to, .int .i64 re] 29 (0, 0))) hl)
  clear hs
  go_enter Tryz.func38, Tryz.ntmps38
  go_wp2_with fail
  refine wp_region_ord (.pure 1 (.eff 0 (.eff 2 (.pure 3 (.pure 4 (.pure 5 (.pure 6 .nil))))))) (fun y => (loadVar 29 ⟨w.heap.size, 0, none⟩).run Tryz.prog y = .ok (.agg #[.int .i64 chunk, .int .i64 to, .int .i64 re]) y) (fun y => Sts W (blkP w.heap.size (.cells #[.int .i64 chunk, .int .i64 to, .int .i64 re] 29 (0, 0)) :: l) y) (by kernel_rfl) (by kernel_rfl) (HS.out.drew HL.out) (fun y hy => ldCfg hy) ?_
  apply ord_pure (ho := rfl)
  · go_simp
  · exact fun x hx => exec_ldS (.tmp 1) 29 rfl rfl hx
  apply ord_norm
  · go_simp; rfl
  apply ord_eff (ho := rfl)
  · go_simp
  intro y hy
  refine eff_call (f := 105) (by go_simp) (cFilNew HL.out hy 256 4194304 (by omega) (by omega)) ?_
  rintro e w3 ⟨q, m, rfl, h3⟩
  refine ⟨_, rfl, (fun y => (loadVar 29 ⟨w.heap.size, 0, none⟩).run Tryz.prog y = .ok (.agg #[.int .i64 chunk, .int .i64 to, .int .i64 re]) y), (fun y => Sts W (blkP q (.cells #[.int .i64 256, .int .i64 4194304, .map (some m)] 300 (0, 0)) :: blkP m (.map #[] 0) :: blkP w.heap.size (.cells #[.int .i64 chunk, .int .i64 to, .int .i64 re] 29 (0, 0)) :: l) y), h3, (fun y hy => ldCfg hy.tail.tail), (fun _ h => h), ?_⟩
  clear h3 hy y
  apply ord_norm
  · go_simp; rfl
  apply ord_eff (ho := rfl)
  · go_simp
  intro y hy
  refine eff_call (f := 104) (by go_simp) (cCouNew HL.out 1 chunk to re q m 256 4194304 hy (by omega) (by omega) (by omega) h4 h5 h6) ?_
  rintro e w4 ⟨c, m1, m2, m3, rfl, h3⟩
  refine ⟨_, rfl, (fun y => (loadVar 29 ⟨w.heap.size, 0, none⟩).run Tryz.prog y = .ok (.agg #[.int .i64 chunk, .int .i64 to, .int .i64 re]) y), (fun y => Sts W (couL 1 chunk to re c m1 m2 m3 q m ++ (blkP w.heap.size (.cells #[.int .i64 chunk, .int .i64 to, .int .i64 re] 29 (0, 0)) :: l)) y), h3, (fun y hy => ldCfg (hy.perm List.perm_middle)), (fun _ h => h), ?_⟩
  clear h3 hy y
  apply ord_norm
  · go_simp; rfl
  iterate 4
    (apply ord_pure (ho := rfl)
     · go_simp
     · intro x hx; go_simp; rfl
     apply ord_norm
     · go_simp; rfl)
  refine ord_nil fun z hz => ?_
  have HZ := hid ((hz.perm List.perm_middle).tail)
  clear hz
  go_wp2_with fail
  go_ret2
  exact ⟨c, m1, m2, m3, q, m, rfl, HZ.out⟩
end
end Go.Proofs.YtnklmadmenkdoaaGreat
namespace Go.Proofs.YtnklmadmenkdoaaGreat
open Go.RowKit Go.Proofs.Num
def pdu0 : Array Value := #[.int .i64 0, .int .i64 0, .int .i64 0, .int .i64 0, .string ⟨#[]⟩, .int .i64 0, .int .i64 0, .slice none 0 0, .int .u32 0, .int .i64 0, .slice none 0 0]
set_option maxRecDepth 100000 in
theorem szPduC : ∀ w, (Go.sizeOf 135).run Tryz.prog w = .ok 11 w := fun w => by first | rfl | simp [go_sem] | kernel_rfl
theorem infoPduC : (Tryz.prog.info? 135).map (·.size) = some 11 := by kernel_rfl
theorem ldPduC {W w : World} {l : List HProp} {b : Nat} {cs : Array Value} (hs : cs.size = 11) (h : Sts W (blkP b (.cells cs 135 (0, 0)) :: l) w) : (loadVar 135 ⟨b, 0, none⟩).run Tryz.prog w = .ok (.agg cs) w := by
  have hb : w.heap[b]? = some (.cells cs 135 (0, 0)) := by obtain ⟨F, hF⟩ := h.head; exact hF.1
  exact run_loadVar_row (P := Tryz.prog) w b 135 135 cs (0, 0) _ hb Tryz.underlying135 rfl (by rw [infoPduC, hs])
set_option maxRecDepth 100000 in
theorem cGrowNil (w : World) : Calls Tryz.prog 225 #[.slice none 0 0, .int .i64 0] w fun e w' => e = .returned (.slice none 0 0) ∧ w = w' := by
  go_enter Tryz.func225, Tryz.ntmps225
  go_wp2
  go_ret
  exact ⟨rfl, rfl⟩
set_option maxRecDepth 100000 in
set_option maxHeartbeats 2000000 in
theorem cConcatNil (w : World) (g : Nat) (h0 : w.cell? ⟨g, 0, none⟩ = some (.slice none 0 0)) (h1 : w.cell? ⟨g, 1, none⟩ = some (.slice none 0 0)) : Calls Tryz.prog 145 #[.slice (some ⟨g, 0, none⟩) 2 2] w fun e w' => e = .returned (.slice none 0 0) ∧ w = w' := by
  have hap : ∀ ty x, (Builtin.append_ #[249, 249] ty #[.slice none 0 0, .slice none 0 0]).run Tryz.prog x = .ok (.slice none 0 0) x := fun ty x => by kernel_rfl
  go_enter Tryz.func145, Tryz.ntmps145
  go_wp2_with fail
  go_loopw [3, 11] (fun s i wr => s = .int .i64 0 ∧ wr = w ∧ (i = .int .i64 0 ∨ i = .int .i64 1 ∨ i = .int .i64 2)) (fun _ i _ => 2 - (intOf i).toNat)
  case atStart => exact ⟨rfl, by first | rfl | trivial, Or.inl rfl⟩
  case round =>
    obtain ⟨rfl, hw, rfl | rfl | rfl⟩ := hrel
    · go_wp2_with fail
      go_roundw
      case rel => exact ⟨rfl, by trivial, Or.inr (Or.inl rfl)⟩
      case measure => decide
    · go_wp2_with fail
      go_roundw
      case rel => exact ⟨rfl, by trivial, Or.inr (Or.inr rfl)⟩
      case measure => decide
    · go_wp2_with (go_at_call 225; refine (cGrowNil _).mono ?_; rintro e w1 ⟨rfl, rfl⟩)
      go_loopw [6, 27] (fun s i wr => s = .slice none 0 0 ∧ wr = w ∧ (i = .int .i64 0 ∨ i = .int .i64 1 ∨ i = .int .i64 2)) (fun _ i _ => 2 - (intOf i).toNat)
      case atStart => exact ⟨rfl, by first | rfl | trivial, Or.inl rfl⟩
      case round =>
        obtain ⟨rfl, hw, rfl | rfl | rfl⟩ := hrel
        · go_wp2_with fail
          go_roundw
          case rel => exact ⟨rfl, by trivial, Or.inr (Or.inl rfl)⟩
          case measure => decide
        · go_wp2_with fail
          go_roundw
          case rel => exact ⟨rfl, by trivial, Or.inr (Or.inr rfl)⟩
          case measure => decide
        · go_wp2_with fail
          go_ret
          exact ⟨rfl, by trivial⟩
section
variable {W w : World} {l : List HProp} {c m1 m2 m3 q t : Nat}
set_option maxRecDepth 100000 in
theorem cCouUsable (hs : Sts W (couB c m1 m2 m3 q t :: l) w) : Calls Tryz.prog 140 #[.pointer (some ⟨c, 0, none⟩)] w fun e w' => e = .returned (.bool true) ∧ w = w' := by
  have c0 : w.cell? ⟨c, 0, none⟩ = some (.bool true) := (Sts.boxCell hs 0 _ rfl).1
  clear hs
  go_enter Tryz.func140, Tryz.ntmps140
  go_wp2
  go_ret
  exact ⟨rfl, rfl⟩
set_option maxRecDepth 100000 in
theorem cCouClock (hl : ∀ B ∈ l, Stable B) (hs : Sts W (couB c m1 m2 m3 q t :: l) w) (n : Nat) (hn : n = t + 1) (ht : t < 1000) : Calls Tryz.prog 141 #[.pointer (some ⟨c, 0, none⟩), .int .i64 (n : Int)] w fun e w' => e = .returned (.tuple #[]) ∧ Sts W (couB c m1 m2 m3 q n :: l) w' := by
  have c6 : w.cell? ⟨c, 6, none⟩ = some (.int .i64 (t : Int)) := (Sts.boxCell hs 6 _ rfl).1
  have f6 : w.frozen? ⟨c, 6, none⟩ = false := (Sts.boxCell hs 6 _ rfl).2
  have d1 : decide ((n : Int) ≤ 1099511627776) = true := decide_eq_true (by omega)
  have p1 : (n : Int) ≤ 1099511627776 := by omega
  have hm : max (t : Int) (n : Int) = (n : Int) := by omega
  have hlt : (t : Int) < (n : Int) := by omega
  have hlt2 : ¬ (n : Int) < (t : Int) := by omega
  have hle : (t : Int) ≤ (n : Int) := by omega
  have HST := hid (Sts.store hl hs (j := 6) (.int .i64 (n : Int)))
  clear hs hl hn ht
  go_enter Tryz.func141, Tryz.ntmps141
  go_wp2
  go_end0
  exact ⟨rfl, HST.out⟩
set_option maxRecDepth 100000 in
theorem exec_bldN {o : Oper} {a : Act} {w : World} (x y : Operand) (ho : o.op = .buildSlice 333 2 #[(0, x), (1, y)]) (hx : a.eval x = .slice none 0 0) (hy : a.eval y = .slice none 0 0) :
    (execOp a.eval o).run Tryz.prog w = .ok (.value (.slice (some ⟨w.heap.size, 0, none⟩) 2 2)) (w.alloc (.cells #[.slice none 0 0, .slice none 0 0] 249)) := by
  have key : ∀ u v, u = Value.slice none 0 0 → v = Value.slice none 0 0 → (Instr.buildSlice 333 2 #[(0, u), (1, v)]).run Tryz.prog w = .ok (.slice (some ⟨w.heap.size, 0, none⟩) 2 2) (w.alloc (.cells #[.slice none 0 0, .slice none 0 0] 249)) := by
    rintro u v rfl rfl
    kernel_rfl
  unfold execOp
  simp only [ho]
  rw [show Array.map (fun x => (x.fst, a.eval x.snd)) #[((0 : Nat), x), (1, y)] = #[(0, a.eval x), (1, a.eval y)] by simp]
  simp only [Sem.run_bind, key _ _ hx hy, Result.andThen]
  rfl
set_option maxRecDepth 100000 in
set_option maxHeartbeats 4000000 in
theorem cNextIdle (hl : ∀ B ∈ l, Stable B) (hs : Sts W (couB c m1 m2 m3 q t :: mapO m1 :: mapO m2 :: l) w) (n : Nat) (hn : n = t + 1) (ht : t < 1000) :
    Calls Tryz.prog 54 #[.pointer (some ⟨c, 0, none⟩), .int .i64 (n : Int)] w fun e w' => e = .returned (.tuple #[.agg pdu0, .bool false]) ∧ Sts W (couB c m1 m2 m3 q n :: mapO m1 :: mapO m2 :: l) w' := by
  have HS : Hid (Sts W (blkP w.heap.size (.cells pdu0 135 (0, 0)) :: couB c m1 m2 m3 q t :: mapO m1 :: mapO m2 :: l) (w.alloc (.cells pdu0 135))) := hid (Sts.alloc (stabC (blkP_stable _ _) (stabC (blkP_stable _ _) (stabC (blkP_stable _ _) (hl)))) hs _)
  have KU := hid (show Calls Tryz.prog 140 #[.pointer (some ⟨c, 0, none⟩)] (w.alloc (.cells pdu0 135)) fun e w' => e = .returned (.bool true) ∧ Sts W (blkP w.heap.size (.cells pdu0 135 (0, 0)) :: couB c m1 m2 m3 q t :: mapO m1 :: mapO m2 :: l) w' from by
    refine (cCouUsable HS.out.swap).mono ?_
    rintro e w' ⟨rfl, rfl⟩
    exact ⟨rfl, HS.out⟩)
  have HL := hid hl
  have HN := hid hn
  have HT := hid ht
  clear hs hl hn ht HS
  go_enter Tryz.func54, Tryz.ntmps54
  go_wp2_with (first
    | (go_at_call 140; refine KU.out.mono ?_; rintro e w1 ⟨rfl, h1⟩; have H1 := hid h1; clear h1)
    | (go_at_call 141; refine (cCouClock (stabC (blkP_stable _ _) (stabC (blkP_stable _ _) (stabC (blkP_stable _ _) (HL.out)))) H1.out.swap n HN.out HT.out).mono ?_; rintro e w2 ⟨rfl, h2⟩
       have c12 : w2.cell? ⟨c, 12, none⟩ = some (.slice none 0 0) := (Sts.boxCell h2 12 _ rfl).1
       have c13 : w2.cell? ⟨c, 13, none⟩ = some (.bool false) := (Sts.boxCell h2 13 _ rfl).1
       have H2 := hid h2; clear h2)
    | (go_at_call 142; refine (cIds (stabC (blkP_stable _ _) (HL.out)) (l := blkP w.heap.size (.cells pdu0 135 (0, 0)) :: l) (((H2.out).perm (.cons _ (List.perm_middle (l₁ := [_])))).perm (.cons _ (.cons _ (List.perm_middle (l₁ := [_])))))).mono ?_; rintro e w3 ⟨rfl, h3⟩
       have c14 : w3.cell? ⟨c, 14, none⟩ = some (.pointer none) := (Sts.boxCell h3 14 _ rfl).1
       have H3 := hid h3; clear h3))
  refine wp_region_ordQ (.pure 0 (.pure 1 (.pure 2 (.pure 3 (.pure 4 (.pure 5 (.pure 9 (.eff 6 (.eff 7 (.pure 8 .nil)))))))))) (fun y => True) (fun y => Sts W (couB c m1 m2 m3 q n :: mapO m1 :: mapO m2 :: blkP w.heap.size (.cells pdu0 135 (0, 0)) :: l) y) (by kernel_rfl) (by kernel_rfl) (H3.out.drew (stabC (blkP_stable _ _) (stabC (blkP_stable _ _) (stabC (blkP_stable _ _) (stabC (blkP_stable _ _) (HL.out)))))) (fun y hy => trivial) ?_
  iterate 7
    (apply ordq_pure (ho := rfl)
     · go_simp
     · intro x hx; go_simp; rfl
     apply ordq_norm
     · go_simp; rfl)
  apply ordq_eff (ho := rfl)
  · go_simp
  intro y hy
  have hy2 := Sts.alloc (stabC (blkP_stable _ _) (stabC (blkP_stable _ _) (stabC (blkP_stable _ _) (stabC (blkP_stable _ _) (HL.out))))) hy (.cells #[.slice none 0 0, .slice none 0 0] 249)
  refine eff_value (fun y => True) (fun y' => Sts W (blkP y.heap.size (.cells #[.slice none 0 0, .slice none 0 0] 249 (0, 0)) :: couB c m1 m2 m3 q n :: mapO m1 :: mapO m2 :: blkP w.heap.size (.cells pdu0 135 (0, 0)) :: l) y') (exec_bldN (.tmp 85) (.tmp 88) rfl ?_ ?_) hy2 (fun _ _ => trivial) (fun _ h => h) ?_
  · go_simp
  · go_simp
  apply ordq_norm
  · go_simp; rfl
  clear hy hy2
  generalize y.heap.size = gx at *
  clear y
  apply ordq_eff (ho := rfl)
  · go_simp
  intro y hy
  refine eff_call (f := 145) (by go_simp) (cConcatNil y gx (Sts.boxCell hy 0 _ rfl).1 (Sts.boxCell hy 1 _ rfl).1) ?_
  rintro e w3 ⟨rfl, rfl⟩
  refine ⟨_, rfl, (fun y => True), (fun z => Sts W (blkP gx (.cells #[.slice none 0 0, .slice none 0 0] 249 (0, 0)) :: couB c m1 m2 m3 q n :: mapO m1 :: mapO m2 :: blkP w.heap.size (.cells pdu0 135 (0, 0)) :: l) z), hy, (fun _ _ => trivial), (fun _ h => h), ?_⟩
  apply ordq_norm
  · go_simp; rfl
  clear hy y
  iterate 1
    (apply ordq_pure (ho := rfl)
     · go_simp
     · intro x hx; go_simp; rfl
     apply ordq_norm
     · go_simp; rfl)
  refine ordq_nil fun z2 hz => ?_
  have HZ2 := hid hz
  clear hz H3
  go_wp2_with fail
  go_loopw [92] (fun i wr => i = .int .i64 0 ∧ wr = z2) (fun _ _ => 0)
  case atStart => exact ⟨rfl, rfl⟩
  case round =>
    obtain ⟨rfl, rfl⟩ := hrel
    go_wp2_with (refine wpList_aggS ((HZ2.out.tail).perm (List.perm_middle (l₁ := [_, _, _]))) (stabC (blkP_stable _ _) (stabC (blkP_stable _ _) (stabC (blkP_stable _ _) (HL.out)))) rfl (.tmp 4) (.tmp 116) 135 rfl pdu0 rfl rfl szPduC rfl rfl ?_; intro w5 h5; have H5 := hid h5; clear h5)
    refine post_cell2S H5.out Tryz.results54 rfl rfl (ldPduC rfl H5.out) _ rfl ⟨rfl, H5.out.tail⟩
/-- The idle entity at block c at the time t. -/
def couP (c t : Nat) : HProp := fun w F => ∃ m1 m2 m3 q, star (couB c m1 m2 m3 q t) (star (mapO m1) (mapO m2)) w F
theorem couP_stable (c t : Nat) : Stable (couP c t) where
  dom := by rintro w F ⟨_, _, _, _, h⟩; exact (star_stable (blkP_stable _ _) (star_stable (blkP_stable _ _) (blkP_stable _ _))).dom h
  keep := by rintro w w' F S ⟨a, b, d, e, h⟩ hk hS; exact ⟨a, b, d, e, (star_stable (blkP_stable _ _) (star_stable (blkP_stable _ _) (blkP_stable _ _))).keep h hk hS⟩
theorem cCouNext (hl : ∀ B ∈ l, Stable B) (c t : Nat) (ht : t < 20) (hs : Sts W (couP c t :: l) w) :
    Calls Tryz.prog 54 #[.pointer (some ⟨c, 0, none⟩), .int .i64 ((t + 1 : Nat) : Int)] w fun e w' => e = .returned (.tuple #[.agg pdu0, .bool false]) ∧ Sts W (couP c (t + 1) :: l) w' := by
  obtain ⟨F, ⟨F1, F2, ⟨m1, m2, m3, q, a⟩, r⟩, hb, hn⟩ := hs
  have h1 : Sts W (couB c m1 m2 m3 q t :: star (mapO m1) (mapO m2) :: l) w := Sts.split ⟨F, ⟨F1, F2, a, r⟩, hb, hn⟩
  have h2 := (Sts.split h1.swap).perm (.trans (.cons _ (.swap _ _ _)) (.swap _ _ _))
  refine (cNextIdle hl h2 (t + 1) rfl (by omega)).mono ?_
  rintro e w' ⟨rfl, h3⟩
  refine ⟨rfl, ?_⟩
  have h4 := Sts.join (C := star (mapO m1) (mapO m2)) (h3.perm (.trans (.swap _ _ _) (.cons _ (.swap _ _ _)))) (fun F hF => hF)
  exact Sts.join h4.swap (fun F hF => ⟨m1, m2, m3, q, hF⟩)
theorem cou_new {m : Nat} (h : Sts W (couL 1 64 40 10 c m1 m2 m3 q m ++ l) w) : Sts W (couP c 0 :: l) w := by
  have h1 : Sts W (couB c m1 m2 m3 q 0 :: mapO m3 :: mapO m2 :: mapO m1 :: blkP q (.cells #[.int .i64 256, .int .i64 4194304, .map (some m)] 300 (0, 0)) :: mapO m :: l) w := h
  have h2 : Sts W (mapO m1 :: mapO m2 :: couB c m1 m2 m3 q 0 :: l) w := ((((((h1).perm (List.perm_middle (l₁ := [_]))).perm (.cons _ (List.perm_middle (l₁ := [_, _, _])))).perm (.cons _ (.cons _ (List.perm_middle (l₁ := [_, _, _]))))).perm (.cons _ (.cons _ (.cons _ (List.perm_middle (l₁ := [_, _])))))).perm (.cons _ (.cons _ (.cons _ (.cons _ (List.perm_middle (l₁ := [_]))))))).tail.tail.tail
  have h4 := Sts.join (C := star (mapO m1) (mapO m2)) h2 (fun F hF => hF)
  exact Sts.join h4.swap (fun F hF => ⟨m1, m2, m3, q, hF⟩)
end
end Go.Proofs.YtnklmadmenkdoaaGreat
namespace Go.Proofs.YtnklmadmenkdoaaGreat
open Go.RowKit Go.Proofs.Num
theorem share4 {G : Nat → Option Addr → Nat → World → Prop} {goal : Prop} (S : Nat → Option Addr → Nat → World → Prop) (main : (∀ g1 a b z, S g1 a b z → G g1 a b z) → goal) (key : ∀ g1 a b z, S g1 a b z → G g1 a b z) : goal := main key
theorem Sts.sub {W w : World} {l m : List HProp} (h : Sts W l w) (s : m.Sublist l) : Sts W m w := by
  obtain ⟨r, hr⟩ := s.exists_perm_append
  have h2 := h.perm hr
  obtain ⟨F, a, b, c⟩ := h2
  obtain ⟨F1, F2, a1, _, _, hF⟩ := stars_app.1 a
  exact ⟨F1, a1, b, fun k hk => c k ((hF k).2 (Or.inl hk))⟩
theorem share1 {G : Nat → World → Prop} {goal : Prop} (S : Nat → World → Prop) (main : (∀ g1 z, S g1 z → G g1 z) → goal) (key : ∀ g1 z, S g1 z → G g1 z) : goal := main key
set_option maxRecDepth 100000 in
theorem szPduS : ∀ w, (Go.sizeOf 135).run Tryz.prog w = .ok 11 w := fun w => by first | rfl | simp [go_sem] | kernel_rfl
set_option maxRecDepth 100000 in
theorem eff_allocPdu {L : Prop} {o : Oper} {a : Act} {D : WP} {K : Act → WP → WP → Prop} {W y : World} {l : List HProp} (hl : ∀ B ∈ l, Stable B) (hS : Sts W l y) (ho : o.op = .alloc 135) (hD : ∀ z g, Sts W (blkP g (.cells pdu0 135 (0, 0)) :: l) z → D z)
    (hk : ∀ g, K (a.put o.dst (.pointer (some ⟨g, 0, none⟩))) D (fun z => Sts W (blkP g (.cells pdu0 135 (0, 0)) :: l) z)) : effUpon Tryz.prog L o.dst a D K ((execOp a.eval o).run Tryz.prog y) := by
  have h := hS.alloc hl (.cells pdu0 135)
  refine eff_value (w := y.alloc (.cells pdu0 135)) (v := .pointer (some ⟨y.heap.size, 0, none⟩)) D _ ?_ h (fun z hz => hD z _ hz) (fun _ h => h) (hk _)
  unfold execOp
  simp only [ho]
  kernel_rfl
theorem cFopStateP {W w : World} {l : List HProp} {fq fl fr now tm : Nat} {us : List (List Nat)} (hs : Sts W (fopP fq us fl fr now tm :: l) w) : Calls Tryz.prog 51 #[.pointer (some ⟨fq, 0, none⟩)] w fun e w' => e = .returned (.int .i64 1) ∧ w = w' := by
  obtain ⟨uv, vs, h0⟩ := Sts.openF hs
  exact cFopState fq 16 uv 0 (fl : Int) (fr : Int) 5 0 20 10 1 (now : Int) (tm : Int) 0 h0
theorem cFopQueuedP {W w : World} {l : List HProp} {fq fl fr now tm : Nat} {us : List (List Nat)} (hs : Sts W (fopP fq us fl fr now tm :: l) w) : Calls Tryz.prog 53 #[.pointer (some ⟨fq, 0, none⟩)] w fun e w' => e = .returned (.int .i64 (us.length : Int)) ∧ w = w' := by
  obtain ⟨uv, vs, h0⟩ := Sts.openF hs
  obtain ⟨ua, uc, hue⟩ := own_slice h0.tail.rowOwn
  subst hue
  exact cFopQueued fq 16 ua us.length uc 0 (fl : Int) (fr : Int) 5 0 20 10 1 (now : Int) (tm : Int) 0 h0
set_option maxRecDepth 100000 in
theorem eff_allocTc {L : Prop} {o : Oper} {a : Act} {D : WP} {K : Act → WP → WP → Prop} {W y : World} {l : List HProp} (hl : ∀ B ∈ l, Stable B) (hS : Sts W l y) (ho : o.op = .alloc 46) (hD : ∀ z g, Sts W (blkP g (.cells zeroTc 46 (0, 0)) :: l) z → D z)
    (hk : ∀ g, K (a.put o.dst (.pointer (some ⟨g, 0, none⟩))) D (fun z => Sts W (blkP g (.cells zeroTc 46 (0, 0)) :: l) z)) : effUpon Tryz.prog L o.dst a D K ((execOp a.eval o).run Tryz.prog y) := by
  have h := hS.alloc hl (.cells zeroTc 46)
  refine eff_value (w := y.alloc (.cells zeroTc 46)) (v := .pointer (some ⟨y.heap.size, 0, none⟩)) D _ ?_ h (fun z hz => hD z _ hz) (fun _ h => h) (hk _)
  unfold execOp
  simp only [ho]
  kernel_rfl
/-- The frames of the units from fl on. -/
def frs (us : List (List Nat)) (fl j : Nat) : List (List Nat) := (List.range j).map (fun i => tcB false false 5 0 (fl + i) (us.getD (fl + i) []))
theorem frs_succ (us : List (List Nat)) (fl j : Nat) : frs us fl (j + 1) = frs us fl j ++ [tcB false false 5 0 (fl + j) (us.getD (fl + j) [])] := by simp [frs, List.range_succ]
end Go.Proofs.YtnklmadmenkdoaaGreat
namespace Go.Proofs.YtnklmadmenkdoaaGreat
open Go.RowKit Go.Proofs.Num
/-- The beginning of what reads. -/
theorem RdB.take {w : World} {a : Option Addr} {n cap : Nat} {l m : List Nat} (h : RdB w (.slice a n cap) (l ++ m)) : RdB w (.slice a l.length cap) l := by
  obtain ⟨h1, h2⟩ := h
  obtain ⟨e1, e2, e3⟩ := Rd.cap h1
  rw [u8s_len, List.length_append] at e1
  refine ⟨?_, fun x hx => h2 x (List.mem_append_left _ hx)⟩
  have h3 := h1.take l.length (by rw [u8s_len, List.length_append]; omega) cap ⟨by omega, e3⟩
  rw [show (u8s (l ++ m)).take l.length = u8s l by rw [u8s_app, ← u8s_len l, List.take_left]] at h3
  exact h3
end Go.Proofs.YtnklmadmenkdoaaGreat
