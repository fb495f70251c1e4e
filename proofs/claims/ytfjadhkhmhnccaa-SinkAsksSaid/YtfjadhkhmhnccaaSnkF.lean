/- The receiving end: piece as a whole, receive. -/
import Derived.Test.YtfjadhkhmhnccaaSnkE
import Derived.Test.YtfjadhkhmhnccaaSnkC
set_option linter.unusedVariables false
set_option linter.unusedSimpArgs false
namespace Go.Proofs.Ytfjadhkhmhnccaa
open Go.RowKit Go.Proofs.Num
section
variable {W w : World} {l : List HProp} (hl : ∀ B ∈ l, Stable B) (q : Nat) (s : Fil.Snk) (p : Fil.Pdu) (hs : Sts W (snkP q s :: l) w)
include hl hs
/-- The bytes of a unit can be read wherever l holds. -/
def RdP (W : World) (l : List HProp) (p : Fil.Pdu) : Prop := ∀ y L, Sts W (L ++ l) y → RdB y (.slice p.da p.data.length p.dc) p.data
omit hl hs in
theorem RdP.more {A : HProp} (h : RdP W l p) : RdP W (A :: l) p := fun y L hy => h y (L ++ [A]) (by rw [List.append_assoc]; exact hy)
theorem cPieceK (po : Nat) (hpo : p.off = (po : Int)) (hp0 : 0 < p.data.length) (hbd : po + p.data.length ≤ 100000) (hd : RdP W l p) (hft : s.Fit) (h9 : s.got.length < 800000) : Calls Try.prog 115 #[.pointer (some ⟨q, 0, none⟩), .agg p.cells] w fun e w' => e = .returned (.int .i64 (s.pcV po p.data).2) ∧ Sts W (snkP q (s.pcV po p.data).1 :: l) w' := by
  obtain ⟨a, c, he, hx⟩ := (hd w [snkP q s] hs).open
  injection he with he1 he2 he3
  obtain ⟨b, off, hab, _, _⟩ := hx 0 hp0
  have hda : p.da = some ⟨b, off, none⟩ := by rw [he1, hab]
  have hD : ∀ y L, Sts W (L ++ l) y → ∀ k x, p.data[k]? = some x → y.cell? ⟨b, off + k, none⟩ = some (.int .u8 (x : Nat)) := fun y L hy k x hk => by
    obtain ⟨a2, c2, he2, hx2⟩ := (hd y L hy).open
    injection he2 with e1 e2 e3
    have hk2 : k < p.data.length := by
      rcases Nat.lt_or_ge k p.data.length with h | h
      · exact h
      · rw [List.getElem?_eq_none h] at hk; cases hk
    obtain ⟨b2, o2, hab2, _, hc⟩ := hx2 k hk2
    rw [← e1, hda] at hab2
    injection hab2 with h1
    injection h1 with h2 h3 h4
    rw [List.getElem?_eq_getElem hk2] at hk
    injection hk with hk
    rw [h2, h3, hc, hk]
  obtain ⟨to, hto⟩ : ∃ to, to = po + p.data.length := ⟨_, rfl⟩
  have hto2 : (po : Int) + (p.data.length : Int) = (to : Int) := by omega
  unfold Fil.Snk.pcV Fil.Snk.pcS
  rw [← hto]
  cases hb : (s.tot.2 && decide ((to : Int) > s.tot.1)) with
  | true =>
    rw [if_pos rfl]
    simp only [Bool.and_eq_true] at hb
    exact cPceBad hl q s p po p.data.length to b off hs hpo rfl hto2 (by omega) hda s.tot.1 (by rw [← hb.1]) hb.2
  | false =>
    rw [if_neg (by simp)]
    have ht : s.tot.2 = false ∨ (s.tot.2 = true ∧ decide ((to : Int) > s.tot.1) = false) := by
      cases h1 : s.tot.2
      · exact Or.inl rfl
      · rw [h1, Bool.true_and] at hb; exact Or.inr ⟨rfl, hb⟩
    have key : Calls Try.prog 115 #[.pointer (some ⟨q, 0, none⟩), .agg p.cells] w fun e w' => e = .returned (.int .i64 0) ∧ Sts W (snkP q (if decide (Rng.sizeV (Rng.ofV (Rng.ofV (s.got ++ [((po : Int), (to : Int))]))) > Rng.sizeV (Rng.ofV s.got)) = true then ({ s with data := Fil.putK s.got po p.data (s.grown to) p.data.length, got := Rng.ofV (s.got ++ [((po : Int), (to : Int))]) } : Fil.Snk).prog else { s with data := Fil.putK s.got po p.data (s.grown to) p.data.length, got := Rng.ofV (s.got ++ [((po : Int), (to : Int))]) }) :: l) w' := by
      by_cases hg : s.data.length < to
      · exact cPceG hl q s p po p.data.length to b off hs hpo rfl hto2 (by omega) hda hft h9 hD ht hp0 (to - s.data.length) (by omega) (by omega) (by simp; omega) _ rfl
      · have e : s.grown to = s.data := by unfold Fil.Snk.grown; rw [show to - s.data.length = 0 by omega]; simp
        rw [e]
        exact cPceF hl q s p po p.data.length to b off hs hpo rfl hto2 (by omega) hda hft h9 hD ht hp0 (by simp; omega) _ rfl
    refine key.mono ?_
    rintro e w' ⟨he, h⟩
    split
    · rename_i hh; rw [if_pos hh] at h; exact ⟨he, h⟩
    · rename_i hh; rw [if_neg hh] at h; exact ⟨he, h⟩
set_option maxRecDepth 100000 in
set_option maxHeartbeats 4000000 in
theorem cRecIdle1 (hk : p.kind = 1) (hp : (s.phase == 0) = false) : Calls Try.prog 83 #[.pointer (some ⟨q, 0, none⟩), .agg p.cells] w fun e w' => e = .returned (.int .i64 0) ∧ Sts W (snkP q s :: l) w' := by
  rw [show p.cells = #[.int .i64 p.kind, .int .i64 p.src, .int .i64 p.num, .int .i64 p.cls, .string p.name, .int .i64 p.size, .int .i64 p.off, .slice p.da p.data.length p.dc, .int .u32 (p.sum : Nat), .int .i64 p.code, .slice p.ga p.gaps.length p.gc] from rfl]
  have hls : ∀ B ∈ snkP q s :: l, Stable B := stabC (snkP_stable _ _) hl
  have hz : Sts W (blkP w.heap.size (.cells p.cells 45 (0, 0)) :: snkP q s :: l) (w.alloc (.cells #[.int .i64 p.kind, .int .i64 p.src, .int .i64 p.num, .int .i64 p.cls, .string p.name, .int .i64 p.size, .int .i64 p.off, .slice p.da p.data.length p.dc, .int .u32 (p.sum : Nat), .int .i64 p.code, .slice p.ga p.gaps.length p.gc] 45)) := hs.alloc hls (.cells p.cells 45 (0, 0))
  have hbl : ∀ B ∈ blkP w.heap.size (.cells p.cells 45 (0, 0)) :: l, Stable B := stabC (blkP_stable _ _) hl
  have HB := hid hz
  obtain ⟨dv, gv, h⟩ := Sts.openSnk hz.swap
  have HS := hid h
  have hC := Sts.snkC h
  have k8 := hC.k8
  (try dsimp only at k8)
  have hP := Sts.pduC hz
  have p0 := hP.c0
  have HL := hid hl
  clear h hz hs hls hbl hl hC hP
  have b1 : (p.kind == 1) = true := by rw [hk]; rfl
  clear hk
  go_enter Try.func83, Try.ntmps83
  go_wp2_with fail
  go_ret
  exact ⟨rfl, HB.out.tail⟩
set_option maxRecDepth 100000 in
set_option maxHeartbeats 4000000 in
theorem cRecIdle2 (hk : p.kind = 2) (hp : (s.phase == 0) = false) : Calls Try.prog 83 #[.pointer (some ⟨q, 0, none⟩), .agg p.cells] w fun e w' => e = .returned (.int .i64 0) ∧ Sts W (snkP q s :: l) w' := by
  rw [show p.cells = #[.int .i64 p.kind, .int .i64 p.src, .int .i64 p.num, .int .i64 p.cls, .string p.name, .int .i64 p.size, .int .i64 p.off, .slice p.da p.data.length p.dc, .int .u32 (p.sum : Nat), .int .i64 p.code, .slice p.ga p.gaps.length p.gc] from rfl]
  have hls : ∀ B ∈ snkP q s :: l, Stable B := stabC (snkP_stable _ _) hl
  have hz : Sts W (blkP w.heap.size (.cells p.cells 45 (0, 0)) :: snkP q s :: l) (w.alloc (.cells #[.int .i64 p.kind, .int .i64 p.src, .int .i64 p.num, .int .i64 p.cls, .string p.name, .int .i64 p.size, .int .i64 p.off, .slice p.da p.data.length p.dc, .int .u32 (p.sum : Nat), .int .i64 p.code, .slice p.ga p.gaps.length p.gc] 45)) := hs.alloc hls (.cells p.cells 45 (0, 0))
  have hbl : ∀ B ∈ blkP w.heap.size (.cells p.cells 45 (0, 0)) :: l, Stable B := stabC (blkP_stable _ _) hl
  have HB := hid hz
  obtain ⟨dv, gv, h⟩ := Sts.openSnk hz.swap
  have HS := hid h
  have hC := Sts.snkC h
  have k8 := hC.k8
  (try dsimp only at k8)
  have hP := Sts.pduC hz
  have p0 := hP.c0
  have HL := hid hl
  clear h hz hs hls hbl hl hC hP
  have b1 : (p.kind == 1) = false := by rw [hk]; rfl
  have b2 : (p.kind == 2) = true := by rw [hk]; rfl
  clear hk
  go_enter Try.func83, Try.ntmps83
  go_wp2_with fail
  go_ret
  exact ⟨rfl, HB.out.tail⟩
set_option maxRecDepth 100000 in
set_option maxHeartbeats 4000000 in
theorem cRecMeta (hk : p.kind = 1) (hp : s.phase = 0) (hn : s.got.length < 1000000) : Calls Try.prog 83 #[.pointer (some ⟨q, 0, none⟩), .agg p.cells] w fun e w' => e = .returned (.int .i64 (s.mdV p).2) ∧ Sts W (snkP q (s.mdV p).1 :: l) w' := by
  rw [show p.cells = #[.int .i64 p.kind, .int .i64 p.src, .int .i64 p.num, .int .i64 p.cls, .string p.name, .int .i64 p.size, .int .i64 p.off, .slice p.da p.data.length p.dc, .int .u32 (p.sum : Nat), .int .i64 p.code, .slice p.ga p.gaps.length p.gc] from rfl]
  have hls : ∀ B ∈ snkP q s :: l, Stable B := stabC (snkP_stable _ _) hl
  have hz : Sts W (blkP w.heap.size (.cells p.cells 45 (0, 0)) :: snkP q s :: l) (w.alloc (.cells #[.int .i64 p.kind, .int .i64 p.src, .int .i64 p.num, .int .i64 p.cls, .string p.name, .int .i64 p.size, .int .i64 p.off, .slice p.da p.data.length p.dc, .int .u32 (p.sum : Nat), .int .i64 p.code, .slice p.ga p.gaps.length p.gc] 45)) := hs.alloc hls (.cells p.cells 45 (0, 0))
  have hbl : ∀ B ∈ blkP w.heap.size (.cells p.cells 45 (0, 0)) :: l, Stable B := stabC (blkP_stable _ _) hl
  have HM := hid (cMetaK hbl q s p hz.swap hn)
  have HB := hid hz
  obtain ⟨dv, gv, h⟩ := Sts.openSnk hz.swap
  have HS := hid h
  have hC := Sts.snkC h
  have k8 := hC.k8
  (try dsimp only at k8)
  have hP := Sts.pduC hz
  have p0 := hP.c0
  have HL := hid hl
  clear h hz hs hls hbl hl hC hP
  have b1 : (p.kind == 1) = true := by rw [hk]; rfl
  clear hk
  rw [hp] at k8
  clear hp
  go_enter Try.func83, Try.ntmps83
  go_wp2_with (first | (refine wpList_ld2 rfl (.tmp 3) 45 rfl rfl (.agg p.cells) (ldPdu rfl HB.out) ?_) | (go_at_call 114; refine HM.out.mono ?_; rintro e w5 ⟨rfl, hw⟩; have HF := hid hw; clear hw))
  go_ret
  exact ⟨rfl, HF.out.swap.tail⟩
set_option maxRecDepth 100000 in
set_option maxHeartbeats 4000000 in
theorem cRecPiece (hk : p.kind = 2) (hp : s.phase = 0) (po : Nat) (hpo : p.off = (po : Int)) (hp0 : 0 < p.data.length) (hbd : po + p.data.length ≤ 100000) (hd : RdP W l p) (hft : s.Fit) (h9 : s.got.length < 800000) : Calls Try.prog 83 #[.pointer (some ⟨q, 0, none⟩), .agg p.cells] w fun e w' => e = .returned (.int .i64 (s.pcV po p.data).2) ∧ Sts W (snkP q (s.pcV po p.data).1 :: l) w' := by
  rw [show p.cells = #[.int .i64 p.kind, .int .i64 p.src, .int .i64 p.num, .int .i64 p.cls, .string p.name, .int .i64 p.size, .int .i64 p.off, .slice p.da p.data.length p.dc, .int .u32 (p.sum : Nat), .int .i64 p.code, .slice p.ga p.gaps.length p.gc] from rfl]
  have hls : ∀ B ∈ snkP q s :: l, Stable B := stabC (snkP_stable _ _) hl
  have hz : Sts W (blkP w.heap.size (.cells p.cells 45 (0, 0)) :: snkP q s :: l) (w.alloc (.cells #[.int .i64 p.kind, .int .i64 p.src, .int .i64 p.num, .int .i64 p.cls, .string p.name, .int .i64 p.size, .int .i64 p.off, .slice p.da p.data.length p.dc, .int .u32 (p.sum : Nat), .int .i64 p.code, .slice p.ga p.gaps.length p.gc] 45)) := hs.alloc hls (.cells p.cells 45 (0, 0))
  have hbl : ∀ B ∈ blkP w.heap.size (.cells p.cells 45 (0, 0)) :: l, Stable B := stabC (blkP_stable _ _) hl
  have HM := hid (cPieceK hbl q s p hz.swap po hpo hp0 hbd hd.more hft h9)
  have HB := hid hz
  obtain ⟨dv, gv, h⟩ := Sts.openSnk hz.swap
  have HS := hid h
  have hC := Sts.snkC h
  have k8 := hC.k8
  (try dsimp only at k8)
  have hP := Sts.pduC hz
  have p0 := hP.c0
  have HL := hid hl
  clear h hz hs hls hbl hl hC hP
  have b1 : (p.kind == 1) = false := by rw [hk]; rfl
  have b2 : (p.kind == 2) = true := by rw [hk]; rfl
  clear hk
  rw [hp] at k8
  clear hp hpo hp0 hbd hd hft h9
  go_enter Try.func83, Try.ntmps83
  go_wp2_with (first | (refine wpList_ld2 rfl (.tmp 3) 45 rfl rfl (.agg p.cells) (ldPdu rfl HB.out) ?_) | (go_at_call 115; refine HM.out.mono ?_; rintro e w5 ⟨rfl, hw⟩; have HF := hid hw; clear hw))
  go_ret
  exact ⟨rfl, HF.out.swap.tail⟩
set_option maxRecDepth 100000 in
set_option maxHeartbeats 4000000 in
theorem cRecEofNo (hk : p.kind = 3) (hp : s.phase = 0) (hn : s.got.length < 1000000) (s1 : Fil.Snk) (n : Int) (hf : s.finV p = (s1, n)) (hc : (n == 0) = false ∨ ((n == 0) = true ∧ (s1.cls == 2) = false)) : Calls Try.prog 83 #[.pointer (some ⟨q, 0, none⟩), .agg p.cells] w fun e w' => e = .returned (.int .i64 n) ∧ Sts W (snkP q s1 :: l) w' := by
  rw [show p.cells = #[.int .i64 p.kind, .int .i64 p.src, .int .i64 p.num, .int .i64 p.cls, .string p.name, .int .i64 p.size, .int .i64 p.off, .slice p.da p.data.length p.dc, .int .u32 (p.sum : Nat), .int .i64 p.code, .slice p.ga p.gaps.length p.gc] from rfl]
  have hls : ∀ B ∈ snkP q s :: l, Stable B := stabC (snkP_stable _ _) hl
  have hz : Sts W (blkP w.heap.size (.cells p.cells 45 (0, 0)) :: snkP q s :: l) (w.alloc (.cells #[.int .i64 p.kind, .int .i64 p.src, .int .i64 p.num, .int .i64 p.cls, .string p.name, .int .i64 p.size, .int .i64 p.off, .slice p.da p.data.length p.dc, .int .u32 (p.sum : Nat), .int .i64 p.code, .slice p.ga p.gaps.length p.gc] 45)) := hs.alloc hls (.cells p.cells 45 (0, 0))
  have hbl : ∀ B ∈ blkP w.heap.size (.cells p.cells 45 (0, 0)) :: l, Stable B := stabC (blkP_stable _ _) hl
  have hM := cFinK hbl q s p hz.swap hn
  rw [hf] at hM
  have HM := hid hM
  clear hM hf
  have HB := hid hz
  obtain ⟨dv, gv, h⟩ := Sts.openSnk hz.swap
  have HS := hid h
  have hC := Sts.snkC h
  have k8 := hC.k8
  (try dsimp only at k8)
  have hP := Sts.pduC hz
  have p0 := hP.c0
  have HL := hid hl
  clear h hz hs hls hbl hl hC hP
  have b1 : (p.kind == 1) = false := by rw [hk]; rfl
  have b2 : (p.kind == 2) = false := by rw [hk]; rfl
  have b3 : (p.kind == 3) = true := by rw [hk]; rfl
  clear hk
  rw [hp] at k8
  clear hp
  rcases hc with hc | ⟨hc, h2⟩
  all_goals
    go_enter Try.func83, Try.ntmps83
    go_wp2_with (first | (refine wpList_ld2 rfl (.tmp 3) 45 rfl rfl (.agg p.cells) (ldPdu rfl HB.out) ?_))
    refine HM.out.mono ?_
    rintro e w5 ⟨rfl, hw⟩
    try simp only [] at hw
    have HF := hid hw
    clear hw HM HB HS
    go_wp2_with fail
    try (refine (cAckd q s1 HF.out).mono ?_; rintro e w6 ⟨rfl, rfl⟩; rw [h2]; go_wp2_with fail)
    go_ret
    exact ⟨rfl, HF.out.swap.tail⟩
set_option maxRecDepth 100000 in
set_option maxHeartbeats 4000000 in
theorem cRecEofB (hk : p.kind = 3) (hp : s.phase = 0) (hn : s.got.length < 1000000) (s1 : Fil.Snk) (hf : s.finV p = (s1, 0)) (h2 : (s1.cls == 2) = true) (hd : s1.don = false) (c9 : (p.code == 0) = true ∨ (p.code == 0) = false) : Calls Try.prog 83 #[.pointer (some ⟨q, 0, none⟩), .agg p.cells] w fun e w' => e = .returned (.int .i64 0) ∧ Sts W (snkP q { s1 with ack := true, don := false } :: l) w' := by
  rw [show p.cells = #[.int .i64 p.kind, .int .i64 p.src, .int .i64 p.num, .int .i64 p.cls, .string p.name, .int .i64 p.size, .int .i64 p.off, .slice p.da p.data.length p.dc, .int .u32 (p.sum : Nat), .int .i64 p.code, .slice p.ga p.gaps.length p.gc] from rfl]
  have hls : ∀ B ∈ snkP q s :: l, Stable B := stabC (snkP_stable _ _) hl
  have hz : Sts W (blkP w.heap.size (.cells p.cells 45 (0, 0)) :: snkP q s :: l) (w.alloc (.cells #[.int .i64 p.kind, .int .i64 p.src, .int .i64 p.num, .int .i64 p.cls, .string p.name, .int .i64 p.size, .int .i64 p.off, .slice p.da p.data.length p.dc, .int .u32 (p.sum : Nat), .int .i64 p.code, .slice p.ga p.gaps.length p.gc] 45)) := hs.alloc hls (.cells p.cells 45 (0, 0))
  have hbl : ∀ B ∈ blkP w.heap.size (.cells p.cells 45 (0, 0)) :: l, Stable B := stabC (blkP_stable _ _) hl
  have hM := cFinK hbl q s p hz.swap hn
  rw [hf] at hM
  have HM := hid hM
  clear hM hf
  have HB := hid hz
  obtain ⟨dv, gv, h⟩ := Sts.openSnk hz.swap
  have HS := hid h
  have hC := Sts.snkC h
  have k8 := hC.k8
  (try dsimp only at k8)
  have hP := Sts.pduC hz
  have p0 := hP.c0
  have HL := hid hl
  clear h hz hs hls hbl hl hC hP
  have b1 : (p.kind == 1) = false := by rw [hk]; rfl
  have b2 : (p.kind == 2) = false := by rw [hk]; rfl
  have b3 : (p.kind == 3) = true := by rw [hk]; rfl
  clear hk
  rw [hp] at k8
  clear hp
  rcases c9 with c9 | c9
  all_goals
    go_enter Try.func83, Try.ntmps83
    go_wp2_with (first | (refine wpList_ld2 rfl (.tmp 3) 45 rfl rfl (.agg p.cells) (ldPdu rfl HB.out) ?_))
    refine HM.out.mono ?_
    rintro e w5 ⟨rfl, hw⟩
    try simp only [] at hw
    have HF := hid hw
    clear hw HM HB HS
    go_wp2_with fail
    refine (cAckd q s1 HF.out).mono ?_
    rintro e w6 ⟨rfl, rfl⟩
    rw [h2]
    obtain ⟨dv, gv, ho⟩ := Sts.openSnk HF.out
    have HG := hid ho
    clear ho
    go_wp2_with (first | (refine wpList_cell HG.out (stabC (rowP_stable _ _ _ _ _) (stabC (rowP_stable _ _ _ _ _) (stabC (blkP_stable _ _) HL.out))) rfl (.tmp 80) (.const (.bool true)) 4 rfl 21 (.bool true) rfl rfl szBoolK (show 21 < 25 by decide) rfl ?_; intro w7 hz; replace hz : Sts W (blkP q (.cells (({ s1 with ack := true }).cells dv gv) 109 (0, 0)) :: rowP 5 1 dv (s1).data.length (u8s (s1).data) :: rowP 81 2 gv (s1).got.length (Fil.rcells (s1).got) :: blkP w.heap.size (.cells p.cells 45 (0, 0)) :: l) w7 := hz; have H1 := hid hz; have hC := Sts.snkC hz; have k23 := hC.k23; (try dsimp only at k23); rw [hd] at k23; clear hC; have hP := Sts.pduC hz.tail.tail.tail; have p9 := hP.c9; clear hP; clear hz) | (refine wpList_cell H1.out (stabC (rowP_stable _ _ _ _ _) (stabC (rowP_stable _ _ _ _ _) (stabC (blkP_stable _ _) HL.out))) rfl (.tmp 100) (.tmp 98) 4 rfl 23 (.bool false) rfl rfl szBoolK (show 23 < 25 by decide) rfl ?_; intro w8 hz; replace hz : Sts W (blkP q (.cells (({ s1 with ack := true, don := false }).cells dv gv) 109 (0, 0)) :: rowP 5 1 dv (s1).data.length (u8s (s1).data) :: rowP 81 2 gv (s1).got.length (Fil.rcells (s1).got) :: blkP w.heap.size (.cells p.cells 45 (0, 0)) :: l) w8 := hz; have H2 := hid hz; clear hz))
    go_ret
    exact ⟨rfl, (Sts.shutSnk (s := { s1 with ack := true, don := false }) (dv := dv) (gv := gv) H2.out).swap.tail⟩
set_option maxRecDepth 100000 in
set_option maxHeartbeats 4000000 in
theorem cRecEofIdle (hk : p.kind = 3) (hp : (s.phase == 0) = false) (h2 : (s.cls == 2) = false) : Calls Try.prog 83 #[.pointer (some ⟨q, 0, none⟩), .agg p.cells] w fun e w' => e = .returned (.int .i64 0) ∧ Sts W (snkP q s :: l) w' := by
  rw [show p.cells = #[.int .i64 p.kind, .int .i64 p.src, .int .i64 p.num, .int .i64 p.cls, .string p.name, .int .i64 p.size, .int .i64 p.off, .slice p.da p.data.length p.dc, .int .u32 (p.sum : Nat), .int .i64 p.code, .slice p.ga p.gaps.length p.gc] from rfl]
  have hls : ∀ B ∈ snkP q s :: l, Stable B := stabC (snkP_stable _ _) hl
  have hz : Sts W (blkP w.heap.size (.cells p.cells 45 (0, 0)) :: snkP q s :: l) (w.alloc (.cells #[.int .i64 p.kind, .int .i64 p.src, .int .i64 p.num, .int .i64 p.cls, .string p.name, .int .i64 p.size, .int .i64 p.off, .slice p.da p.data.length p.dc, .int .u32 (p.sum : Nat), .int .i64 p.code, .slice p.ga p.gaps.length p.gc] 45)) := hs.alloc hls (.cells p.cells 45 (0, 0))
  have hbl : ∀ B ∈ blkP w.heap.size (.cells p.cells 45 (0, 0)) :: l, Stable B := stabC (blkP_stable _ _) hl
  have HA := hid (cAckd q s hz.swap)
  have HB := hid hz
  obtain ⟨dv, gv, h⟩ := Sts.openSnk hz.swap
  have HS := hid h
  have hC := Sts.snkC h
  have k8 := hC.k8
  (try dsimp only at k8)
  have hP := Sts.pduC hz
  have p0 := hP.c0
  have HL := hid hl
  clear h hz hs hls hbl hl hC hP
  have b1 : (p.kind == 1) = false := by rw [hk]; rfl
  have b2 : (p.kind == 2) = false := by rw [hk]; rfl
  have b3 : (p.kind == 3) = true := by rw [hk]; rfl
  clear hk
  go_enter Try.func83, Try.ntmps83
  go_wp2_with (first | (go_at_call 91; refine HA.out.mono ?_; rintro e w6 ⟨rfl, rfl⟩; rw [h2]))
  go_ret
  exact ⟨rfl, HB.out.tail⟩
set_option maxRecDepth 100000 in
set_option maxHeartbeats 4000000 in
theorem cRecEofIB (hk : p.kind = 3) (h2 : (s.cls == 2) = true) (hd : s.don = false) (c9 : (p.code == 0) = false) (hp : (s.phase == 0) = false) : Calls Try.prog 83 #[.pointer (some ⟨q, 0, none⟩), .agg p.cells] w fun e w' => e = .returned (.int .i64 0) ∧ Sts W (snkP q { s with ack := true, don := false } :: l) w' := by
  rw [show p.cells = #[.int .i64 p.kind, .int .i64 p.src, .int .i64 p.num, .int .i64 p.cls, .string p.name, .int .i64 p.size, .int .i64 p.off, .slice p.da p.data.length p.dc, .int .u32 (p.sum : Nat), .int .i64 p.code, .slice p.ga p.gaps.length p.gc] from rfl]
  have hls : ∀ B ∈ snkP q s :: l, Stable B := stabC (snkP_stable _ _) hl
  have hz : Sts W (blkP w.heap.size (.cells p.cells 45 (0, 0)) :: snkP q s :: l) (w.alloc (.cells #[.int .i64 p.kind, .int .i64 p.src, .int .i64 p.num, .int .i64 p.cls, .string p.name, .int .i64 p.size, .int .i64 p.off, .slice p.da p.data.length p.dc, .int .u32 (p.sum : Nat), .int .i64 p.code, .slice p.ga p.gaps.length p.gc] 45)) := hs.alloc hls (.cells p.cells 45 (0, 0))
  have hbl : ∀ B ∈ blkP w.heap.size (.cells p.cells 45 (0, 0)) :: l, Stable B := stabC (blkP_stable _ _) hl
  have HA := hid (cAckd q s hz.swap)
  have HB := hid hz
  obtain ⟨dv, gv, h⟩ := Sts.openSnk hz.swap
  have HS := hid h
  have hC := Sts.snkC h
  have k8 := hC.k8
  (try dsimp only at k8)
  have hP := Sts.pduC hz
  have p0 := hP.c0
  have HL := hid hl
  clear h hz hs hls hbl hl hC hP
  have b1 : (p.kind == 1) = false := by rw [hk]; rfl
  have b2 : (p.kind == 2) = false := by rw [hk]; rfl
  have b3 : (p.kind == 3) = true := by rw [hk]; rfl
  clear hk
  go_enter Try.func83, Try.ntmps83
  go_wp2_with fail
  refine HA.out.mono ?_
  rintro e w6 ⟨rfl, rfl⟩
  rw [h2]
  clear HA
  go_wp2_with (first | (refine wpList_cell HS.out (stabC (rowP_stable _ _ _ _ _) (stabC (rowP_stable _ _ _ _ _) (stabC (blkP_stable _ _) HL.out))) rfl (.tmp 80) (.const (.bool true)) 4 rfl 21 (.bool true) rfl rfl szBoolK (show 21 < 25 by decide) rfl ?_; intro w7 hz; replace hz : Sts W (blkP q (.cells (({ s with ack := true }).cells dv gv) 109 (0, 0)) :: rowP 5 1 dv (s).data.length (u8s (s).data) :: rowP 81 2 gv (s).got.length (Fil.rcells (s).got) :: blkP w.heap.size (.cells p.cells 45 (0, 0)) :: l) w7 := hz; have H1 := hid hz; have hC := Sts.snkC hz; have k23 := hC.k23; (try dsimp only at k23); rw [hd] at k23; clear hC; have hP := Sts.pduC hz.tail.tail.tail; have p9 := hP.c9; clear hP; clear hz) | (refine wpList_cell H1.out (stabC (rowP_stable _ _ _ _ _) (stabC (rowP_stable _ _ _ _ _) (stabC (blkP_stable _ _) HL.out))) rfl (.tmp 100) (.tmp 98) 4 rfl 23 (.bool false) rfl rfl szBoolK (show 23 < 25 by decide) rfl ?_; intro w8 hz; replace hz : Sts W (blkP q (.cells (({ s with ack := true, don := false }).cells dv gv) 109 (0, 0)) :: rowP 5 1 dv (s).data.length (u8s (s).data) :: rowP 81 2 gv (s).got.length (Fil.rcells (s).got) :: blkP w.heap.size (.cells p.cells 45 (0, 0)) :: l) w8 := hz; have H2 := hid hz; clear hz))
  go_ret
  exact ⟨rfl, (Sts.shutSnk (s := { s with ack := true, don := false }) (dv := dv) (gv := gv) H2.out).swap.tail⟩
set_option maxRecDepth 100000 in
set_option maxHeartbeats 4000000 in
theorem cRecEofIC (hk : p.kind = 3) (h2 : (s.cls == 2) = true) (hd : s.don = false) (c9 : (p.code == 0) = true) (hp : (s.phase == 0) = false) (hp2 : (s.phase == 2) = false) (hp3 : (s.phase == 3) = false) : Calls Try.prog 83 #[.pointer (some ⟨q, 0, none⟩), .agg p.cells] w fun e w' => e = .returned (.int .i64 0) ∧ Sts W (snkP q { s with ack := true, don := false } :: l) w' := by
  rw [show p.cells = #[.int .i64 p.kind, .int .i64 p.src, .int .i64 p.num, .int .i64 p.cls, .string p.name, .int .i64 p.size, .int .i64 p.off, .slice p.da p.data.length p.dc, .int .u32 (p.sum : Nat), .int .i64 p.code, .slice p.ga p.gaps.length p.gc] from rfl]
  have hls : ∀ B ∈ snkP q s :: l, Stable B := stabC (snkP_stable _ _) hl
  have hz : Sts W (blkP w.heap.size (.cells p.cells 45 (0, 0)) :: snkP q s :: l) (w.alloc (.cells #[.int .i64 p.kind, .int .i64 p.src, .int .i64 p.num, .int .i64 p.cls, .string p.name, .int .i64 p.size, .int .i64 p.off, .slice p.da p.data.length p.dc, .int .u32 (p.sum : Nat), .int .i64 p.code, .slice p.ga p.gaps.length p.gc] 45)) := hs.alloc hls (.cells p.cells 45 (0, 0))
  have hbl : ∀ B ∈ blkP w.heap.size (.cells p.cells 45 (0, 0)) :: l, Stable B := stabC (blkP_stable _ _) hl
  have HA := hid (cAckd q s hz.swap)
  have HB := hid hz
  obtain ⟨dv, gv, h⟩ := Sts.openSnk hz.swap
  have HS := hid h
  have hC := Sts.snkC h
  have k8 := hC.k8
  (try dsimp only at k8)
  have hP := Sts.pduC hz
  have p0 := hP.c0
  have HL := hid hl
  clear h hz hs hls hbl hl hC hP
  have b1 : (p.kind == 1) = false := by rw [hk]; rfl
  have b2 : (p.kind == 2) = false := by rw [hk]; rfl
  have b3 : (p.kind == 3) = true := by rw [hk]; rfl
  clear hk
  go_enter Try.func83, Try.ntmps83
  go_wp2_with fail
  refine HA.out.mono ?_
  rintro e w6 ⟨rfl, rfl⟩
  rw [h2]
  clear HA
  go_wp2_with (first | (refine wpList_cell HS.out (stabC (rowP_stable _ _ _ _ _) (stabC (rowP_stable _ _ _ _ _) (stabC (blkP_stable _ _) HL.out))) rfl (.tmp 80) (.const (.bool true)) 4 rfl 21 (.bool true) rfl rfl szBoolK (show 21 < 25 by decide) rfl ?_; intro w7 hz; replace hz : Sts W (blkP q (.cells (({ s with ack := true }).cells dv gv) 109 (0, 0)) :: rowP 5 1 dv (s).data.length (u8s (s).data) :: rowP 81 2 gv (s).got.length (Fil.rcells (s).got) :: blkP w.heap.size (.cells p.cells 45 (0, 0)) :: l) w7 := hz; have H1 := hid hz; have hC := Sts.snkC hz; have k23 := hC.k23; (try dsimp only at k23); rw [hd] at k23; clear hC; have hP := Sts.pduC hz.tail.tail.tail; have p9 := hP.c9; clear hP; clear hz) | (refine wpList_cell H1.out (stabC (rowP_stable _ _ _ _ _) (stabC (rowP_stable _ _ _ _ _) (stabC (blkP_stable _ _) HL.out))) rfl (.tmp 100) (.tmp 98) 4 rfl 23 (.bool false) rfl rfl szBoolK (show 23 < 25 by decide) rfl ?_; intro w8 hz; replace hz : Sts W (blkP q (.cells (({ s with ack := true, don := false }).cells dv gv) 109 (0, 0)) :: rowP 5 1 dv (s).data.length (u8s (s).data) :: rowP 81 2 gv (s).got.length (Fil.rcells (s).got) :: blkP w.heap.size (.cells p.cells 45 (0, 0)) :: l) w8 := hz; have H2 := hid hz; clear hz))
  go_ret
  exact ⟨rfl, (Sts.shutSnk (s := { s with ack := true, don := false }) (dv := dv) (gv := gv) H2.out).swap.tail⟩
set_option maxRecDepth 100000 in
set_option maxHeartbeats 4000000 in
theorem cRecEofID (hk : p.kind = 3) (h2 : (s.cls == 2) = true) (hd : s.don = false) (c9 : (p.code == 0) = true) (hp : s.phase = 2) : Calls Try.prog 83 #[.pointer (some ⟨q, 0, none⟩), .agg p.cells] w fun e w' => e = .returned (.int .i64 0) ∧ Sts W (snkP q { s with ack := true, don := true } :: l) w' := by
  rw [show p.cells = #[.int .i64 p.kind, .int .i64 p.src, .int .i64 p.num, .int .i64 p.cls, .string p.name, .int .i64 p.size, .int .i64 p.off, .slice p.da p.data.length p.dc, .int .u32 (p.sum : Nat), .int .i64 p.code, .slice p.ga p.gaps.length p.gc] from rfl]
  have hls : ∀ B ∈ snkP q s :: l, Stable B := stabC (snkP_stable _ _) hl
  have hz : Sts W (blkP w.heap.size (.cells p.cells 45 (0, 0)) :: snkP q s :: l) (w.alloc (.cells #[.int .i64 p.kind, .int .i64 p.src, .int .i64 p.num, .int .i64 p.cls, .string p.name, .int .i64 p.size, .int .i64 p.off, .slice p.da p.data.length p.dc, .int .u32 (p.sum : Nat), .int .i64 p.code, .slice p.ga p.gaps.length p.gc] 45)) := hs.alloc hls (.cells p.cells 45 (0, 0))
  have hbl : ∀ B ∈ blkP w.heap.size (.cells p.cells 45 (0, 0)) :: l, Stable B := stabC (blkP_stable _ _) hl
  have HA := hid (cAckd q s hz.swap)
  have HB := hid hz
  obtain ⟨dv, gv, h⟩ := Sts.openSnk hz.swap
  have HS := hid h
  have hC := Sts.snkC h
  have k8 := hC.k8
  (try dsimp only at k8)
  have hP := Sts.pduC hz
  have p0 := hP.c0
  have HL := hid hl
  clear h hz hs hls hbl hl hC hP
  have b1 : (p.kind == 1) = false := by rw [hk]; rfl
  have b2 : (p.kind == 2) = false := by rw [hk]; rfl
  have b3 : (p.kind == 3) = true := by rw [hk]; rfl
  clear hk
  rw [hp] at k8
  clear hp
  go_enter Try.func83, Try.ntmps83
  go_wp2_with fail
  refine HA.out.mono ?_
  rintro e w6 ⟨rfl, rfl⟩
  rw [h2]
  clear HA
  go_wp2_with (first | (refine wpList_cell HS.out (stabC (rowP_stable _ _ _ _ _) (stabC (rowP_stable _ _ _ _ _) (stabC (blkP_stable _ _) HL.out))) rfl (.tmp 80) (.const (.bool true)) 4 rfl 21 (.bool true) rfl rfl szBoolK (show 21 < 25 by decide) rfl ?_; intro w7 hz; replace hz : Sts W (blkP q (.cells (({ s with ack := true }).cells dv gv) 109 (0, 0)) :: rowP 5 1 dv (s).data.length (u8s (s).data) :: rowP 81 2 gv (s).got.length (Fil.rcells (s).got) :: blkP w.heap.size (.cells p.cells 45 (0, 0)) :: l) w7 := hz; have H1 := hid hz; have hC := Sts.snkC hz; have k23 := hC.k23; (try dsimp only at k23); rw [hd] at k23; clear hC; have hP := Sts.pduC hz.tail.tail.tail; have p9 := hP.c9; clear hP; clear hz) | (refine wpList_cell H1.out (stabC (rowP_stable _ _ _ _ _) (stabC (rowP_stable _ _ _ _ _) (stabC (blkP_stable _ _) HL.out))) rfl (.tmp 100) (.tmp 98) 4 rfl 23 (.bool true) rfl rfl szBoolK (show 23 < 25 by decide) rfl ?_; intro w8 hz; replace hz : Sts W (blkP q (.cells (({ s with ack := true, don := true }).cells dv gv) 109 (0, 0)) :: rowP 5 1 dv (s).data.length (u8s (s).data) :: rowP 81 2 gv (s).got.length (Fil.rcells (s).got) :: blkP w.heap.size (.cells p.cells 45 (0, 0)) :: l) w8 := hz; have H2 := hid hz; clear hz))
  go_ret
  exact ⟨rfl, (Sts.shutSnk (s := { s with ack := true, don := true }) (dv := dv) (gv := gv) H2.out).swap.tail⟩
set_option maxRecDepth 100000 in
set_option maxHeartbeats 4000000 in
theorem cRecEofIE (hk : p.kind = 3) (h2 : (s.cls == 2) = true) (hd : s.don = false) (c9 : (p.code == 0) = true) (hp : s.phase = 3) : Calls Try.prog 83 #[.pointer (some ⟨q, 0, none⟩), .agg p.cells] w fun e w' => e = .returned (.int .i64 0) ∧ Sts W (snkP q { s with ack := true, don := true } :: l) w' := by
  rw [show p.cells = #[.int .i64 p.kind, .int .i64 p.src, .int .i64 p.num, .int .i64 p.cls, .string p.name, .int .i64 p.size, .int .i64 p.off, .slice p.da p.data.length p.dc, .int .u32 (p.sum : Nat), .int .i64 p.code, .slice p.ga p.gaps.length p.gc] from rfl]
  have hls : ∀ B ∈ snkP q s :: l, Stable B := stabC (snkP_stable _ _) hl
  have hz : Sts W (blkP w.heap.size (.cells p.cells 45 (0, 0)) :: snkP q s :: l) (w.alloc (.cells #[.int .i64 p.kind, .int .i64 p.src, .int .i64 p.num, .int .i64 p.cls, .string p.name, .int .i64 p.size, .int .i64 p.off, .slice p.da p.data.length p.dc, .int .u32 (p.sum : Nat), .int .i64 p.code, .slice p.ga p.gaps.length p.gc] 45)) := hs.alloc hls (.cells p.cells 45 (0, 0))
  have hbl : ∀ B ∈ blkP w.heap.size (.cells p.cells 45 (0, 0)) :: l, Stable B := stabC (blkP_stable _ _) hl
  have HA := hid (cAckd q s hz.swap)
  have HB := hid hz
  obtain ⟨dv, gv, h⟩ := Sts.openSnk hz.swap
  have HS := hid h
  have hC := Sts.snkC h
  have k8 := hC.k8
  (try dsimp only at k8)
  have hP := Sts.pduC hz
  have p0 := hP.c0
  have HL := hid hl
  clear h hz hs hls hbl hl hC hP
  have b1 : (p.kind == 1) = false := by rw [hk]; rfl
  have b2 : (p.kind == 2) = false := by rw [hk]; rfl
  have b3 : (p.kind == 3) = true := by rw [hk]; rfl
  clear hk
  rw [hp] at k8
  clear hp
  go_enter Try.func83, Try.ntmps83
  go_wp2_with fail
  refine HA.out.mono ?_
  rintro e w6 ⟨rfl, rfl⟩
  rw [h2]
  clear HA
  go_wp2_with (first | (refine wpList_cell HS.out (stabC (rowP_stable _ _ _ _ _) (stabC (rowP_stable _ _ _ _ _) (stabC (blkP_stable _ _) HL.out))) rfl (.tmp 80) (.const (.bool true)) 4 rfl 21 (.bool true) rfl rfl szBoolK (show 21 < 25 by decide) rfl ?_; intro w7 hz; replace hz : Sts W (blkP q (.cells (({ s with ack := true }).cells dv gv) 109 (0, 0)) :: rowP 5 1 dv (s).data.length (u8s (s).data) :: rowP 81 2 gv (s).got.length (Fil.rcells (s).got) :: blkP w.heap.size (.cells p.cells 45 (0, 0)) :: l) w7 := hz; have H1 := hid hz; have hC := Sts.snkC hz; have k23 := hC.k23; (try dsimp only at k23); rw [hd] at k23; clear hC; have hP := Sts.pduC hz.tail.tail.tail; have p9 := hP.c9; clear hP; clear hz) | (refine wpList_cell H1.out (stabC (rowP_stable _ _ _ _ _) (stabC (rowP_stable _ _ _ _ _) (stabC (blkP_stable _ _) HL.out))) rfl (.tmp 100) (.tmp 98) 4 rfl 23 (.bool true) rfl rfl szBoolK (show 23 < 25 by decide) rfl ?_; intro w8 hz; replace hz : Sts W (blkP q (.cells (({ s with ack := true, don := true }).cells dv gv) 109 (0, 0)) :: rowP 5 1 dv (s).data.length (u8s (s).data) :: rowP 81 2 gv (s).got.length (Fil.rcells (s).got) :: blkP w.heap.size (.cells p.cells 45 (0, 0)) :: l) w8 := hz; have H2 := hid hz; clear hz))
  go_ret
  exact ⟨rfl, (Sts.shutSnk (s := { s with ack := true, don := true }) (dv := dv) (gv := gv) H2.out).swap.tail⟩
set_option maxRecDepth 100000 in
set_option maxHeartbeats 4000000 in
theorem cRecOthA (n1 : (p.kind == 1) = false) (n2 : (p.kind == 2) = false) (n3 : (p.kind == 3) = false) (h2 : (s.cls == 2) = false) : Calls Try.prog 83 #[.pointer (some ⟨q, 0, none⟩), .agg p.cells] w fun e w' => e = .returned (.int .i64 12) ∧ Sts W (snkP q s :: l) w' := by
  rw [show p.cells = #[.int .i64 p.kind, .int .i64 p.src, .int .i64 p.num, .int .i64 p.cls, .string p.name, .int .i64 p.size, .int .i64 p.off, .slice p.da p.data.length p.dc, .int .u32 (p.sum : Nat), .int .i64 p.code, .slice p.ga p.gaps.length p.gc] from rfl]
  have hls : ∀ B ∈ snkP q s :: l, Stable B := stabC (snkP_stable _ _) hl
  have hz : Sts W (blkP w.heap.size (.cells p.cells 45 (0, 0)) :: snkP q s :: l) (w.alloc (.cells #[.int .i64 p.kind, .int .i64 p.src, .int .i64 p.num, .int .i64 p.cls, .string p.name, .int .i64 p.size, .int .i64 p.off, .slice p.da p.data.length p.dc, .int .u32 (p.sum : Nat), .int .i64 p.code, .slice p.ga p.gaps.length p.gc] 45)) := hs.alloc hls (.cells p.cells 45 (0, 0))
  have hbl : ∀ B ∈ blkP w.heap.size (.cells p.cells 45 (0, 0)) :: l, Stable B := stabC (blkP_stable _ _) hl
  have HA := hid (cAckd q s hz.swap)
  have HB := hid hz
  obtain ⟨dv, gv, h⟩ := Sts.openSnk hz.swap
  have HS := hid h
  have hC := Sts.snkC h
  have k8 := hC.k8
  (try dsimp only at k8)
  have hP := Sts.pduC hz
  have p0 := hP.c0
  have HL := hid hl
  clear h hz hs hls hbl hl hC hP
  go_enter Try.func83, Try.ntmps83
  go_wp2_with (first | (go_at_call 91; refine HA.out.mono ?_; rintro e w6 ⟨rfl, rfl⟩; rw [h2]))
  go_ret
  exact ⟨rfl, HB.out.tail⟩
set_option maxRecDepth 100000 in
set_option maxHeartbeats 4000000 in
theorem cRecOthB (n1 : (p.kind == 1) = false) (n2 : (p.kind == 2) = false) (n3 : (p.kind == 3) = false) (h2 : (s.cls == 2) = true) (hp2 : (s.phase != 2) = true) (hp3 : (s.phase != 3) = true) : Calls Try.prog 83 #[.pointer (some ⟨q, 0, none⟩), .agg p.cells] w fun e w' => e = .returned (.int .i64 12) ∧ Sts W (snkP q s :: l) w' := by
  rw [show p.cells = #[.int .i64 p.kind, .int .i64 p.src, .int .i64 p.num, .int .i64 p.cls, .string p.name, .int .i64 p.size, .int .i64 p.off, .slice p.da p.data.length p.dc, .int .u32 (p.sum : Nat), .int .i64 p.code, .slice p.ga p.gaps.length p.gc] from rfl]
  have hls : ∀ B ∈ snkP q s :: l, Stable B := stabC (snkP_stable _ _) hl
  have hz : Sts W (blkP w.heap.size (.cells p.cells 45 (0, 0)) :: snkP q s :: l) (w.alloc (.cells #[.int .i64 p.kind, .int .i64 p.src, .int .i64 p.num, .int .i64 p.cls, .string p.name, .int .i64 p.size, .int .i64 p.off, .slice p.da p.data.length p.dc, .int .u32 (p.sum : Nat), .int .i64 p.code, .slice p.ga p.gaps.length p.gc] 45)) := hs.alloc hls (.cells p.cells 45 (0, 0))
  have hbl : ∀ B ∈ blkP w.heap.size (.cells p.cells 45 (0, 0)) :: l, Stable B := stabC (blkP_stable _ _) hl
  have HA := hid (cAckd q s hz.swap)
  have HB := hid hz
  obtain ⟨dv, gv, h⟩ := Sts.openSnk hz.swap
  have HS := hid h
  have hC := Sts.snkC h
  have k8 := hC.k8
  (try dsimp only at k8)
  have hP := Sts.pduC hz
  have p0 := hP.c0
  have HL := hid hl
  clear h hz hs hls hbl hl hC hP
  go_enter Try.func83, Try.ntmps83
  go_wp2_with (first | (go_at_call 91; refine HA.out.mono ?_; rintro e w6 ⟨rfl, rfl⟩; rw [h2]))
  go_ret
  exact ⟨rfl, HB.out.tail⟩
set_option maxRecDepth 100000 in
set_option maxHeartbeats 4000000 in
theorem cRecOthC (n1 : (p.kind == 1) = false) (n2 : (p.kind == 2) = false) (n3 : (p.kind == 3) = false) (h2 : (s.cls == 2) = true) (hp : s.phase = 2 ∨ s.phase = 3) : Calls Try.prog 83 #[.pointer (some ⟨q, 0, none⟩), .agg p.cells] w fun e w' => e = .returned (.int .i64 0) ∧ Sts W (snkP q { s with ended := true, susp := false, ack := false, nak := false, don := false } :: l) w' := by
  rw [show p.cells = #[.int .i64 p.kind, .int .i64 p.src, .int .i64 p.num, .int .i64 p.cls, .string p.name, .int .i64 p.size, .int .i64 p.off, .slice p.da p.data.length p.dc, .int .u32 (p.sum : Nat), .int .i64 p.code, .slice p.ga p.gaps.length p.gc] from rfl]
  have hls : ∀ B ∈ snkP q s :: l, Stable B := stabC (snkP_stable _ _) hl
  have hz : Sts W (blkP w.heap.size (.cells p.cells 45 (0, 0)) :: snkP q s :: l) (w.alloc (.cells #[.int .i64 p.kind, .int .i64 p.src, .int .i64 p.num, .int .i64 p.cls, .string p.name, .int .i64 p.size, .int .i64 p.off, .slice p.da p.data.length p.dc, .int .u32 (p.sum : Nat), .int .i64 p.code, .slice p.ga p.gaps.length p.gc] 45)) := hs.alloc hls (.cells p.cells 45 (0, 0))
  have hbl : ∀ B ∈ blkP w.heap.size (.cells p.cells 45 (0, 0)) :: l, Stable B := stabC (blkP_stable _ _) hl
  have HA := hid (cAckd q s hz.swap)
  have HB := hid hz
  obtain ⟨dv, gv, h⟩ := Sts.openSnk hz.swap
  have HS := hid h
  have hC := Sts.snkC h
  have k8 := hC.k8
  (try dsimp only at k8)
  have hP := Sts.pduC hz
  have p0 := hP.c0
  have HL := hid hl
  clear h hz hs hls hbl hl hC hP
  rcases hp with hp | hp
  all_goals
    rw [hp] at k8
    clear hp
    go_enter Try.func83, Try.ntmps83
    go_wp2_with (first | (go_at_call 91; refine HA.out.mono ?_; rintro e w6 ⟨rfl, rfl⟩; rw [h2]) | (refine wpList_cell HS.out (stabC (rowP_stable _ _ _ _ _) (stabC (rowP_stable _ _ _ _ _) (stabC (blkP_stable _ _) HL.out))) rfl (.tmp 28) (.const (.bool true)) 4 rfl 9 (.bool true) rfl rfl szBoolK (show 9 < 25 by decide) rfl ?_; intro w7 hz; replace hz : Sts W (blkP q (.cells (({ s with ended := true }).cells dv gv) 109 (0, 0)) :: rowP 5 1 dv (s).data.length (u8s (s).data) :: rowP 81 2 gv (s).got.length (Fil.rcells (s).got) :: blkP w.heap.size (.cells p.cells 45 (0, 0)) :: l) w7 := hz; have H1 := hid hz; clear hz) | (refine wpList_cell H1.out (stabC (rowP_stable _ _ _ _ _) (stabC (rowP_stable _ _ _ _ _) (stabC (blkP_stable _ _) HL.out))) rfl (.tmp 31) (.const (.bool false)) 4 rfl 10 (.bool false) rfl rfl szBoolK (show 10 < 25 by decide) rfl ?_; intro w8 hz; replace hz : Sts W (blkP q (.cells (({ s with ended := true, susp := false }).cells dv gv) 109 (0, 0)) :: rowP 5 1 dv (s).data.length (u8s (s).data) :: rowP 81 2 gv (s).got.length (Fil.rcells (s).got) :: blkP w.heap.size (.cells p.cells 45 (0, 0)) :: l) w8 := hz; have H2 := hid hz; clear hz) | (refine wpList_cell H2.out (stabC (rowP_stable _ _ _ _ _) (stabC (rowP_stable _ _ _ _ _) (stabC (blkP_stable _ _) HL.out))) rfl (.tmp 36) (.const (.bool false)) 4 rfl 21 (.bool false) rfl rfl szBoolK (show 21 < 25 by decide) rfl ?_; intro w9 hz; replace hz : Sts W (blkP q (.cells (({ s with ended := true, susp := false, ack := false }).cells dv gv) 109 (0, 0)) :: rowP 5 1 dv (s).data.length (u8s (s).data) :: rowP 81 2 gv (s).got.length (Fil.rcells (s).got) :: blkP w.heap.size (.cells p.cells 45 (0, 0)) :: l) w9 := hz; have H3 := hid hz; clear hz) | (refine wpList_cell H3.out (stabC (rowP_stable _ _ _ _ _) (stabC (rowP_stable _ _ _ _ _) (stabC (blkP_stable _ _) HL.out))) rfl (.tmp 38) (.const (.bool false)) 4 rfl 22 (.bool false) rfl rfl szBoolK (show 22 < 25 by decide) rfl ?_; intro w10 hz; replace hz : Sts W (blkP q (.cells (({ s with ended := true, susp := false, ack := false, nak := false }).cells dv gv) 109 (0, 0)) :: rowP 5 1 dv (s).data.length (u8s (s).data) :: rowP 81 2 gv (s).got.length (Fil.rcells (s).got) :: blkP w.heap.size (.cells p.cells 45 (0, 0)) :: l) w10 := hz; have H4 := hid hz; clear hz) | (refine wpList_cell H4.out (stabC (rowP_stable _ _ _ _ _) (stabC (rowP_stable _ _ _ _ _) (stabC (blkP_stable _ _) HL.out))) rfl (.tmp 40) (.const (.bool false)) 4 rfl 23 (.bool false) rfl rfl szBoolK (show 23 < 25 by decide) rfl ?_; intro w11 hz; replace hz : Sts W (blkP q (.cells (({ s with ended := true, susp := false, ack := false, nak := false, don := false }).cells dv gv) 109 (0, 0)) :: rowP 5 1 dv (s).data.length (u8s (s).data) :: rowP 81 2 gv (s).got.length (Fil.rcells (s).got) :: blkP w.heap.size (.cells p.cells 45 (0, 0)) :: l) w11 := hz; have H5 := hid hz; clear hz))
    go_ret
    exact ⟨rfl, (Sts.shutSnk (s := { s with ended := true, susp := false, ack := false, nak := false, don := false }) (dv := dv) (gv := gv) H5.out).swap.tail⟩
theorem cRecK (hdn0 : p.kind = 3 → s.don = false) (hft : s.Fit) (h9 : s.got.length < 800000) (hd : RdP W l p) (hv : p.kind = 2 → 0 ≤ p.off ∧ 0 < p.data.length ∧ p.off + p.data.length ≤ 100000) : Calls Try.prog 83 #[.pointer (some ⟨q, 0, none⟩), .agg p.cells] w fun e w' => e = .returned (.int .i64 (s.recV p).2) ∧ Sts W (snkP q (s.recV p).1 :: l) w' := by
  unfold Fil.Snk.recV
  split
  · rename_i hk
    split
    · rename_i hp; exact cRecMeta hl q s p hs hk hp hft.hn
    · rename_i hp; exact cRecIdle1 hl q s p hs hk (by simpa using hp)
  · rename_i hk1
    split
    · rename_i hk
      split
      · rename_i hp
        obtain ⟨a1, a2, a3⟩ := hv hk
        exact cRecPiece hl q s p hs hk hp p.off.toNat (by omega) a2 (by omega) hd hft h9
      · rename_i hp; exact cRecIdle2 hl q s p hs hk (by simpa using hp)
    · rename_i hk2
      split
      · rename_i hk
        unfold Fil.Snk.eofV
        by_cases hp : s.phase = 0
        · have e1 : (if s.phase = 0 then s.finV p else (s, 0)) = s.finV p := if_pos hp
          simp only [e1]
          rcases hf : s.finV p with ⟨s1, n⟩
          simp only []
          by_cases hc : n = 0 ∧ s.cls = 2
          · obtain ⟨rfl, hc2⟩ := hc
            have hcl : s1.cls = s.cls := by
              have : (s.finV p).1.cls = s.cls := by unfold Fil.Snk.finV; (repeat' split) <;> rfl
              rw [hf] at this; exact this
            rw [if_pos ⟨rfl, hc2⟩, hp]
            have h2 : (s1.cls == 2) = true := by rw [hcl, hc2]; rfl
            have hdn : s1.don = false := by
              have h0 := hdn0 hk
              have : (s.finV p).1.don = false := by
                unfold Fil.Snk.finV
                (repeat' split) <;> first | rfl | exact h0
              rw [hf] at this; exact this
            have hdx := hdn
            rw [hdn]
            · skip
              rw [show (false || ((p.code == 0) && (((0 : Int) == 2) || ((0 : Int) == 3)))) = false by cases (p.code == 0) <;> rfl]
              exact cRecEofB hl q s p hs hk hp hft.hn s1 hf h2 hdn (by cases (p.code == 0) <;> simp)
          · rw [if_neg hc]
            have hcl : s1.cls = s.cls := by
              have : (s.finV p).1.cls = s.cls := by unfold Fil.Snk.finV; (repeat' split) <;> rfl
              rw [hf] at this; exact this
            refine cRecEofNo hl q s p hs hk hp hft.hn s1 n hf ?_
            rw [hcl]
            by_cases hn : n = 0
            · exact Or.inr ⟨by simp [hn], by simpa using fun h => hc ⟨hn, h⟩⟩
            · exact Or.inl (by simpa using hn)
        · have e1 : (if s.phase = 0 then s.finV p else (s, 0)) = (s, 0) := if_neg hp
          simp only [e1]
          have hpb : (s.phase == 0) = false := by simpa using hp
          by_cases hc : s.cls = 2
          · rw [if_pos ⟨trivial, hc⟩]
            have h2 : (s.cls == 2) = true := by simp [hc]
            have hdn := hdn0 hk
            rw [hdn]
            · skip
              cases h9' : (p.code == 0) with
              | false => exact cRecEofIB hl q s p hs hk h2 hdn h9' hpb
              | true =>
                by_cases q2 : s.phase = 2
                · rw [show (s.phase == 2) = true by simp [q2]]; exact cRecEofID hl q s p hs hk h2 hdn h9' q2
                · by_cases q3 : s.phase = 3
                  · rw [show (s.phase == 2) = false by simp [q2], show (s.phase == 3) = true by simp [q3]]; exact cRecEofIE hl q s p hs hk h2 hdn h9' q3
                  · have b2 : (s.phase == 2) = false := by simpa using q2
                    have b3 : (s.phase == 3) = false := by simpa using q3
                    rw [b2, b3]
                    exact cRecEofIC hl q s p hs hk h2 hdn h9' hpb b2 b3
          · rw [if_neg (fun h => hc h.2)]
            exact cRecEofIdle hl q s p hs hk hpb (by simpa using hc)
      · rename_i hk3
        have n1 : (p.kind == 1) = false := by simpa using hk1
        have n2 : (p.kind == 2) = false := by simpa using hk2
        have n3 : (p.kind == 3) = false := by simpa using hk3
        split
        · rename_i hc; exact cRecOthC hl q s p hs n1 n2 n3 (by simp [hc.1]) hc.2
        · rename_i hc
          by_cases h2 : s.cls = 2
          · have q2 : s.phase ≠ 2 := fun h => hc ⟨h2, Or.inl h⟩
            have q3 : s.phase ≠ 3 := fun h => hc ⟨h2, Or.inr h⟩
            exact cRecOthB hl q s p hs n1 n2 n3 (by simp [h2]) (by simpa using q2) (by simpa using q3)
          · exact cRecOthA hl q s p hs n1 n2 n3 (by simpa using h2)
end
end Go.Proofs.Ytfjadhkhmhnccaa
