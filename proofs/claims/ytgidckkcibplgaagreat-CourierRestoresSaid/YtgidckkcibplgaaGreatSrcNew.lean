/- The check sum of a file; copies of byte slices. The sending end of a file: its state in memory; the contract of source.New. -/
import Derived.Test.YtgidckkcibplgaaGreatPduValid
import Derived.Test.YtgidckkcibplgaaGreatSepc
import Derived.Test.YtgidckkcibplgaaGreatOrdR
import Derived.Maps.AppendAt
import Derived.WalkSpells
import Derived.Lib.LazyBuf
import Derived.WideShapes
set_option linter.unusedVariables false
set_option linter.unusedSimpArgs false
namespace Fil
def sumGo (l : List Nat) : Nat → Nat
  | 0 => 0
  | k + 1 => (sumGo l k + l.getD k 0 * 2 ^ (8 * (3 - k % 4))) % 4294967296
def sumV (l : List Nat) : Nat := sumGo l l.length
theorem sumGo_lt (l : List Nat) (k : Nat) : sumGo l k < 4294967296 := by
  cases k with
  | zero => exact (by decide : 0 < 4294967296)
  | succ k => unfold sumGo; exact Nat.mod_lt _ (by decide)
end Fil
namespace Go.Proofs.YtgidckkcibplgaaGreat
open Go.RowKit Go.Proofs.Num
theorem info8 : (Tryz.prog.info? 5).map (fun i => (i.zero, i.size, i.bytes)) = some (some (.int .u8 0), 1, 1) := by kernel_rfl
theorem u32_step (a x p : Nat) (h : x * p < 4294967296) : IntKind.u32.wrap ((a : Int) + ((x * p : Nat) : Int)) = (((a + x * p) % 4294967296 : Nat) : Int) := by
  generalize x * p = y at *
  rw [IntKind.wrap_u32]; omega
set_option maxRecDepth 100000 in
theorem cPiece (w : World) (v : Value) (l : List Nat) (h : RdB w v l) (hn : l.length < 100000000) : Calls Tryz.prog 209 #[.int .i64 0, v] w fun e w' => e = .returned (.int .u32 (Fil.sumV l : Nat)) ∧ w = w' := by
  obtain ⟨a, cap, rfl, hx⟩ := h.open
  have HX := hid hx
  have HB := hid h.2
  clear h hx
  go_enter Tryz.func209, Tryz.ntmps209
  go_wp2_with fail
  go_loop [5, 13] (fun z i => ∃ k : Nat, k ≤ l.length ∧ i = .int .i64 k ∧ z = .int .u32 (Fil.sumGo l k : Nat)) (fun _ i => l.length - (intOf i).toNat)
  case atStart => exact ⟨0, by omega, rfl, rfl⟩
  case round =>
    obtain ⟨k, hk, rfl, rfl⟩ := hrel
    by_cases hlt : k < l.length
    · obtain ⟨b, off, rfl, hb, c0⟩ := HX.out k hlt
      have hxb := HB.out _ (List.getElem_mem hlt)
      have hst : Fil.sumGo l (k + 1) = (Fil.sumGo l k + l[k] * 2 ^ (8 * (3 - k % 4))) % 4294967296 := by
        show (Fil.sumGo l k + l.getD k 0 * _) % _ = _
        rw [List.getD_eq_getElem?_getD, List.getElem?_eq_getElem hlt]; rfl
      have hacc := Fil.sumGo_lt l k
      have HST := hid hst
      clear hst
      generalize Fil.sumGo l k = acc at *
      generalize l[k] = x at *
      have hr4 : (k % 4 = 0 ∧ (k : Int) % 4 = 0) ∨ (k % 4 = 1 ∧ (k : Int) % 4 = 1) ∨ (k % 4 = 2 ∧ (k : Int) % 4 = 2) ∨ (k % 4 = 3 ∧ (k : Int) % 4 = 3) := by omega
      rcases hr4 with ⟨h1, h2⟩ | ⟨h1, h2⟩ | ⟨h1, h2⟩ | ⟨h1, h2⟩
      · rw [h1, show 2 ^ (8 * (3 - 0)) = 16777216 from rfl] at HST
        clear h1
        go_wp2_with fail
        go_round
        case rel => exact ⟨k + 1, by omega, by go_num, by rw [HST.out]; exact val_int (by omega)⟩
        case measure => simp [intOf]; omega
      · rw [h1, show 2 ^ (8 * (3 - 1)) = 65536 from rfl] at HST
        clear h1
        go_wp2_with fail
        go_round
        case rel => exact ⟨k + 1, by omega, by go_num, by rw [HST.out]; exact val_int (by omega)⟩
        case measure => simp [intOf]; omega
      · rw [h1, show 2 ^ (8 * (3 - 2)) = 256 from rfl] at HST
        clear h1
        go_wp2_with fail
        go_round
        case rel => exact ⟨k + 1, by omega, by go_num, by rw [HST.out]; exact val_int (by omega)⟩
        case measure => simp [intOf]; omega
      · rw [h1, show 2 ^ (8 * (3 - 3)) = 1 from rfl] at HST
        clear h1
        go_wp2_with fail
        go_round
        case rel => exact ⟨k + 1, by omega, by go_num, by rw [HST.out]; exact val_int (by omega)⟩
        case measure => simp [intOf]; omega
    · obtain rfl : k = l.length := by omega
      go_wp2_with fail
      go_ret
      exact ⟨rfl, rfl⟩
theorem cSum (w : World) (v : Value) (l : List Nat) (h : RdB w v l) (hn : l.length < 100000000) : Calls Tryz.prog 168 #[v] w fun e w' => e = .returned (.int .u32 (Fil.sumV l : Nat)) ∧ w = w' := by
  have HP := hid (cPiece w v l h hn)
  generalize Fil.sumV l = z at *
  go_enter Tryz.func168, Tryz.ntmps168
  go_wp2_with fail
  refine HP.out.mono ?_
  rintro e w' ⟨rfl, rfl⟩
  go_wp2_with fail
  go_ret
  exact ⟨rfl, rfl⟩
theorem u8s_one (l : List Nat) : ∀ u ∈ u8s l, u.oneCell' = true := by
  intro u hu; simp [u8s] at hu; obtain ⟨x, _, rfl⟩ := hu; rfl
theorem own_at {w : World} {e : TypeId} {g n cap B : Nat} {xs : List Value} (h : w.ownsRow 0 e 1 (.slice (some ⟨g, 0, none⟩) n cap) n xs) (hB : B ≤ g) : w.ownsRow B e 1 (.slice (some ⟨g, 0, none⟩) n cap) n xs := by
  obtain ⟨h1, h2⟩ := h
  refine ⟨h1, ?_⟩
  rcases h2 with ⟨h2, _⟩ | ⟨g', cap', cur, hv, _, r⟩
  · cases h2
  · have hg : g = g' := by injection hv with hv; injection hv with hv; injection hv
    exact Or.inr ⟨g', cap', cur, hv, by omega, r⟩
/-- What lies at the head of a state is new. -/
theorem Sts.isNew {W w : World} {l : List HProp} {e : TypeId} {v : Value} {n : Nat} {ys : List Value} (h : Sts W (rowP e 1 v n ys :: l) w) (hn : ys.length = n) : New W w e v ys := by
  subst hn
  obtain ⟨F, ⟨F1, F2, ⟨⟨h1, h2⟩, hf⟩, _, _, hu⟩, hb, hlow⟩ := h
  refine ⟨⟨h1, ?_⟩, hb⟩
  rcases h2 with h2 | ⟨g, cap, cur, hv, hg, r⟩
  · exact Or.inl h2
  · refine Or.inr ⟨g, cap, cur, hv, ?_, r⟩
    have : v.ownBlock = some g := by rw [hv]; rfl
    exact hlow g ((hu g).2 (Or.inl ((hf g).2 this)))
/-- A block just made is a row. -/
theorem blkP.row {b : Nat} {cs : Array Value} {e : TypeId} {w : World} {F : Nat → Prop} (h : blkP b (.cells cs e (0, 0)) w F) (hm : cs.size ≤ 1000000) : rowP e 1 (.slice (some ⟨b, 0, none⟩) cs.size cs.size) cs.size cs.toList w F :=
  ⟨⟨by simp, Or.inr ⟨b, cs.size, cs, rfl, Nat.zero_le _, h.1, Nat.le_refl _, by unfold maxLen; omega, by omega, List.take_of_length_le (by simp)⟩⟩, fun k => by rw [h.2 k]; simp [Value.ownBlock]; exact eq_comm⟩
theorem new_nil {w w' : World} {e : TypeId} (h : Below w.heap.size w w') : New w w' e (.slice none 0 0) [] := ⟨⟨rfl, Or.inl ⟨rfl, rfl⟩⟩, h⟩
theorem plain_add (b o n : Nat) : (⟨b, o, none⟩ : Addr).add n = ⟨b, o + n, none⟩ := WideShapes.add_plain b o n
set_option maxRecDepth 100000 in
theorem cCloneB (w : World) (v : Value) (l : List Nat) (h : RdB w v l) (hn : l.length < 100000000) :
    Calls Tryz.prog 101 #[v] w fun e w' => ∃ r, e = .returned r ∧ New w w' 5 r (u8s l) := by
  obtain ⟨a, cap, rfl, hx⟩ := h.open
  obtain ⟨hq0, hcap1, hcap2⟩ := h.1.cap
  rw [u8s_len] at hq0
  clear hq0
  unfold maxLen at hcap2
  obtain ⟨i0, hi0, hz0, hz1, hz2⟩ := info_parts info8
  cases a with
  | none =>
    have hl : l = [] := by
      rcases l with _ | ⟨x, l⟩
      · rfl
      · obtain ⟨b, off, e, _⟩ := hx 0 (by simp); cases e
    subst hl
    have HX := hid hx
    clear hx h
    have hq := Lib.run_eql_slice_nil (P := Tryz.prog) w 49 5 none 0 cap 0 0 Tryz.underlying49
    go_enter Tryz.func101, Tryz.ntmps101
    go_wp2_with fail
    go_ret
    exact ⟨_, rfl, new_nil (Below.refl _ _)⟩
  | some ad =>
    have hq := Lib.run_eql_slice_nil (P := Tryz.prog) w 49 5 (some ad) l.length cap 0 0 Tryz.underlying49
    have HCN : Hid (∀ j u, (u8s l)[j]? = some u → (w.alloc (.cells #[] 5)).cell? (ad.add j) = some u) := by
      refine hid (fun j u hj => ?_)
      have hbel := (Below.refl w.heap.size w).alloc (Nat.le_refl _) (.cells #[] 5)
      have hlt : j < l.length := by
        rcases Nat.lt_or_ge j (u8s l).length with h | h
        · rw [u8s_len] at h; exact h
        · rw [List.getElem?_eq_none h] at hj; cases hj
      obtain ⟨ba, oa, ea, hba, hca⟩ := hx j hlt
      injection ea with ea
      subst ea
      rw [plain_add, hbel.cell hba, hca]
      simp only [u8s, List.getElem?_map, List.getElem?_eq_getElem hlt] at hj
      simpa using hj
    have hso : Sts w [rowP 5 1 (.slice (some ⟨w.heap.size, 0, none⟩) 0 0) 0 []] (w.alloc (.cells #[] 5)) :=
      ((Sts.nil w).alloc stab0 (.cells #[] 5)).weaken (fun F h => blkP.row h (by simp))
    have HSO0 := hid hso
    have HNU : Hid ((u8s l).length = l.length * 1) := hid (by rw [u8s_len, Nat.mul_one])
    have HCAP : Hid (l.length ≤ cap) := hid hcap1
    clear hso hx h
    generalize hm : l.length = m at *
    have HM := hid hm
    clear hm
    go_enter Tryz.func101, Tryz.ntmps101
    go_wp2_with (at_builtin; refine wpList_append_own_at _ rfl (.tmp 5) (.tmp 6) 49 rfl 0 5 i0 (.int .u8 0) 1 1 Tryz.underlying49 hi0 hz0 hz1 hz2 rfl (by decide) (.slice (some ⟨w.heap.size, 0, none⟩) 0 0) 0 [] rfl (Sts.rowOwn HSO0.out) ad m cap (u8s l) rfl HNU.out HCN.out (u8s_one l) (by unfold maxLen; omega) (by omega) (Nat.zero_le _) ?_; intro v1 w5 hown hgr _ hblk)
    have hso := Sts.grown stab0 HSO0.out hgr hown (by
      intro q' hq
      rcases hblk with h | h
      · exact Or.inl (h ▸ hq)
      · rw [h] at hq; injection hq with hq; exact Or.inr (by omega))
    rw [Nat.zero_add, List.nil_append] at hso
    have HSO := hid hso
    clear hso hown hgr hblk HCN HSO0
    go_ret
    exact ⟨_, rfl, Sts.isNew HSO.out (by rw [u8s_len]; exact HM.out)⟩
end Go.Proofs.YtgidckkcibplgaaGreat
namespace Fil
/-- The sending end. -/
structure Src where
  src : Int
  num : Int
  cls : Int
  name : ByteArray
  data : List Nat
  chunk : Int
  timeout : Int
  retries : Int
  now : Int := 0
  phase : Int := 0
  susp : Bool := false
  started : Bool := false
  at' : Int := 0
  mreq : Bool := false
  wanted : List Rng.R := []
  acked : Bool := false
  timer : Int := 0
  tries : Int := 0
  due : Bool := false
  code : Int := 0
open Go
def Src.cells (s : Src) (dv wv : Value) : Array Value := #[.bool true, .int .i64 s.src, .int .i64 s.num, .int .i64 s.cls, .string s.name, dv, .int .i64 s.chunk, .int .i64 s.timeout, .int .i64 s.retries, .int .i64 s.now, .int .i64 s.phase, .bool s.susp, .bool s.started, .int .i64 s.at', .bool s.mreq, wv, .bool s.acked, .int .i64 s.timer, .int .i64 s.tries, .bool s.due, .int .i64 s.code]
def rcells (l : List Rng.R) : List Value := l.flatMap fun r => [.int .i64 r.1, .int .i64 r.2]
def headP (src num cls : Int) (name : ByteArray) (n : Nat) : Pdu := { kind := 1, src := src, num := num, cls := cls, name := name, size := (n : Int) }
def newB (src num cls : Int) (name : ByteArray) (n : Nat) (chunk timeout retries : Int) : Bool := (headP src num cls name n).validB && withinB chunk 1 512 && withinB timeout 1 1048576 && withinB retries 0 255
end Fil
namespace Go.Proofs.YtgidckkcibplgaaGreat
open Go.RowKit Go.Proofs.Num
def srcP (q : Nat) (s : Fil.Src) : HProp := fun w F => ∃ dv wv, star (blkP q (.cells (s.cells dv wv) 170 (0, 0))) (star (rowP 5 1 dv s.data.length (u8s s.data)) (rowP 158 2 wv s.wanted.length (Fil.rcells s.wanted))) w F
theorem srcP_stable (q : Nat) (s : Fil.Src) : Stable (srcP q s) where
  dom := by rintro w F ⟨dv, wv, h⟩; exact (star_stable (blkP_stable _ _) (star_stable (rowP_stable _ _ _ _ _) (rowP_stable _ _ _ _ _))).dom h
  keep := by rintro w w' F S ⟨dv, wv, h⟩ hk hS; exact ⟨dv, wv, (star_stable (blkP_stable _ _) (star_stable (rowP_stable _ _ _ _ _) (rowP_stable _ _ _ _ _))).keep h hk hS⟩
theorem Sts.openSrc {W w : World} {l : List HProp} {q : Nat} {s : Fil.Src} (h : Sts W (srcP q s :: l) w) :
    ∃ dv wv, Sts W (blkP q (.cells (s.cells dv wv) 170 (0, 0)) :: rowP 5 1 dv s.data.length (u8s s.data) :: rowP 158 2 wv s.wanted.length (Fil.rcells s.wanted) :: l) w := by
  obtain ⟨F, ⟨F1, F2, ⟨dv, wv, a⟩, b, hd, hF⟩, hb, hn⟩ := h
  refine ⟨dv, wv, ?_⟩
  have h1 : Sts W (star (blkP q (.cells (s.cells dv wv) 170 (0, 0))) (star (rowP 5 1 dv s.data.length (u8s s.data)) (rowP 158 2 wv s.wanted.length (Fil.rcells s.wanted))) :: l) w := ⟨F, ⟨F1, F2, a, b, hd, hF⟩, hb, hn⟩
  have h2 := h1.split.swap.split
  exact h2.third
theorem Sts.shutSrc {W w : World} {l : List HProp} {q : Nat} {s : Fil.Src} {dv wv : Value} (h : Sts W (blkP q (.cells (s.cells dv wv) 170 (0, 0)) :: rowP 5 1 dv s.data.length (u8s s.data) :: rowP 158 2 wv s.wanted.length (Fil.rcells s.wanted) :: l) w) : Sts W (srcP q s :: l) w := by
  have h1 := (h.third'.join (C := star (rowP 5 1 dv s.data.length (u8s s.data)) (rowP 158 2 wv s.wanted.length (Fil.rcells s.wanted))) (fun F h => h)).swap
  exact h1.join (fun F h => ⟨dv, wv, h⟩)
theorem cSWithin (w : World) (n a b : Int) : Calls Tryz.prog 100 #[.int .i64 n, .int .i64 a, .int .i64 b] w fun e w' => e = .returned (.bool (Fil.withinB n a b)) ∧ w = w' := by
  unfold Fil.withinB
  by_cases h1 : a ≤ n
  · have d1 : decide (a ≤ n) = true := decide_eq_true h1
    rw [d1, Bool.true_and]
    go_enter Tryz.func100, Tryz.ntmps100
    go_wp2_with fail
    go_ret
    exact ⟨rfl, rfl⟩
  · have d1 : decide (a ≤ n) = false := decide_eq_false h1
    rw [d1, Bool.false_and]
    go_enter Tryz.func100, Tryz.ntmps100
    go_wp2_with fail
    go_ret
    exact ⟨rfl, rfl⟩
theorem cValid (w : World) (p : Fil.Pdu) (hname : p.name.size ≤ 1000000) (hdata : p.data.length < 1000000000) (hgl : p.gaps.length < 1000000) (hg : RdR w (.slice p.ga p.gaps.length p.gc) p.gaps) :
    Calls Tryz.prog 64 #[.agg p.cells] w fun e w' => e = .returned (.bool p.validB) ∧ Below w.heap.size w w' := by
  by_cases h : (Fil.withinB p.kind 1 7 && Fil.withinB p.src 0 15 && Fil.withinB p.num 0 65535) = true
  · simp only [Bool.and_eq_true] at h
    exact cValidGood w p hname hdata hgl hg h.1.1 h.1.2 h.2
  · exact cValidBad w p hname hdata hgl hg (by simpa using h)
theorem RdR.nil (w : World) : RdR w (.slice none 0 0) [] := ⟨none, 0, rfl, ⟨by simp, by unfold maxLen; omega⟩, fun j h => absurd h (by simp)⟩
def newSrc (src num cls : Int) (name : ByteArray) (data : List Nat) (chunk timeout retries : Int) : Fil.Src := { src := src, num := num, cls := cls, name := name, data := data, chunk := chunk, timeout := timeout, retries := retries }
theorem Sts.rowNil2 {W w : World} {l : List HProp} (e : TypeId) (h : Sts W l w) : Sts W (rowP e 2 (.slice none 0 0) 0 [] :: l) w := by
  obtain ⟨F, a, b, c⟩ := h
  exact ⟨F, ⟨fun _ => False, F, ⟨⟨by simp, Or.inl ⟨rfl, rfl⟩⟩, fun k => by simp [Value.ownBlock]⟩, a, fun _ h => h.elim, fun k => by simp⟩, b, c⟩
section
variable {W w : World} {l : List HProp} (hl : ∀ B ∈ l, Stable B) (src num cls : Int) (name : ByteArray) (v : Value) (data : List Nat) (chunk timeout retries : Int) (hs : Sts W l w) (hv : RdsB W l v data) (hname : name.size ≤ 1000000) (hn : data.length < 100000000)
include hl hs hv hname hn
omit hn in
set_option maxRecDepth 100000 in
theorem cNewBad (hb : Fil.newB src num cls name data.length chunk timeout retries = false) :
    Calls Tryz.prog 56 #[.agg #[.int .i64 src, .int .i64 num], .int .i64 cls, .string name, v, .agg #[.int .i64 chunk, .int .i64 timeout, .int .i64 retries]] w fun e w' => e = .returned (.tuple #[.pointer none, .int .i64 1]) ∧ Sts W l w' := by
  obtain ⟨a, cap, rfl, hy0⟩ := (hv.at hs.withEmp).open
  clear hy0
  have HV := hid (fun y => cValid y (Fil.headP src num cls name data.length) hname (by simp [Fil.headP]) (by simp [Fil.headP]) (RdR.nil y))
  have HB := hid hb
  unfold Fil.newB at hb
  have HCL : Hid ((Fil.headP src num cls name data.length).cells = #[.int .i64 1, .int .i64 src, .int .i64 num, .int .i64 cls, .string name, .int .i64 (data.length : Nat), .int .i64 0, .slice none 0 0, .int .u32 0, .int .i64 0, .slice none 0 0]) := rfl
  rw [HCL.out] at HV
  have hs1 := hs.alloc hl (.cells #[.int .i64 src, .int .i64 num] 38)
  have hst1 : ∀ B ∈ blkP w.heap.size (.cells #[.int .i64 src, .int .i64 num] 38) :: l, Stable B := stabC (blkP_stable _ _) hl
  have hs2 := hs1.alloc hst1 (.cells #[.int .i64 chunk, .int .i64 timeout, .int .i64 retries] 23)
  rw [show (w.alloc (.cells #[.int .i64 src, .int .i64 num] 38)).heap.size = w.heap.size + 1 by simp] at hs2
  have hst2 : ∀ B ∈ blkP (w.heap.size + 1) (.cells #[.int .i64 chunk, .int .i64 timeout, .int .i64 retries] 23) :: blkP w.heap.size (.cells #[.int .i64 src, .int .i64 num] 38) :: l, Stable B := stabC (blkP_stable _ _) hst1
  have HS := hid (hs2.box hst2 (.cells #[.int .i64 1, .int .i64 src, .int .i64 num, .int .i64 cls, .string name, .int .i64 (data.length : Nat), .int .i64 0, .slice none 0 0, .int .u32 0, .int .i64 0, .slice none 0 0] 63))
  clear hs1 hs2
  clear hv hname HCL HB hs
  generalize data.length = n at *
  generalize (Fil.headP src num cls name n).validB = b0 at *
  have hb' : b0 = false ∨ (b0 = true ∧ Fil.withinB chunk 1 512 = false) ∨ (b0 = true ∧ Fil.withinB chunk 1 512 = true ∧ Fil.withinB timeout 1 1048576 = false) ∨ (b0 = true ∧ Fil.withinB chunk 1 512 = true ∧ Fil.withinB timeout 1 1048576 = true ∧ Fil.withinB retries 0 255 = false) := by
    cases b0 <;> cases q1 : Fil.withinB chunk 1 512 <;> cases q2 : Fil.withinB timeout 1 1048576 <;> cases q3 : Fil.withinB retries 0 255 <;> simp_all
  clear hb
  rcases hb' with rfl | ⟨rfl, h1⟩ | ⟨rfl, h1, h2⟩ | ⟨rfl, h1, h2, h3⟩
  all_goals
    go_enter Tryz.func56, Tryz.ntmps56
    go_wp2_with fail
    refine (HV.out _).mono ?_
    rintro e w1 ⟨rfl, hb1⟩
    have HS1 := hid (HS.out.quiet hst2 hb1)
    have c0 := (Sts.boxCell HS1.out 0 _ rfl).1
    have c1 := (Sts.boxCell HS1.out 1 _ rfl).1
    have c2 := (Sts.boxCell HS1.out 2 _ rfl).1
    clear hb1 HS
    go_wp2_with (first | (go_at_call 100; refine (cSWithin _ _ _ _).mono ?_; rintro e w' ⟨rfl, rfl⟩))
    go_ret2
    exact ⟨rfl, HS1.out.tail.tail⟩
/-- What New leaves when it accepts. -/
def NewEnd (W : World) (s : Fil.Src) (l : List HProp) (e : Ending) (w' : World) : Prop := ∃ q, e = .returned (.tuple #[.pointer (some ⟨q, 0, none⟩), .int .i64 0]) ∧ Sts W (srcP q s :: l) w'
set_option maxRecDepth 100000 in
set_option maxHeartbeats 1000000 in
theorem cNewOk (hb : Fil.newB src num cls name data.length chunk timeout retries = true) :
    Calls Tryz.prog 56 #[.agg #[.int .i64 src, .int .i64 num], .int .i64 cls, .string name, v, .agg #[.int .i64 chunk, .int .i64 timeout, .int .i64 retries]] w (NewEnd W (newSrc src num cls name data chunk timeout retries) l) := by
  obtain ⟨a, cap, rfl, hy0⟩ := (hv.at hs.withEmp).open
  clear hy0
  have HV := hid (fun y => cValid y (Fil.headP src num cls name data.length) hname (by simp [Fil.headP]) (by simp [Fil.headP]) (RdR.nil y))
  have HB := hid hb
  unfold Fil.newB at hb
  have HCL : Hid ((Fil.headP src num cls name data.length).cells = #[.int .i64 1, .int .i64 src, .int .i64 num, .int .i64 cls, .string name, .int .i64 (data.length : Nat), .int .i64 0, .slice none 0 0, .int .u32 0, .int .i64 0, .slice none 0 0]) := rfl
  rw [HCL.out] at HV
  have hs1 := hs.alloc hl (.cells #[.int .i64 src, .int .i64 num] 38)
  have hst1 : ∀ B ∈ blkP w.heap.size (.cells #[.int .i64 src, .int .i64 num] 38) :: l, Stable B := stabC (blkP_stable _ _) hl
  have hs2 := hs1.alloc hst1 (.cells #[.int .i64 chunk, .int .i64 timeout, .int .i64 retries] 23)
  rw [show (w.alloc (.cells #[.int .i64 src, .int .i64 num] 38)).heap.size = w.heap.size + 1 by simp] at hs2
  have hst2 : ∀ B ∈ blkP (w.heap.size + 1) (.cells #[.int .i64 chunk, .int .i64 timeout, .int .i64 retries] 23) :: blkP w.heap.size (.cells #[.int .i64 src, .int .i64 num] 38) :: l, Stable B := stabC (blkP_stable _ _) hst1
  have HS := hid (hs2.box hst2 (.cells #[.int .i64 1, .int .i64 src, .int .i64 num, .int .i64 cls, .string name, .int .i64 (data.length : Nat), .int .i64 0, .slice none 0 0, .int .u32 0, .int .i64 0, .slice none 0 0] 63))
  clear hs1 hs2
  have HCB := hid (fun y (hy : Sts W (blkP (w.heap.size + 1) (.cells #[.int .i64 chunk, .int .i64 timeout, .int .i64 retries] 23) :: blkP w.heap.size (.cells #[.int .i64 src, .int .i64 num] 38) :: l) y) => cCloneB y _ data (hv.at hy.tail) hn)
  clear hname HCL HB hs hv
  have HE : Hid (∀ q e w' dv, e = Ending.returned (.tuple #[.pointer (some ⟨q, 0, none⟩), .int .i64 0]) → Sts W (blkP q (.cells #[.bool true, .int .i64 src, .int .i64 num, .int .i64 cls, .string name, dv, .int .i64 chunk, .int .i64 timeout, .int .i64 retries, .int .i64 0, .int .i64 0, .bool false, .bool false, .int .i64 0, .bool false, .slice none 0 0, .bool false, .int .i64 0, .int .i64 0, .bool false, .int .i64 0] 170 (0, 0)) :: rowP 5 1 dv data.length (u8s data) :: l) w' → NewEnd W (newSrc src num cls name data chunk timeout retries) l e w') := hid (by
    intro q e w' dv he h
    refine ⟨q, he, Sts.shutSrc (dv := dv) (wv := .slice none 0 0) ?_⟩
    exact (Sts.rowNil2 158 h).third')
  have hDL := HE
  clear hDL
  simp only [Bool.and_eq_true] at hb
  obtain ⟨⟨⟨h0, h1⟩, h2⟩, h3⟩ := hb
  rw [h0] at HV
  clear h0
  go_enter Tryz.func56, Tryz.ntmps56
  go_wp2_with fail
  refine (HV.out _).mono ?_
  rintro e w1 ⟨rfl, hb1⟩
  have HS1 := hid (HS.out.quiet hst2 hb1)
  have c0 := (Sts.boxCell HS1.out 0 _ rfl).1
  have c1 := (Sts.boxCell HS1.out 1 _ rfl).1
  have c2 := (Sts.boxCell HS1.out 2 _ rfl).1
  clear hb1 HS
  go_wp2_with (first | (go_at_call 100; refine (cSWithin _ _ _ _).mono ?_; rintro e w' ⟨rfl, rfl⟩))
  clear c0 c1 c2
  refine wp_region_ord (.pure 0 (.pure 1 (.pure 2 (.pure 3 (.pure 5 (.eff 4 (.pure 6 (.eff 7 (.pure 8 (.pure 9 .nil)))))))))) (fun y => Sts W (blkP (w.heap.size + 1) (.cells #[.int .i64 chunk, .int .i64 timeout, .int .i64 retries] 23) :: blkP w.heap.size (.cells #[.int .i64 src, .int .i64 num] 38) :: l) y) (fun y => Sts W (blkP (w.heap.size + 1) (.cells #[.int .i64 chunk, .int .i64 timeout, .int .i64 retries] 23) :: blkP w.heap.size (.cells #[.int .i64 src, .int .i64 num] 38) :: l) y) (by kernel_rfl) (by kernel_rfl) (HS1.out.drew hst2) (fun _ h => h) ?_
  iterate 5
    (apply ord_pure (ho := rfl)
     · go_simp
     · intro x hx; have c0 := (Sts.boxCell hx 0 _ rfl).1; have c1 := (Sts.boxCell hx 1 _ rfl).1; have c2 := (Sts.boxCell hx 2 _ rfl).1; have d0 := (Sts.boxCell hx.tail 0 _ rfl).1; have d1 := (Sts.boxCell hx.tail 1 _ rfl).1; go_simp; rfl
     apply ord_norm
     · go_simp; rfl)
  apply ord_eff (ho := rfl)
  · go_simp
  intro y hy
  refine eff_call (f := 101) (by go_simp) (HCB.out y hy) ?_
  rintro e w2 ⟨dv, rfl, hN⟩
  have hs2' := hy.new hst2 hN
  rw [u8s_len] at hs2'
  obtain ⟨da, dc, hde⟩ := hN.rd.eq
  rw [u8s_len] at hde
  subst hde
  refine ⟨_, rfl, (fun y => Sts W (blkP (w.heap.size + 1) (.cells #[.int .i64 chunk, .int .i64 timeout, .int .i64 retries] 23) :: blkP w.heap.size (.cells #[.int .i64 src, .int .i64 num] 38) :: l) y), (fun y => Sts W (rowP 5 1 (.slice da data.length dc) data.length (u8s data) :: blkP (w.heap.size + 1) (.cells #[.int .i64 chunk, .int .i64 timeout, .int .i64 retries] 23) :: blkP w.heap.size (.cells #[.int .i64 src, .int .i64 num] 38) :: l) y), hs2', (fun _ h => h.tail), (fun _ h => h), ?_⟩
  clear hs2' hN hy
  apply ord_norm
  · go_simp; rfl
  apply ord_pure (ho := rfl)
  · go_simp
  · intro x hx; go_simp; rfl
  apply ord_norm
  · go_simp; rfl
  apply ord_eff (ho := rfl)
  · go_simp
  intro y hy
  have hn1 := hy.alloc (stabC (rowP_stable _ _ _ _ _) hst2) (.cells #[.bool true, .int .i64 src, .int .i64 num, .int .i64 cls, .string name, .slice da data.length dc, .int .i64 chunk, .int .i64 timeout, .int .i64 retries, .int .i64 0, .int .i64 0, .bool false, .bool false, .int .i64 0, .bool false, .slice none 0 0, .bool false, .int .i64 0, .int .i64 0, .bool false, .int .i64 0] 170 (0, 0))
  refine eff_value (fun y => Sts W (blkP (w.heap.size + 1) (.cells #[.int .i64 chunk, .int .i64 timeout, .int .i64 retries] 23) :: blkP w.heap.size (.cells #[.int .i64 src, .int .i64 num] 38) :: l) y) (fun z => Sts W (blkP y.heap.size (.cells #[.bool true, .int .i64 src, .int .i64 num, .int .i64 cls, .string name, .slice da data.length dc, .int .i64 chunk, .int .i64 timeout, .int .i64 retries, .int .i64 0, .int .i64 0, .bool false, .bool false, .int .i64 0, .bool false, .slice none 0 0, .bool false, .int .i64 0, .int .i64 0, .bool false, .int .i64 0] 170 (0, 0)) :: rowP 5 1 (.slice da data.length dc) data.length (u8s data) :: blkP (w.heap.size + 1) (.cells #[.int .i64 chunk, .int .i64 timeout, .int .i64 retries] 23) :: blkP w.heap.size (.cells #[.int .i64 src, .int .i64 num] 38) :: l) z) (v := .pointer (some ⟨y.heap.size, 0, none⟩)) (w := y.alloc (.cells #[.bool true, .int .i64 src, .int .i64 num, .int .i64 cls, .string name, .slice da data.length dc, .int .i64 chunk, .int .i64 timeout, .int .i64 retries, .int .i64 0, .int .i64 0, .bool false, .bool false, .int .i64 0, .bool false, .slice none 0 0, .bool false, .int .i64 0, .int .i64 0, .bool false, .int .i64 0] 170 (0, 0))) ?_ hn1 (fun _ h => h.tail.tail) (fun _ h => h) ?_
  · go_simp
  clear hn1 hy
  apply ord_norm
  · go_simp; rfl
  iterate 2
    (apply ord_pure (ho := rfl)
     · go_simp
     · intro x hx; go_simp; rfl
     apply ord_norm
     · go_simp; rfl)
  refine ord_nil fun z hz => ?_
  have HF := hid hz
  clear hz
  generalize y.heap.size = q at *
  go_wp2_with fail
  go_ret2
  refine HE.out q _ _ (.slice da data.length dc) rfl ?_
  have h6 : Sts W (blkP (w.heap.size + 1) (.cells #[.int .i64 chunk, .int .i64 timeout, .int .i64 retries] 23) :: blkP q (.cells #[.bool true, .int .i64 src, .int .i64 num, .int .i64 cls, .string name, .slice da data.length dc, .int .i64 chunk, .int .i64 timeout, .int .i64 retries, .int .i64 0, .int .i64 0, .bool false, .bool false, .int .i64 0, .bool false, .slice none 0 0, .bool false, .int .i64 0, .int .i64 0, .bool false, .int .i64 0] 170 (0, 0)) :: rowP 5 1 (.slice da data.length dc) data.length (u8s data) :: blkP w.heap.size (.cells #[.int .i64 src, .int .i64 num] 38) :: l) z := HF.out.third
  exact Sts.tail (h6.tail.third)
end
end Go.Proofs.YtgidckkcibplgaaGreat
