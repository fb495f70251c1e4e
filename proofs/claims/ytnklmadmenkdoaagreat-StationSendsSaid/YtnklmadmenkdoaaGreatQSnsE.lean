/- The station's example holds; a new station as the walk wants it. Bytes of packets and frames of commands; what a frame holds. The specification's packet: its size. The specification's packet, decoded. Regions that draw their order: a head of operations each of which yields one and the same value in every world of a class (calls may move the world within the class), then a tail in a forced order. One walk serves every order. No program in sight. The order of the law's long region. -/
import Derived.Test.YtnklmadmenkdoaaGreatQStnR
import Derived.Test.YtnklmadmenkdoaaGreatQStnG
import Derived.Test.YtnklmadmenkdoaaGreatQSnrC
import Derived.StillTail
import Derived.Deep.QuietTactic
set_option linter.unusedVariables false
set_option linter.unusedSimpArgs false
namespace Go.Proofs.YtnklmadmenkdoaaGreat
open Go.RowKit Go.Proofs.Num
theorem mixedSta : Tryz.prog.follows .mixedOrders = true := by kernel_rfl
set_option maxRecDepth 1000000 in
theorem awakeSta : Go.Ev.okB (Go.Ev.callV 8 [] Tryz.prog prC ihR Go.Ev.bare 0 Go.Ev.kid) = true := by kernel_rfl
theorem cAwake56 (w : World) : Calls Tryz.prog 8 #[] w fun e w' => e = .returned (.bool true) ∧ Go.RowKit.Below w.heap.size w w' :=
  Go.Ev.open_okF mixedSta prC_ok 100000 8 [] awakeSta w [] (Go.Ev.noBase w) (Go.Ev.noBase_at w) .nil
def cfgV : Array Value := #[.int .i64 5, .int .i64 16, .int .i64 256, .int .i64 20, .int .i64 10, .int .i64 64, .int .i64 40, .int .i64 10]
def cfg0 : Array Value := #[.int .i64 0, .int .i64 0, .int .i64 0, .int .i64 0, .int .i64 0, .int .i64 0, .int .i64 0, .int .i64 0]
set_option maxRecDepth 100000 in
theorem szCfg : ∀ w, (Go.sizeOf 31).run Tryz.prog w = .ok 8 w := fun w => by first | rfl | simp [go_sem] | kernel_rfl
set_option maxRecDepth 100000 in
theorem cConfig (w : World) : Calls Tryz.prog 10 #[] w fun e w' => e = .returned (.agg cfgV) ∧ Below w.heap.size w w' := by
  have HS : Hid (Sts w (blkP w.heap.size (.cells cfg0 31 (0, 0)) :: []) (w.alloc (.cells cfg0 31))) := hid (Sts.alloc stab0 (Sts.nil w) _)
  go_enter Tryz.func10, Tryz.ntmps10
  go_wp2_with (first
    | (refine wpList_aggS HS.out stab0 rfl (.tmp 0) (.tmp 2) 31 rfl cfgV rfl rfl szCfg rfl rfl ?_; intro w5 h5; have H5 := hid h5; clear h5))
  refine post_cell1S H5.out Tryz.results10 rfl rfl (ldSta H5.out) ⟨rfl, H5.out.below⟩
theorem fop_new {W w : World} {l : List HProp} {fq : Nat} (h : Sts W (blkP fq (.cells (fopA 0 0 0 0 (.slice none 0 0)) 216 (0, 0)) :: l) w) : Sts W (fopP fq [] 0 0 0 0 :: l) w := by
  refine Sts.closeF (uv := .slice none 0 0) (vs := []) ?_
  have h1 := Sts.rowNilS 35 1 (Sts.withEmp h)
  have h2 : Sts W (rowP 35 1 (.slice none 0 0) 0 [] :: rowsP 5 [] [] :: blkP fq (.cells (fopA 0 0 0 0 (.slice none 0 0)) 216 (0, 0)) :: l) w := h1
  exact h2.third
/-- A new station. -/
theorem cStart (w : World) : Calls Tryz.prog 9 #[.agg cfgV] w fun e w' => ∃ (g fi u0 u1 u2 ar tq c fq mp : Nat), e = .returned (.tuple #[.pointer (some ⟨g, 0, none⟩), .int .i64 0]) ∧ Sts w (stL g fi u0 u1 u2 ar tq c fq mp 0 [] 0 0 0 0 ++ [couP c 0]) w' := by
  refine (cStaNew stab0 5 16 256 20 10 64 40 10 220 (Sts.nil w) (by omega) (by omega) (by omega) (by omega) (by omega) (by omega) (by omega) (by omega) (by rfl) (by omega)).mono ?_
  rintro e w' ⟨g, fi, u0, u1, u2, ar, tq, c, fq, mp, m1, m2, m3, q, m, rfl, h⟩
  refine ⟨g, fi, u0, u1, u2, ar, tq, c, fq, mp, rfl, ?_⟩
  rw [List.append_nil] at h
  have h1 := Sts.sub h (List.Sublist.cons_cons _ (List.Sublist.cons_cons _ (List.Sublist.cons_cons _ (List.sublist_append_right _ _))))
  have h2 := h1.perm (List.perm_append_comm (l₁ := [_, _, _, _]) (l₂ := couL 1 64 40 10 c m1 m2 m3 q m))
  have h3 := cou_new h2
  have h4 := trk_new (h3.perm (List.perm_middle (l₁ := [_, _, _, _]) (l₂ := [])))
  have h5 := fop_new (h4.perm (List.perm_middle (l₁ := [_, _, _, _]) (l₂ := [])))
  exact h5.perm (by
    refine (List.Perm.trans (l₂ := [blkP g (.cells (staC fi u0 u1 u2 ar tq c fq mp 0 1) 119 (0, 0)), blkP mp (cntO 0), fopP fq [] 0 0 0 0, trkP tq 0, couP c 0]) ?_ (List.Perm.refl _))
    exact (List.perm_append_comm (l₁ := [fopP fq [] 0 0 0 0, trkP tq 0, couP c 0]) (l₂ := [blkP g (.cells (staC fi u0 u1 u2 ar tq c fq mp 0 1) 119 (0, 0)), blkP mp (cntO 0)])))
end Go.Proofs.YtnklmadmenkdoaaGreat
namespace Cmd
theorem enc_lt (src num s : Nat) (args : List Int) (data : List Nat) (h : cmdOk (s : Int) args data.length = true) (hd : ∀ x ∈ data, x < 256) (hl : data.length ≤ 100000) : ∀ x ∈ enc src num s args data, x < 256 := by
  unfold cmdOk at h
  simp only [Bool.and_eq_true, decide_eq_true_eq] at h
  obtain ⟨h1, h2, h3, h4⟩ := h
  intro x hx
  unfold enc at hx
  rcases List.mem_append.1 hx with hx | hx
  · rcases List.mem_append.1 hx with hx | hx
    · rcases List.mem_append.1 hx with hx | hx
      · rcases List.mem_append.1 hx with hx | hx
        · exact Oct.be_lt _ _ x hx
        · exact Oct.be_lt _ _ x hx
      · exact Oct.be_lt _ _ x hx
    · exact argsB_lt args (List.all_eq_true.1 h3) x hx
  · by_cases hq : datN (s : Int) = 1
    · rw [if_pos hq] at hx; exact blobB_lt data hl hd x hx
    · rw [if_neg hq] at hx; simp at hx
theorem pkB_lt (c : Nat) (d : List Nat) (hc : c ≤ 16383) (hl : d.length ≤ 4090) (hd : ∀ x ∈ d, x < 256) : ∀ x ∈ pkB true false 10 3 c d, x < 256 := by
  intro x hx
  unfold pkB pkH at hx
  have hF := pkF_lt true false 10 (by decide)
  have hS := pkS_lt 3 c (by decide) hc
  rcases List.mem_append.1 hx with hx | hx
  · simp only [List.mem_cons, List.not_mem_nil, or_false] at hx
    rcases hx with rfl | rfl | rfl | rfl | rfl | rfl
    · omega
    · exact Nat.mod_lt _ (by decide)
    · omega
    · exact Nat.mod_lt _ (by decide)
    · omega
    · exact Nat.mod_lt _ (by decide)
  · exact hd x hx
end Cmd
namespace Go.Proofs.YtnklmadmenkdoaaGreat
open Go.RowKit Go.Proofs.Num Go.ChangeShapes
/-- What is known of an order that was taken. -/
def OrdOk (w : World) (c : Cmd.Ord) : Prop := Cmd.cmdOk (c.sv : Int) c.args c.data.length = true ∧ Rd w (.slice c.aa c.args.length c.ca) (i64s c.args) ∧ RdB w (.slice c.ad c.data.length c.cd) c.data ∧ (c.ad = none → c.cd = 0) ∧ c.data.length ≤ 600
/-- The unit of the order A. -/
theorem unit_facts {w : World} {cs : List Cmd.Ord} (h : ∀ x ∈ cs, OrdOk w x) (hn : cs.length ≤ 12) (A : Nat) (hA : A < cs.length) : ∃ e, e = Cmd.enc 1 (A + 1) cs[A].sv cs[A].args cs[A].data ∧ (Cmd.uC 0 cs)[A]? = some (Cmd.pkB true false 10 3 A e) ∧ 4 ≤ e.length ∧ e.length ≤ 600 ∧ (∀ x ∈ e, x < 256) ∧ (∀ x ∈ Cmd.pkB true false 10 3 A e, x < 256) ∧ (Cmd.pkB true false 10 3 A e).length = e.length + 6 := by
  have hx := h cs[A] (List.getElem_mem hA)
  have hl := Cmd.enc_len 1 (A + 1) cs[A].sv cs[A].args cs[A].data hx.1
  have hlt := Cmd.enc_lt 1 (A + 1) cs[A].sv cs[A].args cs[A].data hx.1 hx.2.2.1.2 (by have := hx.2.2.2.2; omega)
  have hg := Cmd.uC_get cs 0 A hA
  rw [Nat.zero_add] at hg
  exact ⟨_, rfl, hg, hl.1, hl.2, hlt, Cmd.pkB_lt A _ (by omega) (by omega) hlt, Cmd.pkB_len _ _ _ _ _ _⟩
theorem units_ok {w : World} {cs : List Cmd.Ord} (h : ∀ x ∈ cs, OrdOk w x) (hn : cs.length ≤ 12) : (∀ u ∈ Cmd.uC 0 cs, 1 ≤ u.length ∧ u.length ≤ 1017) ∧ ∀ u ∈ Cmd.uC 0 cs, ∀ x ∈ u, x < 256 := by
  have key : ∀ u ∈ Cmd.uC 0 cs, (1 ≤ u.length ∧ u.length ≤ 1017) ∧ ∀ x ∈ u, x < 256 := by
    intro u hu
    obtain ⟨A, hA, rfl⟩ := List.mem_iff_getElem.1 hu
    have hA2 : A < cs.length := by rwa [Cmd.uC_len] at hA
    obtain ⟨e, _, h1, h2, h3, _, h5, h6⟩ := unit_facts h hn A hA2
    rw [List.getElem?_eq_getElem hA] at h1
    injection h1 with h1
    rw [h1]
    exact ⟨⟨by omega, by omega⟩, h5⟩
  exact ⟨fun u hu => (key u hu).1, fun u hu => (key u hu).2⟩
theorem tcB_lt (s : Nat) (d : List Nat) (hd : ∀ x ∈ d, x < 256) : ∀ x ∈ tcB false false 5 0 s d, x < 256 := by
  unfold tcB
  refine Cmd.crcB_lt _ ?_
  intro x hx
  rcases List.mem_append.1 hx with hx | hx
  · exact tcH_lt _ _ _ _ _ _ x hx
  · exact hd x hx
theorem cellK {w y : World} {l : List HProp} {b o : Nat} {v : Value} (h : Sts w l y) (hc : w.cell? ⟨b, o, none⟩ = some v) : y.cell? ⟨b, o, none⟩ = some v := (h.below.cell (cell_lt hc)).trans hc
theorem frs_get (us : List (List Nat)) (fl j i : Nat) (hi : i < j) : (frs us fl j)[i]? = some (tcB false false 5 0 (fl + i) (us.getD (fl + i) [])) := by
  unfold frs; rw [List.getElem?_map, List.getElem?_range hi]; rfl
theorem frs_len (us : List (List Nat)) (fl j : Nat) : (frs us fl j).length = j := by simp [frs]
/-- The frame i of a tick, as it lies in memory. -/
theorem frame_at {W w : World} {l : List HProp} {ovs : List Value} {us : List (List Nat)} {fl j : Nat} (h : Sts W (rowsP 5 ovs (frs us fl j) :: l) w) (i : Nat) (hi : i < j) (u : List Nat) (hu : us[fl + i]? = some u) (h8 : ∀ x ∈ u, x < 256) :
    ∃ a n c, ovs[i]? = some (.slice a n c) ∧ n = u.length + 7 ∧ RdB w (.slice a n c) (tcB false false 5 0 (fl + i) u) := by
  obtain ⟨F, hF⟩ := h.head
  obtain ⟨v, h1, h2, _⟩ := rowsP_rd hF i (by rw [frs_len]; exact hi)
  have hg := frs_get us fl j i hi
  obtain ⟨hlt, hg⟩ := List.getElem?_eq_some_iff.1 hg
  have hu2 : us.getD (fl + i) [] = u := by rw [List.getD_eq_getElem?_getD, hu]; rfl
  rw [hu2] at hg
  rw [hg] at h2
  obtain ⟨a, c, hv⟩ := h2.eq
  rw [u8s_len, tcB_len] at hv
  exact ⟨a, _, c, by rw [h1, hv], rfl, by rw [← hv]; exact ⟨h2, tcB_lt _ _ h8⟩⟩
end Go.Proofs.YtnklmadmenkdoaaGreat
namespace Go.Proofs.YtnklmadmenkdoaaGreat
open Go.RowKit Go.Proofs.Num
theorem pkS_3 : ∀ c, c < 16384 → Cmd.pkS 3 c = 49152 + c := by
  intro c hc
  unfold Cmd.pkS
  rw [show 3 * 16384 = 3 <<< 14 from rfl, ← Nat.shiftLeft_add_eq_or_of_lt (show c < 2 ^ 14 by omega)]
  rfl
/-- The header of a packet of commands, n bytes of data, the count c. -/
def hd6 (c n : Nat) : List Nat := [16, 10, (49152 + c) / 256, (49152 + c) % 256, (n - 1) / 256, (n - 1) % 256]
theorem pkH_6 (c n : Nat) (hc : c ≤ 16383) : Cmd.pkH true false 10 3 c n = hd6 c n := by
  unfold Cmd.pkH hd6
  rw [pkS_3 c (by omega)]
  rfl
theorem sz_facts (n A B : Nat) (h0 : 1 ≤ n) (h : n ≤ 4090) (hA : A = (n - 1) / 256) (hB : B = (n - 1) % 256) : IntKind.i64.wrap (A : Int) = (A : Int) ∧ IntKind.i64.wrap (256 * (A : Int)) = 256 * (A : Int) ∧ IntKind.i64.wrap (7 + 256 * (A : Int)) = 7 + 256 * (A : Int) ∧ IntKind.i64.wrap (B : Int) = (B : Int) ∧ IntKind.i64.wrap (7 + 256 * (A : Int) + (B : Int)) = ((n + 6 : Nat) : Int) := by
  have v : ∀ k : Nat, k < 500000 → IntKind.i64.wrap (k : Int) = (k : Int) := by intro k hk; rw [IntKind.wrap_i64]; omega
  refine ⟨v A (by omega), ?_, ?_, v B (by omega), ?_⟩
  · rw [show (256 : Int) * (A : Int) = ((256 * A : Nat) : Int) by omega]; exact v _ (by omega)
  · rw [show (7 : Int) + 256 * (A : Int) = ((7 + 256 * A : Nat) : Int) by omega]; exact v _ (by omega)
  · rw [show (7 : Int) + 256 * (A : Int) + (B : Int) = ((n + 6 : Nat) : Int) by omega]; exact v _ (by omega)
section
variable (b off n cap : Nat) (w : World)
set_option maxRecDepth 100000 in
set_option maxHeartbeats 4000000 in
theorem cR10Size (c m : Nat) (h4 : 1 ≤ m) (h5 : m ≤ 4090) (hn : n = m + 6) (hbw : b < w.heap.size) (k0 : w.cell? ⟨b, off, none⟩ = some (.int .u8 16)) (k4 : w.cell? ⟨b, off + 4, none⟩ = some (.int .u8 (((m - 1) / 256 : Nat) : Int))) (k5 : w.cell? ⟨b, off + 5, none⟩ = some (.int .u8 (((m - 1) % 256 : Nat) : Int))) :
    Calls Tryz.prog 60 #[.slice (some ⟨b, off, none⟩) n cap] w fun e w' => e = .returned (.tuple #[.int .i64 ((m + 6 : Nat) : Int), .int .i64 0]) ∧ Below w.heap.size w w' := by
  obtain ⟨A, hA⟩ : ∃ A, A = (m - 1) / 256 := ⟨_, rfl⟩
  obtain ⟨B, hB⟩ : ∃ B, B = (m - 1) % 256 := ⟨_, rfl⟩
  have I5 := hid (show 0 < n ∧ (1 : Int) < (n : Int) ∧ (4 : Int) < (n : Int) ∧ (5 : Int) < (n : Int) by omega)
  have F := hid (sz_facts m A B h4 h5 hA hB)
  have d1 : decide ((n : Int) < 6) = false := decide_eq_false (by omega)
  have d2 : decide ((4096 : Int) < ((m + 6 : Nat) : Int)) = false := decide_eq_false (by omega)
  obtain ⟨N, hN⟩ : ∃ N, N = m + 6 := ⟨_, rfl⟩
  rw [← hA] at k4
  rw [← hB] at k5
  rw [← hN] at F d2 ⊢
  have CS := hid (show ∀ y : World, Sts w [] y → y.cell? ⟨b, off, none⟩ = some (.int .u8 16) ∧ y.cell? ⟨b, off + 4, none⟩ = some (.int .u8 (A : Int)) ∧ y.cell? ⟨b, off + 5, none⟩ = some (.int .u8 (B : Int)) from fun y hy => ⟨(hy.below.cell (hbw)).trans k0, (hy.below.cell (hbw)).trans k4, (hy.below.cell (hbw)).trans k5⟩)
  clear hA hB hN hn h4 h5
  obtain ⟨i0, i1, i4, i5⟩ := I5.out
  go_enter Tryz.func60, Tryz.ntmps60
  go_wp2_with fail
  obtain ⟨f1, f2, f3, f4, f5⟩ := F.out
  refine wp_region_ordQ (.pure 0 (.pure 1 (.pure 2 (.pure 3 (.pure 4 (.pure 5 (.pure 6 (.pure 7 (.pure 8 (.pure 9 (.pure 10 (.pure 11 .nil)))))))))))) (fun y => Sts w [] y) (fun y => Sts w [] y) (by kernel_rfl) (by kernel_rfl) (Sts.drew stab0 (Sts.nil w)) (fun y hy => hy) ?_
  iterate 12
    (apply ordq_pure (ho := rfl)
     · go_simp
     · intro x hx; obtain ⟨q0, q4, q5⟩ := CS.out x hx; go_simp; rfl
     apply ordq_norm
     · go_simp; rfl)
  refine ordq_nil fun z hz => ?_
  have HZ := hid hz.below
  clear hz
  go_wp2_with fail
  go_ret2
  exact ⟨rfl, HZ.out⟩
end
end Go.Proofs.YtnklmadmenkdoaaGreat
namespace Go.Proofs.YtnklmadmenkdoaaGreat
open Go.RowKit Go.Proofs.Num
theorem cnt_facts (c C E : Nat) (h : c ≤ 16383) (hC : C = (49152 + c) / 256) (hE : E = (49152 + c) % 256) : IntKind.i64.wrap (C : Int) = (C : Int) ∧ IntKind.i64.wrap (256 * (C : Int)) = 256 * (C : Int) ∧ IntKind.i64.wrap (E : Int) = (E : Int) ∧ IntKind.i64.wrap (256 * (C : Int) + (E : Int)) = ((49152 + c : Nat) : Int) := by
  have v : ∀ k : Nat, k < 500000 → IntKind.i64.wrap (k : Int) = (k : Int) := by intro k hk; rw [IntKind.wrap_i64]; omega
  refine ⟨v C (by omega), ?_, v E (by omega), ?_⟩
  · rw [show (256 : Int) * (C : Int) = ((256 * C : Nat) : Int) by omega]; exact v _ (by omega)
  · rw [show (256 : Int) * (C : Int) + (E : Int) = ((49152 + c : Nat) : Int) by omega]; exact v _ (by omega)
theorem cnt_facts2 (c K : Nat) (h : c ≤ 16383) (hK : K = 49152 + c) : (K : Int).tdiv 16384 = 3 ∧ (K : Int).tmod 16384 = (c : Int) := by
  constructor
  · rw [Int.tdiv_eq_ediv_of_nonneg (by omega)]; omega
  · rw [Int.tmod_eq_emod_of_nonneg (by omega)]; omega
theorem results_cell_tmp2 {fn : Func} {p u x : Tmp} {ty : TypeId} (h : fn.results = #[.cell p ty, .tmp u, .tmp x]) (tmps : Array Value) (P : Program) (w : World) :
    (results fn tmps).run P w =
      ((asAddr (tmps.getD p undef)).run P w).andThen fun a w₁ => ((loadVar ty a).run P w₁).andThen fun v w₂ => .ok (.tuple #[v, tmps.getD u undef, tmps.getD x undef]) w₂ := by
  simp only [results, h]
  simp [Sem.run_bind, Result.andThen]
set_option maxRecDepth 100000 in
theorem post_cell3S {fn : Func} {R : Ending → World → Prop} {a : Act} {W w : World} {l : List HProp} {b : Nat} {cs : Array Value} {t0 ty : TypeId} {p u y : Tmp} (hS : Sts W (blkP b (.cells cs t0 (0, 0)) :: l) w)
    (hfn : fn.results = #[.cell p ty, .tmp u, .tmp y]) (hp : a.tmps.getD p undef = .pointer (some ⟨b, 0, none⟩)) (hdf : a.defers = []) (hld : (loadVar ty ⟨b, 0, none⟩).run Tryz.prog w = .ok (.agg cs) w)
    (x z : Value) (hx : a.tmps.getD u undef = x) (hz : a.tmps.getD y undef = z) (hR : R (.returned (.tuple #[.agg cs, x, z])) w) : bodyPost Tryz.prog fn R .ret a w := by
  refine bodyPost_ret (v := .tuple #[.agg cs, x, z]) ?_ hdf hR
  rw [results_cell_tmp2 hfn, hp, hx, hz]
  show ((asAddr (.pointer (some ⟨b, 0, none⟩))).run Tryz.prog w).andThen _ = _
  rw [show (asAddr (.pointer (some ⟨b, 0, none⟩))).run Tryz.prog w = .ok ⟨b, 0, none⟩ w by simp [asAddr]]
  show ((loadVar ty ⟨b, 0, none⟩).run Tryz.prog w).andThen _ = _
  rw [hld]
  rfl
set_option maxRecDepth 100000 in
theorem szPk : ∀ w, (Go.sizeOf 50).run Tryz.prog w = .ok 6 w := fun w => by first | rfl | simp [go_sem] | kernel_rfl
section
variable (c : Nat) (a : Option Addr) (cap : Nat) (w : World)
set_option maxRecDepth 100000 in
theorem cR10Valid (n : Nat) (h3 : c ≤ 16383) (h4 : 1 ≤ n) (h5 : n ≤ 4090) : Calls Tryz.prog 61 #[.agg (pkV true false 10 3 c (.slice a n cap))] w fun e w' => e = .returned (.bool true) ∧ Below w.heap.size w w' := by
  have HB : Hid (Below w.heap.size w (w.alloc (.cells (pkV true false 10 3 c (.slice a n cap)) 50))) := hid ((Below.refl _ _).alloc (Nat.le_refl _) _)
  have d5 : decide ((c : Int) < 0) = false := decide_eq_false (by omega)
  have d6 : decide (16383 < (c : Int)) = false := decide_eq_false (by omega)
  have d7 : decide ((n : Int) < 1) = false := decide_eq_false (by omega)
  have d8 : decide (4090 < (n : Int)) = false := decide_eq_false (by omega)
  clear h3 h4 h5
  unfold pkV at *
  go_enter Tryz.func61, Tryz.ntmps61
  go_wp2_with fail
  go_ret
  exact ⟨rfl, HB.out⟩
set_option pp.deepTerms true in
set_option pp.maxSteps 100000 in
set_option maxRecDepth 100000 in
set_option maxHeartbeats 4000000 in
theorem cR10Decode (n : Nat) (d : List Nat) (h3 : c ≤ 16383) (h4 : 1 ≤ d.length) (h5 : d.length ≤ 4090) (hn : n = d.length + 6) (hd : RdB w (.slice a n cap) (Cmd.pkB true false 10 3 c d)) :
    Calls Tryz.prog 15 #[.slice a n cap] w fun e w' => ∃ ra rc, e = .returned (.tuple #[.agg (pkV true false 10 3 c (.slice ra d.length rc)), .int .i64 ((d.length + 6 : Nat) : Int), .int .i64 0]) ∧ New w w' 5 (.slice ra d.length rc) (u8s d) := by
  have I5 := hid (show 0 < n ∧ (1 : Int) < (n : Int) ∧ (2 : Int) < (n : Int) ∧ (3 : Int) < (n : Int) by omega)
  obtain ⟨C, hC⟩ : ∃ C, C = (49152 + c) / 256 := ⟨_, rfl⟩
  obtain ⟨E, hE⟩ : ∃ E, E = (49152 + c) % 256 := ⟨_, rfl⟩
  have F := hid (cnt_facts c C E h3 hC hE)
  obtain ⟨K, hK⟩ : ∃ K, K = 49152 + c := ⟨_, rfl⟩
  have F2 := hid (cnt_facts2 c K h3 hK)
  rw [← hK] at F
  have hbytes : Cmd.pkB true false 10 3 c d = [16, 10, C, E, (d.length - 1) / 256, (d.length - 1) % 256] ++ d ++ [] := by subst hC; subst hE; unfold Cmd.pkB; rw [pkH_6 c d.length h3, List.append_nil]; rfl
  obtain ⟨b, off, rfl, hb, hx⟩ := RdB.at hd (by rw [Cmd.pkB_len]; omega)
  have c0 : w.cell? ⟨b, off, none⟩ = some (.int .u8 16) := by have := hx 0 (by rw [Cmd.pkB_len]; omega); simp only [hbytes] at this; exact this
  have c1 : w.cell? ⟨b, off + 1, none⟩ = some (.int .u8 10) := by have := hx 1 (by rw [Cmd.pkB_len]; omega); simp only [hbytes] at this; exact this
  have c2 : w.cell? ⟨b, off + 2, none⟩ = some (.int .u8 C) := by have := hx 2 (by rw [Cmd.pkB_len]; omega); simp only [hbytes] at this; exact this
  have c3 : w.cell? ⟨b, off + 3, none⟩ = some (.int .u8 E) := by have := hx 3 (by rw [Cmd.pkB_len]; omega); simp only [hbytes] at this; exact this
  have c4 : w.cell? ⟨b, off + 4, none⟩ = some (.int .u8 (((d.length - 1) / 256 : Nat) : Int)) := by have := hx 4 (by rw [Cmd.pkB_len]; omega); simp only [hbytes] at this; exact this
  have c5 : w.cell? ⟨b, off + 5, none⟩ = some (.int .u8 (((d.length - 1) % 256 : Nat) : Int)) := by have := hx 5 (by rw [Cmd.pkB_len]; omega); simp only [hbytes] at this; exact this
  have CS := hid (show ∀ y : World, Below w.heap.size w y → y.cell? ⟨b, off, none⟩ = some (.int .u8 16) ∧ y.cell? ⟨b, off + 1, none⟩ = some (.int .u8 10) ∧ y.cell? ⟨b, off + 2, none⟩ = some (.int .u8 (C : Int)) ∧ y.cell? ⟨b, off + 3, none⟩ = some (.int .u8 (E : Int)) from fun y k => ⟨(k.cell hb).trans c0, (k.cell hb).trans c1, (k.cell hb).trans c2, (k.cell hb).trans c3⟩)
  have KS := hid (show ∀ y : World, Below w.heap.size w y → Calls Tryz.prog 60 #[.slice (some ⟨b, off, none⟩) n cap] y fun e w' => e = .returned (.tuple #[.int .i64 ((d.length + 6 : Nat) : Int), .int .i64 0]) ∧ Below y.heap.size y w' from fun y k => cR10Size b off n cap y c d.length h4 h5 hn (Nat.lt_of_lt_of_le hb k.size) ((k.cell hb).trans c0) ((k.cell hb).trans c4) ((k.cell hb).trans c5))
  have hcap := (Rd.cap hd.1).2
  have HM := hid (show RdB w (.slice (some ⟨b, off + 6, none⟩) d.length (cap - 6)) d from RdB.mid (k := [16, 10, C, E, (d.length - 1) / 256, (d.length - 1) % 256]) (m := []) (hbytes ▸ hd) (cap - 6) (by unfold maxLen at *; omega))
  have KV := hid (fun (y : World) (ra : Option Addr) (rc : Nat) => cR10Valid c ra rc y d.length h3 h4 h5)
  have HS : Hid (Sts w (blkP w.heap.size (.cells zeroTc 50 (0, 0)) :: []) (w.alloc (.cells zeroTc 50))) := hid (Sts.alloc stab0 (Sts.nil w) _)
  have HLB : Hid (∀ B ∈ [blkP w.heap.size (.cells zeroTc 50 (0, 0))], Stable B) := hid (stabC (blkP_stable _ _) stab0)
  have HLD := hid (show d.length < 1000000000 by omega)
  have S13 := hid (show (6 : Int) ≤ (n : Int) ∧ (n : Int) ≤ (cap : Int) ∧ (6 : Int) ≤ (cap : Int) ∧ ¬ cap = 6 ∧ n - 6 = d.length by clear hbytes; omega)
  rw [← hn] at KS ⊢
  clear hx hbytes c0 c1 c2 c3 c4 c5 hd hb hn hC hE hK h3 h4 h5 hcap
  go_enter Tryz.func15, Tryz.ntmps15
  go_wp2_with (first
    | (go_at_call 60; refine (KS.out _ HS.out.below).mono ?_; rintro e w1 ⟨rfl, hb1⟩; have H1 := hid (HS.out.quiet HLB.out hb1); clear hb1))
  refine wp_region_ordQ (.pure 0 (.pure 1 (.pure 2 (.pure 3 (.pure 4 (.pure 5 (.pure 6 (.pure 7 (.pure 8 (.pure 9 (.pure 10 .nil))))))))))) (fun y => Sts w [blkP w.heap.size (.cells zeroTc 50 (0, 0))] y) (fun y => Sts w [blkP w.heap.size (.cells zeroTc 50 (0, 0))] y) (by kernel_rfl) (by kernel_rfl) (H1.out.drew HLB.out) (fun y hy => hy) ?_
  iterate 11
    (apply ordq_pure (ho := rfl)
     · go_simp
     · intro x hx; obtain ⟨k0, k1, k2, k3⟩ := CS.out x hx.below; obtain ⟨i0, i1, i2, i3⟩ := I5.out; go_simp; rfl
     apply ordq_norm
     · go_simp; rfl)
  refine ordq_nil fun z hz => ?_
  have HZ := hid hz
  clear hz H1
  go_wp2_with fail
  obtain ⟨g1, g2, g3, g4⟩ := F.out
  refine wp_region_ordQ (.pure 0 (.pure 1 (.pure 2 (.pure 3 (.pure 4 (.pure 5 (.pure 6 (.pure 7 (.pure 8 (.pure 9 (.pure 10 .nil))))))))))) (fun y => Sts w [blkP w.heap.size (.cells zeroTc 50 (0, 0))] y) (fun y => Sts w [blkP w.heap.size (.cells zeroTc 50 (0, 0))] y) (by kernel_rfl) (by kernel_rfl) (HZ.out.drew HLB.out) (fun y hy => hy) ?_
  iterate 11
    (apply ordq_pure (ho := rfl)
     · go_simp
     · intro x hx; obtain ⟨k0, k1, k2, k3⟩ := CS.out x hx.below; obtain ⟨i0, i1, i2, i3⟩ := I5.out; go_simp; rfl
     apply ordq_norm
     · go_simp; rfl)
  refine ordq_nil fun z2 hz => ?_
  have HZ2 := hid hz
  clear hz HZ
  have HL0 := hid (Sts.lit0 5 HLB.out HZ2.out)
  have HR := hid (HM.out.1.below HL0.out.below)
  obtain ⟨s1, s2, s3, s4, s5⟩ := S13.out
  obtain ⟨t1, t2⟩ := F2.out
  have KVB := hid (fun (y : World) (ra : Option Addr) (rc : Nat) => KV.out y ra rc)
  go_wp2_with (first
    | (at_builtin; refine wpList_app8 (l := []) rfl (.tmp 57) (.tmp 60) rfl HL0.out HLB.out rfl rfl HR.out (NilOk.some _ _ _) (by have := HLD.out; simpa using this) ?_; intro v1 w3 h1
       simp only [List.length_nil, Nat.zero_add, List.nil_append] at h1
       obtain ⟨ra, rc, rfl⟩ := own_slice h1.rowOwn
       have H2 := hid (Sts.alloc (stabC (rowP_stable _ _ _ _ _) HLB.out) h1 (.cells zeroTc 50))
       clear h1)
    | (refine wpList_aggS H2.out (stabC (rowP_stable _ _ _ _ _) HLB.out) rfl (.tmp 9) (.tmp 62) 50 rfl (pkV true false 10 3 c (.slice ra d.length rc)) rfl rfl szPk rfl rfl ?_; intro w4 h4; have H4 := hid h4; clear h4)
    | (refine wpList_ldS rfl (.tmp 9) 50 rfl rfl (.agg (pkV true false 10 3 c (.slice ra d.length rc))) (ldPk rfl H4.out) ?_)
    | (go_at_call 61; refine (KV.out _ _ _).mono ?_; rintro e w5 ⟨rfl, hb5⟩
       have H5 := hid (H4.out.quiet (stabC (blkP_stable _ _) (stabC (rowP_stable _ _ _ _ _) HLB.out)) hb5)
       clear hb5)
    | (refine wpList_ldS rfl (.tmp 9) 50 rfl rfl (.agg (pkV true false 10 3 c (.slice ra d.length rc))) (ldPk rfl H5.out) ?_)
    | (refine wpList_aggS H5.out.third (stabC (blkP_stable _ _) (stabC (rowP_stable _ _ _ _ _) stab0)) rfl (.tmp 2) (.tmp 67) 50 rfl (pkV true false 10 3 c (.slice ra d.length rc)) rfl rfl szPk rfl rfl ?_; intro w9 h9; have HF := hid h9; clear h9))
  refine post_cell3S HF.out Tryz.results15 rfl rfl (ldPk rfl HF.out) (.int .i64 (n : Int)) (.int .i64 0) rfl rfl ⟨ra, rc, rfl, ?_⟩
  exact New.of_sts HF.out.tail.tail (u8s_len d)
end
end Go.Proofs.YtnklmadmenkdoaaGreat
namespace Go
variable {P : Program} {ops : Array Oper} {md : Region.Mode} {C : World → Prop}
/-- The head's orders: only operations before n come up, each quiet in the class. -/
def headQ (P : Program) (md : Region.Mode) (ops : Array Oper) (C : World → Prop) (n : Nat) (L : Array Bool → Act → Prop) : Nat → Array Bool → Act → Prop
  | 0, listed, a => L listed a
  | f + 1, listed, a =>
    Region.ready md ops listed ≠ [] ∧ ∀ i ∈ Region.ready md ops listed, i < n ∧ qOp P ops C i (headQ P md ops C n L f (listed.setIfInBounds i true)) a
theorem headQ_any {n g : Nat} {L : Array Bool → Act → Prop} {Q' : Exit → Act → World → Prop} (hL : ∀ listed a w, C w → L listed a → wpAny P md ops Q' g listed a w) :
    ∀ (f : Nat) (listed : Array Bool) (a : Act) (w : World), C w → headQ P md ops C n L f listed a → wpAny P md ops Q' (f + g) listed a w
  | 0, listed, a, w, hw, h => by rw [Nat.zero_add]; exact hL _ _ _ hw h
  | f + 1, listed, a, w, hw, h => by
    rw [show f + 1 + g = (f + g) + 1 by omega]
    exact ⟨fun h0 => absurd h0 h.1, fun i hi => wpOp_of_qOp hw (fun a' w' hw' h' => headQ_any hL f _ a' w' hw' h') (h.2 i hi).2⟩
theorem headQ_first {n i : Nat} {oi : Oper} {v : Value} {L : Array Bool → Act → Prop} (hi : ops[i]? = some oi) (hsel : ∀ (j : Nat) (o : Oper) cs b, ops[j]? = some o → o.op ≠ .select cs b)
    (hs : Region.sinkB md ops n = true) (hc : Region.chainB md ops n = true) (hn : n < ops.size) (hin : i < n)
    (hdone : ∀ listed a, L listed a → ∀ j ∈ Region.ready md ops listed, n ≤ j) :
    ∀ (f : Nat) (listed : Array Bool) (a : Act), HeadInv md ops n listed →
      (∀ j oj, ops[j]? = some oj → j ≠ i → listed.getD j true = false → (∀ e ∈ oj.after, Region.binds md e = true → e.on ≠ i) → oi.apart ops oj = true) →
      i ∈ Region.ready md ops listed → YieldsIn P ops C oi v a →
      headQ P md ops C n L f (listed.setIfInBounds i true) (a.put oi.dst v) → headQ P md ops C n L (f + 1) listed a := by
  intro f
  induction f with
  | zero =>
    intro listed a inv _ hr hy H
    have hun := (mem_ready.1 hr).1
    refine ⟨fun h => (by rw [h] at hr; cases hr), fun j hj => ?_⟩
    have hjn : j < n := by
      rcases Nat.lt_or_ge j n with h | h
      · exact h
      · exact absurd hj (tail_waits hs hc hn inv _ i rfl hin hun j h)
    refine ⟨hjn, ?_⟩
    by_cases hji : j = i
    · subst hji; exact hy.qOp hi H
    · have := hdone _ _ H j (ready_mono hj hji)
      omega
  | succ f ih =>
    intro listed a inv hfree hr hy H
    have hun := (mem_ready.1 hr).1
    refine ⟨fun h => (by rw [h] at hr; cases hr), fun j hj => ?_⟩
    have hjn : j < n := by
      rcases Nat.lt_or_ge j n with h | h
      · exact h
      · exact absurd hj (tail_waits hs hc hn inv _ i rfl hin hun j h)
    refine ⟨hjn, ?_⟩
    by_cases hji : j = i
    · subst hji; exact hy.qOp hi H
    · have h1 := (H.2 j (ready_mono hj hji)).2
      obtain ⟨hjun, oj, hoj, hall⟩ := mem_ready.1 hj
      have hnot : ∀ e ∈ oj.after, Region.binds md e = true → e.on ≠ i := fun e he hb heq => by
        have h1 := hall e he hb
        rw [heq, getD_both hun] at h1
        cases h1
      have h2 := qOp_put hoj (hfree j oj hoj hji hjun hnot) (fun cs b => hsel i oi cs b hi) (fun cs b => hsel j oj cs b hoj) hy h1
      have hfree' : ∀ k ok, ops[k]? = some ok → k ≠ i → (listed.setIfInBounds j true).getD k true = false →
          (∀ e ∈ ok.after, Region.binds md e = true → e.on ≠ i) → oi.apart ops ok = true := fun k ok hk hki hun hno => by
        refine hfree k ok hk hki ?_ hno
        by_cases hjk : j = k
        · subst hjk; exact hjun
        · rw [getD_set_ne true hjk] at hun; exact hun
      refine qOp_mono (fun a' h3 => ih (listed.setIfInBounds j true) a' (inv.set hj hjn) hfree' (ready_mono hr (Ne.symm hji)) h3.1 ?_) h2
      rw [Array.setIfInBounds_comm _ _ hji]
      exact h3.2
theorem headQ_lex {n g : Nat} {Lq : Act → Prop} (hsel : Region.noSelect ops = true) (hs : Region.sinkB md ops n = true) (hc : Region.chainB md ops n = true) (hn : n < ops.size) :
    ∀ (l : List Oper) (k : Nat) (listed : Array Bool) (a : Act), (∀ j, j < l.length → l[j]? = ops[k + j]?) → k + l.length = n → HeadInv md ops n listed →
    Region.lexHead md ops g l.length k listed = true → wpQuiet P ops C Lq l a →
    headQ P md ops C n (fun listed' a' => Region.seqB md ops g n listed' = true ∧ Lq a') l.length listed a
  | [], k, listed, a, _, hk, _, hB, h => by
    have : k = n := by simpa using hk
    subst this
    exact ⟨by simpa [Region.lexHead] using hB, h⟩
  | o :: l, k, listed, a, hl, hk, inv, hB, h => by
    have h0 : ops[k]? = some o := by simpa using (hl 0 (by simp)).symm
    simp only [List.length_cons, Region.lexHead, Bool.and_eq_true] at hB
    obtain ⟨⟨hr, hf⟩, hB'⟩ := hB
    have hkn : k < n := by simp only [List.length_cons] at hk; omega
    have hr' : k ∈ Region.ready md ops listed := by simpa using hr
    have hst : qOp P ops C k (wpQuiet P ops C Lq l) a := by unfold qOp; simp only [h0]; exact h
    obtain ⟨v, hy, hK⟩ := yieldsIn_of_qOp h0 hst
    exact headQ_first h0 (Region.noSelect_spec hsel) hs hc hn hkn (fun listed' a' hL => seqB_ready hL.1) l.length listed a inv (Region.free_spec h0 hf) hr' hy
      (headQ_lex hsel hs hc hn l (k + 1) _ _ (fun j hj => by have := hl (j + 1) (by simp; omega); simpa [Nat.add_assoc, Nat.add_comm 1 j] using this) (by simp only [List.length_cons] at hk; omega) (inv.set hr' hkn) hB' hK)
/-- A region that draws: the first n operations quiet in the class C, the others in a forced order, in whatever world of the class. -/
theorem wp_region_quiet_tail {id : Nat} {Q : Exit → Act → World → Prop} {a : Act} {w : World} {l : List Oper} (C : World → Prop) (n : Nat) (hm : P.follows .mixedOrders = true) (hB : Region.lexTailB .any l.toArray n = true)
    (hC : C w.drew) (h : wpQuiet P l.toArray C (fun a' => ∀ w', C w' → wpList P l.toArray Q (l.drop n) a' w') (l.take n) a) : (Code.region id l.toArray true).wp P Q a w := by
  simp only [Region.lexTailB, Bool.and_eq_true, decide_eq_true_eq] at hB
  obtain ⟨⟨⟨⟨hsel, hn⟩, hs⟩, hc⟩, hlex⟩ := hB
  have hn' : n < l.length := by simpa using hn
  have htl : (l.take n).length = n := by simp; omega
  have hdl : (l.drop n).length = l.toArray.size - n := by simp
  have inv0 : HeadInv .any l.toArray n (Array.replicate l.toArray.size false) :=
    ⟨by simp, fun j oj _ hl => (by rw [getD_replicate_false] at hl; cases hl), fun t _ ht => getD_in (by simpa using ht) (getD_replicate_false _ _)⟩
  have H := headQ_lex (md := .any) (g := l.toArray.size - n) hsel hs hc hn (l.take n) 0 _ a (fun j hj => by
    have hj' : j < n := by rw [htl] at hj; exact hj
    simp [hj']) (by simpa using htl) inv0 (by rw [htl]; exact hlex) h
  refine wp_region_any hm ?_
  have := headQ_any (Q' := Q) (g := l.toArray.size - n) (fun listed a' w' hw' hL => by
    have := wpAny_of_seq (md := .any) (Q' := Q) (l.drop n) n listed a' w' (fun j => by simp [List.getElem?_drop]) (by rw [hdl]; exact hL.1) (hL.2 w' hw')
    rwa [hdl] at this) _ _ _ w.drew hC H
  rw [htl, show n + (l.toArray.size - n) = l.toArray.size by omega] at this
  exact this
/-- The same without a tail. -/
theorem wp_region_quiet_class {id : Nat} {Q : Exit → Act → World → Prop} {a : Act} {w : World} {l : List Oper} (C : World → Prop) (hm : P.follows .mixedOrders = true) (hB : Region.lexB .any l.toArray = true)
    (hC : C w.drew) (h : wpQuiet P l.toArray C (fun a' => ∀ w', C w' → Q .normal a' w') l a) : (Code.region id l.toArray true).wp P Q a w :=
  wp_region_quiet (C := C) hm hB hC (by simpa using h)
theorem quiet_want {Q : Act → Prop} {a : Act} {o : Oper} {rest : List Oper} (hw : Region.wanted o (yielded ops a.tmps) = true)
    (h : ∀ K : Act → Prop, (∀ a, wpQuiet P ops C Q rest a → K a) → o.quiet P a C K) : wpQuiet P ops C Q (o :: rest) a :=
  wpQuiet_step fun K hK => by rw [if_pos hw]; exact h K hK
theorem quiet_skip {Q : Act → Prop} {a : Act} {o : Oper} {rest : List Oper} (hw : Region.wanted o (yielded ops a.tmps) = false)
    (h : wpQuiet P ops C Q rest (a.put o.dst undef)) : wpQuiet P ops C Q (o :: rest) a :=
  wpQuiet_step fun K hK => by rw [if_neg (by rw [hw]; exact Bool.false_ne_true)]; exact hK _ h
/-- One operation that only computes or reads. -/
theorem quiet_val {a : Act} {o : Oper} {K : Act → Prop} (v : Value) (h : ∀ w, C w → (execOp a.eval o).run P w = .ok (.value v) w) (hk : K (a.put o.dst v)) : o.quiet P a C K :=
  ⟨v, fun w hw => by unfold Oper.quietAt; rw [h w hw]; exact ⟨rfl, rfl⟩, hk⟩
/-- A call. -/
theorem quiet_call {a : Act} {o : Oper} {K : Act → Prop} (v : Value) (f : FuncId) (args : Array Value) (h : ∀ w, (execOp a.eval o).run P w = .ok (.enter f args) w)
    (hc : ∀ w, C w → Calls P f args w (fun e w' => e = .returned v ∧ C w')) (hk : K (a.put o.dst v)) : o.quiet P a C K :=
  ⟨v, fun w hw => by unfold Oper.quietAt; rw [h w]; exact ⟨rfl, hc w hw⟩, hk⟩
end Go
namespace Go.Proofs.YtnklmadmenkdoaaGreat
open Go.RowKit Go.Proofs.Num
/-- The operations of a region that draws its order. -/
def regOps (n : Nat) : Code → List Oper
  | .region id ops true => if id = n then ops.toList else []
  | .seq a b => regOps n a ++ regOps n b
  | .cond _ a b => regOps n a ++ regOps n b
  | .block _ c => regOps n c
  | .loop c => regOps n c
  | _ => []
def bodyOf (f : Func) : Code := match f.body with | some c => c | none => .skip
noncomputable def ops35 : List Oper := regOps 35 (bodyOf Tryz.f3)
set_option maxRecDepth 100000 in
theorem lex35_ok : Region.lexB .any ops35.toArray = true := by kernel_rfl
set_option maxRecDepth 100000 in
theorem ldCmd5 {w : World} {b o : Nat} {v0 v1 v2 v3 v4 : Value} (h0 : w.cell? ⟨b, o, none⟩ = some v0) (h1 : w.cell? ⟨b, o + 1, none⟩ = some v1) (h2 : w.cell? ⟨b, o + 2, none⟩ = some v2) (h3 : w.cell? ⟨b, o + 3, none⟩ = some v3) (h4 : w.cell? ⟨b, o + 4, none⟩ = some v4) :
    (loadVar 39 ⟨b, o, none⟩).run Tryz.prog w = .ok (.agg #[v0, v1, v2, v3, v4]) w := by
  go_simp
theorem own_pos5 {w : World} {b : Nat} {e : TypeId} {s : Nat} {v : Value} {n : Nat} {xs : List Value} (h : w.ownsRow b e s v n xs) (hn : 1 ≤ n) : ∃ g cap, v = .slice (some ⟨g, 0, none⟩) n cap := by
  rcases h.2 with ⟨_, h2⟩ | ⟨g, cap, cur, hv, _⟩
  · omega
  · exact ⟨g, cap, hv⟩
/-- The cells of the order A. -/
theorem want_cells {w : World} {g n cap : Nat} {cs : List Cmd.Ord} (h : w.ownsRow 0 39 5 (.slice (some ⟨g, 0, none⟩) n cap) n (Cmd.wC 0 cs)) (A : Nat) (hA : A < cs.length) :
    w.cell? ⟨g, A * 5, none⟩ = some (.int .i64 1) ∧ w.cell? ⟨g, A * 5 + 1, none⟩ = some (.int .i64 ((A + 1 : Nat) : Int)) ∧ w.cell? ⟨g, A * 5 + 2, none⟩ = some (.int .i64 (cs[A].sv : Int)) ∧ w.cell? ⟨g, A * 5 + 3, none⟩ = some (.slice cs[A].aa cs[A].args.length cs[A].ca) ∧ w.cell? ⟨g, A * 5 + 4, none⟩ = some (.slice cs[A].ad cs[A].data.length cs[A].cd) := by
  have key : ∀ j u, j < 5 → (cs[A].cells (0 + A + 1))[j]? = some u → w.cell? ⟨g, A * 5 + j, none⟩ = some u := by
    intro j u hj hu
    have h1 := h.cells (g := g) rfl (A * 5 + j) u ((Cmd.wC_get cs 0 A j hA hj).trans hu)
    rw [plain_add, Nat.zero_add] at h1
    exact h1
  rw [Nat.zero_add] at key
  exact ⟨key 0 _ (by decide) rfl, key 1 _ (by decide) rfl, key 2 _ (by decide) rfl, key 3 _ (by decide) rfl, key 4 _ (by decide) rfl⟩
end Go.Proofs.YtnklmadmenkdoaaGreat
