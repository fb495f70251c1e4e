/- The contracts of the sending end's small methods. The contracts of the sending end's units. -/
import Derived.Test.YtfjadhkhmhnccaaSrcNew
import Derived.Outline
set_option linter.unusedVariables false
set_option linter.unusedSimpArgs false
namespace Fil
def Src.pass (s : Src) (now : Int) : Src := if s.now < now ∧ now ≤ 1099511627776 then { s with now := now } else s
def Src.stateV (s : Src) : Int := if s.susp = true then 3 else if s.phase = 0 then 1 else if s.phase = 4 then 4 else if s.phase = 5 then 5 else if s.phase = 6 then 6 else 2
def Src.suspV (s : Src) (now : Int) : Src × Int := if (s.pass now).susp = true ∨ 1 < (s.pass now).phase then (s.pass now, 12) else ({ s.pass now with susp := true }, 0)
def Src.resV (s : Src) (now : Int) : Src × Int := if (s.pass now).susp = false then (s.pass now, 12) else ({ s.pass now with susp := false, timer := (s.pass now).now }, 0)
end Fil
namespace Go.Proofs.Ytfjadhkhmhnccaa
open Go.RowKit Go.Proofs.Num
structure SrcC (w : World) (q : Nat) (s : Fil.Src) (dv wv : Value) : Prop where
  k0 : w.cell? ⟨q, 0, none⟩ = some (.bool true)
  k1 : w.cell? ⟨q, 1, none⟩ = some (.int .i64 s.src)
  k2 : w.cell? ⟨q, 2, none⟩ = some (.int .i64 s.num)
  k3 : w.cell? ⟨q, 3, none⟩ = some (.int .i64 s.cls)
  k4 : w.cell? ⟨q, 4, none⟩ = some (.string s.name)
  k5 : w.cell? ⟨q, 5, none⟩ = some (dv)
  k6 : w.cell? ⟨q, 6, none⟩ = some (.int .i64 s.chunk)
  k7 : w.cell? ⟨q, 7, none⟩ = some (.int .i64 s.timeout)
  k8 : w.cell? ⟨q, 8, none⟩ = some (.int .i64 s.retries)
  k9 : w.cell? ⟨q, 9, none⟩ = some (.int .i64 s.now)
  k10 : w.cell? ⟨q, 10, none⟩ = some (.int .i64 s.phase)
  k11 : w.cell? ⟨q, 11, none⟩ = some (.bool s.susp)
  k12 : w.cell? ⟨q, 12, none⟩ = some (.bool s.started)
  k13 : w.cell? ⟨q, 13, none⟩ = some (.int .i64 s.at')
  k14 : w.cell? ⟨q, 14, none⟩ = some (.bool s.mreq)
  k15 : w.cell? ⟨q, 15, none⟩ = some (wv)
  k16 : w.cell? ⟨q, 16, none⟩ = some (.bool s.acked)
  k17 : w.cell? ⟨q, 17, none⟩ = some (.int .i64 s.timer)
  k18 : w.cell? ⟨q, 18, none⟩ = some (.int .i64 s.tries)
  k19 : w.cell? ⟨q, 19, none⟩ = some (.bool s.due)
  k20 : w.cell? ⟨q, 20, none⟩ = some (.int .i64 s.code)
  fr : ∀ j, w.frozen? ⟨q, j, none⟩ = false
theorem Sts.srcC {W w : World} {l : List HProp} {q : Nat} {s : Fil.Src} {dv wv : Value} (h : Sts W (blkP q (.cells (s.cells dv wv) 64 (0, 0)) :: l) w) : SrcC w q s dv wv :=
  ⟨(Sts.boxCell h 0 _ rfl).1, (Sts.boxCell h 1 _ rfl).1, (Sts.boxCell h 2 _ rfl).1, (Sts.boxCell h 3 _ rfl).1, (Sts.boxCell h 4 _ rfl).1, (Sts.boxCell h 5 _ rfl).1, (Sts.boxCell h 6 _ rfl).1, (Sts.boxCell h 7 _ rfl).1, (Sts.boxCell h 8 _ rfl).1, (Sts.boxCell h 9 _ rfl).1, (Sts.boxCell h 10 _ rfl).1, (Sts.boxCell h 11 _ rfl).1, (Sts.boxCell h 12 _ rfl).1, (Sts.boxCell h 13 _ rfl).1, (Sts.boxCell h 14 _ rfl).1, (Sts.boxCell h 15 _ rfl).1, (Sts.boxCell h 16 _ rfl).1, (Sts.boxCell h 17 _ rfl).1, (Sts.boxCell h 18 _ rfl).1, (Sts.boxCell h 19 _ rfl).1, (Sts.boxCell h 20 _ rfl).1, fun j => by obtain ⟨F, hF⟩ := h.head; exact free_blk hF.1⟩
theorem cOkS (w : World) (q : Nat) (c0 : w.cell? ⟨q, 0, none⟩ = some (.bool true)) : Calls Try.prog 59 #[.pointer (some ⟨q, 0, none⟩)] w fun e w' => e = .returned (.bool true) ∧ w = w' := by
  go_enter Try.func59, Try.ntmps59
  go_wp2_with fail
  go_ret
  exact ⟨rfl, rfl⟩
theorem cOkSnil (w : World) : Calls Try.prog 59 #[.pointer none] w fun e w' => e = .returned (.bool false) ∧ w = w' := by
  go_enter Try.func59, Try.ntmps59
  go_wp2_with fail
  go_ret
  exact ⟨rfl, rfl⟩
theorem cOkSzero (w : World) (q : Nat) (c0 : w.cell? ⟨q, 0, none⟩ = some (.bool false)) : Calls Try.prog 59 #[.pointer (some ⟨q, 0, none⟩)] w fun e w' => e = .returned (.bool false) ∧ w = w' := by
  go_enter Try.func59, Try.ntmps59
  go_wp2_with fail
  go_ret
  exact ⟨rfl, rfl⟩
section
variable {W w : World} {l : List HProp} (hl : ∀ B ∈ l, Stable B) (q : Nat) (s : Fil.Src) (hs : Sts W (srcP q s :: l) w)
include hl hs
set_option maxRecDepth 100000 in
theorem cPass (now : Int) : Calls Try.prog 60 #[.pointer (some ⟨q, 0, none⟩), .int .i64 now] w fun e w' => e = .returned (.tuple #[]) ∧ Sts W (srcP q (s.pass now) :: l) w' := by
  obtain ⟨dv, wv, h⟩ := Sts.openSrc hs
  have hC := Sts.srcC h
  have hst := Sts.store (stabC (rowP_stable _ _ _ _ _) (stabC (rowP_stable _ _ _ _ _) hl)) h (j := 9) (.int .i64 now)
  have HO := hid hs
  have HST := hid hst
  have k9 := hC.k9
  have fr := hC.fr 9
  clear h hst hC hs
  have hp : (s.now < now ∧ now ≤ 1099511627776) ∨ ¬ (s.now < now ∧ now ≤ 1099511627776) := Classical.em _
  rcases hp with hp | hp
  · have e : s.pass now = { s with now := now } := by unfold Fil.Src.pass; rw [if_pos hp]
    rw [e]
    have d1 : decide (s.now < now) = true := decide_eq_true hp.1
    have d2 : decide (now ≤ 1099511627776) = true := decide_eq_true hp.2
    clear hp e
    go_enter Try.func60, Try.ntmps60
    go_wp2_with fail
    go_end0
    exact ⟨rfl, Sts.shutSrc (dv := dv) (wv := wv) HST.out⟩
  · have e : s.pass now = s := by unfold Fil.Src.pass; rw [if_neg hp]
    rw [e]
    have d : decide (s.now < now) = false ∨ (decide (s.now < now) = true ∧ decide (now ≤ 1099511627776) = false) := by
      simp only [decide_eq_true_eq, decide_eq_false_iff_not]; omega
    clear hp e
    rcases d with d1 | ⟨d1, d2⟩
    all_goals
      go_enter Try.func60, Try.ntmps60
      go_wp2_with fail
      go_end0
      exact ⟨rfl, HO.out⟩
omit hl in
set_option maxRecDepth 100000 in
theorem cStateS : Calls Try.prog 17 #[.pointer (some ⟨q, 0, none⟩)] w fun e w' => e = .returned (.int .i64 s.stateV) ∧ w = w' := by
  obtain ⟨dv, wv, h⟩ := Sts.openSrc hs
  have hC := Sts.srcC h
  have k0 := hC.k0
  have k10 := hC.k10
  have k11 := hC.k11
  have HOK := hid (cOkS w q k0)
  have HV := hid (show s.stateV = if s.susp = true then 3 else if s.phase = 0 then 1 else if s.phase = 4 then 4 else if s.phase = 5 then 5 else if s.phase = 6 then 6 else 2 from rfl)
  clear h hC hs
  generalize s.stateV = sv at *
  generalize s.susp = sp at *
  generalize s.phase = ph at *
  cases sp with
  | true =>
    have HF : Hid (sv = 3) := hid (by rw [HV.out]; rfl)
    go_enter Try.func17, Try.ntmps17
    go_wp2_with fail
    refine HOK.out.mono ?_
    rintro e w' ⟨rfl, rfl⟩
    go_wp2_with fail
    go_ret
    exact ⟨ret_int HF.out.symm, rfl⟩
  | false =>
    have hph : ph = 0 ∨ ph = 4 ∨ ph = 5 ∨ ph = 6 ∨ (ph ≠ 0 ∧ ph ≠ 4 ∧ ph ≠ 5 ∧ ph ≠ 6) := by omega
    rcases hph with rfl | rfl | rfl | rfl | ⟨n0, n4, n5, n6⟩
    iterate 4
      (have HF := hid HV.out
       simp at HF
       clear HV
       go_enter Try.func17, Try.ntmps17
       go_wp2_with fail
       refine HOK.out.mono ?_
       rintro e w' ⟨rfl, rfl⟩
       go_wp2_with fail
       go_ret
       exact ⟨ret_int HF.out.symm, rfl⟩)
    have HF : Hid (sv = 2) := hid (by rw [HV.out, if_neg (by decide), if_neg n0, if_neg n4, if_neg n5, if_neg n6])
    have b0 : (ph == 0) = false := by simpa using n0
    have b4 : (ph == 4) = false := by simpa using n4
    have b5 : (ph == 5) = false := by simpa using n5
    have b6 : (ph == 6) = false := by simpa using n6
    clear HV n0 n4 n5 n6
    go_enter Try.func17, Try.ntmps17
    go_wp2_with fail
    refine HOK.out.mono ?_
    rintro e w' ⟨rfl, rfl⟩
    go_wp2_with fail
    go_ret
    exact ⟨ret_int HF.out.symm, rfl⟩
omit hl in
theorem cCodeS : Calls Try.prog 19 #[.pointer (some ⟨q, 0, none⟩)] w fun e w' => e = .returned (.int .i64 s.code) ∧ w = w' := by
  obtain ⟨dv, wv, h⟩ := Sts.openSrc hs
  have hC := Sts.srcC h
  have k0 := hC.k0
  have k20 := hC.k20
  have HOK := hid (cOkS w q k0)
  clear h hC hs
  generalize s.code = c at *
  go_enter Try.func19, Try.ntmps19
  go_wp2_with fail
  refine HOK.out.mono ?_
  rintro e w' ⟨rfl, rfl⟩
  go_wp2_with fail
  go_ret
  exact ⟨rfl, rfl⟩
end
theorem cStateSnil (w : World) : Calls Try.prog 17 #[.pointer none] w fun e w' => e = .returned (.int .i64 0) ∧ w = w' := by
  go_enter Try.func17, Try.ntmps17
  go_wp2_with fail
  refine (cOkSnil w).mono ?_
  rintro e w' ⟨rfl, rfl⟩
  go_wp2_with fail
  go_ret
  exact ⟨rfl, rfl⟩
theorem cCodeSnil (w : World) : Calls Try.prog 19 #[.pointer none] w fun e w' => e = .returned (.int .i64 0) ∧ w = w' := by
  go_enter Try.func19, Try.ntmps19
  go_wp2_with fail
  refine (cOkSnil w).mono ?_
  rintro e w' ⟨rfl, rfl⟩
  go_wp2_with fail
  go_ret
  exact ⟨rfl, rfl⟩
end Go.Proofs.Ytfjadhkhmhnccaa
namespace Go.Proofs.Ytfjadhkhmhnccaa
open Go.RowKit Go.Proofs.Num
def zeroPdu : Array Value := #[.int .i64 0, .int .i64 0, .int .i64 0, .int .i64 0, .string ⟨#[]⟩, .int .i64 0, .int .i64 0, .slice none 0 0, .int .u32 0, .int .i64 0, .slice none 0 0]
def setAll (b : Nat) : Nat → List Value → World → World
  | _, [], w => w
  | k, v :: vs, w => setAll b (k + 1) vs (w.setCell ⟨b, k, none⟩ v)
def putAll : Nat → List Value → Array Value → Array Value
  | _, [], c => c
  | k, v :: vs, c => putAll (k + 1) vs (c.setIfInBounds k v)
theorem Sts.storeAll {W : World} {b : Nat} {t : TypeId} {l : List HProp} (hl : ∀ A ∈ l, Stable A) : ∀ (vs : List Value) (k : Nat) (c : Array Value) (w : World), Sts W (blkP b (.cells c t (0, 0)) :: l) w → Sts W (blkP b (.cells (putAll k vs c) t (0, 0)) :: l) (setAll b k vs w)
  | [], _, _, _, h => h
  | v :: vs, k, c, w, h => Sts.storeAll hl vs (k + 1) _ _ (Sts.store hl h v)
section
variable {W w : World} {l : List HProp} (hl : ∀ B ∈ l, Stable B) (q : Nat) (s : Fil.Src) (hs : Sts W (srcP q s :: l) w)
include hl hs
set_option maxRecDepth 100000 in
set_option maxHeartbeats 1000000 in
theorem cMetadata : Calls Try.prog 63 #[.pointer (some ⟨q, 0, none⟩)] w fun e w' => e = .returned (.agg (Fil.headP s.src s.num s.cls s.name s.data.length).cells) ∧ Sts W (srcP q s :: l) w' := by
  obtain ⟨dv, wv, h⟩ := Sts.openSrc hs
  obtain ⟨da, dc, hde⟩ := (Rd.of_own (Sts.rowOwn (h.swap)) (u8s_len _)).eq
  rw [u8s_len] at hde
  subst hde
  have hl3 : ∀ B ∈ blkP q (.cells (s.cells (.slice da s.data.length dc) wv) 64 (0, 0)) :: rowP 5 1 (.slice da s.data.length dc) s.data.length (u8s s.data) :: rowP 81 2 wv s.wanted.length (Fil.rcells s.wanted) :: l, Stable B := stabC (blkP_stable _ _) (stabC (rowP_stable _ _ _ _ _) (stabC (rowP_stable _ _ _ _ _) hl))
  have hz := h.alloc hl3 (.cells zeroPdu 45 (0, 0))
  have HS := hid hz
  clear h hz hs
  go_enter Try.func63, Try.ntmps63
  go_wp2_with fail
  refine wp_region_ord (.pure 0 (.pure 1 (.pure 2 (.pure 3 (.pure 4 (.pure 5 (.pure 6 (.pure 7 (.pure 8 (.pure 9 (.pure 10 (.pure 11 (.pure 12 (.pure 13 (.pure 14 (.pure 15 (.pure 16 (.pure 17 (.eff 18 .nil))))))))))))))))))) (fun y => SrcC y q s (.slice da s.data.length dc) wv) (fun y => Sts W (blkP w.heap.size (.cells zeroPdu 45 (0, 0)) :: blkP q (.cells (s.cells (.slice da s.data.length dc) wv) 64 (0, 0)) :: rowP 5 1 (.slice da s.data.length dc) s.data.length (u8s s.data) :: rowP 81 2 wv s.wanted.length (Fil.rcells s.wanted) :: l) y) (by kernel_rfl) (by kernel_rfl) (HS.out.drew (stabC (blkP_stable _ _) hl3)) (fun _ h => Sts.srcC h.tail) ?_
  iterate 18
    (apply ord_pure (ho := rfl)
     · go_simp
     · intro x hx; have k1 := hx.k1; have k2 := hx.k2; have k3 := hx.k3; have k4 := hx.k4; have k5 := hx.k5; go_simp; rfl
     apply ord_norm
     · go_simp; rfl)
  apply ord_eff (ho := rfl)
  · go_simp
  intro y hy
  have hy2 := Sts.storeAll hl3 (Fil.headP s.src s.num s.cls s.name s.data.length).cells.toList 0 _ _ hy
  rw [show putAll 0 (Fil.headP s.src s.num s.cls s.name s.data.length).cells.toList zeroPdu = (Fil.headP s.src s.num s.cls s.name s.data.length).cells by kernel_rfl] at hy2
  have fr : ∀ j, y.frozen? ⟨w.heap.size, j, none⟩ = false := fun j => by obtain ⟨F, hF⟩ := hy.head; exact free_blk hF.1
  have z0 := (Sts.boxCell hy 0 _ rfl).1
  have z1 := (Sts.boxCell hy 1 _ rfl).1
  have z2 := (Sts.boxCell hy 2 _ rfl).1
  have z3 := (Sts.boxCell hy 3 _ rfl).1
  have z4 := (Sts.boxCell hy 4 _ rfl).1
  have z5 := (Sts.boxCell hy 5 _ rfl).1
  have z6 := (Sts.boxCell hy 6 _ rfl).1
  have z7 := (Sts.boxCell hy 7 _ rfl).1
  have z8 := (Sts.boxCell hy 8 _ rfl).1
  have z9 := (Sts.boxCell hy 9 _ rfl).1
  have z10 := (Sts.boxCell hy 10 _ rfl).1
  refine eff_skip (fun y => SrcC y q s (.slice da s.data.length dc) wv) (fun y => Sts W (blkP w.heap.size (.cells (Fil.headP s.src s.num s.cls s.name s.data.length).cells 45 (0, 0)) :: blkP q (.cells (s.cells (.slice da s.data.length dc) wv) 64 (0, 0)) :: rowP 5 1 (.slice da s.data.length dc) s.data.length (u8s s.data) :: rowP 81 2 wv s.wanted.length (Fil.rcells s.wanted) :: l) y) (w := (((((((((((y.setCell ⟨w.heap.size, 0, none⟩ (.int .i64 1)).setCell ⟨w.heap.size, 1, none⟩ (.int .i64 s.src)).setCell ⟨w.heap.size, 2, none⟩ (.int .i64 s.num)).setCell ⟨w.heap.size, 3, none⟩ (.int .i64 s.cls)).setCell ⟨w.heap.size, 4, none⟩ (.string s.name)).setCell ⟨w.heap.size, 5, none⟩ (.int .i64 s.data.length)).setCell ⟨w.heap.size, 6, none⟩ (.int .i64 0)).setCell ⟨w.heap.size, 7, none⟩ (.slice none 0 0)).setCell ⟨w.heap.size, 8, none⟩ (.int .u32 0)).setCell ⟨w.heap.size, 9, none⟩ (.int .i64 0)).setCell ⟨w.heap.size, 10, none⟩ (.slice none 0 0))) ?_ hy2 (fun _ h => Sts.srcC h.tail) (fun _ h => h) ?_
  · clear hy2
    go_simp
  clear hy hy2
  apply ord_norm
  · go_simp; rfl
  refine ord_nil fun z hz => ?_
  have HF := hid hz
  have e0 : z.cell? ⟨w.heap.size, 0, none⟩ = some (.int .i64 1) := (Sts.boxCell hz 0 _ rfl).1
  have e1 : z.cell? ⟨w.heap.size, 1, none⟩ = some (.int .i64 s.src) := (Sts.boxCell hz 1 _ rfl).1
  have e2 : z.cell? ⟨w.heap.size, 2, none⟩ = some (.int .i64 s.num) := (Sts.boxCell hz 2 _ rfl).1
  have e3 : z.cell? ⟨w.heap.size, 3, none⟩ = some (.int .i64 s.cls) := (Sts.boxCell hz 3 _ rfl).1
  have e4 : z.cell? ⟨w.heap.size, 4, none⟩ = some (.string s.name) := (Sts.boxCell hz 4 _ rfl).1
  have e5 : z.cell? ⟨w.heap.size, 5, none⟩ = some (.int .i64 s.data.length) := (Sts.boxCell hz 5 _ rfl).1
  have e6 : z.cell? ⟨w.heap.size, 6, none⟩ = some (.int .i64 0) := (Sts.boxCell hz 6 _ rfl).1
  have e7 : z.cell? ⟨w.heap.size, 7, none⟩ = some (.slice none 0 0) := (Sts.boxCell hz 7 _ rfl).1
  have e8 : z.cell? ⟨w.heap.size, 8, none⟩ = some (.int .u32 0) := (Sts.boxCell hz 8 _ rfl).1
  have e9 : z.cell? ⟨w.heap.size, 9, none⟩ = some (.int .i64 0) := (Sts.boxCell hz 9 _ rfl).1
  have e10 : z.cell? ⟨w.heap.size, 10, none⟩ = some (.slice none 0 0) := (Sts.boxCell hz 10 _ rfl).1
  clear hz fr z0 z1 z2 z3 z4 z5 z6 z7 z8 z9 z10
  go_wp2_with fail
  refine bodyPost_ret (v := .agg #[.int .i64 1, .int .i64 s.src, .int .i64 s.num, .int .i64 s.cls, .string s.name, .int .i64 s.data.length, .int .i64 0, .slice none 0 0, .int .u32 0, .int .i64 0, .slice none 0 0]) ?_ rfl ⟨rfl, Sts.shutSrc (HF.out.tail)⟩
  simp [results, Try.results63, go_sem, e0, e1, e2, e3, e4, e5, e6, e7, e8, e9, e10]
end
end Go.Proofs.Ytfjadhkhmhnccaa
