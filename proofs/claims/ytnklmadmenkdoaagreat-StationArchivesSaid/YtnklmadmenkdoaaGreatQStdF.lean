/- The station's example holds; a new station as the walk wants it. A new ground segment with its receiving end; stages and the time; pings. Small methods of the station and of the sending end. The station's example, as a walk. -/
import Derived.Test.YtnklmadmenkdoaaGreatQArcS
import Derived.Test.YtnklmadmenkdoaaGreatQStnG
import Derived.Test.YtnklmadmenkdoaaGreatQStdD
set_option linter.unusedVariables false
set_option linter.unusedSimpArgs false
namespace Go.Proofs.YtnklmadmenkdoaaGreat
open Go.RowKit Go.Proofs.Num
def cfgV : Array Value := #[.int .i64 5, .int .i64 16, .int .i64 256, .int .i64 20, .int .i64 10, .int .i64 64, .int .i64 40, .int .i64 10]
def cfg0 : Array Value := #[.int .i64 0, .int .i64 0, .int .i64 0, .int .i64 0, .int .i64 0, .int .i64 0, .int .i64 0, .int .i64 0]
set_option maxRecDepth 100000 in
theorem szCfg : ∀ w, (Go.sizeOf 31).run Tryz.prog w = .ok 8 w := fun w => by first | rfl | simp [go_sem] | kernel_rfl
set_option maxRecDepth 100000 in
theorem cConfig (w : World) : Calls Tryz.prog 10 #[] w fun e w' => e = .returned (.agg cfgV) ∧ Below w.heap.size w w' := by
  have HS : Hid (Sts w (blkP w.heap.size (.cells cfg0 31 (0, 0)) :: []) (w.alloc (.cells cfg0 31))) := hid (Sts.alloc stab0 (Sts.nil w) _)
  go_enter Tryz.func10, Tryz.ntmps10
  go_wp2_with (first
    | (refine wpList_aggS HS.out stab0 rfl (.tmp 0) (.tmp 2) 31 rfl cfgV rfl rfl szCfg rfl rfl ?_; intro w5 h5; have H5 := hid h5; clear h5))
  refine post_cell1S H5.out Tryz.results10 rfl rfl (ldSta H5.out) ⟨rfl, H5.out.below⟩
theorem fop_new {W w : World} {l : List HProp} {fq : Nat} (h : Sts W (blkP fq (.cells (fopA 0 0 0 0 (.slice none 0 0)) 216 (0, 0)) :: l) w) : Sts W (fopP fq [] 0 0 0 0 :: l) w := by
  refine Sts.closeF (uv := .slice none 0 0) (vs := []) ?_
  have h1 := Sts.rowNilS 35 1 (Sts.withEmp h)
  have h2 : Sts W (rowP 35 1 (.slice none 0 0) 0 [] :: rowsP 5 [] [] :: blkP fq (.cells (fopA 0 0 0 0 (.slice none 0 0)) 216 (0, 0)) :: l) w := h1
  exact h2.third
end Go.Proofs.YtnklmadmenkdoaaGreat
namespace Go.Proofs.YtnklmadmenkdoaaGreat
open Go.RowKit Go.Proofs.Num
theorem cStart2 (w : World) : Calls Tryz.prog 9 #[.agg cfgV] w fun e w' => ∃ (g fi u0 u1 u2 ar tq c fq mp : Nat), e = .returned (.tuple #[.pointer (some ⟨g, 0, none⟩), .int .i64 0]) ∧ Sts w (blkP g (.cells (staC fi u0 u1 u2 ar tq c fq mp 0 1) 119 (0, 0)) :: blkP mp (cntO 0) :: fopP fq [] 0 0 0 0 :: blkP tq (.cells #[.bool true, .int .i64 0, .int .i64 220, .slice none 0 0] 211 (0, 0)) :: couP c 0 :: finP fi :: unpS u0 0 :: arcP ar [] :: []) w' := by
  refine (cStaNew stab0 5 16 256 20 10 64 40 10 220 (Sts.nil w) (by omega) (by omega) (by omega) (by omega) (by omega) (by omega) (by omega) (by omega) (by rfl) (by omega)).mono ?_
  rintro e w' ⟨g, fi, u0, u1, u2, ar, tq, c, fq, mp, m1, m2, m3, q, m, rfl, h⟩
  refine ⟨g, fi, u0, u1, u2, ar, tq, c, fq, mp, rfl, ?_⟩
  rw [List.append_nil] at h
  have h2 := h.perm (List.perm_append_comm (l₁ := [_, _, _, _, _, _, _, _, _]) (l₂ := couL 1 64 40 10 c m1 m2 m3 q m))
  have h3 := cou_new h2
  have h4 := (h3).perm (List.perm_middle (l₁ := [_, _, _]))
  have h5 := fop_new h4
  have h6 := (h5).perm (List.perm_middle (l₁ := [_, _, _, _, _, _]))
  have h7 : Sts w (unpS u0 0 :: _) w' := h6.weaken (fun F hF => ⟨none, 0, ⟨by intro c hc; injection hc with _ _ h; exact h.symm, by unfold maxLen; omega⟩, hF⟩)
  have h8 := (h7).perm (List.perm_middle (l₁ := [_, _, _, _, _, _, _]))
  have h9 := Sts.closeA (M := []) ((Sts.rowNilS 188 2 h8).swap)
  have h10 := (h9).perm (List.perm_middle (l₁ := [_, _, _, _, _, _, _, _]))
  have h11 := Sts.closeFi ((Sts.rowNilS 5 1 h10).swap)
  have h12 := ((((((h11).perm (List.perm_middle (l₁ := [_, _, _, _, _]))).perm (.cons _ (List.perm_middle (l₁ := [_, _, _, _, _])))).perm (.cons _ (.cons _ (List.perm_middle (l₁ := [_, _, _]))))).perm (.cons _ (.cons _ (.cons _ (List.perm_middle (l₁ := [_, _, _, _, _, _])))))).perm (.cons _ (.cons _ (.cons _ (.cons _ (List.perm_middle (l₁ := [_, _, _]))))))).perm (.cons _ (.cons _ (.cons _ (.cons _ (.cons _ (.cons _ (List.perm_middle (l₁ := [_]))))))))
  exact Sts.sub h12 (.cons_cons _ (.cons_cons _ (.cons_cons _ (.cons_cons _ (.cons_cons _ (.cons_cons _ (.cons_cons _ (.cons_cons _ (.cons _ (.cons _ (List.Sublist.refl _)))))))))))
theorem tk_open {W w : World} {l : List HProp} {tq k : Nat} (h1 : 1 ≤ k) (h5 : k ≤ 5) (h : Sts W (trkP tq k :: l) w) : Sts W (tkP tq 0 (List.replicate k (0, 0)) :: l) w := by
  obtain ⟨g, c, h2⟩ := trk_open tq k h1 h
  exact Sts.closeT (now := 0) (Nat.le_refl _) h2
section
variable {W w : World} {l : List HProp} (g fi u0 u1 u2 ar tq c fq mp : Nat)
set_option maxRecDepth 100000 in
theorem cStageS {now next n : Nat} {ts : List (Int × Int)} (hs : Sts W (tkP tq n ts :: blkP g (.cells (staC fi u0 u1 u2 ar tq c fq mp now next) 119 (0, 0)) :: l) w) (j : Nat) (hj : j < ts.length) (hn : ts.length < 1000) :
    Calls Tryz.prog 21 #[.pointer (some ⟨g, 0, none⟩), .int .i64 ((j + 1 : Nat) : Int)] w fun e w' => e = .returned (.int .i64 ts[j].1) ∧ w = w' := by
  have HU := hid (cStaUsable g fi u0 u1 u2 ar tq c fq mp hs.tail)
  have KT := hid (cTkStageP hs j hj hn)
  have c5 : w.cell? ⟨g, 5, none⟩ = some (.pointer (some ⟨tq, 0, none⟩)) := (Sts.boxCell hs.tail 5 _ rfl).1
  obtain ⟨J, hJ⟩ : ∃ J : Int, J = ((j + 1 : Nat) : Int) := ⟨_, rfl⟩
  rw [← hJ] at KT ⊢
  obtain ⟨sj, hsj⟩ : ∃ x, x = ts[j].1 := ⟨_, rfl⟩
  rw [← hsj] at KT ⊢
  clear hs hj hn hJ hsj
  go_enter Tryz.func21, Tryz.ntmps21
  go_wp2_with (first
    | (go_at_call 42; refine HU.out.mono ?_; rintro e w1 ⟨rfl, rfl⟩)
    | (go_at_call 72; refine KT.out.mono ?_; rintro e w1 ⟨rfl, rfl⟩))
  go_ret
  exact ⟨rfl, rfl⟩
set_option maxRecDepth 100000 in
theorem cNowS {now next : Nat} (hs : Sts W (blkP g (.cells (staC fi u0 u1 u2 ar tq c fq mp now next) 119 (0, 0)) :: l) w) :
    Calls Tryz.prog 22 #[.pointer (some ⟨g, 0, none⟩)] w fun e w' => e = .returned (.int .i64 (now : Int)) ∧ w = w' := by
  have HU := hid (cStaUsable g fi u0 u1 u2 ar tq c fq mp hs)
  have c9 : w.cell? ⟨g, 9, none⟩ = some (.int .i64 (now : Int)) := (Sts.boxCell hs 9 _ rfl).1
  clear hs
  go_enter Tryz.func22, Tryz.ntmps22
  go_wp2_with (first
    | (go_at_call 42; refine HU.out.mono ?_; rintro e w1 ⟨rfl, rfl⟩))
  go_ret
  exact ⟨rfl, rfl⟩
end
/-- The units of k pings. -/
def png (k : Nat) : List (List Nat) := (List.range k).map (fun i => Cmd.pkB true false 10 3 i (Cmd.enc 1 (i + 1) 1 [] []))
theorem png_succ (k : Nat) : png (k + 1) = png k ++ [Cmd.pkB true false 10 3 k (Cmd.enc 1 (k + 1) 1 [] [])] := by simp [png, List.range_succ]
theorem png_len (k : Nat) : (png k).length = k := by simp [png]
theorem png_all : (List.range 5).all (fun i => decide (1 ≤ (Cmd.pkB true false 10 3 i (Cmd.enc 1 (i + 1) 1 [] [])).length) && (decide ((Cmd.pkB true false 10 3 i (Cmd.enc 1 (i + 1) 1 [] [])).length ≤ 1017) && (Cmd.pkB true false 10 3 i (Cmd.enc 1 (i + 1) 1 [] [])).all (fun x => decide (x < 256)))) = true := by decide +kernel
theorem png_ok (k : Nat) (hk : k ≤ 5) : (∀ u ∈ png k, 1 ≤ u.length ∧ u.length ≤ 1017) ∧ ∀ u ∈ png k, ∀ x ∈ u, x < 256 := by
  have key : ∀ u ∈ png k, 1 ≤ u.length ∧ u.length ≤ 1017 ∧ ∀ x ∈ u, x < 256 := by
    intro u hu
    obtain ⟨i, hi, rfl⟩ := List.mem_map.1 hu
    have h := List.all_eq_true.1 png_all i (List.mem_range.2 (by have := List.mem_range.1 hi; omega))
    simp only [Bool.and_eq_true, decide_eq_true_eq, List.all_eq_true] at h
    exact h
  exact ⟨fun u hu => ⟨(key u hu).1, (key u hu).2.1⟩, fun u hu => (key u hu).2.2⟩
theorem infoI : (Tryz.prog.info? 3).map (fun i => (i.zero, i.size, i.bytes)) = some (some (.int .i64 0), 1, 8) := by kernel_rfl
end Go.Proofs.YtnklmadmenkdoaaGreat
namespace Go.Proofs.YtnklmadmenkdoaaGreat
open Go.RowKit Go.Proofs.Num
set_option maxRecDepth 100000 in
theorem cStaUsableNil (w : World) : Calls Tryz.prog 42 #[.pointer none] w fun e w' => e = .returned (.bool false) ∧ w = w' := by
  go_enter Tryz.func42, Tryz.ntmps42
  go_wp2_with fail
  go_ret
  exact ⟨rfl, rfl⟩
set_option maxRecDepth 100000 in
theorem cStaNowNil (w : World) : Calls Tryz.prog 22 #[.pointer none] w fun e w' => e = .returned (.int .i64 0) ∧ w = w' := by
  go_enter Tryz.func22, Tryz.ntmps22
  go_wp2_with (first | (go_at_call 42; refine (cStaUsableNil _).mono ?_; rintro e w2 ⟨rfl, rfl⟩))
  go_ret
  exact ⟨rfl, rfl⟩
set_option maxRecDepth 100000 in
theorem cStaArcNil (w : World) : Calls Tryz.prog 29 #[.pointer none] w fun e w' => e = .returned (.pointer none) ∧ w = w' := by
  go_enter Tryz.func29, Tryz.ntmps29
  go_wp2_with (first | (go_at_call 42; refine (cStaUsableNil _).mono ?_; rintro e w2 ⟨rfl, rfl⟩))
  go_ret
  exact ⟨rfl, rfl⟩
set_option maxRecDepth 100000 in
theorem cStaStepNil (w : World) : Calls Tryz.prog 13 #[.pointer none, .slice none 0 0] w fun e w' => e = .returned (.slice none 0 0) ∧ w = w' := by
  go_enter Tryz.func13, Tryz.ntmps13
  go_wp2_with (first | (go_at_call 42; refine (cStaUsableNil _).mono ?_; rintro e w2 ⟨rfl, rfl⟩))
  go_ret
  exact ⟨rfl, rfl⟩
set_option maxRecDepth 100000 in
theorem cStaCmdNil (w : World) (z : Int) : Calls Tryz.prog 11 #[.pointer none, .int .i64 z, .slice none 0 0, .slice none 0 0] w fun e w' => e = .returned (.tuple #[.int .i64 0, .int .i64 2]) ∧ w = w' := by
  go_enter Tryz.func11, Tryz.ntmps11
  go_wp2_with (first | (go_at_call 42; refine (cStaUsableNil _).mono ?_; rintro e w2 ⟨rfl, rfl⟩))
  go_ret2
  exact ⟨rfl, rfl⟩
end Go.Proofs.YtnklmadmenkdoaaGreat
namespace Go.Proofs.YtnklmadmenkdoaaGreat
open Go.RowKit Go.Proofs.Num
set_option maxRecDepth 100000 in
set_option maxHeartbeats 8000000 in
theorem cAwakeW (w : World) : Calls Tryz.prog 8 #[] w fun e w' => e = .returned (.bool true) ∧ Below w.heap.size w w' := by
  go_enter Tryz.func8, Tryz.ntmps8
  go_wp2_with (first
    | (go_at_call 10; refine (cConfig _).mono ?_; rintro e w3 ⟨rfl, hb3⟩; have HB3 := hid hb3; clear hb3)
    | (go_at_call 9; refine (cStart2 _).mono ?_; rintro e w4 ⟨g, fi, u0, u1, u2, ar, tq, c, fq, mp, rfl, h4⟩; have H4 := hid h4; clear h4))
  have h5 : Sts w3 (stL g fi u0 u1 u2 ar tq c fq mp 0 (png 0) 0 0 0 0 ++ [couP c 0, finP fi, unpS u0 0, arcP ar []]) w4 := (((trk_new ((H4.out).perm (List.perm_middle (l₁ := [_, _, _])))).perm (List.perm_middle (l₁ := [_]))).perm (.cons _ (List.perm_middle (l₁ := [_])))).perm (.cons _ (.cons _ (List.perm_middle (l₁ := [_]))))
  obtain ⟨N, hN⟩ : ∃ N, N = 1 := ⟨_, rfl⟩
  have HN1 : Hid (1 ≤ N) := hid (by omega)
  have HN5 : Hid (N ≤ 5) := hid (by omega)
  have KC := hid (show Calls Tryz.prog 11 #[.pointer (some ⟨g, 0, none⟩), .int .i64 1, .slice none 0 0, .slice none 0 0] w4 fun e w' => e = .returned (.tuple #[.int .i64 1, .int .i64 0]) ∧ Sts w3 (stL g fi u0 u1 u2 ar tq c fq mp N (png N) 0 0 0 0 ++ [couP c 0, finP fi, unpS u0 0, arcP ar []]) w' from by
    subst hN
    refine (cCommandOk (stabC (couP_stable _ _) (stabC (finP_stable _) (stabC (unpS_stable _ _) (stabC (arcP_stable _ _) (stab0))))) g fi u0 u1 u2 ar tq c fq mp 0 (png 0) 0 0 0 0 h5 1 none 0 [] none 0 [] (Rd.nil _ _ _ (by unfold maxLen; omega)) ⟨Rd.nil _ _ _ (by unfold maxLen; omega), by simp⟩ (by decide) (fun _ => rfl) (by omega) (by rw [png_len]; omega) (by decide)).mono ?_
    rintro e w' ⟨rfl, h9⟩
    refine ⟨rfl, ?_⟩
    rw [show png 1 = png 0 ++ _ from png_succ 0]
    exact h9)
  have HNN := hid hN
  clear H4 h5 hN
  go_wp2_with (first
    | (go_at_call 11; refine KC.out.mono ?_; rintro e w5 ⟨rfl, h5⟩; have H5 := hid h5; clear h5))
  have h6 : Sts w3 (blkP g (.cells (staC fi u0 u1 u2 ar tq c fq mp 0 (N + 1)) 119 (0, 0)) :: blkP mp (cntO N) :: fopP fq (png N) 0 0 0 0 :: dnP fi u0 ar tq 0 [] 0 (List.replicate N (0, 0)) :: couP c 0 :: []) w5 := (((Sts.closeDn (((Sts.join (C := rcvP ar tq [] 0 (List.replicate N (0, 0))) ((tk_open HN1.out HN5.out ((H5.out).perm (List.perm_middle (l₁ := [_, _, _])))).perm (List.perm_middle (l₁ := [_, _, _, _, _, _, _]))) (fun F hF => hF)).perm (List.perm_middle (l₁ := [_, _, _, _, _]))).perm (.cons _ (List.perm_middle (l₁ := [_, _, _, _, _]))))).perm (List.perm_middle (l₁ := [_]))).perm (.cons _ (List.perm_middle (l₁ := [_])))).perm (.cons _ (.cons _ (List.perm_middle (l₁ := [_]))))
  have KS := hid (show Calls Tryz.prog 13 #[.pointer (some ⟨g, 0, none⟩), .slice none 0 0] w5 fun e w' => ∃ og oc ovs fl fn tm fr, e = .returned (.slice (some ⟨og, 0, none⟩) 1 oc) ∧ Sts w3 (fopP fq (png N) fl fl fn tm :: blkP g (.cells (staC fi u0 u1 u2 ar tq c fq mp 1 (N + 1)) 119 (0, 0)) :: blkP mp (cntO N) :: dnP fi u0 ar tq 0 [] 1 (List.replicate N (0, 0)) :: couP c 1 :: rowP 35 1 (.slice (some ⟨og, 0, none⟩) 1 oc) 1 ovs :: rowsP 5 ovs fr :: []) w' from by
    refine (cStepD stab0 g fi u0 u1 u2 ar tq c fq mp (N + 1) N (png N) 0 0 0 0 0 [] 0 ⟨by simp, by simp⟩ (by omega) (List.replicate N (0, 0)) (by rw [List.length_replicate]; have := HN5.out; omega) [] (by simp) (by simp) none 0 (by simp) (fun B y _ p hp => absurd hp (by simp)) h6 (by omega) (by omega) (by omega) (by omega) (by rw [png_len]; have := HN5.out; omega) (png_ok N HN5.out).1 (png_ok N HN5.out).2).mono ?_
    rintro e w' ⟨ov, ovs, j, fn, tm, rfl, hj, hfn, htm, h9⟩
    have hj1 : j = 1 := by rw [png_len] at hj; have := HNN.out; omega
    subst hj1
    obtain ⟨og, oc, eo⟩ := own_pos (h9.tail.tail.tail.tail.tail).rowOwn (by omega)
    subst eo
    exact ⟨og, oc, ovs, _, fn, tm, _, rfl, h9⟩)
  clear h6 H5
  go_wp2_with (first
    | (go_at_call 13; refine KS.out.mono ?_; rintro e w6 ⟨og, oc, ovs, fl, fn, tm, fr, rfl, h7⟩; have HZ := hid h7; clear h7))
  clear KS KC
  have KN := hid (cNowS g fi u0 u1 u2 ar tq c fq mp HZ.out.tail)
  have KG := hid (show Calls Tryz.prog 21 #[.pointer (some ⟨g, 0, none⟩), .int .i64 1] w6 fun e w' => e = .returned (.int .i64 0) ∧ w6 = w' from by
    have hh := ((Sts.split ((Sts.openDn ((HZ.out).perm (List.perm_middle (l₁ := [_, _, _])))).perm (List.perm_middle (l₁ := [_, _])))).perm (List.perm_middle (l₁ := [_]))).perm (.cons _ (List.perm_middle (l₁ := [_, _, _, _])))
    have hN : N = 1 := HNN.out
    subst hN
    exact cStageS g fi u0 u1 u2 ar tq c fq mp hh 0 (by simp) (by simp))
  go_wp2_with (first
    | (go_at_call 22; refine KN.out.mono ?_; rintro e w7 ⟨rfl, rfl⟩; clear KN)
    | (go_at_call 21; refine KG.out.mono ?_; rintro e w8 ⟨rfl, rfl⟩; clear KG)
    | (go_at_call 11; refine (cStaCmdNil _ _).mono ?_; rintro e w9 ⟨rfl, rfl⟩)
    | (go_at_call 13; refine (cStaStepNil _).mono ?_; rintro e w9 ⟨rfl, rfl⟩)
    | (go_at_call 29; refine (cStaArcNil _).mono ?_; rintro e w9 ⟨rfl, rfl⟩)
    | (go_at_call 22; refine (cStaNowNil _).mono ?_; rintro e w9 ⟨rfl, rfl⟩))
  go_ret
  exact ⟨rfl, (Sts.quiet stab0 (Sts.nil_below HB3.out) HZ.out.below).below⟩
end Go.Proofs.YtnklmadmenkdoaaGreat
