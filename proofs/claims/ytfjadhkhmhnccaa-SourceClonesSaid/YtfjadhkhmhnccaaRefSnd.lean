/- The specification's units of a file. The specification's next unit of a file. -/
import Derived.Test.YtfjadhkhmhnccaaRefB
import Derived.Test.YtfjadhkhmhnccaaWalkS
import Derived.Test.YtfjadhkhmhnccaaRefOf
import Derived.Lib.SlBytesRow
set_option linter.unusedVariables false
set_option linter.unusedSimpArgs false
namespace Go.Proofs.Ytfjadhkhmhnccaa
open Go.RowKit Go.Proofs.Num
structure RefC (w : World) (q : Nat) (s : Fil.Src) (vd wv : Value) : Prop where
  k0 : w.cell? ⟨q, 0, none⟩ = some (.int .i64 s.src)
  k1 : w.cell? ⟨q, 1, none⟩ = some (.int .i64 s.num)
  k2 : w.cell? ⟨q, 2, none⟩ = some (.int .i64 s.cls)
  k3 : w.cell? ⟨q, 3, none⟩ = some (.string s.name)
  k4 : w.cell? ⟨q, 4, none⟩ = some (vd)
  k5 : w.cell? ⟨q, 5, none⟩ = some (.int .i64 s.chunk)
  k6 : w.cell? ⟨q, 6, none⟩ = some (.int .i64 s.timeout)
  k7 : w.cell? ⟨q, 7, none⟩ = some (.int .i64 s.retries)
  k8 : w.cell? ⟨q, 8, none⟩ = some (.int .i64 (s.phase + 1))
  k9 : w.cell? ⟨q, 9, none⟩ = some (.int .i64 s.at')
  k10 : w.cell? ⟨q, 10, none⟩ = some (.int .i64 s.now)
  k11 : w.cell? ⟨q, 11, none⟩ = some (.int .i64 s.timer)
  k12 : w.cell? ⟨q, 12, none⟩ = some (.int .i64 s.tries)
  k13 : w.cell? ⟨q, 13, none⟩ = some (.bool s.susp)
  k14 : w.cell? ⟨q, 14, none⟩ = some (.bool s.started)
  k15 : w.cell? ⟨q, 15, none⟩ = some (.bool s.mreq)
  k16 : w.cell? ⟨q, 16, none⟩ = some (.bool s.acked)
  k17 : w.cell? ⟨q, 17, none⟩ = some (.bool s.due)
  k18 : w.cell? ⟨q, 18, none⟩ = some (wv)
  k19 : w.cell? ⟨q, 19, none⟩ = some (.int .i64 s.code)
  fr : ∀ j, w.frozen? ⟨q, j, none⟩ = false
theorem Sts.refC {W w : World} {l : List HProp} {q : Nat} {s : Fil.Src} {vd wv : Value} (h : Sts W (blkP q (.cells (s.rcs vd wv) 38 (0, 0)) :: l) w) : RefC w q s vd wv :=
  ⟨(Sts.boxCell h 0 _ rfl).1, (Sts.boxCell h 1 _ rfl).1, (Sts.boxCell h 2 _ rfl).1, (Sts.boxCell h 3 _ rfl).1, (Sts.boxCell h 4 _ rfl).1, (Sts.boxCell h 5 _ rfl).1, (Sts.boxCell h 6 _ rfl).1, (Sts.boxCell h 7 _ rfl).1, (Sts.boxCell h 8 _ rfl).1, (Sts.boxCell h 9 _ rfl).1, (Sts.boxCell h 10 _ rfl).1, (Sts.boxCell h 11 _ rfl).1, (Sts.boxCell h 12 _ rfl).1, (Sts.boxCell h 13 _ rfl).1, (Sts.boxCell h 14 _ rfl).1, (Sts.boxCell h 15 _ rfl).1, (Sts.boxCell h 16 _ rfl).1, (Sts.boxCell h 17 _ rfl).1, (Sts.boxCell h 18 _ rfl).1, (Sts.boxCell h 19 _ rfl).1, fun j => by obtain ⟨F, hF⟩ := h.head; exact free_blk hF.1⟩
set_option maxRecDepth 100000 in
theorem szInt : ∀ w, (Go.sizeOf 3).run Try.prog w = .ok 1 w := fun w => by first | rfl | simp [go_sem] | kernel_rfl
set_option maxRecDepth 100000 in
theorem szBool : ∀ w, (Go.sizeOf 4).run Try.prog w = .ok 1 w := fun w => by first | rfl | simp [go_sem] | kernel_rfl
set_option maxRecDepth 100000 in
theorem szErr : ∀ w, (Go.sizeOf 33).run Try.prog w = .ok 1 w := fun w => by first | rfl | simp [go_sem] | kernel_rfl
set_option maxRecDepth 100000 in
theorem szRng : ∀ w, (Go.sizeOf 36).run Try.prog w = .ok 1 w := fun w => by first | rfl | simp [go_sem] | kernel_rfl
section
variable {W w : World} {l : List HProp} (hl : ∀ B ∈ l, Stable B) (zh : Value × List Rng.R) (q : Nat) (s : Fil.Src) (da : Option Addr) (dc : Nat) (hs : Sts W (refP zh q s (.slice da s.data.length dc) :: l) w)
include hl hs
set_option maxRecDepth 100000 in
set_option maxHeartbeats 1000000 in
theorem cRMeta : Calls Try.prog 111 #[.pointer (some ⟨q, 0, none⟩)] w fun e w' => e = .returned (.agg (Fil.headP s.src s.num s.cls s.name s.data.length).cells) ∧ Sts W (refP zh q s (.slice da s.data.length dc) :: l) w' := by
  obtain ⟨wv, h⟩ := Sts.openRef hs
  have hl2 : ∀ B ∈ blkP q (.cells ((s).rcs (.slice da s.data.length dc) wv) 38 (0, 0)) :: ownW zh wv (s).wanted :: l, Stable B := stabC (blkP_stable _ _) (stabC (ownW_stable _ _ _) hl)
  have hz := h.alloc hl2 (.cells zeroPdu 45 (0, 0))
  have HS := hid hz
  clear h hz hs
  go_enter Try.func111, Try.ntmps111
  go_wp2_with fail
  refine wp_region_ord (.pure 0 (.pure 1 (.pure 2 (.pure 3 (.pure 4 (.pure 5 (.pure 6 (.pure 7 (.pure 8 (.pure 9 (.pure 10 (.pure 11 (.pure 12 (.pure 13 (.pure 14 (.pure 15 (.pure 16 (.pure 17 (.eff 18 .nil))))))))))))))))))) (fun y => RefC y q s (.slice da s.data.length dc) wv) (fun y => Sts W (blkP w.heap.size (.cells zeroPdu 45 (0, 0)) :: blkP q (.cells ((s).rcs (.slice da s.data.length dc) wv) 38 (0, 0)) :: ownW zh wv (s).wanted :: l) y) (by kernel_rfl) (by kernel_rfl) (HS.out.drew (stabC (blkP_stable _ _) hl2)) (fun _ h => Sts.refC h.tail) ?_
  iterate 18
    (apply ord_pure (ho := rfl)
     · go_simp
     · intro x hx; have k0 := hx.k0; have k1 := hx.k1; have k2 := hx.k2; have k3 := hx.k3; have k4 := hx.k4; have k5 := hx.k5; have k9 := hx.k9; go_simp; rfl
     apply ord_norm
     · go_simp; rfl)
  apply ord_eff (ho := rfl)
  · go_simp
  intro y hy
  refine eff_agg hy hl2 (.tmp 2) (.tmp 20) 45 rfl (Fil.headP s.src s.num s.cls s.name s.data.length).cells rfl rfl sizePdu rfl rfl (fun y => RefC y q s (.slice da s.data.length dc) wv) (fun _ h => Sts.refC h.tail) ?_
  clear hy y
  apply ord_norm
  · go_simp; rfl
  refine ord_nil fun z hz => ?_
  have HF := hid hz
  clear hz
  go_wp2_with fail
  refine post_cell1 HF.out Try.results111 rfl rfl (ldPdu rfl HF.out) ⟨rfl, Sts.shutRef HF.out.tail⟩
set_option maxRecDepth 100000 in
set_option maxHeartbeats 1000000 in
theorem cREof (hd : RdB W (.slice da s.data.length dc) s.data) (hn : s.data.length < 100000000) (code : Int) : Calls Try.prog 110 #[.pointer (some ⟨q, 0, none⟩), .int .i64 code] w fun e w' => e = .returned (.agg (Fil.eofP s code).cells) ∧ Sts W (refP zh q s (.slice da s.data.length dc) :: l) w' := by
  obtain ⟨wv, h⟩ := Sts.openRef hs
  have hl2 : ∀ B ∈ blkP q (.cells ((s).rcs (.slice da s.data.length dc) wv) 38 (0, 0)) :: ownW zh wv (s).wanted :: l, Stable B := stabC (blkP_stable _ _) (stabC (ownW_stable _ _ _) hl)
  have hz := h.alloc hl2 (.cells zeroPdu 45 (0, 0))
  have HS := hid hz
  have HSUM := hid (fun y (hy : Sts W (blkP w.heap.size (.cells zeroPdu 45 (0, 0)) :: blkP q (.cells ((s).rcs (.slice da s.data.length dc) wv) 38 (0, 0)) :: ownW zh wv (s).wanted :: l) y) => cRefSum y (.slice da s.data.length dc) s.data (hd.below hy.below) hn)
  clear h hz hs hd
  go_enter Try.func110, Try.ntmps110
  go_wp2_with fail
  refine wp_region_ord (.pure 0 (.pure 1 (.pure 2 (.pure 3 (.pure 4 (.pure 5 (.pure 6 (.pure 7 (.pure 8 (.pure 9 (.pure 10 (.pure 11 (.pure 12 (.pure 13 (.pure 14 (.pure 15 (.pure 16 (.pure 18 (.eff 17 (.pure 19 (.eff 20 .nil))))))))))))))))))))) (fun y => RefC y q s (.slice da s.data.length dc) wv) (fun y => Sts W (blkP w.heap.size (.cells zeroPdu 45 (0, 0)) :: blkP q (.cells ((s).rcs (.slice da s.data.length dc) wv) 38 (0, 0)) :: ownW zh wv (s).wanted :: l) y) (by kernel_rfl) (by kernel_rfl) (HS.out.drew (stabC (blkP_stable _ _) hl2)) (fun _ h => Sts.refC h.tail) ?_
  iterate 18
    (apply ord_pure (ho := rfl)
     · go_simp
     · intro x hx; have k0 := hx.k0; have k1 := hx.k1; have k2 := hx.k2; have k3 := hx.k3; have k4 := hx.k4; have k5 := hx.k5; have k9 := hx.k9; go_simp; rfl
     apply ord_norm
     · go_simp; rfl)
  apply ord_eff (ho := rfl)
  · go_simp
  intro y hy
  refine eff_call (f := 43) (by go_simp) (HSUM.out y hy) ?_
  rintro e w2 ⟨rfl, rfl⟩
  refine ⟨_, rfl, (fun y => RefC y q s (.slice da s.data.length dc) wv), (fun y => Sts W (blkP w.heap.size (.cells zeroPdu 45 (0, 0)) :: blkP q (.cells ((s).rcs (.slice da s.data.length dc) wv) 38 (0, 0)) :: ownW zh wv (s).wanted :: l) y), hy, (fun _ h => Sts.refC h.tail), (fun _ h => h), ?_⟩
  clear hy y HSUM
  apply ord_norm
  · go_simp; rfl
  iterate 1
    (apply ord_pure (ho := rfl)
     · go_simp
     · intro x hx; have k0 := hx.k0; have k1 := hx.k1; have k2 := hx.k2; have k3 := hx.k3; have k4 := hx.k4; have k5 := hx.k5; have k9 := hx.k9; go_simp; rfl
     apply ord_norm
     · go_simp; rfl)
  apply ord_eff (ho := rfl)
  · go_simp
  intro y hy
  refine eff_agg hy hl2 (.tmp 4) (.tmp 24) 45 rfl (Fil.eofP s code).cells rfl rfl sizePdu rfl rfl (fun y => RefC y q s (.slice da s.data.length dc) wv) (fun _ h => Sts.refC h.tail) ?_
  clear hy y
  apply ord_norm
  · go_simp; rfl
  refine ord_nil fun z hz => ?_
  have HF := hid hz
  clear hz
  go_wp2_with fail
  refine post_cell1 HF.out Try.results110 rfl rfl (ldPdu rfl HF.out) ⟨rfl, Sts.shutRef HF.out.tail⟩
set_option maxRecDepth 100000 in
set_option maxHeartbeats 1000000 in
theorem cRPiece (hd : RdB W (.slice da s.data.length dc) s.data) (hn : s.data.length < 100000000) (f t : Nat) (hft : f < t) (ht : t ≤ s.data.length) : Calls Try.prog 112 #[.pointer (some ⟨q, 0, none⟩), .int .i64 (f : Nat), .int .i64 (t : Nat)] w fun e w' => ∃ pa pc, e = .returned (.agg (Fil.pieceP s f pa ((s.data.drop f).take (t - f)) pc).cells) ∧ Sts W (refP zh q s (.slice da s.data.length dc) :: rowP 5 1 (.slice pa ((s.data.drop f).take (t - f)).length pc) ((s.data.drop f).take (t - f)).length (u8s ((s.data.drop f).take (t - f))) :: l) w' := by
  obtain ⟨wv, h⟩ := Sts.openRef hs
  have hl2 : ∀ B ∈ blkP q (.cells ((s).rcs (.slice da s.data.length dc) wv) 38 (0, 0)) :: ownW zh wv (s).wanted :: l, Stable B := stabC (blkP_stable _ _) (stabC (ownW_stable _ _ _) hl)
  have hz := h.alloc hl2 (.cells zeroPdu 45 (0, 0))
  have HS := hid hz
  obtain ⟨b, off, hda⟩ : ∃ b off, da = some ⟨b, off, none⟩ := by
    obtain ⟨a', c', e', -, hx⟩ := hd.1
    injection e' with e1 e2 e3
    obtain ⟨b, off, h1, -, -⟩ := hx f (by rw [u8s_len]; omega)
    exact ⟨b, off, e1.trans h1⟩
  subst hda
  obtain ⟨-, hcap1, hcap2⟩ := hd.1.cap
  have hsl : ∀ x : World, (Instr.slice 24 (.slice (some ⟨b, off, none⟩) s.data.length dc) (some (.int .i64 (f : Int))) (some (.int .i64 (t : Int))) none).run Try.prog x = .ok (.slice (some ⟨b, off + f, none⟩) (t - f) (dc - f)) x := fun x => Lib.run_slice_window x _ 5 Try.underlying24 (fun w => by first | rfl | simp [go_sem] | kernel_rfl) b off _ dc f t hft (by omega)
  obtain ⟨sub, hsub⟩ : ∃ sub, sub = ((s.data.drop f).take (t - f)) := ⟨_, rfl⟩
  rw [← hsub]
  have hsl2 : sub.length = t - f := by rw [hsub]; simp; omega
  have HRD : Hid (∀ y, Below W.heap.size W y → Rd y (.slice (some ⟨b, off + f, none⟩) sub.length (dc - f)) (u8s sub)) := hid fun y hy => by
    have r1 := hd.1.below hy
    have r2 := r1.drop f (by rw [u8s_len]; omega) (some ⟨b, off + f, none⟩) (dc - f) (by rw [u8s_len]; omega) (by rintro b' off' - e; injection e with e; injection e with e1 e2; subst e1; subst e2; rfl)
    have r3 := r2.take (t - f) (by rw [List.length_drop]; rw [u8s_len]; omega) (dc - f) (by omega)
    rw [hsl2, hsub]
    unfold u8s at r3 ⊢
    rw [← List.map_drop, ← List.map_take] at r3
    exact r3
  rw [← hsl2] at hsl
  have hsub3 : ([] : List Nat).length + sub.length < 1000000000 := by simp only [List.length_nil]; omega
  clear hsub hsl2
  have HN := hid (Sts.rowNil 5 hz)
  have k4 : (w.alloc (.cells #[.int .i64 0, .int .i64 0, .int .i64 0, .int .i64 0, .string ⟨#[]⟩, .int .i64 0, .int .i64 0, .slice none 0 0, .int .u32 0, .int .i64 0, .slice none 0 0] 45)).cell? ⟨q, 4, none⟩ = some (.slice (some ⟨b, off, none⟩) s.data.length dc) := (Sts.refC hz.tail).k4
  clear h hz hs hd HS
  have HL3 : Hid (∀ B ∈ blkP w.heap.size (.cells zeroPdu 45 (0, 0)) :: blkP q (.cells ((s).rcs (.slice (some ⟨b, off, none⟩) s.data.length dc) wv) 38 (0, 0)) :: ownW zh wv (s).wanted :: l, Stable B) := hid (stabC (blkP_stable _ _) hl2)
  have HL4 : ∀ v n xs, Hid (∀ B ∈ rowP 5 1 v n xs :: blkP q (.cells ((s).rcs (.slice (some ⟨b, off, none⟩) s.data.length dc) wv) 38 (0, 0)) :: ownW zh wv (s).wanted :: l, Stable B) := fun _ _ _ => hid (stabC (rowP_stable _ _ _ _ _) hl2)
  clear hl2
  go_enter Try.func112, Try.ntmps112
  go_wp2_with (first | (at_builtin; refine wpList_appendB (l := []) (m := sub) rfl (.tmp 8) (.tmp 15) rfl HN.out HL3.out rfl ⟨b, off + f, none⟩ (dc - f) rfl (HRD.out _ HN.out.below) hsub3 ?_; intro v1 w5 hz; obtain ⟨pa, pc, rfl⟩ : ∃ pa pc, v1 = .slice pa sub.length pc := (by have h := (Rd.of_own (Sts.rowOwn hz) (u8s_len _)).eq; rw [u8s_len] at h; simpa using h); have HZ := hid (show Sts W (rowP 5 1 (.slice pa sub.length pc) sub.length (u8s sub) :: blkP w.heap.size (.cells zeroPdu 45 (0, 0)) :: blkP q (.cells ((s).rcs (.slice (some ⟨b, off, none⟩) s.data.length dc) wv) 38 (0, 0)) :: ownW zh wv (s).wanted :: l) w5 from hz); have hC := Sts.refC hz.tail.tail; have r0 := hC.k0; have r1 := hC.k1; clear hz hC) | (refine wpList_agg HZ.out.swap (HL4 _ _ _).out rfl (.tmp 6) (.tmp 23) 45 rfl (Fil.pieceP s f pa sub pc).cells rfl rfl sizePdu rfl rfl ?_; intro w6 hz; have HF := hid hz; clear hz))
  refine post_cell1 HF.out Try.results112 rfl rfl (ldPdu rfl HF.out) ⟨pa, pc, rfl, Sts.shutRef HF.out.tail.third'⟩
end
end Go.Proofs.Ytfjadhkhmhnccaa
namespace Go.Proofs.Ytfjadhkhmhnccaa
open Go.RowKit Go.Proofs.Num
theorem Sts.second {W w : World} {A B C : HProp} {l : List HProp} (h : Sts W (A :: B :: C :: l) w) : Sts W (A :: C :: B :: l) w := h.perm ((List.Perm.swap C B l).cons A)
section
variable {W w : World} {l : List HProp} (hl : ∀ B ∈ l, Stable B) (zh : Value × List Rng.R) (q : Nat) (s : Fil.Src) (da : Option Addr) (dc : Nat) (hs : Sts W (refP zh q s (.slice da s.data.length dc) :: l) w)
include hl hs
set_option maxRecDepth 100000 in
set_option maxHeartbeats 2000000 in
theorem cRSndHead (h0 : s.started = false) : Calls Try.prog 113 #[.pointer (some ⟨q, 0, none⟩)] w fun e w' => e = .returned (.tuple #[.agg (Fil.headP s.src s.num s.cls s.name s.data.length).cells, .bool true]) ∧ Sts W (refP zh q ({ s with started := true }) (.slice da s.data.length dc) :: l) w' := by
  obtain ⟨wv, h⟩ := Sts.openRef hs
  have hl2 : ∀ B ∈ blkP q (.cells ((s).rcs (.slice da s.data.length dc) wv) 38 (0, 0)) :: ownW zh wv (s).wanted :: l, Stable B := stabC (blkP_stable _ _) (stabC (ownW_stable _ _ _) hl)
  have hz : Sts W (blkP w.heap.size (.cells zeroPdu 45 (0, 0)) :: blkP q (.cells ((s).rcs (.slice da s.data.length dc) wv) 38 (0, 0)) :: ownW zh wv (s).wanted :: l) (w.alloc (.cells #[.int .i64 0, .int .i64 0, .int .i64 0, .int .i64 0, .string ⟨#[]⟩, .int .i64 0, .int .i64 0, .slice none 0 0, .int .u32 0, .int .i64 0, .slice none 0 0] 45)) := h.alloc hl2 (.cells zeroPdu 45 (0, 0))
  have HS := hid hz
  have HL := hid hl
  have k14 : (w.alloc (.cells #[.int .i64 0, .int .i64 0, .int .i64 0, .int .i64 0, .string ⟨#[]⟩, .int .i64 0, .int .i64 0, .slice none 0 0, .int .u32 0, .int .i64 0, .slice none 0 0] 45)).cell? ⟨q, 14, none⟩ = some (.bool s.started) := (Sts.refC hz.tail).k14
  clear h hz hs hl2 hl
  rw [h0] at k14
  go_enter Try.func113, Try.ntmps113
  go_wp2_with (first | (refine wpList_cell HS.out.swap (stabC (blkP_stable _ _) (stabC (ownW_stable _ _ _) HL.out)) rfl (.tmp 12) (.const (.bool true)) 4 rfl 14 (.bool true) rfl rfl szBool (show 14 < 20 by decide) rfl ?_; intro w3 hz; replace hz : Sts W (blkP q (.cells (({ s with started := true }).rcs (.slice da s.data.length dc) wv) 38 (0, 0)) :: blkP w.heap.size (.cells zeroPdu 45 (0, 0)) :: ownW zh wv s.wanted :: l) w3 := hz; have H3 := hid hz; have HM := hid (cRMeta (stabC (blkP_stable _ _) HL.out) zh q { s with started := true } da dc (Sts.shutRef (s := { s with started := true }) (wv := wv) (Sts.second hz))); clear hz) | (go_at_call 111; refine HM.out.mono ?_; rintro e w4 ⟨rfl, hw⟩; have H4 := hid hw.swap; clear hw) | (refine wpList_agg H4.out (stabC (refP_stable _ _ _ _) HL.out) rfl (.tmp 2) (.tmp 14) 45 rfl ((Fil.headP s.src s.num s.cls s.name s.data.length).cells) rfl rfl sizePdu rfl rfl ?_; intro w5 hz; have HF := hid hz; clear hz))
  exact post_cell2 HF.out Try.results113 rfl rfl (ldPdu rfl HF.out) _ rfl ⟨rfl, HF.out.tail⟩
set_option maxRecDepth 100000 in
set_option maxHeartbeats 2000000 in
theorem cRSndPiece (hd : RdB W (.slice da s.data.length dc) s.data) (hn : s.data.length < 100000000) (f c tt : Nat) (h0 : s.started = true) (h1' : s.at' = (f : Int)) (h2x : s.chunk = (c : Int)) (h3 : f < s.data.length) (h4 : 0 < c ∧ c ≤ 512) (h5 : tt = min (f + c) s.data.length) : Calls Try.prog 113 #[.pointer (some ⟨q, 0, none⟩)] w fun e w' => ∃ pa pc, e = .returned (.tuple #[.agg (Fil.pieceP s f pa ((s.data.drop f).take (tt - f)) pc).cells, .bool true]) ∧ Sts W (refP zh q ({ s with at' := ((tt : Nat) : Int) }) (.slice da s.data.length dc) :: rowP 5 1 (.slice pa ((s.data.drop f).take (tt - f)).length pc) ((s.data.drop f).take (tt - f)).length (u8s ((s.data.drop f).take (tt - f))) :: l) w' := by
  have hR : Hid (∀ y, Sts W (refP zh q ({ s with at' := ((tt : Nat) : Int) }) (.slice da s.data.length dc) :: blkP w.heap.size (.cells zeroPdu 45 (0, 0)) :: l) y → _) := hid fun y hy => cRPiece (stabC (blkP_stable _ _) hl) zh q { s with at' := ((tt : Nat) : Int) } da dc hy hd hn f tt (by omega) (by show tt ≤ s.data.length; omega)
  have HT := hid h5
  have htt : f < tt ∧ tt ≤ s.data.length := by omega
  have hlt : decide ((f : Int) < (s.data.length : Int)) = true := decide_eq_true (by omega)
  have hfc : IntKind.i64.wrap ((f : Int) + (c : Int)) = (f : Int) + (c : Int) := by rw [IntKind.wrap_i64]; omega
  obtain ⟨wv, h⟩ := Sts.openRef hs
  have hl2 : ∀ B ∈ blkP q (.cells ((s).rcs (.slice da s.data.length dc) wv) 38 (0, 0)) :: ownW zh wv (s).wanted :: l, Stable B := stabC (blkP_stable _ _) (stabC (ownW_stable _ _ _) hl)
  have hz : Sts W (blkP w.heap.size (.cells zeroPdu 45 (0, 0)) :: blkP q (.cells ((s).rcs (.slice da s.data.length dc) wv) 38 (0, 0)) :: ownW zh wv (s).wanted :: l) (w.alloc (.cells #[.int .i64 0, .int .i64 0, .int .i64 0, .int .i64 0, .string ⟨#[]⟩, .int .i64 0, .int .i64 0, .slice none 0 0, .int .u32 0, .int .i64 0, .slice none 0 0] 45)) := h.alloc hl2 (.cells zeroPdu 45 (0, 0))
  have HS := hid hz
  have HL := hid hl
  have k14 : (w.alloc (.cells #[.int .i64 0, .int .i64 0, .int .i64 0, .int .i64 0, .string ⟨#[]⟩, .int .i64 0, .int .i64 0, .slice none 0 0, .int .u32 0, .int .i64 0, .slice none 0 0] 45)).cell? ⟨q, 14, none⟩ = some (.bool s.started) := (Sts.refC hz.tail).k14
  have k9 : (w.alloc (.cells #[.int .i64 0, .int .i64 0, .int .i64 0, .int .i64 0, .string ⟨#[]⟩, .int .i64 0, .int .i64 0, .slice none 0 0, .int .u32 0, .int .i64 0, .slice none 0 0] 45)).cell? ⟨q, 9, none⟩ = some (.int .i64 s.at') := (Sts.refC hz.tail).k9
  have k4 : (w.alloc (.cells #[.int .i64 0, .int .i64 0, .int .i64 0, .int .i64 0, .string ⟨#[]⟩, .int .i64 0, .int .i64 0, .slice none 0 0, .int .u32 0, .int .i64 0, .slice none 0 0] 45)).cell? ⟨q, 4, none⟩ = some (.slice da s.data.length dc) := (Sts.refC hz.tail).k4
  clear h hz hs hl2 hl
  rw [h0] at k14
  rw [h1'] at k9
  have HLA : Hid (∀ B ∈ blkP w.heap.size (.cells zeroPdu 45 (0, 0)) :: blkP q (.cells ((s).rcs (.slice da s.data.length dc) wv) 38 (0, 0)) :: ownW zh wv (s).wanted :: l, Stable B) := hid (stabC (blkP_stable _ _) (stabC (blkP_stable _ _) (stabC (ownW_stable _ _ _) HL.out)))
  have HK : Hid (∀ y, Sts W (blkP w.heap.size (.cells zeroPdu 45 (0, 0)) :: blkP q (.cells ((s).rcs (.slice da s.data.length dc) wv) 38 (0, 0)) :: ownW zh wv (s).wanted :: l) y → y.cell? ⟨q, 9, none⟩ = some (.int .i64 (f : Int)) ∧ y.cell? ⟨q, 5, none⟩ = some (.int .i64 (c : Int)) ∧ y.cell? ⟨q, 4, none⟩ = some (.slice da s.data.length dc)) := hid fun y hy => by
    have hC := Sts.refC hy.tail
    have a9 := hC.k9
    have a5 := hC.k5
    rw [h1'] at a9
    rw [h2x] at a5
    exact ⟨a9, a5, hC.k4⟩
  clear hd h5 h0 h1' h2x
  go_enter Try.func113, Try.ntmps113
  go_wp2_with fail
  go_quiet (fail)
  go_wp2_with fail
  refine wp_region_ordS (fun i => i == 19) (.pure 0 (.pure 1 (.pure 2 (.pure 3 (.pure 4 (.pure 5 (.pure 6 (.pure 7 (.pure 8 (.pure 9 (.pure 10 (.pure 11 (.pure 12 (.pure 13 (.pure 14 (.pure 15 (.pure 16 (.pure 17 (.pure 18 (.eff 19 .nil)))))))))))))))))))) (fun y => y.cell? ⟨q, 9, none⟩ = some (.int .i64 (f : Int)) ∧ y.cell? ⟨q, 5, none⟩ = some (.int .i64 (c : Int)) ∧ y.cell? ⟨q, 4, none⟩ = some (.slice da s.data.length dc)) (fun y => Sts W (blkP w.heap.size (.cells zeroPdu 45 (0, 0)) :: blkP q (.cells ((s).rcs (.slice da s.data.length dc) wv) 38 (0, 0)) :: ownW zh wv (s).wanted :: l) y) (by kernel_rfl) (by kernel_rfl) ((HS.out.quiet HLA.out (below_drewN (Below.refl _ _) _)).drew HLA.out) (fun y hy => HK.out y hy) ?_
  iterate 16
    (apply ord_pure (ho := rfl)
     · go_simp
     · intro x hx; obtain ⟨q1, q2, q3⟩ := hx; go_simp; rfl
     apply ord_norm
     · go_simp; rfl)
  (refine ord_pure _ (.int .i64 ((tt : Nat) : Int)) rfl ?_ ?_ ?_
   · go_simp
   · intro x hx; have h5 := HT.out; go_simp; first | done | omega | (split <;> omega)
   apply ord_norm
   · go_simp; rfl)
  iterate 2
    (apply ord_pure (ho := rfl)
     · go_simp
     · intro x hx; obtain ⟨q1, q2, q3⟩ := hx; go_simp; rfl
     apply ord_norm
     · go_simp; rfl)
  apply ord_eff (ho := rfl)
  · go_simp
  intro y hy
  have q1 := (HK.out y hy).1
  have q2 : y.frozen? ⟨q, 9, none⟩ = false := (Sts.refC hy.tail).fr 9
  have hy2 := Sts.store (stabC (blkP_stable _ _) (stabC (ownW_stable _ _ _) HL.out)) hy.swap (j := 9) (.int .i64 ((tt : Nat) : Int))
  refine effS_skip (fun _ => True) (fun y => Sts W (blkP q (.cells (({ s with at' := ((tt : Nat) : Int) }).rcs (.slice da s.data.length dc) wv) 38 (0, 0)) :: blkP w.heap.size (.cells zeroPdu 45 (0, 0)) :: ownW zh wv (s).wanted :: l) y) (w := y.setCell ⟨q, 9, none⟩ (.int .i64 ((tt : Nat) : Int))) rfl ?_ hy2 (fun _ _ => trivial) ?_
  · clear hy hy2
    go_simp
  clear hy hy2 q1 q2 y
  apply ord_norm
  · go_simp; rfl
  refine ord_nil fun z hz => ?_
  have k9' : z.cell? ⟨q, 9, none⟩ = some (.int .i64 ((tt : Nat) : Int)) := (Sts.refC hz).k9
  have HM := hid (hR.out z (Sts.shutRef (s := { s with at' := ((tt : Nat) : Int) }) (wv := wv) (Sts.second hz)))
  clear hz HS HK hR
  go_wp2_with (first | (go_at_call 112; refine HM.out.mono ?_; rintro e w4 ⟨pa, pc, rfl, hw⟩; have H4 := hid (hw.third); clear hw) | (refine wpList_agg H4.out (stabC (refP_stable _ _ _ _) (stabC (rowP_stable _ _ _ _ _) HL.out)) rfl (.tmp 2) (.tmp 54) 45 rfl ((Fil.pieceP s f pa ((s.data.drop f).take (tt - f)) pc).cells) rfl rfl sizePdu rfl rfl ?_; intro w5 hz; have HF := hid hz; clear hz))
  exact post_cell2 HF.out Try.results113 rfl rfl (ldPdu rfl HF.out) _ rfl ⟨pa, pc, rfl, HF.out.tail⟩
set_option maxRecDepth 100000 in
set_option maxHeartbeats 2000000 in
theorem cRSndEof1 (hd : RdB W (.slice da s.data.length dc) s.data) (hn : s.data.length < 100000000) (h0 : s.started = true) (h1' : s.data.length ≤ s.at') (hc : s.cls = 1) : Calls Try.prog 113 #[.pointer (some ⟨q, 0, none⟩)] w fun e w' => e = .returned (.tuple #[.agg (Fil.eofP s 0).cells, .bool true]) ∧ Sts W (refP zh q ({ s with phase := 4 }) (.slice da s.data.length dc) :: l) w' := by
  have HD := hid hd
  have hge : decide (s.at' < (s.data.length : Int)) = false := decide_eq_false (by omega)
  clear hd
  obtain ⟨wv, h⟩ := Sts.openRef hs
  have hl2 : ∀ B ∈ blkP q (.cells ((s).rcs (.slice da s.data.length dc) wv) 38 (0, 0)) :: ownW zh wv (s).wanted :: l, Stable B := stabC (blkP_stable _ _) (stabC (ownW_stable _ _ _) hl)
  have hz : Sts W (blkP w.heap.size (.cells zeroPdu 45 (0, 0)) :: blkP q (.cells ((s).rcs (.slice da s.data.length dc) wv) 38 (0, 0)) :: ownW zh wv (s).wanted :: l) (w.alloc (.cells #[.int .i64 0, .int .i64 0, .int .i64 0, .int .i64 0, .string ⟨#[]⟩, .int .i64 0, .int .i64 0, .slice none 0 0, .int .u32 0, .int .i64 0, .slice none 0 0] 45)) := h.alloc hl2 (.cells zeroPdu 45 (0, 0))
  have HS := hid hz
  have HL := hid hl
  have k14 : (w.alloc (.cells #[.int .i64 0, .int .i64 0, .int .i64 0, .int .i64 0, .string ⟨#[]⟩, .int .i64 0, .int .i64 0, .slice none 0 0, .int .u32 0, .int .i64 0, .slice none 0 0] 45)).cell? ⟨q, 14, none⟩ = some (.bool s.started) := (Sts.refC hz.tail).k14
  have k9 : (w.alloc (.cells #[.int .i64 0, .int .i64 0, .int .i64 0, .int .i64 0, .string ⟨#[]⟩, .int .i64 0, .int .i64 0, .slice none 0 0, .int .u32 0, .int .i64 0, .slice none 0 0] 45)).cell? ⟨q, 9, none⟩ = some (.int .i64 s.at') := (Sts.refC hz.tail).k9
  have k4 : (w.alloc (.cells #[.int .i64 0, .int .i64 0, .int .i64 0, .int .i64 0, .string ⟨#[]⟩, .int .i64 0, .int .i64 0, .slice none 0 0, .int .u32 0, .int .i64 0, .slice none 0 0] 45)).cell? ⟨q, 4, none⟩ = some (.slice da s.data.length dc) := (Sts.refC hz.tail).k4
  have k2 : (w.alloc (.cells #[.int .i64 0, .int .i64 0, .int .i64 0, .int .i64 0, .string ⟨#[]⟩, .int .i64 0, .int .i64 0, .slice none 0 0, .int .u32 0, .int .i64 0, .slice none 0 0] 45)).cell? ⟨q, 2, none⟩ = some (.int .i64 s.cls) := (Sts.refC hz.tail).k2
  clear h hz hs hl2 hl
  rw [h0] at k14
  rw [hc] at k2
  have HLA : Hid (∀ B ∈ blkP w.heap.size (.cells zeroPdu 45 (0, 0)) :: blkP q (.cells ((s).rcs (.slice da s.data.length dc) wv) 38 (0, 0)) :: ownW zh wv (s).wanted :: l, Stable B) := hid (stabC (blkP_stable _ _) (stabC (blkP_stable _ _) (stabC (ownW_stable _ _ _) HL.out)))
  have HSN := hid (fun n => HS.out.quiet HLA.out (below_drewN (Below.refl _ _) n))
  clear h0 h1' hc
  go_enter Try.func113, Try.ntmps113
  go_wp2_with fail
  go_quiet (fail)
  go_wp2_with (first | (refine wpList_cell (HSN.out _).swap (stabC (blkP_stable _ _) (stabC (ownW_stable _ _ _) HL.out)) rfl (.tmp 62) (.const (.int .i64 5)) 3 rfl 8 (.int .i64 5) rfl rfl szInt (show 8 < 20 by decide) rfl ?_; intro w3 hz; replace hz : Sts W (blkP q (.cells (({ s with phase := 4 }).rcs (.slice da s.data.length dc) wv) 38 (0, 0)) :: blkP w.heap.size (.cells zeroPdu 45 (0, 0)) :: ownW zh wv s.wanted :: l) w3 := hz; have H3 := hid hz; have HM := hid (cREof (stabC (blkP_stable _ _) HL.out) zh q { s with phase := 4 } da dc (Sts.shutRef (s := { s with phase := 4 }) (wv := wv) (Sts.second hz)) HD.out hn 0); clear hz) | (go_at_call 110; refine HM.out.mono ?_; rintro e w4 ⟨rfl, hw⟩; have H4 := hid hw.swap; clear hw) | (refine wpList_agg H4.out (stabC (refP_stable _ _ _ _) HL.out) rfl (.tmp 2) (.tmp 77) 45 rfl ((Fil.eofP s 0).cells) rfl rfl sizePdu rfl rfl ?_; intro w5 hz; have HF := hid hz; clear hz))
  exact post_cell2 HF.out Try.results113 rfl rfl (ldPdu rfl HF.out) _ rfl ⟨rfl, HF.out.tail⟩
set_option maxRecDepth 100000 in
set_option maxHeartbeats 2000000 in
theorem cRSndEof2 (hd : RdB W (.slice da s.data.length dc) s.data) (hn : s.data.length < 100000000) (h0 : s.started = true) (h1' : s.data.length ≤ s.at') (hc : s.cls = 2) : Calls Try.prog 113 #[.pointer (some ⟨q, 0, none⟩)] w fun e w' => e = .returned (.tuple #[.agg (Fil.eofP s 0).cells, .bool true]) ∧ Sts W (refP zh q ({ s with phase := 1, timer := s.now, tries := 0 }) (.slice da s.data.length dc) :: l) w' := by
  have HD := hid hd
  have hge : decide (s.at' < (s.data.length : Int)) = false := decide_eq_false (by omega)
  clear hd
  obtain ⟨wv, h⟩ := Sts.openRef hs
  have hl2 : ∀ B ∈ blkP q (.cells ((s).rcs (.slice da s.data.length dc) wv) 38 (0, 0)) :: ownW zh wv (s).wanted :: l, Stable B := stabC (blkP_stable _ _) (stabC (ownW_stable _ _ _) hl)
  have hz : Sts W (blkP w.heap.size (.cells zeroPdu 45 (0, 0)) :: blkP q (.cells ((s).rcs (.slice da s.data.length dc) wv) 38 (0, 0)) :: ownW zh wv (s).wanted :: l) (w.alloc (.cells #[.int .i64 0, .int .i64 0, .int .i64 0, .int .i64 0, .string ⟨#[]⟩, .int .i64 0, .int .i64 0, .slice none 0 0, .int .u32 0, .int .i64 0, .slice none 0 0] 45)) := h.alloc hl2 (.cells zeroPdu 45 (0, 0))
  have HS := hid hz
  have HL := hid hl
  have k14 : (w.alloc (.cells #[.int .i64 0, .int .i64 0, .int .i64 0, .int .i64 0, .string ⟨#[]⟩, .int .i64 0, .int .i64 0, .slice none 0 0, .int .u32 0, .int .i64 0, .slice none 0 0] 45)).cell? ⟨q, 14, none⟩ = some (.bool s.started) := (Sts.refC hz.tail).k14
  have k9 : (w.alloc (.cells #[.int .i64 0, .int .i64 0, .int .i64 0, .int .i64 0, .string ⟨#[]⟩, .int .i64 0, .int .i64 0, .slice none 0 0, .int .u32 0, .int .i64 0, .slice none 0 0] 45)).cell? ⟨q, 9, none⟩ = some (.int .i64 s.at') := (Sts.refC hz.tail).k9
  have k4 : (w.alloc (.cells #[.int .i64 0, .int .i64 0, .int .i64 0, .int .i64 0, .string ⟨#[]⟩, .int .i64 0, .int .i64 0, .slice none 0 0, .int .u32 0, .int .i64 0, .slice none 0 0] 45)).cell? ⟨q, 4, none⟩ = some (.slice da s.data.length dc) := (Sts.refC hz.tail).k4
  have k2 : (w.alloc (.cells #[.int .i64 0, .int .i64 0, .int .i64 0, .int .i64 0, .string ⟨#[]⟩, .int .i64 0, .int .i64 0, .slice none 0 0, .int .u32 0, .int .i64 0, .slice none 0 0] 45)).cell? ⟨q, 2, none⟩ = some (.int .i64 s.cls) := (Sts.refC hz.tail).k2
  clear h hz hs hl2 hl
  rw [h0] at k14
  rw [hc] at k2
  have HLA : Hid (∀ B ∈ blkP w.heap.size (.cells zeroPdu 45 (0, 0)) :: blkP q (.cells ((s).rcs (.slice da s.data.length dc) wv) 38 (0, 0)) :: ownW zh wv (s).wanted :: l, Stable B) := hid (stabC (blkP_stable _ _) (stabC (blkP_stable _ _) (stabC (ownW_stable _ _ _) HL.out)))
  have HSN := hid (fun n => HS.out.quiet HLA.out (below_drewN (Below.refl _ _) n))
  clear h0 h1' hc
  go_enter Try.func113, Try.ntmps113
  go_wp2_with fail
  go_quiet (fail)
  go_wp2_with (first | (refine wpList_cell (HSN.out _).swap (stabC (blkP_stable _ _) (stabC (ownW_stable _ _ _) HL.out)) rfl (.tmp 65) (.const (.int .i64 2)) 3 rfl 8 (.int .i64 2) rfl rfl szInt (show 8 < 20 by decide) rfl ?_; intro w3 hz; replace hz : Sts W (blkP q (.cells (({ s with phase := 1 }).rcs (.slice da s.data.length dc) wv) 38 (0, 0)) :: blkP w.heap.size (.cells zeroPdu 45 (0, 0)) :: ownW zh wv s.wanted :: l) w3 := hz; have hC := Sts.refC hz; have k10 := hC.k10; clear hC; (try dsimp only at k10); have H3 := hid hz; clear hz) | (refine wpList_cell H3.out (stabC (blkP_stable _ _) (stabC (ownW_stable _ _ _) HL.out)) rfl (.tmp 72) (.tmp 70) 3 rfl 11 (.int .i64 s.now) rfl rfl szInt (show 11 < 20 by decide) rfl ?_; intro w3b hz; replace hz : Sts W (blkP q (.cells (({ s with phase := 1, timer := s.now }).rcs (.slice da s.data.length dc) wv) 38 (0, 0)) :: blkP w.heap.size (.cells zeroPdu 45 (0, 0)) :: ownW zh wv s.wanted :: l) w3b := hz; have H3b := hid hz; clear hz) | (refine wpList_cell H3b.out (stabC (blkP_stable _ _) (stabC (ownW_stable _ _ _) HL.out)) rfl (.tmp 75) (.const (.int .i64 0)) 3 rfl 12 (.int .i64 0) rfl rfl szInt (show 12 < 20 by decide) rfl ?_; intro w3c hz; replace hz : Sts W (blkP q (.cells (({ s with phase := 1, timer := s.now, tries := 0 }).rcs (.slice da s.data.length dc) wv) 38 (0, 0)) :: blkP w.heap.size (.cells zeroPdu 45 (0, 0)) :: ownW zh wv s.wanted :: l) w3c := hz; have H3c := hid hz; have HM := hid (cREof (stabC (blkP_stable _ _) HL.out) zh q { s with phase := 1, timer := s.now, tries := 0 } da dc (Sts.shutRef (s := { s with phase := 1, timer := s.now, tries := 0 }) (wv := wv) (Sts.second hz)) HD.out hn 0); clear hz) | (go_at_call 110; refine HM.out.mono ?_; rintro e w4 ⟨rfl, hw⟩; have H4 := hid hw.swap; clear hw) | (refine wpList_agg H4.out (stabC (refP_stable _ _ _ _) HL.out) rfl (.tmp 2) (.tmp 77) 45 rfl ((Fil.eofP s 0).cells) rfl rfl sizePdu rfl rfl ?_; intro w5 hz; have HF := hid hz; clear hz))
  exact post_cell2 HF.out Try.results113 rfl rfl (ldPdu rfl HF.out) _ rfl ⟨rfl, HF.out.tail⟩
end
end Go.Proofs.Ytfjadhkhmhnccaa
