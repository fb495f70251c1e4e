/- An entity without open transactions: its small methods. An entity that was restored: what it tells. -/
import Derived.Test.YtgidckkcibplgaaGreatResG
import Derived.Test.YtgidckkcibplgaaGreatEvI
import Derived.Test.YtgidckkcibplgaaGreatStnC
set_option linter.unusedVariables false
set_option linter.unusedSimpArgs false
set_option linter.unusedSectionVars false
namespace Go.Proofs.YtgidckkcibplgaaGreat
open Go.RowKit Go.Proofs.Num
theorem keyFile (a b : Int) : Go.Ev.keyOk Tryz.prog 38 (.agg [.int .i64 a, .int .i64 b]) = true := by
  have h2 : Tryz.prog.stoodInHeld 38 = false := by kernel_rfl
  have hu := Tryz.underlying38
  have hi := Tryz.underlying3
  unfold Go.Ev.keyOk
  rw [hu]
  simp [h2, Go.Ev.sEq, hi, Go.Ev.keq, Go.Ev.ieq_eq]
theorem lookE (w : World) (ty et : TypeId) (zv : Value) (hu : Tryz.prog.underlying ty = some (.map 38 et)) (hz : ∀ w, (zeroValue et).run Tryz.prog w = .ok zv w) (mb : Nat) (hm : w.heap[mb]? = some (.map #[] 0)) (a b : Int) :
    (Instr.lookup ty (.map (some mb)) (.agg #[.int .i64 a, .int .i64 b]) true).run Tryz.prog w = .ok (.tuple #[zv, .bool false]) w := by
  obtain ⟨d, hd, hik, hdd⟩ := Go.Ev.keyOk_ok (e := Go.Ev.noEnv) (keyFile a b) (.agg (.cons (.int _ a) (.cons (.int _ b) .nil)))
  exact Go.Ev.run_lookup (ms := []) (res := none) hu hd hik (.inr ⟨mb, 0, rfl, hm⟩) .nil (fun _ => hz)
end Go.Proofs.YtgidckkcibplgaaGreat
namespace Go.Proofs.YtgidckkcibplgaaGreat
open Go.RowKit Go.Proofs.Num
/-- The entity's cells. -/
def couR (self chunk to re next : Int) (q m1 m2 m3 : Nat) (dn : Value) : Array Value := #[.bool true, .int .i64 self, .pointer (some ⟨q, 0, none⟩), .int .i64 chunk, .int .i64 to, .int .i64 re, .int .i64 0, .int .i64 next, .map (some m1), .map (some m2), .map (some m3), dn, .slice none 0 0, .bool false, .pointer none]
/-- What is known of the entity's memory. -/
structure CouAt (w : World) (self chunk to re next : Int) (c q m1 m2 m3 : Nat) (l : List Rng.R) : Prop where
  dn : ∃ va vn vc, w.heap[c]? = some (.cells (couR self chunk to re next q m1 m2 m3 (.slice va vn vc)) 69 (0, 0)) ∧ RdR w (.slice va vn vc) l
  e1 : w.heap[m1]? = some (.map #[] 0)
  e2 : w.heap[m2]? = some (.map #[] 0)
theorem CouAt.below {w w' : World} {self chunk to re next : Int} {c q m1 m2 m3 : Nat} {l : List Rng.R} (h : CouAt w self chunk to re next c q m1 m2 m3 l) (hb : Below w.heap.size w w') : CouAt w' self chunk to re next c q m1 m2 m3 l := by
  obtain ⟨⟨va, vn, vc, h1, h2⟩, h3, h4⟩ := h
  have k : ∀ (b : Nat) (o : Obj), w.heap[b]? = some o → w'.heap[b]? = some o := fun b o hh => by rw [hb.block b (Array.getElem?_eq_some_iff.1 hh).1]; exact hh
  exact ⟨⟨va, vn, vc, k _ _ h1, h2.below hb⟩, k _ _ h3, k _ _ h4⟩
section
variable {w : World} {self chunk to re next : Int} {c q m1 m2 m3 : Nat} {l : List Rng.R}
set_option maxRecDepth 100000 in
theorem cCouUsable (h : CouAt w self chunk to re next c q m1 m2 m3 l) : Calls Tryz.prog 48 #[.pointer (some ⟨c, 0, none⟩)] w fun e w' => e = .returned (.bool true) ∧ w = w' := by
  obtain ⟨⟨va, vn, vc, h1, h2⟩, h3, h4⟩ := h
  have k0 : w.cell? ⟨c, 0, none⟩ = some (.bool true) := cell_blk (j := 0) h1 rfl
  clear h1 h2 h3 h4
  go_enter Tryz.func48, Tryz.ntmps48
  go_wp2_with fail
  go_ret
  exact ⟨rfl, rfl⟩
set_option maxRecDepth 100000 in
theorem cCouEnd (h : CouAt w self chunk to re next c q m1 m2 m3 l) (s t : Int) : Calls Tryz.prog 49 #[.pointer (some ⟨c, 0, none⟩), .agg #[.int .i64 s, .int .i64 t]] w fun e w' => e = .returned .nilIface ∧ Below w.heap.size w w' := by
  have hb := (Below.refl w.heap.size w).alloc (Nat.le_refl _) (.cells #[.int .i64 s, .int .i64 t] 38)
  have h' := h.below hb
  obtain ⟨⟨va, vn, vc, h1, h2⟩, h3, h4⟩ := h'
  have HB := hid hb
  have k8 : (w.alloc (.cells #[.int .i64 s, .int .i64 t] 38)).cell? ⟨c, 8, none⟩ = some (.map (some m1)) := cell_blk (j := 8) h1 rfl
  have k9 : (w.alloc (.cells #[.int .i64 s, .int .i64 t] 38)).cell? ⟨c, 9, none⟩ = some (.map (some m2)) := cell_blk (j := 9) h1 rfl
  have hlk1 := fun n => lookE ((w.alloc (.cells #[.int .i64 s, .int .i64 t] 38)).drewN n) 64 114 (.pointer none) Tryz.underlying64 (fun w => by first | rfl | simp [go_sem] | kernel_rfl) m1 (by simpa using h3) s t
  have hlk2 := fun n => lookE ((w.alloc (.cells #[.int .i64 s, .int .i64 t] 38)).drewN n) 65 124 (.pointer none) Tryz.underlying65 (fun w => by first | rfl | simp [go_sem] | kernel_rfl) m2 (by simpa using h4) s t
  clear h1 h2 h3 h4 h hb
  go_enter Tryz.func49, Tryz.ntmps49
  go_wp2_with fail
  go_quiet (fail)
  go_wp2_with fail
  go_quiet (fail)
  go_wp2_with fail
  go_ret
  exact ⟨rfl, below_drewN (below_drewN HB.out _) _⟩
set_option maxRecDepth 100000 in
theorem cCouStatus (h : CouAt w self chunk to re next c q m1 m2 m3 l) (hn : l.length < 1000000) (s t : Int) (hin : (s, t) ∈ l) : Calls Tryz.prog 14 #[.pointer (some ⟨c, 0, none⟩), .agg #[.int .i64 s, .int .i64 t]] w fun e w' => e = .returned (.int .i64 4) ∧ Below w.heap.size w w' := by
  have hb := (Below.refl w.heap.size w).alloc (Nat.le_refl _) (.cells #[.int .i64 s, .int .i64 t] 38)
  have HA := hid (h.below hb)
  have HB := hid hb
  have HIN := hid hin
  clear h hb hin
  go_enter Tryz.func14, Tryz.ntmps14
  go_wp2_with (first | (go_at_call 48; refine (cCouUsable HA.out).mono ?_; rintro e w2 ⟨rfl, rfl⟩) | (go_at_call 49; refine (cCouEnd HA.out s t).mono ?_; rintro e w3 ⟨rfl, hb3⟩; have HA3 := hid (HA.out.below hb3); have HB3 := hid (HB.out.trans (hb3.mono HB.out.size)); have HBX : Hid (w3.heap[w.heap.size]? = some (.cells #[.int .i64 s, .int .i64 t] 38 (0, 0))) := hid (by rw [hb3.block _ (by show _ < (w.heap.push _).size; simp)]; show (w.heap.push _)[w.heap.size]? = _; simp); clear hb3))
  obtain ⟨⟨va, vn, vc, h1, h2⟩, h3, h4⟩ := HA3.out
  have h5 : w3.heap[w.heap.size]? = some (.cells #[.int .i64 s, .int .i64 t] 38 (0, 0)) := HBX.out
  have HR := hid h2
  have k11 : w3.cell? ⟨c, 11, none⟩ = some (.slice va vn vc) := cell_blk (j := 11) h1 rfl
  have ks : w3.cell? ⟨w.heap.size, 0, none⟩ = some (.int .i64 s) := cell_blk (j := 0) h5 rfl
  have kt : w3.cell? ⟨w.heap.size, 1, none⟩ = some (.int .i64 t) := cell_blk (j := 1) h5 rfl
  have hcl : c < w3.heap.size := (Array.getElem?_eq_some_iff.1 h1).1
  have hwl : w.heap.size < w3.heap.size := (Array.getElem?_eq_some_iff.1 h5).1
  have HD : Hid (∀ y, Below w3.heap.size w3 y → y.cell? ⟨c, 11, none⟩ = some (.slice va vn vc) ∧ y.cell? ⟨w.heap.size, 0, none⟩ = some (.int .i64 s) ∧ y.cell? ⟨w.heap.size, 1, none⟩ = some (.int .i64 t)) := hid fun y hy => ⟨by rw [hy.cell hcl]; exact k11, by rw [hy.cell hwl]; exact ks, by rw [hy.cell hwl]; exact kt⟩
  clear h1 h2 h3 h4 h5 k11 ks kt hcl hwl
  refine wp_region_ord (.pure 0 (.pure 1 (.pure 2 (.pure 3 (.pure 4 (.eff 5 .nil)))))) (fun y => y.cell? ⟨c, 11, none⟩ = some (.slice va vn vc) ∧ y.cell? ⟨w.heap.size, 0, none⟩ = some (.int .i64 s) ∧ y.cell? ⟨w.heap.size, 1, none⟩ = some (.int .i64 t)) (fun y => Below w3.heap.size w3 y) (by kernel_rfl) (by kernel_rfl) (below_drewN (Below.refl _ _) 1) HD.out ?_
  iterate 5
    (apply ord_pure (ho := rfl)
     · go_simp
     · intro x hx; obtain ⟨k0, k1, k2⟩ := hx; go_simp; rfl
     apply ord_norm
     · go_simp; rfl)
  apply ord_eff (ho := rfl)
  · go_simp
  intro y hy
  refine eff_call (f := 45) (by go_simp) (cContF y _ l (HR.out.below hy) hn s t) ?_
  rintro e w6 ⟨hb6, bb, rfl, hiff⟩
  obtain rfl : bb = true := hiff.2 HIN.out
  refine ⟨_, rfl, (fun y => y.cell? ⟨c, 11, none⟩ = some (.slice va vn vc) ∧ y.cell? ⟨w.heap.size, 0, none⟩ = some (.int .i64 s) ∧ y.cell? ⟨w.heap.size, 1, none⟩ = some (.int .i64 t)), (fun y => Below w3.heap.size w3 y), hy.trans (hb6.mono hy.size), HD.out, (fun _ h => h), ?_⟩
  clear hb6 hy hiff y
  apply ord_norm
  · go_simp; rfl
  refine ord_nil fun z hz => ?_
  have HZ := hid hz
  clear hz
  go_wp2_with fail
  go_ret
  exact ⟨rfl, HB3.out.trans (HZ.out.mono HB3.out.size)⟩
set_option maxRecDepth 100000 in
theorem cCouDelivered (h : CouAt w self chunk to re next c q m1 m2 m3 l) (hn : l.length < 1000000) : Calls Tryz.prog 16 #[.pointer (some ⟨c, 0, none⟩)] w fun e w' => ∃ r, e = .returned r ∧ Below w.heap.size w w' ∧ RdR w' r l := by
  have HA := hid h
  obtain ⟨⟨va, vn, vc, h1, h2⟩, h3, h4⟩ := h
  have k11 : w.cell? ⟨c, 11, none⟩ = some (.slice va vn vc) := cell_blk (j := 11) h1 rfl
  have HR := hid h2
  clear h1 h2 h3 h4
  go_enter Tryz.func16, Tryz.ntmps16
  go_wp2_with (first | (go_at_call 48; refine (cCouUsable HA.out).mono ?_; rintro e w2 ⟨rfl, rfl⟩) | (go_at_call 46; refine (cCloneF w _ l HR.out hn).mono ?_; rintro e w6 ⟨r, rfl, hb6, hrd⟩; have HQ := hid hrd; have HB6 := hid hb6; clear hrd hb6))
  go_ret
  exact ⟨_, rfl, HB6.out, HQ.out⟩
set_option maxRecDepth 100000 in
theorem cCouNext (h : CouAt w self chunk to re next c q m1 m2 m3 l) : Calls Tryz.prog 17 #[.pointer (some ⟨c, 0, none⟩)] w fun e w' => e = .returned (.int .i64 next) ∧ w = w' := by
  have HA := hid h
  obtain ⟨⟨va, vn, vc, h1, h2⟩, h3, h4⟩ := h
  have k7 : w.cell? ⟨c, 7, none⟩ = some (.int .i64 next) := cell_blk (j := 7) h1 rfl
  clear h1 h2 h3 h4
  go_enter Tryz.func17, Tryz.ntmps17
  go_wp2_with (first | (go_at_call 48; refine (cCouUsable HA.out).mono ?_; rintro e w2 ⟨rfl, rfl⟩))
  go_ret
  exact ⟨rfl, rfl⟩
end
end Go.Proofs.YtgidckkcibplgaaGreat
