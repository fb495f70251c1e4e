/- An idle packet. The receiving end takes a telemetry packet. -/
import Derived.Test.YtnklmadmenkdoaaGreatQSdpJ
import Derived.Shelf.Strings.Search1
import Derived.Shelf.Bytes.SlIndexSmall
import Derived.Ground.SlbNamesProg
import Derived.Shelf.Bytes.SlCountOne
import Derived.Shelf.Bytes.SlIndexAt
import Derived.Shelf.Bytes.SlSearch0
import Derived.Shelf.Bytes.SlJoin
import Derived.Shelf.Bytes.Small
import Derived.Shelf.Bytes.IndexByte
import Derived.Test.YtnklmadmenkdoaaGreatQSdpH
import Derived.Test.YtnklmadmenkdoaaGreatProg
import Derived.Test.YtnklmadmenkdoaaGreatQLdE
set_option linter.unusedVariables false
set_option linter.unusedSimpArgs false
namespace Go.Proofs.YtnklmadmenkdoaaGreat
open Go.RowKit Go.Proofs.Num
theorem cnt_zero (m : Nat) : Lib.countByte (Lib.bytesOf (List.replicate m 0)) (0 : Int).toNat.toUInt8 = m := by
  simp [Lib.countByte, Lib.bytesOf]
theorem wpList_mk8 {ops : Array Oper} {rest : List Oper} {o : Oper} {a : Act} {Q : Exit → Act → World → Prop} {W w : World} {l : List HProp} (hgd : o.guard = none) (x y : Operand) (ho : o.op = .makeSlice 35 x y) (n : Nat) (hx : a.eval x = .int .i64 (n : Int)) (hy : a.eval y = .int .i64 (n : Int)) (hn : n ≤ 100000) (hS : Sts W l w) (hl : ∀ B ∈ l, Stable B)
    (h : ∀ g w', Sts W (rowP 5 1 (.slice (some ⟨g, 0, none⟩) n n) n (u8s (List.replicate n 0)) :: l) w' → wpList Tryz.prog ops Q rest (a.put o.dst (.slice (some ⟨g, 0, none⟩) n n)) w') : wpList Tryz.prog ops Q (o :: rest) a w := by
  refine wpList_plain hgd fun K hK => ?_
  obtain ⟨i0, hi, hz0, hz1, hz2⟩ := info_parts info8
  have hr := run_make (P := Tryz.prog) w 35 5 i0 (.int .u8 0) Tryz.underlying35 hi hz0 .i64 .i64 (n : Int) (n : Int) (by omega) (Int.le_refl _) (by rw [hz2]; omega) (by omega)
  rw [hz1, Nat.mul_one, Int.toNat_natCast] at hr
  have h2 := Sts.weaken (Sts.alloc hl hS (.cells (madeCells #[.int .u8 0] n) 5)) (fun F h => blkP.row h (by rw [size_madeCells]; omega))
  rw [size_madeCells, toList_madeCells_one] at h2
  have e : List.replicate n (Value.int .u8 0) = u8s (List.replicate n 0) := by unfold u8s; rw [List.map_replicate]; rfl
  rw [e] at h2
  have hr2 : (execOp a.eval o).run Tryz.prog w = .ok (.value (.slice (some ⟨w.heap.size, 0, none⟩) n n)) (w.alloc (.cells (madeCells #[.int .u8 0] n) 5)) := by
    unfold execOp
    simp only [ho, hx, hy]
    simp only [Sem.run_bind, hr, Result.andThen]
    rfl
  unfold Oper.wp
  rw [hr2]
  exact hK _ _ (h _ _ h2)
set_option maxRecDepth 100000 in
set_option maxHeartbeats 4000000 in
theorem cPkIdleP (w : World) (db m : Nat) (hR : Rd w (.slice (some ⟨db, 0, none⟩) m m) (u8s (List.replicate m 0))) :
    Calls Tryz.prog 254 #[.agg (pkV false false 2047 3 0 (.slice (some ⟨db, 0, none⟩) m m))] w fun e w' => e = .returned (.bool true) ∧ Below w.heap.size w w' := by
  have HS : Hid (Sts w (blkP w.heap.size (.cells (pkV false false 2047 3 0 (.slice (some ⟨db, 0, none⟩) m m)) 50 (0, 0)) :: []) (w.alloc (.cells (pkV false false 2047 3 0 (.slice (some ⟨db, 0, none⟩) m m)) 50))) := hid (Sts.alloc stab0 (Sts.nil w) _)
  have HLB : Hid (∀ B ∈ [blkP w.heap.size (.cells (pkV false false 2047 3 0 (.slice (some ⟨db, 0, none⟩) m m)) 50 (0, 0))], Stable B) := hid (stabC (blkP_stable _ _) stab0)
  have HCT := hid (cnt_zero m)
  have HCL := hid (show ∀ y : World, Below w.heap.size w y → ∀ i, i < m → y.cell? ⟨db, 0 + i, none⟩ = some (.int .u8 ((List.replicate m (0 : Int)).getD i 0)) from fun y hy i hi => by
    obtain ⟨a0, c0, e0, _, hc⟩ := hR
    obtain ⟨b, off, e1, hb, hcl⟩ := hc i (by rw [u8s_len, List.length_replicate]; exact hi)
    injection e0 with e2 e3 e4
    rw [← e2] at e1
    injection e1 with e1
    injection e1 with e5 e6
    subst e5; subst e6
    rw [hy.cell hb, hcl]
    simp [u8s, hi])
  have hu : @Go.yielded.match_1 (fun _ => Option Bool) (some undef) (fun b => some b) (fun _ => none) = none := rfl
  clear hR
  unfold pkV at *
  go_enter Tryz.func254, Tryz.ntmps254
  go_wp2_with fail
  refine wp_region_ordQ (.pure 0 (.pure 1 (.pure 2 (.pure 3 (.pure 4 (.pure 5 (.pure 6 (.pure 7 (.pure 8 (.pure 9 (.pure 10 (.pure 11 (.pure 12 (.pure 13 (.pure 14 (.pure 15 (.pure 16 (.pure 17 (.pure 18 (.pure 19 (.pure 20 (.pure 23 (.pure 24 (.pure 25 (.eff 21 (.eff 22 (.pure 26 (.pure 27 (.pure 28 .nil))))))))))))))))))))))))))))) (fun y => y.cell? ⟨w.heap.size, 0, none⟩ = some (.bool false) ∧ y.cell? ⟨w.heap.size, 1, none⟩ = some (.bool false) ∧ y.cell? ⟨w.heap.size, 3, none⟩ = some (.int .i64 3) ∧ y.cell? ⟨w.heap.size, 4, none⟩ = some (.int .i64 0) ∧ y.cell? ⟨w.heap.size, 5, none⟩ = some (.slice (some ⟨db, 0, none⟩) m m)) (fun y => Sts w (blkP w.heap.size (.cells (pkV false false 2047 3 0 (.slice (some ⟨db, 0, none⟩) m m)) 50 (0, 0)) :: []) y) (by kernel_rfl) (by kernel_rfl) (HS.out.drew (HLB.out)) (fun y hy => ⟨(Sts.boxCell hy 0 _ rfl).1, (Sts.boxCell hy 1 _ rfl).1, (Sts.boxCell hy 3 _ rfl).1, (Sts.boxCell hy 4 _ rfl).1, (Sts.boxCell hy 5 _ rfl).1⟩) ?_
  iterate 24
    (apply ordq_pure (ho := rfl)
     · go_simp
     · intro x hx; obtain ⟨x1, x2, x3, x4, x5⟩ := hx; go_simp; rfl
     apply ordq_norm
     · go_simp; rfl)
  apply ordq_eff (ho := rfl)
  · go_simp
  intro y hy
  have hy2 := Sts.alloc HLB.out hy (.cells #[.int .u8 0] 5)
  refine eff_value (fun y => y.cell? ⟨w.heap.size, 0, none⟩ = some (.bool false) ∧ y.cell? ⟨w.heap.size, 1, none⟩ = some (.bool false) ∧ y.cell? ⟨w.heap.size, 3, none⟩ = some (.int .i64 3) ∧ y.cell? ⟨w.heap.size, 4, none⟩ = some (.int .i64 0) ∧ y.cell? ⟨w.heap.size, 5, none⟩ = some (.slice (some ⟨db, 0, none⟩) m m)) (fun y' => Sts w (blkP y.heap.size (.cells #[.int .u8 0] 5 (0, 0)) :: blkP w.heap.size (.cells (pkV false false 2047 3 0 (.slice (some ⟨db, 0, none⟩) m m)) 50 (0, 0)) :: []) y') (v := .slice (some ⟨y.heap.size, 0, none⟩) 1 1) (w := y.alloc (.cells #[.int .u8 0] 5)) ?_ hy2 (fun y hy => ⟨(Sts.boxCell hy.tail 0 _ rfl).1, (Sts.boxCell hy.tail 1 _ rfl).1, (Sts.boxCell hy.tail 3 _ rfl).1, (Sts.boxCell hy.tail 4 _ rfl).1, (Sts.boxCell hy.tail 5 _ rfl).1⟩) (fun _ h => h) ?_
  · go_simp
  apply ordq_norm
  · go_simp; rfl
  clear hy hy2
  generalize y.heap.size = gz at *
  clear y
  apply ordq_eff (ho := rfl)
  · go_simp
  intro y hy
  refine eff_call (f := 284) (by go_simp) (Tryz.bytes_Count_one db 0 m m gz 0 1 (List.replicate m 0) 0 y List.length_replicate (HCL.out y hy.below) (Sts.boxCell hy 0 _ rfl).1) ?_
  rintro e w3 ⟨rfl, he⟩
  rw [he]
  clear he w3
  have h3 := hy
  rw [HCT.out]
  refine ⟨_, rfl, (fun y => y.cell? ⟨w.heap.size, 0, none⟩ = some (.bool false) ∧ y.cell? ⟨w.heap.size, 1, none⟩ = some (.bool false) ∧ y.cell? ⟨w.heap.size, 3, none⟩ = some (.int .i64 3) ∧ y.cell? ⟨w.heap.size, 4, none⟩ = some (.int .i64 0) ∧ y.cell? ⟨w.heap.size, 5, none⟩ = some (.slice (some ⟨db, 0, none⟩) m m)), (fun y => Sts w (blkP gz (.cells #[.int .u8 0] 5 (0, 0)) :: blkP w.heap.size (.cells (pkV false false 2047 3 0 (.slice (some ⟨db, 0, none⟩) m m)) 50 (0, 0)) :: []) y), h3, (fun y hy => ⟨(Sts.boxCell hy.tail 0 _ rfl).1, (Sts.boxCell hy.tail 1 _ rfl).1, (Sts.boxCell hy.tail 3 _ rfl).1, (Sts.boxCell hy.tail 4 _ rfl).1, (Sts.boxCell hy.tail 5 _ rfl).1⟩), (fun _ h => h), ?_⟩
  clear h3 hy y 
  apply ordq_norm
  · go_simp; rfl
  iterate 3
    (apply ordq_pure (ho := rfl)
     · go_simp
     · intro x hx; go_simp; rfl
     apply ordq_norm
     · go_simp; rfl)
  refine ordq_nil fun z hz => ?_
  have HZ := hid hz
  clear hz HS
  go_wp2_with fail
  go_ret
  exact ⟨rfl, HZ.out.below⟩
set_option maxRecDepth 100000 in
set_option maxHeartbeats 4000000 in
theorem cPkValidI (w : World) (db m : Nat) (h1 : 1 ≤ m) (h5 : m ≤ 4090) (hR : Rd w (.slice (some ⟨db, 0, none⟩) m m) (u8s (List.replicate m 0))) :
    Calls Tryz.prog 198 #[.agg (pkV false false 2047 3 0 (.slice (some ⟨db, 0, none⟩) m m))] w fun e w' => e = .returned (.bool true) ∧ Below w.heap.size w w' := by
  have HS : Hid (Sts w (blkP w.heap.size (.cells (pkV false false 2047 3 0 (.slice (some ⟨db, 0, none⟩) m m)) 50 (0, 0)) :: []) (w.alloc (.cells (pkV false false 2047 3 0 (.slice (some ⟨db, 0, none⟩) m m)) 50))) := hid (Sts.alloc stab0 (Sts.nil w) _)
  have HLB : Hid (∀ B ∈ [blkP w.heap.size (.cells (pkV false false 2047 3 0 (.slice (some ⟨db, 0, none⟩) m m)) 50 (0, 0))], Stable B) := hid (stabC (blkP_stable _ _) stab0)
  have d7 : decide ((m : Int) < 1) = false := decide_eq_false (by omega)
  have d8 : decide (4090 < (m : Int)) = false := decide_eq_false (by omega)
  have l1 := ldPk rfl HS.out
  have KI := hid (show ∀ y : World, Below w.heap.size w y → _ from fun y hy => cPkIdleP y db m (hR.below hy))
  have c0 : (w.alloc (.cells (pkV false false 2047 3 0 (.slice (some ⟨db, 0, none⟩) m m)) 50)).cell? ⟨w.heap.size, 0, none⟩ = some (.bool false) := (Sts.boxCell HS.out 0 _ rfl).1
  have c1 : (w.alloc (.cells (pkV false false 2047 3 0 (.slice (some ⟨db, 0, none⟩) m m)) 50)).cell? ⟨w.heap.size, 1, none⟩ = some (.bool false) := (Sts.boxCell HS.out 1 _ rfl).1
  have c2 : (w.alloc (.cells (pkV false false 2047 3 0 (.slice (some ⟨db, 0, none⟩) m m)) 50)).cell? ⟨w.heap.size, 2, none⟩ = some (.int .i64 2047) := (Sts.boxCell HS.out 2 _ rfl).1
  have c3 : (w.alloc (.cells (pkV false false 2047 3 0 (.slice (some ⟨db, 0, none⟩) m m)) 50)).cell? ⟨w.heap.size, 3, none⟩ = some (.int .i64 3) := (Sts.boxCell HS.out 3 _ rfl).1
  have c4 : (w.alloc (.cells (pkV false false 2047 3 0 (.slice (some ⟨db, 0, none⟩) m m)) 50)).cell? ⟨w.heap.size, 4, none⟩ = some (.int .i64 0) := (Sts.boxCell HS.out 4 _ rfl).1
  have c5 : (w.alloc (.cells (pkV false false 2047 3 0 (.slice (some ⟨db, 0, none⟩) m m)) 50)).cell? ⟨w.heap.size, 5, none⟩ = some (.slice (some ⟨db, 0, none⟩) m m) := (Sts.boxCell HS.out 5 _ rfl).1
  clear hR h1 h5
  go_enter Tryz.func198, Tryz.ntmps198
  go_wp2_with (first
    | (refine wpList_ldS rfl (.tmp 1) 50 rfl rfl (.agg (pkV false false 2047 3 0 (.slice (some ⟨db, 0, none⟩) m m))) l1 ?_)
    | (go_at_call 254; refine (KI.out _ HS.out.below).mono ?_; rintro e w2 ⟨rfl, h2⟩; have H2 := hid (HS.out.quiet HLB.out h2); clear h2))
  go_ret
  exact ⟨rfl, H2.out.below⟩
set_option maxRecDepth 100000 in
set_option maxHeartbeats 4000000 in
theorem cPkIdle (w : World) (n m : Nat) (h1 : 1 ≤ m) (hm : m ≤ 1000) (hn : n = m + 6) : Calls Tryz.prog 69 #[.int .i64 (n : Int)] w fun e w' => ∃ r, e = .returned (.tuple #[r, .int .i64 0]) ∧ New w w' 5 r (u8s (Pkt.idl m)) := by
  have d1 : decide ((n : Int) ≤ 6) = false := decide_eq_false (by omega)
  have d2 : decide (4096 < (n : Int)) = false := decide_eq_false (by omega)
  have e1 : wrap64 ((n : Int) - 6) = (m : Int) := by unfold wrap64; omega
  have HP := hid (show Cmd.pkB false false 2047 3 0 (List.replicate m 0) = Pkt.idl m from by
    unfold Cmd.pkB Pkt.idl
    rw [List.length_replicate, Pkt.pkH_I m])
  have HM := hid (And.intro h1 hm)
  clear h1 hm hn
  go_enter Tryz.func69, Tryz.ntmps69
  go_wp2_with (first
    | (refine wpList_mk8 rfl (.tmp 11) (.tmp 11) rfl m (congrArg (Value.int .i64) e1) (congrArg (Value.int .i64) e1) (by have := HM.out; omega) (Sts.nil w) stab0 ?_; intro gm w2 h2
       have hrd := Sts.rdRow h2 (by rw [u8s_len, List.length_replicate])
       have KE := hid (cPkEncodeG false false 2047 3 0 (some ⟨gm, 0, none⟩) m (List.replicate m 0) w2 (by decide) (by decide) (by decide) (by rw [List.length_replicate]; exact HM.out.1) (by rw [List.length_replicate]; have := HM.out.2; omega) (by rw [List.length_replicate]; exact hrd) (NilOk.some _ _ _) (fun y hy => by rw [List.length_replicate]; exact cPkValidI y gm m HM.out.1 (by have := HM.out.2; omega) (hrd.below hy)))
       rw [List.length_replicate, HP.out] at KE
       have H2 := hid h2
       clear h2 hrd)
    | (go_at_call 116; refine KE.out.mono ?_; rintro e w3 ⟨r, rfl, h3⟩; have H3 := hid (h3.of H2.out.below); clear h3))
  go_ret2
  exact ⟨_, rfl, H3.out⟩
end Go.Proofs.YtnklmadmenkdoaaGreat
namespace Go.Proofs.YtnklmadmenkdoaaGreat
open Go.RowKit Go.Proofs.Num
section
variable {W w : World} {l : List HProp}
set_option maxRecDepth 100000 in
set_option maxHeartbeats 8000000 in
theorem cRcvPacketK (hl : ∀ B ∈ l, Stable B) (g fi u0 u1 u2 ar tq cq fq mp now next : Nat) (A : Arc.Arch) (NA : Nat) (hA : Arc.ok NA A) (hNA : NA ≤ 900) (ts : List (Int × Int)) (hts : ts.length < 1000) (n0 : Nat) (hn0 : n0 ≤ now) (hnow : now ≤ 1000000)
    (s n st co c t : Nat) (hc : c ≤ 16383) (ht : t < 1099511627776) (hok : Ver.ok (s : Int) (n : Int) (st : Int) (co : Int) = true) (rb ro rc : Nat) (hR : RdsB W l (.slice (some ⟨rb, ro, none⟩) 11 rc) (tcC t ++ (ackB s n st co)))
    (hs : Sts W (blkP g (.cells (staC fi u0 u1 u2 ar tq cq fq mp now next) 119 (0, 0)) :: arcP ar A :: tkP tq n0 ts :: l) w) :
    Calls Tryz.prog 137 #[.pointer (some ⟨g, 0, none⟩), .agg (pkV false true 1 3 c (.slice (some ⟨rb, ro, none⟩) 11 rc)), .int .i64 (now : Int)] w fun e w' => e = .returned (.tuple #[]) ∧ Sts W (blkP g (.cells (staC fi u0 u1 u2 ar tq cq fq mp now next) 119 (0, 0)) :: arcP ar (Arc.add A 1 c t (ackB s n st co)) :: tkP tq now (Trk.take ts (s : Int) (n : Int) (st : Int) (co : Int)) :: l) w' := by
  have hcap := (Rd.cap (hR.1 emp w hs.tail.tail.tail.withEmp)).2
  have HS := hid (Sts.alloc (stabC (blkP_stable _ _) (stabC (arcP_stable _ _) (stabC (tkP_stable _ _ _) hl))) hs (.cells (pkV false true 1 3 c (.slice (some ⟨rb, ro, none⟩) 11 rc)) 50))
  have HL := hid hl
  have KC := hid (show ∀ y : World, RdB y (.slice (some ⟨rb, ro, none⟩) 11 rc) (tcC t ++ (ackB s n st co)) → _ from fun y hy => cCucDecode y t (ackB s n st co) rb ro rc 11 ht (by show 11 = 6 + 5; decide) (by show 5 ≤ 300; decide) hy)
  have HRB := hid (show ∀ (y : World) (L : List HProp), Sts W (L ++ l) y → RdB y (.slice (some ⟨rb, ro, none⟩) 11 rc) (tcC t ++ (ackB s n st co)) from fun y L hy => (RdsB.app (m := L) hR).at hy.withEmp)
  have HRR := hid (show RdsB W l (.slice (some ⟨rb, ro + 6, none⟩) 5 (rc - 6)) (ackB s n st co) from ⟨fun B y hy => by
      have h1 := hR.1 B y hy
      have h2 := Rd.drop h1 6 (by rw [u8s_len, List.length_append]; show 6 ≤ 6 + _; omega) (some ⟨rb, ro + 6, none⟩) (rc - 6) (by rw [u8s_len, List.length_append]; show 6 + _ - 6 ≤ _ ∧ _; have e0 : (ackB s n st co).length = 5 := rfl; rw [e0]; omega) (fun b off _ h => by cases h; rfl)
      have e1 : (u8s (tcC t ++ (ackB s n st co))).drop 6 = u8s (ackB s n st co) := by unfold u8s; rw [List.map_append]; exact List.drop_left (l₁ := (tcC t).map _)
      rw [e1] at h2
      have e0 : (u8s (tcC t ++ ackB s n st co)).length - 6 = 5 := rfl; exact h2, fun x hx => hR.2 x (List.mem_append_right _ hx)⟩)
  have KADD := hid (show ∀ y : World, Sts W (arcP ar A :: blkP w.heap.size (.cells (pkV false true 1 3 c (.slice (some ⟨rb, ro, none⟩) 11 rc)) 50 (0, 0)) :: blkP g (.cells (staC fi u0 u1 u2 ar tq cq fq mp now next) 119 (0, 0)) :: tkP tq n0 ts :: l) y → Calls Tryz.prog 36 #[.pointer (some ⟨ar, 0, none⟩), .agg (itmV 1 c t (.slice (some ⟨rb, ro + 6, none⟩) 5 (rc - 6)))] y fun e w' => (∃ er, e = .returned (.int .i64 er)) ∧ Sts W (arcP ar (Arc.add A 1 c t (ackB s n st co)) :: blkP w.heap.size (.cells (pkV false true 1 3 c (.slice (some ⟨rb, ro, none⟩) 11 rc)) 50 (0, 0)) :: blkP g (.cells (staC fi u0 u1 u2 ar tq cq fq mp now next) 119 (0, 0)) :: tkP tq n0 ts :: l) w' from fun y hy => by
    have h := cAddP (stabC (blkP_stable _ _) (stabC (blkP_stable _ _) (stabC (tkP_stable _ _ _) (hl)))) ar NA A hA hNA 1 c t (some ⟨rb, ro + 6, none⟩) (rc - 6) (ackB s n st co) (by decide) (by omega) (by omega) (by show 5 ≤ 4096; decide) (RdsB.app (m := [blkP w.heap.size (.cells (pkV false true 1 3 c (.slice (some ⟨rb, ro, none⟩) 11 rc)) 50 (0, 0)), blkP g (.cells (staC fi u0 u1 u2 ar tq cq fq mp now next) 119 (0, 0)), tkP tq n0 ts]) (by exact HRR.out)) (NilOk.some _ _ _) hy
    exact h)
  have KVD := hid (show ∀ y : World, RdB y (.slice (some ⟨rb, ro + 6, none⟩) 5 (rc - 6)) (ackB s n st co) → Calls Tryz.prog 215 #[(.slice (some ⟨rb, ro + 6, none⟩) 5 (rc - 6))] y fun e w' => e = .returned (.tuple #[.agg #[.int .i64 (s : Int), .int .i64 (n : Int), .int .i64 (st : Int), .int .i64 (co : Int)], .int .i64 0]) ∧ Below y.heap.size y w' from fun y hy => cVerDecode y s n st co ⟨rb, ro + 6, none⟩ (rc - 6) hok hy)
  have KTK := hid (show ∀ (y : World) (L : List HProp), (∀ B ∈ L, Stable B) → Sts W (tkP tq n0 ts :: L) y → _ from fun y L hL hy => cTkTakeP hL hy (s : Int) (n : Int) (st : Int) (co : Int) hok now hn0 hnow hts)
  have s2 : ¬ rc = 6 := by omega
  have s3 : (11 : Int) ≤ (rc : Int) := by omega
  have c1 : (w.alloc (.cells (pkV false true 1 3 c (.slice (some ⟨rb, ro, none⟩) 11 rc)) 50)).cell? ⟨w.heap.size, 1, none⟩ = some (.bool true) := (Sts.boxCell HS.out 1 _ rfl).1
  have c2 : (w.alloc (.cells (pkV false true 1 3 c (.slice (some ⟨rb, ro, none⟩) 11 rc)) 50)).cell? ⟨w.heap.size, 2, none⟩ = some (.int .i64 (1 : Int)) := (Sts.boxCell HS.out 2 _ rfl).1
  have c5 : (w.alloc (.cells (pkV false true 1 3 c (.slice (some ⟨rb, ro, none⟩) 11 rc)) 50)).cell? ⟨w.heap.size, 5, none⟩ = some (.slice (some ⟨rb, ro, none⟩) 11 rc) := (Sts.boxCell HS.out 5 _ rfl).1
  clear hR hA hNA hts hn0 hnow hc ht hs hl hcap hok
  go_enter Tryz.func137, Tryz.ntmps137
  go_wp2_with fail
  refine (KC.out _ (HRB.out _ [_, _, _, _] HS.out)).mono ?_
  rintro e w1 ⟨rfl, h1⟩
  have h2 := Sts.alloc (stabC (blkP_stable _ _) (stabC (blkP_stable _ _) (stabC (arcP_stable _ _) (stabC (tkP_stable _ _ _) (HL.out))))) (HS.out.quiet (stabC (blkP_stable _ _) (stabC (blkP_stable _ _) (stabC (arcP_stable _ _) (stabC (tkP_stable _ _ _) (HL.out))))) h1) (.cells #[.int .i64 4, .int .i64 1] 316)
  have q5 : (w1.alloc (.cells #[.int .i64 4, .int .i64 1] 316)).cell? ⟨w.heap.size, 5, none⟩ = some (.slice (some ⟨rb, ro, none⟩) 11 rc) := (Sts.boxCell h2.tail 5 _ rfl).1
  have HS := hid h2.tail
  clear h1 h2 KC c1 c2 c5
  go_wp2_with fail
  refine wp_region_ordQ (.pure 0 (.pure 1 (.pure 2 (.pure 3 (.pure 4 (.pure 5 (.pure 6 (.pure 7 (.pure 8 (.pure 9 (.pure 10 (.eff 11 .nil)))))))))))) (fun y => y.cell? ⟨g, 4, none⟩ = some (.pointer (some ⟨ar, 0, none⟩)) ∧ y.cell? ⟨w.heap.size, 2, none⟩ = some (.int .i64 (1 : Int)) ∧ y.cell? ⟨w.heap.size, 4, none⟩ = some (.int .i64 (c : Int))) (fun y => Sts W (arcP ar A :: blkP w.heap.size (.cells (pkV false true 1 3 c (.slice (some ⟨rb, ro, none⟩) 11 rc)) 50 (0, 0)) :: blkP g (.cells (staC fi u0 u1 u2 ar tq cq fq mp now next) 119 (0, 0)) :: tkP tq n0 ts :: l) y) (by kernel_rfl) (by kernel_rfl) ((HS.out.perm (List.perm_middle (l₁ := [_, _]))).drew (stabC (arcP_stable _ _) (stabC (blkP_stable _ _) (stabC (blkP_stable _ _) (stabC (tkP_stable _ _ _) (HL.out)))))) (fun y hy => ⟨(Sts.boxCell hy.tail.tail 4 _ rfl).1, (Sts.boxCell hy.tail 2 _ rfl).1, (Sts.boxCell hy.tail 4 _ rfl).1⟩) ?_
  iterate 11
    (apply ordq_pure (ho := rfl)
     · go_simp
     · intro x hx; obtain ⟨x1, x2, x3⟩ := hx; go_simp; rfl
     apply ordq_norm
     · go_simp; rfl)
  apply ordq_eff (ho := rfl)
  · go_simp
  intro y hy
  refine eff_call (f := 36) (by go_simp) (KADD.out y hy) ?_
  rintro e w3 ⟨⟨er, rfl⟩, h3⟩
  refine ⟨_, rfl, (fun y => y.cell? ⟨g, 4, none⟩ = some (.pointer (some ⟨ar, 0, none⟩)) ∧ y.cell? ⟨w.heap.size, 2, none⟩ = some (.int .i64 (1 : Int)) ∧ y.cell? ⟨w.heap.size, 4, none⟩ = some (.int .i64 (c : Int))), (fun y => Sts W (arcP ar (Arc.add A 1 c t (ackB s n st co)) :: blkP w.heap.size (.cells (pkV false true 1 3 c (.slice (some ⟨rb, ro, none⟩) 11 rc)) 50 (0, 0)) :: blkP g (.cells (staC fi u0 u1 u2 ar tq cq fq mp now next) 119 (0, 0)) :: tkP tq n0 ts :: l) y), h3, (fun y hy => ⟨(Sts.boxCell hy.tail.tail 4 _ rfl).1, (Sts.boxCell hy.tail 2 _ rfl).1, (Sts.boxCell hy.tail 4 _ rfl).1⟩), (fun _ h => h), ?_⟩
  clear h3 hy y 
  apply ordq_norm
  · go_simp; rfl
  refine ordq_nil fun z hz => ?_
  have HQ := hid hz
  clear hz 
  have q2 : z.cell? ⟨w.heap.size, 2, none⟩ = some (.int .i64 (1 : Int)) := (Sts.boxCell HQ.out.tail 2 _ rfl).1
  go_wp2_with fail
  refine (KVD.out _ (HRR.out.at (HQ.out.tail.tail.tail))).mono ?_
  rintro e w5 ⟨rfl, h5⟩
  have h6 := Sts.alloc (stabC (arcP_stable _ _) (stabC (blkP_stable _ _) (stabC (blkP_stable _ _) (stabC (tkP_stable _ _ _) (HL.out))))) (HQ.out.quiet (stabC (arcP_stable _ _) (stabC (blkP_stable _ _) (stabC (blkP_stable _ _) (stabC (tkP_stable _ _ _) (HL.out))))) h5) (.cells (ackV (s : Int) (n : Int) (st : Int) (co : Int)) 61)
  have H6 := hid (h6.perm (List.perm_middle (l₁ := [_, _, _, _])))
  clear h5 h6 HQ KVD q2
  go_wp2_with fail
  refine wp_region_ordQ (.pure 0 (.pure 1 (.pure 2 (.pure 3 (.pure 4 (.pure 5 (.eff 6 .nil))))))) (fun y => y.cell? ⟨g, 5, none⟩ = some (.pointer (some ⟨tq, 0, none⟩)) ∧ (loadVar 61 ⟨w5.heap.size, 0, none⟩).run Tryz.prog y = .ok (.agg (ackV (s : Int) (n : Int) (st : Int) (co : Int))) y) (fun y => Sts W (tkP tq n0 ts :: blkP w5.heap.size (.cells (ackV (s : Int) (n : Int) (st : Int) (co : Int)) 61 (0, 0)) :: arcP ar (Arc.add A 1 c t (ackB s n st co)) :: blkP w.heap.size (.cells (pkV false true 1 3 c (.slice (some ⟨rb, ro, none⟩) 11 rc)) 50 (0, 0)) :: blkP g (.cells (staC fi u0 u1 u2 ar tq cq fq mp now next) 119 (0, 0)) :: l) y) (by kernel_rfl) (by kernel_rfl) (H6.out.drew (stabC (tkP_stable _ _ _) (stabC (blkP_stable _ _) (stabC (arcP_stable _ _) (stabC (blkP_stable _ _) (stabC (blkP_stable _ _) (HL.out))))))) (fun y hy => ⟨(Sts.boxCell hy.tail.tail.tail.tail 5 _ rfl).1, ldAck rfl hy.tail⟩) ?_
  iterate 4
    (apply ordq_pure (ho := rfl)
     · go_simp
     · intro x hx; obtain ⟨x1, x2⟩ := hx; go_simp; rfl
     apply ordq_norm
     · go_simp; rfl)
  apply ordq_pure (ho := rfl)
  · go_simp
  · exact fun x hx => exec_ldS (.tmp 13) 61 rfl rfl hx.2
  apply ordq_norm
  · go_simp; rfl
  iterate 1
    (apply ordq_pure (ho := rfl)
     · go_simp
     · intro x hx; go_simp; rfl
     apply ordq_norm
     · go_simp; rfl)
  apply ordq_eff (ho := rfl)
  · go_simp
  intro y hy
  refine eff_call (f := 216) (by go_simp) (KTK.out y _ (stabC (blkP_stable _ _) (stabC (arcP_stable _ _) (stabC (blkP_stable _ _) (stabC (blkP_stable _ _) (HL.out))))) hy) ?_
  rintro e w3 ⟨er, rfl, h3⟩
  refine ⟨_, rfl, (fun y => y.cell? ⟨g, 5, none⟩ = some (.pointer (some ⟨tq, 0, none⟩)) ∧ (loadVar 61 ⟨w5.heap.size, 0, none⟩).run Tryz.prog y = .ok (.agg (ackV (s : Int) (n : Int) (st : Int) (co : Int))) y), (fun y => Sts W (tkP tq now (Trk.take ts (s : Int) (n : Int) (st : Int) (co : Int)) :: blkP w5.heap.size (.cells (ackV (s : Int) (n : Int) (st : Int) (co : Int)) 61 (0, 0)) :: arcP ar (Arc.add A 1 c t (ackB s n st co)) :: blkP w.heap.size (.cells (pkV false true 1 3 c (.slice (some ⟨rb, ro, none⟩) 11 rc)) 50 (0, 0)) :: blkP g (.cells (staC fi u0 u1 u2 ar tq cq fq mp now next) 119 (0, 0)) :: l) y), h3, (fun y hy => ⟨(Sts.boxCell hy.tail.tail.tail.tail 5 _ rfl).1, ldAck rfl hy.tail⟩), (fun _ h => h), ?_⟩
  clear h3 hy y 
  apply ordq_norm
  · go_simp; rfl
  refine ordq_nil fun z hz => ?_
  have HZ := hid hz
  clear hz H6
  go_wp2_with fail
  go_end0
  refine ⟨rfl, ?_⟩
  have h9 := Sts.sub HZ.out (.cons_cons _ (.cons _ (.cons_cons _ (.cons _ (.cons_cons _ (List.Sublist.refl _))))))
  exact h9.perm ((List.perm_append_comm (l₁ := [_, _]) (l₂ := [_]) |>.append_right l).trans (.cons _ (.swap _ _ _)))
set_option maxRecDepth 100000 in
set_option maxHeartbeats 8000000 in
theorem cRcvPacketO (hl : ∀ B ∈ l, Stable B) (g fi u0 u1 u2 ar tq cq fq mp now next : Nat) (A : Arc.Arch) (NA : Nat) (hA : Arc.ok NA A) (hNA : NA ≤ 900) (ts : List (Int × Int)) (hts : ts.length < 1000) (n0 : Nat) (hn0 : n0 ≤ now) (hnow : now ≤ 1000000)
    (a c t m : Nat) (d : List Nat) (ha : a = 2 ∨ a = 3 ∨ a = 5) (hc : c ≤ 16383) (ht : t < 1099511627776) (hd0 : 1 ≤ d.length) (hd : d.length ≤ 100) (rb ro rc : Nat) (N : Nat) (hm : d.length = m) (hN : N = 6 + m) (hR : RdsB W l (.slice (some ⟨rb, ro, none⟩) N rc) (tcC t ++ d))
    (hs : Sts W (blkP g (.cells (staC fi u0 u1 u2 ar tq cq fq mp now next) 119 (0, 0)) :: arcP ar A :: tkP tq n0 ts :: l) w) :
    Calls Tryz.prog 137 #[.pointer (some ⟨g, 0, none⟩), .agg (pkV false true a 3 c (.slice (some ⟨rb, ro, none⟩) N rc)), .int .i64 (now : Int)] w fun e w' => e = .returned (.tuple #[]) ∧ Sts W (blkP g (.cells (staC fi u0 u1 u2 ar tq cq fq mp now next) 119 (0, 0)) :: arcP ar (Arc.add A a c t d) :: tkP tq now ts :: l) w' := by
  have hcap := (Rd.cap (hR.1 emp w hs.tail.tail.tail.withEmp)).2
  have HS := hid (Sts.alloc (stabC (blkP_stable _ _) (stabC (arcP_stable _ _) (stabC (tkP_stable _ _ _) hl))) hs (.cells (pkV false true a 3 c (.slice (some ⟨rb, ro, none⟩) N rc)) 50))
  have HL := hid hl
  have KC := hid (show ∀ y : World, RdB y (.slice (some ⟨rb, ro, none⟩) N rc) (tcC t ++ d) → _ from fun y hy => cCucDecode y t d rb ro rc N ht (by omega) (by omega) hy)
  have HRB := hid (show ∀ (y : World) (L : List HProp), Sts W (L ++ l) y → RdB y (.slice (some ⟨rb, ro, none⟩) N rc) (tcC t ++ d) from fun y L hy => (RdsB.app (m := L) hR).at hy.withEmp)
  have HRR := hid (show RdsB W l (.slice (some ⟨rb, ro + 6, none⟩) m (rc - 6)) d from ⟨fun B y hy => by
      have h1 := hR.1 B y hy
      have h2 := Rd.drop h1 6 (by rw [u8s_len, List.length_append]; show 6 ≤ 6 + _; omega) (some ⟨rb, ro + 6, none⟩) (rc - 6) (by rw [u8s_len, List.length_append]; show 6 + _ - 6 ≤ _ ∧ _; omega) (fun b off _ h => by cases h; rfl)
      have e1 : (u8s (tcC t ++ d)).drop 6 = u8s d := by unfold u8s; rw [List.map_append]; exact List.drop_left (l₁ := (tcC t).map _)
      rw [e1] at h2
      rw [u8s_len, List.length_append, show (tcC t).length = 6 from rfl, show 6 + d.length - 6 = m by omega] at h2; exact h2, fun x hx => hR.2 x (List.mem_append_right _ hx)⟩)
  have KADD := hid (show ∀ y : World, Sts W (arcP ar A :: blkP w.heap.size (.cells (pkV false true a 3 c (.slice (some ⟨rb, ro, none⟩) N rc)) 50 (0, 0)) :: blkP g (.cells (staC fi u0 u1 u2 ar tq cq fq mp now next) 119 (0, 0)) :: tkP tq n0 ts :: l) y → Calls Tryz.prog 36 #[.pointer (some ⟨ar, 0, none⟩), .agg (itmV a c t (.slice (some ⟨rb, ro + 6, none⟩) m (rc - 6)))] y fun e w' => (∃ er, e = .returned (.int .i64 er)) ∧ Sts W (arcP ar (Arc.add A a c t d) :: blkP w.heap.size (.cells (pkV false true a 3 c (.slice (some ⟨rb, ro, none⟩) N rc)) 50 (0, 0)) :: blkP g (.cells (staC fi u0 u1 u2 ar tq cq fq mp now next) 119 (0, 0)) :: tkP tq n0 ts :: l) w' from fun y hy => by
    have h := cAddP (stabC (blkP_stable _ _) (stabC (blkP_stable _ _) (stabC (tkP_stable _ _ _) (hl)))) ar NA A hA hNA a c t (some ⟨rb, ro + 6, none⟩) (rc - 6) d (by omega) (by omega) (by omega) (by omega) (RdsB.app (m := [blkP w.heap.size (.cells (pkV false true a 3 c (.slice (some ⟨rb, ro, none⟩) N rc)) 50 (0, 0)), blkP g (.cells (staC fi u0 u1 u2 ar tq cq fq mp now next) 119 (0, 0)), tkP tq n0 ts]) (by rw [hm]; exact HRR.out)) (NilOk.some _ _ _) hy
    rw [hm] at h; exact h)
  have d4 : ((a : Int) == 4) = false := beq_eq_false_iff_ne.2 (by omega)
  have d1 : ((a : Int) == 1) = false := beq_eq_false_iff_ne.2 (by omega)
  have s1 : (6 : Int) ≤ (N : Int) := by omega
  have s2 : ¬ rc = 6 := by omega
  have s6 : N - 6 = m := by omega
  have HN0 := hid hn0
  have c1 : (w.alloc (.cells (pkV false true a 3 c (.slice (some ⟨rb, ro, none⟩) N rc)) 50)).cell? ⟨w.heap.size, 1, none⟩ = some (.bool true) := (Sts.boxCell HS.out 1 _ rfl).1
  have c2 : (w.alloc (.cells (pkV false true a 3 c (.slice (some ⟨rb, ro, none⟩) N rc)) 50)).cell? ⟨w.heap.size, 2, none⟩ = some (.int .i64 (a : Int)) := (Sts.boxCell HS.out 2 _ rfl).1
  have c5 : (w.alloc (.cells (pkV false true a 3 c (.slice (some ⟨rb, ro, none⟩) N rc)) 50)).cell? ⟨w.heap.size, 5, none⟩ = some (.slice (some ⟨rb, ro, none⟩) N rc) := (Sts.boxCell HS.out 5 _ rfl).1
  clear hR hA hNA hts hn0 hnow hc ht hs hl hcap ha hd0 hd hm hN
  go_enter Tryz.func137, Tryz.ntmps137
  go_wp2_with fail
  refine (KC.out _ (HRB.out _ [_, _, _, _] HS.out)).mono ?_
  rintro e w1 ⟨rfl, h1⟩
  have h2 := Sts.alloc (stabC (blkP_stable _ _) (stabC (blkP_stable _ _) (stabC (arcP_stable _ _) (stabC (tkP_stable _ _ _) (HL.out))))) (HS.out.quiet (stabC (blkP_stable _ _) (stabC (blkP_stable _ _) (stabC (arcP_stable _ _) (stabC (tkP_stable _ _ _) (HL.out))))) h1) (.cells #[.int .i64 4, .int .i64 1] 316)
  have q5 : (w1.alloc (.cells #[.int .i64 4, .int .i64 1] 316)).cell? ⟨w.heap.size, 5, none⟩ = some (.slice (some ⟨rb, ro, none⟩) N rc) := (Sts.boxCell h2.tail 5 _ rfl).1
  have HS := hid h2.tail
  clear h1 h2 KC c1 c2 c5
  go_wp2_with fail
  refine wp_region_ordQ (.pure 0 (.pure 1 (.pure 2 (.pure 3 (.pure 4 (.pure 5 (.pure 6 (.pure 7 (.pure 8 (.pure 9 (.pure 10 (.eff 11 .nil)))))))))))) (fun y => y.cell? ⟨g, 4, none⟩ = some (.pointer (some ⟨ar, 0, none⟩)) ∧ y.cell? ⟨w.heap.size, 2, none⟩ = some (.int .i64 (a : Int)) ∧ y.cell? ⟨w.heap.size, 4, none⟩ = some (.int .i64 (c : Int))) (fun y => Sts W (arcP ar A :: blkP w.heap.size (.cells (pkV false true a 3 c (.slice (some ⟨rb, ro, none⟩) N rc)) 50 (0, 0)) :: blkP g (.cells (staC fi u0 u1 u2 ar tq cq fq mp now next) 119 (0, 0)) :: tkP tq n0 ts :: l) y) (by kernel_rfl) (by kernel_rfl) ((HS.out.perm (List.perm_middle (l₁ := [_, _]))).drew (stabC (arcP_stable _ _) (stabC (blkP_stable _ _) (stabC (blkP_stable _ _) (stabC (tkP_stable _ _ _) (HL.out)))))) (fun y hy => ⟨(Sts.boxCell hy.tail.tail 4 _ rfl).1, (Sts.boxCell hy.tail 2 _ rfl).1, (Sts.boxCell hy.tail 4 _ rfl).1⟩) ?_
  iterate 11
    (apply ordq_pure (ho := rfl)
     · go_simp
     · intro x hx; obtain ⟨x1, x2, x3⟩ := hx; go_simp; rfl
     apply ordq_norm
     · go_simp; rfl)
  apply ordq_eff (ho := rfl)
  · go_simp
  intro y hy
  refine eff_call (f := 36) (by go_simp) (KADD.out y hy) ?_
  rintro e w3 ⟨⟨er, rfl⟩, h3⟩
  refine ⟨_, rfl, (fun y => y.cell? ⟨g, 4, none⟩ = some (.pointer (some ⟨ar, 0, none⟩)) ∧ y.cell? ⟨w.heap.size, 2, none⟩ = some (.int .i64 (a : Int)) ∧ y.cell? ⟨w.heap.size, 4, none⟩ = some (.int .i64 (c : Int))), (fun y => Sts W (arcP ar (Arc.add A a c t d) :: blkP w.heap.size (.cells (pkV false true a 3 c (.slice (some ⟨rb, ro, none⟩) N rc)) 50 (0, 0)) :: blkP g (.cells (staC fi u0 u1 u2 ar tq cq fq mp now next) 119 (0, 0)) :: tkP tq n0 ts :: l) y), h3, (fun y hy => ⟨(Sts.boxCell hy.tail.tail 4 _ rfl).1, (Sts.boxCell hy.tail 2 _ rfl).1, (Sts.boxCell hy.tail 4 _ rfl).1⟩), (fun _ h => h), ?_⟩
  clear h3 hy y 
  apply ordq_norm
  · go_simp; rfl
  refine ordq_nil fun z hz => ?_
  have HQ := hid hz
  clear hz 
  have q2 : z.cell? ⟨w.heap.size, 2, none⟩ = some (.int .i64 (a : Int)) := (Sts.boxCell HQ.out.tail 2 _ rfl).1
  go_wp2_with fail
  go_end0
  refine ⟨rfl, ?_⟩
  have h9 := Sts.sub HQ.out (.cons_cons _ (.cons _ (.cons_cons _ (.cons_cons _ (List.Sublist.refl _)))))
  exact ((Sts.moreT HN0.out (h9.third))).perm (List.perm_middle (l₁ := [_, _])).symm |>.perm (.swap _ _ _)
end
end Go.Proofs.YtnklmadmenkdoaaGreat
