/- The finder of frames takes a frame. The specification's numbers of one and two bytes, and its encoding of a command. -/
import Derived.Test.YtnklmadmenkdoaaGreatQSdpJ
import Derived.WalkMore
import Derived.Test.YtnklmadmenkdoaaGreatQSnrC
import Derived.Lib.SlBytesRow
import Derived.Test.YtnklmadmenkdoaaGreatQSndL
import Derived.Test.YtnklmadmenkdoaaGreatProg
import Derived.Test.YtnklmadmenkdoaaGreatQSepc
import Derived.Calls
import Derived.Laws.Rows
import Derived.Laws.Tables
import Derived.Laws.Cells
import Derived.Laws.IdiomCopy
import Derived.Laws.Append
import Derived.RangeFuncLeaves
import Derived.Laws.BytesString
import Derived.Laws.StructEq
import Derived.Laws.MakeOwn
import Derived.MapKept
import Derived.CallsIn
import Derived.RangeFuncIn
import Derived.RangeFuncCalls
import Derived.TacticsIn
import Derived.Orders
import Derived.Below
import Derived.LoopN
import Derived.Test.YtnklmadmenkdoaaGreatQFndA
import Derived.WalkKit
import Derived.BigQuiet
set_option linter.unusedVariables false
set_option linter.unusedSimpArgs false
namespace Go.Proofs.YtnklmadmenkdoaaGreat
open Go.RowKit Go.Shelf Go.Proofs.Num
set_option maxRecDepth 100000 in
theorem exec_bldS {o : Oper} {a : Act} {w : World} (x : Operand) (ho : o.op = .buildSlice 43 1 #[(0, x)]) (a1 : Option Addr) (n1 c1 : Nat) (hx : a.eval x = .slice a1 n1 c1) :
    (execOp a.eval o).run Tryz.prog w = .ok (.value (.slice (some ⟨w.heap.size, 0, none⟩) 1 1)) (w.alloc (.cells #[.slice a1 n1 c1] 35)) := by
  have key : ∀ u, u = Value.slice a1 n1 c1 → (Instr.buildSlice 43 1 #[(0, u)]).run Tryz.prog w = .ok (.slice (some ⟨w.heap.size, 0, none⟩) 1 1) (w.alloc (.cells #[.slice a1 n1 c1] 35)) := by
    rintro u rfl
    kernel_rfl
  unfold execOp
  simp only [ho]
  rw [show Array.map (fun x => (x.fst, a.eval x.snd)) #[((0 : Nat), x)] = #[(0, a.eval x)] by simp]
  simp only [Sem.run_bind, key _ hx, Result.andThen]
  rfl
theorem eff_bldS {L : Prop} {o : Oper} {a : Act} {D : WP} {K : Act → WP → WP → Prop} {W y : World} {l : List HProp} (hl : ∀ B ∈ l, Stable B) (hS : Sts W l y) (x : Operand) (ho : o.op = .buildSlice 43 1 #[(0, x)]) (a1 : Option Addr) (n1 c1 : Nat) (hx : a.eval x = .slice a1 n1 c1) (hD : ∀ z g, Sts W (blkP g (.cells #[.slice a1 n1 c1] 35 (0, 0)) :: l) z → D z)
    (hk : ∀ g, K (a.put o.dst (.slice (some ⟨g, 0, none⟩) 1 1)) D (fun z => Sts W (blkP g (.cells #[.slice a1 n1 c1] 35 (0, 0)) :: l) z)) : effUpon Tryz.prog L o.dst a D K ((execOp a.eval o).run Tryz.prog y) := by
  have h := hS.alloc hl (.cells #[.slice a1 n1 c1] 35)
  rw [exec_bldS x ho a1 n1 c1 hx]
  exact eff_value D _ rfl h (fun z hz => hD z _ hz) (fun _ h => h) (hk _)
/-- A finder of frames of 256 bytes. -/
def finO (v : Value) : Obj := .cells #[.int .i64 256, .int .i64 0, v] 234 (0, 0)
def lenV : Value → Nat
  | .slice _ n _ => n
  | _ => 0
section
variable {W w : World} {l : List HProp}
set_option maxRecDepth 100000 in
set_option maxHeartbeats 4000000 in
theorem cFeed (hl : ∀ B ∈ l, Stable B) (q : Nat) (v bv : Value) (xs : List Nat) (hs : Sts W (blkP q (finO v) :: rowP 5 1 v 0 [] :: l) w) (hb : RdB w bv (Scr.mark ++ Scr.mix xs xs.length)) (hx : xs.length = 256) (hx8 : ∀ x ∈ xs, x < 256) :
    Calls Tryz.prog 47 #[.pointer (some ⟨q, 0, none⟩), bv] w fun e w' => ∃ oa oc xa xc v', e = .returned (.slice oa 1 oc) ∧ Sts W (blkP q (finO v') :: rowP 5 1 v' 0 [] :: rowP 35 1 (.slice oa 1 oc) 1 [.slice xa 256 xc] :: rowP 5 1 (.slice xa 256 xc) 256 (u8s xs) :: l) w' := by
  obtain ⟨ys, hys⟩ : ∃ ys, ys = Scr.mix xs xs.length := ⟨_, rfl⟩
  have hyl : ys.length = 256 := by rw [hys, Scr.mix_len, hx]
  have hy8 : ∀ x ∈ ys, x < 256 := by rw [hys]; exact Scr.mix_lt _ _ hx8
  have hback : Scr.mix ys ys.length = xs := by rw [hyl, ← hx, hys, Scr.mix_mix]
  have KA := hid (show ∀ (y : World) (v : Value), RdB y v ys → Calls Tryz.prog 123 #[v] y (fun e w' => ∃ r, e = .returned r ∧ New y w' 5 r (u8s xs)) from fun y v h => by have k := cScrApply y v ys h (by omega); rw [hback] at k; exact k)
  rw [← hys] at hb
  obtain ⟨M, hM⟩ : ∃ M, M = Scr.mark ++ ys := ⟨_, rfl⟩
  have hMl : M.length = 260 := by rw [hM, List.length_append, hyl]; rfl
  have hM8 : ∀ x ∈ M, x < 256 := by
    rw [hM]; intro x hx
    rcases List.mem_append.1 hx with h | h
    · simp only [Scr.mark, List.mem_cons, List.not_mem_nil, or_false] at h; omega
    · exact hy8 x h
  rw [← hM] at hb
  obtain ⟨va, vc, rfl⟩ := own_slice hs.tail.rowOwn
  have c0 : w.cell? ⟨q, 0, none⟩ = some (.int .i64 256) := (Sts.boxCell hs 0 _ rfl).1
  have c2 : w.cell? ⟨q, 2, none⟩ = some (.slice va 0 vc) := (Sts.boxCell hs 2 _ rfl).1
  have HB := hid hb
  have HNK : Hid (∀ c, bv = .slice none 0 c → c = 0) := hid (by
    obtain ⟨a, c, hv⟩ := hb.1.eq
    intro c' h
    rw [hv] at h
    injection h with _ h2
    rw [u8s_len] at h2
    omega)
  have H0 : Hid (Sts W (rowP 5 1 (.slice va 0 vc) ([] : List Nat).length (u8s []) :: blkP q (finO (.slice va 0 vc)) :: l) w) := hid hs.swap
  have HL := hid hl
  have HL1 := hid (show ∀ B ∈ blkP q (finO (.slice va 0 vc)) :: l, Stable B from stabC (blkP_stable _ _) hl)
  have HLN : Hid (([] : List Nat).length + M.length < 1000000000) := hid (by rw [hMl]; decide)
  have HX := hid hx
  have HML := hid hMl
  have HM8 := hid hM8
  have HM := hid hM
  have HYL := hid hyl
  clear hs hb hl hback hys hyl hy8 hM hMl hM8 hx hx8
  go_enter Tryz.func47, Tryz.ntmps47
  go_wp2_with fail
  go_step3
  go_wp2_with (first
    | (at_builtin; refine wpList_app8 (l := []) rfl (.tmp 20) (.tmp 21) rfl H0.out HL1.out rfl rfl HB.out.1 HNK.out HLN.out ?_; intro v1 w1 h1; rw [List.nil_append, List.length_nil, Nat.zero_add, HML.out] at h1; obtain ⟨ra, rc, rfl⟩ := own_slice h1.rowOwn; have H1 := hid h1.swap; clear h1)
    | (refine wpList_cellS H1.out (stabC (rowP_stable _ _ _ _ _) HL.out) rfl (.tmp 24) (.tmp 22) 35 rfl 2 (.slice ra 260 rc) rfl rfl szSl8 (show 2 < 3 by decide) rfl ?_; intro w2 h2; have H2 : Hid (Sts W (blkP q (finO (.slice ra 260 rc)) :: rowP 5 1 (.slice ra 260 rc) 260 (u8s M) :: l) w2) := hid h2; clear h2))
  clear c0 c2
  go_step3
  go_wp2_with fail
  go_loopw [5, 6] (fun o i wr => (o = .slice none 0 0 ∧ wr = w2) ∨ (∃ oa oc xa xc vb vo vc, o = .slice oa 1 oc ∧ vc ≤ maxLen ∧ Sts W (blkP q (finO (.slice (some ⟨vb, vo, none⟩) 0 vc)) :: rowP 35 1 (.slice oa 1 oc) 1 [.slice xa 256 xc] :: rowP 5 1 (.slice xa 256 xc) 256 (u8s xs) :: l) wr)) (fun o _ _ => 1 - lenV o)
  case atStart => exact Or.inl ⟨rfl, rfl⟩
  case round =>
    rcases hrel with ⟨rfl, rfl⟩ | ⟨oa, oc, xa, xc, vb, vo, vc, rfl, hvc, hs⟩
    · have hra : ∃ g, ra = some ⟨g, 0, none⟩ := by
        obtain ⟨g, gc, hv⟩ := own_pos H2.out.tail.rowOwn (by decide)
        injection hv with h1 h2 h3
        exact ⟨g, h1⟩
      obtain ⟨rg, rfl⟩ := hra
      have c1 : wr.cell? ⟨q, 1, none⟩ = some (.int .i64 0) := (Sts.boxCell H2.out 1 _ rfl).1
      have c2 : wr.cell? ⟨q, 2, none⟩ = some (.slice (some ⟨rg, 0, none⟩) 260 rc) := (Sts.boxCell H2.out 2 _ rfl).1
      have hR0 : RdB wr (.slice (some ⟨rg, 0, none⟩) 260 rc) M := ⟨Sts.rdRow H2.out.tail (by rw [u8s_len, HML.out]), HM8.out⟩
      have hcap := (Rd.cap hR0.1).2
      have hrc0 : ¬ rc = 0 := by omega
      have HBG := hid (cBegin wr rg 0 rc 260 ys (by rw [HYL.out]) (HM.out ▸ hR0) (by rw [HYL.out]; decide) (by rw [HYL.out]; decide))
      have HLA := hid (show ∀ B ∈ blkP q (finO (.slice (some ⟨rg, 0, none⟩) 260 rc)) :: rowP 5 1 (.slice (some ⟨rg, 0, none⟩) 260 rc) 260 (u8s M) :: l, Stable B from stabC (blkP_stable _ _) (stabC (rowP_stable _ _ _ _ _) HL.out))
      clear hR0 hcap
      go_wp2_with (first
        | (go_at_call 121; refine HBG.out.mono ?_; rintro e w3 ⟨rfl, h3⟩
           have h3' := H2.out.quiet HLA.out h3
           have H3 := hid h3'
           have c1' : w3.cell? ⟨q, 1, none⟩ = some (.int .i64 0) := (Sts.boxCell h3' 1 _ rfl).1
           clear h3 h3')
        | (refine wpList_cellS H3.out (stabC (rowP_stable _ _ _ _ _) HL.out) rfl (.tmp 37) (.tmp 35) 3 rfl 1 (.int .i64 0) rfl rfl szInt (show 1 < 3 by decide) rfl ?_; intro w4 h4
           have h4' : Sts W (blkP q (finO (.slice (some ⟨rg, 0, none⟩) 260 rc)) :: rowP 5 1 (.slice (some ⟨rg, 0, none⟩) 260 rc) 260 (u8s M) :: l) w4 := h4
           have H4 := hid h4'
           have c2' : w4.cell? ⟨q, 2, none⟩ = some (.slice (some ⟨rg, 0, none⟩) 260 rc) := (Sts.boxCell h4' 2 _ rfl).1
           have HCL : Hid (Calls Tryz.prog 122 #[.slice (some ⟨rg, 0, none⟩) 260 rc] w4 fun e w' => ∃ a' c', e = .returned (.slice a' 260 c') ∧ Sts W (rowP 5 1 (.slice a' 260 c') 260 (u8s M) :: blkP q (finO (.slice (some ⟨rg, 0, none⟩) 260 rc)) :: l) w') := hid (by
             have k := cBClone (stabC (blkP_stable q (finO (.slice (some ⟨rg, 0, none⟩) 260 rc))) HL.out) (h4'.swap.tail) ⟨rg, 0, none⟩ rc M (by rw [HML.out]; exact Sts.rdRow h4'.tail (by rw [u8s_len, HML.out])) (by rw [HML.out]; decide)
             rw [HML.out] at k; exact k)
           clear h4 h4')
        | (go_at_call 122; refine HCL.out.mono ?_; rintro e w5 ⟨ga, gc, rfl, h5⟩
           obtain ⟨g, rfl⟩ : ∃ g, ga = some ⟨g, 0, none⟩ := by
             obtain ⟨g, gc', hv⟩ := own_pos h5.rowOwn (by decide)
             injection hv with i1 i2 i3
             exact ⟨g, i1⟩
           have H5 := hid h5.swap
           clear h5)
        | (refine wpList_cellS H5.out (stabC (rowP_stable _ _ _ _ _) HL.out) rfl (.tmp 47) (.tmp 45) 35 rfl 2 (.slice (some ⟨g, 0, none⟩) 260 gc) rfl rfl szSl8 (show 2 < 3 by decide) rfl ?_; intro w6 h6
           have h6' : Sts W (blkP q (finO (.slice (some ⟨g, 0, none⟩) 260 gc)) :: rowP 5 1 (.slice (some ⟨g, 0, none⟩) 260 gc) 260 (u8s M) :: l) w6 := h6
           have H6 := hid h6'
           have k0 : w6.cell? ⟨q, 0, none⟩ = some (.int .i64 256) := (Sts.boxCell h6' 0 _ rfl).1
           have k2 : w6.cell? ⟨q, 2, none⟩ = some (.slice (some ⟨g, 0, none⟩) 260 gc) := (Sts.boxCell h6' 2 _ rfl).1
           have hR6 : RdB w6 (.slice (some ⟨g, 0, none⟩) 260 gc) M := ⟨Sts.rdRow h6'.tail (by rw [u8s_len, HML.out]), HM8.out⟩
           have hcap6 := hid (Rd.cap hR6.1).2
           clear h6 h6' hR6))
      go_quiet (fail)
      have k0' : (w6.drewN nq).cell? ⟨q, 0, none⟩ = some (.int .i64 256) := k0
      have k2' : (w6.drewN nq).cell? ⟨q, 2, none⟩ = some (.slice (some ⟨g, 0, none⟩) 260 gc) := k2
      have HR9 : Hid (Sts W (blkP q (finO (.slice (some ⟨g, 0, none⟩) 260 gc)) :: rowP 35 1 (.slice none 0 0) 0 [] :: rowP 5 1 (.slice (some ⟨g, 0, none⟩) 260 gc) 260 (u8s M) :: l) (w6.drewN nq)) := hid (by
        have h := H6.out.quiet (stabC (blkP_stable _ _) (stabC (rowP_stable _ _ _ _ _) HL.out)) (below_drewN (Below.refl _ _) nq)
        exact (Sts.rowNil 35 h).swap)
      have HMID := hid (show ∀ y : World, Sts W (blkP q (finO (.slice (some ⟨g, 0, none⟩) 260 gc)) :: rowP 35 1 (.slice none 0 0) 0 [] :: rowP 5 1 (.slice (some ⟨g, 0, none⟩) 260 gc) 260 (u8s M) :: l) y → RdB y (.slice (some ⟨g, 4, none⟩) 256 (gc - 4)) ys from fun y hy => by
        have h : RdB y (.slice (some ⟨g, 0, none⟩) 260 gc) M := ⟨Sts.rdRow hy.tail.tail (by rw [u8s_len, HML.out]), HM8.out⟩
        rw [HM.out] at h
        have hc := hcap6.out
        have k := RdB.mid (k := Scr.mark) (l := ys) (m := []) (show RdB y (.slice (some ⟨g, 0, none⟩) 260 gc) (Scr.mark ++ ys ++ []) by rw [List.append_nil]; exact h) (gc - 4) (by rw [HYL.out]; unfold maxLen at *; omega)
        rw [HYL.out] at k
        exact k)
      have hg4 : ¬ gc = 4 := by have hc := hcap6.out; omega
      have hg4' : 4 ≤ gc := by have hc := hcap6.out; omega
      have hgi : (260 : Int) ≤ (gc : Int) := by have hc := hcap6.out; omega
      have hgi4 : (4 : Int) ≤ (gc : Int) := by have hc := hcap6.out; omega
      have w260 : IntKind.i64.wrap 260 = 260 := by decide
      go_wp2_with fail
      refine wp_region_ordQ (.pure 0 (.pure 1 (.pure 2 (.pure 3 (.pure 4 (.pure 5 (.pure 6 (.pure 7 (.pure 8 (.pure 9 (.pure 10 (.eff 11 (.eff 12 (.eff 13 (.pure 14 .nil))))))))))))))) (fun y => y.cell? ⟨q, 0, none⟩ = some (.int .i64 256) ∧ y.cell? ⟨q, 2, none⟩ = some (.slice (some ⟨g, 0, none⟩) 260 gc)) (fun y => Sts W (blkP q (finO (.slice (some ⟨g, 0, none⟩) 260 gc)) :: rowP 35 1 (.slice none 0 0) 0 [] :: rowP 5 1 (.slice (some ⟨g, 0, none⟩) 260 gc) 260 (u8s M) :: l) y) (by kernel_rfl) (by kernel_rfl) (HR9.out.drew (stabC (blkP_stable _ _) (stabC (rowP_stable _ _ _ _ _) (stabC (rowP_stable _ _ _ _ _) HL.out)))) (fun y hy => ⟨(Sts.boxCell hy 0 _ rfl).1, (Sts.boxCell hy 2 _ rfl).1⟩) ?_
      iterate 11
        (apply ordq_pure (ho := rfl)
         · go_simp
         · intro x hx; obtain ⟨k0, k1⟩ := hx; go_simp; rfl
         apply ordq_norm
         · go_simp; rfl)
      apply ordq_eff (ho := rfl)
      · go_simp
      intro y hy
      refine eff_call (f := 123) (by go_simp) (KA.out y (.slice (some ⟨g, 4, none⟩) 256 (gc - 4)) (HMID.out y hy)) ?_
      rintro e w3 ⟨r, rfl, h3⟩
      have h4 := Sts.new (stabC (blkP_stable _ _) (stabC (rowP_stable _ _ _ _ _) (stabC (rowP_stable _ _ _ _ _) HL.out))) hy h3
      rw [u8s_len, HX.out] at h4
      obtain ⟨xa, xc, rfl⟩ := own_slice h4.rowOwn
      have h5 := h4.swap
      clear h3 h4
      refine ⟨_, rfl, (fun y => y.cell? ⟨q, 0, none⟩ = some (.int .i64 256) ∧ y.cell? ⟨q, 2, none⟩ = some (.slice (some ⟨g, 0, none⟩) 260 gc)), (fun y => Sts W (blkP q (finO (.slice (some ⟨g, 0, none⟩) 260 gc)) :: rowP 5 1 (.slice xa 256 xc) 256 (u8s xs) :: rowP 35 1 (.slice none 0 0) 0 [] :: rowP 5 1 (.slice (some ⟨g, 0, none⟩) 260 gc) 260 (u8s M) :: l) y), h5, (fun y hy => ⟨(Sts.boxCell hy 0 _ rfl).1, (Sts.boxCell hy 2 _ rfl).1⟩), (fun _ h => h), ?_⟩
      clear h5 hy y 
      apply ordq_norm
      · go_simp; rfl
      apply ordq_eff (ho := rfl)
      · go_simp
      intro y hy
      refine eff_bldS (stabC (blkP_stable _ _) (stabC (rowP_stable _ _ _ _ _) (stabC (rowP_stable _ _ _ _ _) (stabC (rowP_stable _ _ _ _ _) HL.out)))) hy (.tmp 70) rfl xa 256 xc ?_ (fun z bg hz => ⟨(Sts.boxCell hz.tail 0 _ rfl).1, (Sts.boxCell hz.tail 2 _ rfl).1⟩) ?_
      · go_simp
      intro bg
      apply ordq_norm
      · go_simp; rfl
      clear hy y
      apply ordq_eff (ho := rfl)
      · go_simp
      intro y hy
      have hc := (Sts.boxCell hy 0 _ rfl).1
      have h6 := (Sts.perm hy (List.perm_middle (l₁ := [_, _, _])))
      refine eff_app1 rfl 43 35 (.slice none 0 0) 24 Tryz.underlying43 infoS8 rfl (by decide) (stabC (blkP_stable _ _) (stabC (blkP_stable _ _) (stabC (rowP_stable _ _ _ _ _) (stabC (rowP_stable _ _ _ _ _) HL.out)))) h6 (.tmp 59) (.tmp 71) rfl bg (.slice xa 256 xc) ?_ ?_ hc rfl (by decide) (fun z v' hz => ⟨(Sts.boxCell hz.tail.tail 0 _ rfl).1, (Sts.boxCell hz.tail.tail 2 _ rfl).1⟩) ?_
      · go_simp
      · go_simp
      intro ov
      apply ordq_norm
      · go_simp; rfl
      clear hy hc h6 y
      iterate 1
        (apply ordq_pure (ho := rfl)
         · go_simp
         · intro x hx; go_simp; rfl
         apply ordq_norm
         · go_simp; rfl)
      refine ordq_nil fun z hz => ?_
      obtain ⟨oa, oc, rfl⟩ := own_slice hz.rowOwn
      have hz2 : Sts W (blkP q (finO (.slice (some ⟨g, 0, none⟩) 260 gc)) :: rowP 35 1 (.slice oa 1 oc) 1 [.slice xa 256 xc] :: rowP 5 1 (.slice xa 256 xc) 256 (u8s xs) :: l) z := (Sts.sub hz (.cons_cons _ (.cons _ (.cons_cons _ (.cons_cons _ (.cons _ (List.Sublist.refl _))))))).swap
      have HZ := hid hz2
      have j0 : z.cell? ⟨q, 0, none⟩ = some (.int .i64 256) := (Sts.boxCell hz2 0 _ rfl).1
      have j2 : z.cell? ⟨q, 2, none⟩ = some (.slice (some ⟨g, 0, none⟩) 260 gc) := (Sts.boxCell hz2 2 _ rfl).1
      have jf := (Sts.boxCell hz2 2 _ rfl).2
      have HST := hid (show ∀ B ∈ rowP 35 1 (.slice oa 1 oc) 1 [.slice xa 256 xc] :: rowP 5 1 (.slice xa 256 xc) 256 (u8s xs) :: l, Stable B from stabC (rowP_stable _ _ _ _ _) (stabC (rowP_stable _ _ _ _ _) HL.out))
      clear hz hz2
      by_cases hgc : gc = 260
      · subst hgc
        go_wp2
        go_region
        all_goals go_wp2
        refine ⟨Or.inr ⟨oa, oc, xa, xc, g, 0, 0, rfl, by decide, ?_⟩, by simp [lenV]⟩
        exact Sts.drew (stabC (blkP_stable _ _) HST.out) (Sts.store HST.out HZ.out (j := 2) (.slice (some ⟨g, 0, none⟩) 0 0))
      · go_wp2
        go_region
        all_goals go_wp2
        refine ⟨Or.inr ⟨oa, oc, xa, xc, g, 260, gc - 260, rfl, by have := hcap6.out; omega, ?_⟩, by simp [lenV]⟩
        exact Sts.drew (stabC (blkP_stable _ _) HST.out) (Sts.store HST.out HZ.out (j := 2) (.slice (some ⟨g, 260, none⟩) 0 (gc - 260)))
    · have HSB := hid hs
      have c1 : wr.cell? ⟨q, 1, none⟩ = some (.int .i64 0) := (Sts.boxCell hs 1 _ rfl).1
      have c2 : wr.cell? ⟨q, 2, none⟩ = some (.slice (some ⟨vb, vo, none⟩) 0 vc) := (Sts.boxCell hs 2 _ rfl).1
      have HBG := hid (cBegin0 wr (some ⟨vb, vo, none⟩) vc)
      have HVC := hid hvc
      have HLR := hid (show ∀ B ∈ rowP 35 1 (.slice oa 1 oc) 1 [.slice xa 256 xc] :: rowP 5 1 (.slice xa 256 xc) 256 (u8s xs) :: l, Stable B from stabC (rowP_stable _ _ _ _ _) (stabC (rowP_stable _ _ _ _ _) HL.out))
      clear hs hvc
      go_wp2_with (first
        | (go_at_call 121; refine HBG.out.mono ?_; rintro e w3 ⟨rfl, h3⟩
           have h3' := HSB.out.quiet (stabC (blkP_stable _ _) HLR.out) h3
           have H3 := hid h3'
           have c1' : w3.cell? ⟨q, 1, none⟩ = some (.int .i64 0) := (Sts.boxCell h3' 1 _ rfl).1
           clear h3 h3')
        | (refine wpList_cellS H3.out HLR.out rfl (.tmp 37) (.tmp 35) 3 rfl 1 (.int .i64 0) rfl rfl szInt (show 1 < 3 by decide) rfl ?_; intro w4 h4
           have h4' : Sts W (blkP q (finO (.slice (some ⟨vb, vo, none⟩) 0 vc)) :: rowP 35 1 (.slice oa 1 oc) 1 [.slice xa 256 xc] :: rowP 5 1 (.slice xa 256 xc) 256 (u8s xs) :: l) w4 := h4
           have H4 := hid h4'
           have c2' : w4.cell? ⟨q, 2, none⟩ = some (.slice (some ⟨vb, vo, none⟩) 0 vc) := (Sts.boxCell h4' 2 _ rfl).1
           have HCL := hid (cBClone (stabC (blkP_stable _ _) HLR.out) h4' ⟨vb, vo, none⟩ vc [] (Rd.nil w4 _ _ HVC.out) (by decide))
           clear h4 h4')
        | (go_at_call 122; refine HCL.out.mono ?_; rintro e w5 ⟨ga, gc, rfl, h5⟩
           have H5 := hid h5.swap
           clear h5)
        | (refine wpList_cellS H5.out (stabC (rowP_stable _ _ _ _ _) HLR.out) rfl (.tmp 47) (.tmp 45) 35 rfl 2 (.slice ga 0 gc) rfl rfl szSl8 (show 2 < 3 by decide) rfl ?_; intro w6 h6
           have h6' : Sts W (blkP q (finO (.slice ga 0 gc)) :: rowP 5 1 (.slice ga 0 gc) 0 [] :: rowP 35 1 (.slice oa 1 oc) 1 [.slice xa 256 xc] :: rowP 5 1 (.slice xa 256 xc) 256 (u8s xs) :: l) w6 := h6
           have H6 := hid h6'
           have k0 : w6.cell? ⟨q, 0, none⟩ = some (.int .i64 256) := (Sts.boxCell h6' 0 _ rfl).1
           have k2 : w6.cell? ⟨q, 2, none⟩ = some (.slice ga 0 gc) := (Sts.boxCell h6' 2 _ rfl).1
           clear h6 h6'))
      go_quiet (fail)
      go_wp2_with fail
      try rw [Exit.noGoto_ret]
      go_ret
      exact ⟨oa, oc, xa, xc, _, rfl, H6.out.quiet (stabC (blkP_stable _ _) (stabC (rowP_stable _ _ _ _ _) HLR.out)) (below_drewN (Below.refl _ _) nq)⟩
end
end Go.Proofs.YtnklmadmenkdoaaGreat
namespace Go.Proofs.YtnklmadmenkdoaaGreat
open Go.RowKit Go.Proofs.Num
theorem make8_1 (W : World) : (Instr.makeSlice 35 (.int .i64 1) (.int .i64 1)).run Tryz.prog W = .ok (.slice (some ⟨W.heap.size, 0, none⟩) 1 1) (W.alloc (.cells #[.int .u8 0] 5)) := by kernel_rfl
set_option maxRecDepth 100000 in
theorem cRUint1 (w : World) (x : Nat) (hx : x < 4294967296) :
    Calls Tryz.prog 96 #[.int .u64 x, .int .i64 1] w fun e w' => ∃ r, e = .returned r ∧ New w w' 5 r (u8s (Oct.be 1 x)) := by
  have hmk := make8_1
  have h0 : Sts w [rowP 5 1 (.slice (some ⟨w.heap.size, 0, none⟩) 1 1) 1 (u8s [0])] (w.alloc (.cells #[.int .u8 0] 5)) :=
    ((Sts.nil w).alloc stab0 (.cells #[.int .u8 0] 5)).weaken (fun F h => blkP.row h (by simp))
  have H0 := hid h0
  clear h0
  go_enter Tryz.func96, Tryz.ntmps96
  go_wp2_with fail
  clear hmk
  go_loopw [0, 6] (fun n i wr => (i = .int .i64 0 ∧ n = .int .u64 x ∧ Sts w [rowP 5 1 (.slice (some ⟨w.heap.size, 0, none⟩) 1 1) 1 (u8s [0])] wr) ∨ (i = .int .i64 (-1) ∧ Sts w [rowP 5 1 (.slice (some ⟨w.heap.size, 0, none⟩) 1 1) 1 (u8s (Oct.be 1 x))] wr)) (fun _ i _ => (intOf i + 1).toNat)
  case atStart => exact Or.inl ⟨rfl, rfl, H0.out⟩
  case round =>
    rcases hrel with ⟨rfl, rfl, hs⟩ | ⟨rfl, hs⟩
    · have hf := Sts.rowFree hs 0
      have hcell := Sts.rowCell hs 0 (by omega) (.int .u8 0) rfl
      have hst := Sts.rowStore stab0 hs 0 (.int .u8 (x % 256 : Nat))
      have e : (u8s [0]).set 0 (Value.int .u8 ((x % 256 : Nat) : Int)) = u8s (Oct.be 1 x) := by simp [u8s, Oct.be]
      rw [e] at hst
      have HST := hid hst
      clear hst e hs
      go_wp2_with fail
      go_roundw
      case rel => exact Or.inr ⟨rfl, by first | exact HST.out | (have := HST.out; simpa using this)⟩
      case measure => simp [intOf]
    · go_wp2_with fail
      go_ret
      exact ⟨_, rfl, New.of_sts hs (by simp [u8s, Oct.be_len])⟩
theorem make8_2 (W : World) : (Instr.makeSlice 35 (.int .i64 2) (.int .i64 2)).run Tryz.prog W = .ok (.slice (some ⟨W.heap.size, 0, none⟩) 2 2) (W.alloc (.cells #[.int .u8 0, .int .u8 0] 5)) := by kernel_rfl
theorem be_step2 (x m : Nat) (hm : m < 2) : ((List.replicate (2 - m) 0 ++ Oct.be m x).set (1 - m) (x / 256 ^ m % 256)) = List.replicate (2 - (m + 1)) 0 ++ Oct.be (m + 1) x := by
  match m, hm with
  | 0, _ => rfl
  | 1, _ => rfl
set_option maxRecDepth 100000 in
theorem cRUint2 (w : World) (x : Nat) (hx : x < 4294967296) :
    Calls Tryz.prog 96 #[.int .u64 x, .int .i64 2] w fun e w' => ∃ r, e = .returned r ∧ New w w' 5 r (u8s (Oct.be 2 x)) := by
  have hmk := make8_2
  have h0 : Sts w [rowP 5 1 (.slice (some ⟨w.heap.size, 0, none⟩) 2 2) 2 (u8s (List.replicate 2 0))] (w.alloc (.cells #[.int .u8 0, .int .u8 0] 5)) :=
    ((Sts.nil w).alloc stab0 (.cells #[.int .u8 0, .int .u8 0] 5)).weaken (fun F h => blkP.row h (by simp))
  have H0 := hid h0
  clear h0
  go_enter Tryz.func96, Tryz.ntmps96
  go_wp2_with fail
  clear hmk
  go_loopw [0, 6] (fun n i wr => ∃ m : Nat, m ≤ 2 ∧ i = .int .i64 (1 - (m : Int)) ∧ n = .int .u64 (x / 256 ^ m : Nat) ∧ Sts w [rowP 5 1 (.slice (some ⟨w.heap.size, 0, none⟩) 2 2) 2 (u8s (List.replicate (2 - m) 0 ++ Oct.be m x))] wr) (fun _ i _ => (intOf i + 1).toNat)
  case atStart => exact ⟨0, by omega, rfl, by simp, by simpa [Oct.be] using H0.out⟩
  case round =>
    obtain ⟨m, hm, rfl, rfl, hs⟩ := hrel
    by_cases hlt : m < 2
    · have hb0 : (0 : Int) ≤ 1 - (m : Int) := by omega
      have hb1 : (1 - (m : Int)).toNat = 1 - m := by omega
      have hb2 : 1 - (m : Int) < 2 := by omega
      have hf := Sts.rowFree hs (1 - m)
      have hlen : (u8s (List.replicate (2 - m) 0 ++ Oct.be m x)).length = 2 := by rw [u8s_len]; simp [Oct.be_len]; omega
      obtain ⟨old, hold⟩ : ∃ old, (u8s (List.replicate (2 - m) 0 ++ Oct.be m x))[1 - m]? = some old := ⟨_, List.getElem?_eq_getElem (by rw [hlen]; omega)⟩
      have hcell := Sts.rowCell hs (1 - m) (by omega) _ hold
      clear hold
      have hdiv : (x / 256 ^ m) / 256 = x / 256 ^ (m + 1) := by rw [Nat.div_div_eq_div_mul, Nat.pow_succ]
      have hxm : x / 256 ^ m < 4294967296 := Nat.lt_of_le_of_lt (Nat.div_le_self _ _) hx
      have hst := Sts.rowStore stab0 hs (1 - m) (.int .u8 (x / 256 ^ m % 256 : Nat))
      have e : (u8s (List.replicate (2 - m) 0 ++ Oct.be m x)).set (1 - m) (Value.int .u8 ((x / 256 ^ m % 256 : Nat) : Int)) = u8s (List.replicate (2 - (m + 1)) 0 ++ Oct.be (m + 1) x) := by
        rw [← be_step2 x m hlt]; simp [u8s, List.map_set]
      rw [e] at hst
      have HD := hid hdiv
      have HST := hid hst
      clear hdiv hst e hs hlen
      generalize x / 256 ^ m = y at *
      go_wp2_with fail
      go_roundw
      case rel => exact ⟨m + 1, by omega, val_int (by omega), by rw [← HD.out]; exact val_int (by omega), by first | exact HST.out | (have := HST.out; simpa using this)⟩
      case measure => simp [intOf]; omega
    · obtain rfl : m = 2 := by omega
      go_wp2_with fail
      go_ret
      have e : List.replicate (2 - 2) 0 ++ Oct.be 2 x = Oct.be 2 x := by simp
      rw [e] at hs
      exact ⟨_, rfl, New.of_sts hs (by simp [u8s, Oct.be_len])⟩
end Go.Proofs.YtnklmadmenkdoaaGreat
