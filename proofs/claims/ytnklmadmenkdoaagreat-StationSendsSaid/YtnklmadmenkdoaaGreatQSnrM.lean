/- The specification's decoding of a command that it has encoded. The specification's comparison of equal commands. -/
import Derived.Test.YtnklmadmenkdoaaGreatQSnrK
import Derived.Test.YtnklmadmenkdoaaGreatQSndV
import Derived.BigQuiet
set_option linter.unusedVariables false
set_option linter.unusedSimpArgs false
namespace Cmd
theorem bev_be1 (x : Nat) (h : x < 256) : bev (Oct.be 1 x) = x := by simp [bev, Oct.be]; omega
theorem bev_be2 (x : Nat) (h : x < 65536) : bev (Oct.be 2 x) = x := by simp [bev, Oct.be]; omega
theorem argsB_drop (args : List Int) (k : Nat) (hk : k < args.length) : argsB (args.drop k) = vint (zig args[k]) ++ argsB (args.drop (k + 1)) := by
  rw [List.drop_eq_getElem_cons hk]; rfl
end Cmd
namespace Go.Proofs.YtnklmadmenkdoaaGreat
open Go.RowKit Go.Proofs.Num
def zeroCmd : Array Value := #[.int .i64 0, .int .i64 0, .int .i64 0, .slice none 0 0, .slice none 0 0]
set_option maxRecDepth 100000 in
theorem szCmdR : ∀ w, (Go.sizeOf 39).run Tryz.prog w = .ok 5 w := fun w => by first | rfl | simp [go_sem] | kernel_rfl
set_option maxRecDepth 100000 in
theorem szSlI : ∀ w, (Go.sizeOf 34).run Tryz.prog w = .ok 1 w := fun w => by first | rfl | simp [go_sem] | kernel_rfl
theorem infoInt : (Tryz.prog.info? 3).map (fun i => (i.zero, i.size, i.bytes)) = some (some (.int .i64 0), 1, 8) := by kernel_rfl
/-- What the loop over the arguments has. -/
def DecRel (w wr : World) (b r gc : Nat) (src num sv : Nat) (args : List Int) (tl : List Nat) (k : Nat) : Prop :=
  ∃ va vr, RdB w vr (Cmd.argsB (args.drop k) ++ tl) ∧ (1 ≤ (Cmd.argsB (args.drop k) ++ tl).length → ∃ o' n' c', vr = .slice (some ⟨b, o', none⟩) n' c') ∧
    Sts w (rdO r vr :: blkP gc (.cells (cmdV (src : Int) (num : Int) (sv : Int) va (.slice none 0 0)) 39 (0, 0)) :: rowP 3 1 va k (i64s (args.take k)) :: [blkP w.heap.size (.cells zeroCmd 39 (0, 0))]) wr
set_option maxRecDepth 100000 in
set_option maxHeartbeats 4000000 in
theorem cRDecode (w : World) (b off n c : Nat) (src num sv : Nat) (args : List Int) (data : List Nat) (h1 : src ≤ 15) (h2 : num ≤ 65535) (hN : data.length < 100000) (hok : Cmd.cmdOk (sv : Int) args data.length = true) (hR : RdB w (.slice (some ⟨b, off, none⟩) n c) (Cmd.enc src num sv args data)) :
    Calls Tryz.prog 16 #[.slice (some ⟨b, off, none⟩) n c] w fun e w' => ∃ aa ca ad cd, e = .returned (.tuple #[.agg (cmdV (src : Int) (num : Int) (sv : Int) (.slice aa args.length ca) (.slice ad data.length cd)), .bool true]) ∧ Rd w' (.slice aa args.length ca) (i64s args) ∧ RdB w' (.slice ad data.length cd) data ∧ (ad = none → cd = 0) ∧ Below w.heap.size w w' := by
  have HS0 : Hid (Sts w (blkP w.heap.size (.cells zeroCmd 39 (0, 0)) :: []) (w.alloc (.cells zeroCmd 39))) := hid (Sts.alloc stab0 (Sts.nil w) _)
  have HLB : Hid (∀ B ∈ [blkP w.heap.size (.cells zeroCmd 39 (0, 0))], Stable B) := hid (stabC (blkP_stable _ _) stab0)
  have hS1 := HS0.out.alloc HLB.out (.cells #[.slice (some ⟨b, off, none⟩) n c, .bool false] 148)
  rw [show (w.alloc (.cells zeroCmd 39)).heap.size = w.heap.size + 1 by simp] at hS1
  have hok2 := hok
  unfold Cmd.cmdOk at hok2
  simp only [Bool.and_eq_true, decide_eq_true_eq] at hok2
  obtain ⟨hs0, hlen, hall, hdat⟩ := hok2
  unfold Cmd.isS at hs0
  simp only [Bool.and_eq_true, decide_eq_true_eq] at hs0
  obtain ⟨hs1, hs2⟩ := hs0
  have hsv : sv < 256 := by omega
  have hA3 := Cmd.argN_le (sv : Int)
  rw [← hlen] at hA3
  obtain ⟨tl, htl⟩ : ∃ tl, tl = (if Cmd.datN (sv : Int) = 1 then Cmd.blobB data else []) := ⟨_, rfl⟩
  have henc : Cmd.enc src num sv args data = Oct.be 1 src ++ (Oct.be 2 num ++ (Oct.be 1 sv ++ (Cmd.argsB args ++ tl))) := by rw [htl]; unfold Cmd.enc; simp only [List.append_assoc]
  have HOK := hid hok
  have HALL := hid (List.all_eq_true.1 hall)
  have HDAT := hid hdat
  have HTL := hid htl
  have HLEN := hid hlen
  have HA3 := hid hA3
  have HRB := hid hR
  have hR0 := hR
  rw [henc] at hR0
  have HCV := hid (hR.str (P := Tryz.prog) 35 9 5 Tryz.underlying35 Tryz.underlying5 Tryz.underlying9)
  have HN := hid hN
  have HSN := hid (And.intro h1 h2)
  have g1 : IntKind.i64.wrap (src : Int) = (src : Int) := by rw [IntKind.wrap_i64]; omega
  have g2 : IntKind.i64.wrap (num : Int) = (num : Int) := by rw [IntKind.wrap_i64]; omega
  have g3 : IntKind.i64.wrap (sv : Int) = (sv : Int) := by rw [IntKind.wrap_i64]; omega
  have e1 := Cmd.bev_be1 src (by omega)
  have e2 := Cmd.bev_be2 num (by omega)
  have e3 := Cmd.bev_be1 sv hsv
  have HE := hid (And.intro e1 (And.intro e2 e3))
  have HSV := hid (And.intro hs1 hs2)
  clear hall hdat htl hlen hA3 hok hR henc hN h1 h2 hs1 hs2 e1 e2 e3 hsv
  go_enter Tryz.func16, Tryz.ntmps16
  go_wp2_with fail
  refine (cRdUint HLB.out (w.heap.size + 1) b off n c 1 (Oct.be 1 src) _ (by decide) (by decide) rfl hR0 hS1).mono ?_
  rintro e w1 ⟨rfl, a1, c1, hR1, ha1, hS2⟩
  obtain rfl := ha1 (by simp [Oct.be_len] <;> omega)
  clear ha1 hR0 hS1
  rw [HE.out.1]
  go_wp2_with fail
  refine (cRdUint HLB.out (w.heap.size + 1) b (off + 1) _ c1 2 (Oct.be 2 num) _ (by decide) (by decide) rfl hR1 hS2).mono ?_
  rintro e w2 ⟨rfl, a2, c2, hR2, ha2, hS3⟩
  obtain rfl := ha2 (by simp [Oct.be_len] <;> omega)
  clear ha2 hR1 hS2
  rw [HE.out.2.1]
  go_wp2_with fail
  refine (cRdUint HLB.out (w.heap.size + 1) b (off + 1 + 2) _ c2 1 (Oct.be 1 sv) _ (by decide) (by decide) rfl hR2 hS3).mono ?_
  rintro e w3 ⟨rfl, a3, c3, hR3, ha3, hS4⟩
  clear hR2 hS3
  rw [HE.out.2.2]
  have HS4 := hid ((hS4.alloc (stabC (show Stable (rdO (w.heap.size + 1) (.slice a3 (Cmd.argsB args ++ tl).length c3)) from blkP_stable _ _) HLB.out) (.cells zeroCmd 39)))
  have HR3 := hid hR3
  have HA := hid ha3
  clear hR3 hS4 ha3
  go_wp2_with (first
    | (refine wpList_aggS HS4.out (stabC (show Stable (rdO (w.heap.size + 1) (.slice a3 (Cmd.argsB args ++ tl).length c3)) from blkP_stable _ _) HLB.out) rfl (.tmp 5) (.tmp 21) 39 rfl (cmdV (src : Int) (num : Int) (sv : Int) (.slice none 0 0) (.slice none 0 0)) rfl rfl szCmdR rfl rfl ?_; intro w5 h5
       have e2 : w5.cell? ⟨w3.heap.size, 2, none⟩ = some (.int .i64 (sv : Int)) := (Sts.boxCell h5 2 _ rfl).1
       have H5 := hid h5
       clear h5 HS4)
    | (go_at_call 63; refine (cRArgs _ (sv : Int) (by have := HSV.out; omega) (by have := HSV.out; omega)).mono ?_; rintro e w6 ⟨rfl, h6⟩
       have H6 := hid (H5.out.quiet (stabC (blkP_stable _ _) (stabC (show Stable (rdO (w.heap.size + 1) (.slice a3 (Cmd.argsB args ++ tl).length c3)) from blkP_stable _ _) HLB.out)) h6)
       clear h6))
  rw [← HLEN.out]
  generalize w3.heap.size = gc at *
  generalize w.heap.size + 1 = r at *
  have hB1 : Hid (DecRel w w6 b r gc src num sv args tl 0) := hid (by
    refine ⟨.slice none 0 0, _, HR3.out, fun h => ⟨_, _, _, by rw [HA.out h]⟩, ?_⟩
    have h := H6.out.swap
    have h2 := Sts.new (stabC (show Stable (rdO r _) from blkP_stable _ _) (stabC (blkP_stable _ _) HLB.out)) h (e := 3) (v := .slice none 0 0) (ys := []) ⟨own_nil _ _ _ _, Below.refl _ _⟩
    exact h2.perm (List.perm_middle (l₁ := [_, _])).symm)
  go_loopw [8] (fun i wr => ∃ k : Nat, k ≤ args.length ∧ i = .int .i64 (k : Int) ∧ DecRel w wr b r gc src num sv args tl k) (fun i _ => args.length - (intOf i).toNat)
  case atStart => exact ⟨0, Nat.zero_le _, rfl, hB1.out⟩
  case round =>
    obtain ⟨k, hk, rfl, va, vr, hRd, hne, hs⟩ := hrel
    by_cases hlt : k < args.length
    · rw [Cmd.argsB_drop args k hlt, List.append_assoc] at hRd hne
      have hvp := Cmd.vint_pos (Cmd.zig args[k])
      obtain ⟨o', n', c', rfl⟩ := hne (by rw [List.length_append]; omega)
      have hmem : args[k] ∈ args := List.getElem_mem hlt
      have htk : args.take (k + 1) = args.take k ++ [args[k]] := List.take_succ_eq_append_getElem hlt
      have hir := Cmd.inR_iff (HALL.out _ hmem)
      have htl : (args.take k).length = k := by rw [List.length_take]; omega
      have HTK : Hid (i64s (args.take (k + 1)) = i64s (args.take k) ++ [.int .i64 args[k]]) := hid (by unfold i64s; rw [htk, List.map_append]; rfl)
      have hl1 := stabC (blkP_stable gc (.cells (cmdV (src : Int) (num : Int) (sv : Int) va (.slice none 0 0)) 39 (0, 0))) (stabC (rowP_stable 3 1 va k (i64s (args.take k))) HLB.out)
      have HL1 := hid hl1
      have HI := hid (fun (y : World) (hy : Sts w (rdO r (.slice (some ⟨b, o', none⟩) n' c') :: blkP gc (.cells (cmdV (src : Int) (num : Int) (sv : Int) va (.slice none 0 0)) 39 (0, 0)) :: rowP 3 1 va k (i64s (args.take k)) :: [blkP w.heap.size (.cells zeroCmd 39 (0, 0))]) y) => cRdInt hl1 r b o' n' c' args[k] (Cmd.argsB (args.drop (k + 1)) ++ tl) hir.1 hir.2 hRd hy)
      have HSX := hid hs
      have HVL : Hid ((i64s (args.take k)).length = k) := hid (by rw [i64s_len, htl])
      have d9 : decide ((k : Int) < ((args.length : Nat) : Int)) = true := decide_eq_true (by omega)
      have hkk : k < 10 := by have := HA3.out; omega
      clear hRd hne hvp hmem htk hir htl hl1 hs
      generalize args[k] = x at *
      generalize i64s (args.take k) = vs at *
      go_wp2_with fail
      refine wp_region_ordQS (fun i => i == 7) (.pure 0 (.pure 1 (.pure 2 (.eff 3 (.eff 4 (.eff 5 (.pure 6 (.eff 7 .nil)))))))) (fun y => y.cell? ⟨gc, 3, none⟩ = some va) (fun y => Sts w (rdO r (.slice (some ⟨b, o', none⟩) n' c') :: blkP gc (.cells (cmdV (src : Int) (num : Int) (sv : Int) va (.slice none 0 0)) 39 (0, 0)) :: rowP 3 1 va k vs :: [blkP w.heap.size (.cells zeroCmd 39 (0, 0))]) y) (by kernel_rfl) (by kernel_rfl) (HSX.out.drew (stabC (show Stable (rdO r _) from blkP_stable _ _) HL1.out)) (fun y hy => (Sts.boxCell hy.tail 3 _ rfl).1) ?_
      iterate 3
        (apply ordq_pure (ho := rfl)
         · go_simp
         · intro x hx; go_simp; rfl
         apply ordq_norm
         · go_simp; rfl)
      apply ordq_eff (ho := rfl)
      · go_simp
      intro y hy
      refine eff_call (f := 64) (by go_simp) (HI.out y hy) ?_
      rintro e w7 ⟨rfl, a', cc', hR7, ha7, h7⟩
      have HR7 := hid hR7
      have HA7 := hid ha7
      refine ⟨_, rfl, (fun y => y.cell? ⟨gc, 3, none⟩ = some va), (fun y => Sts w (rdO r (.slice a' (Cmd.argsB (args.drop (k + 1)) ++ tl).length cc') :: blkP gc (.cells (cmdV (src : Int) (num : Int) (sv : Int) va (.slice none 0 0)) 39 (0, 0)) :: rowP 3 1 va k vs :: [blkP w.heap.size (.cells zeroCmd 39 (0, 0))]) y), h7, (fun y hy => (Sts.boxCell hy.tail 3 _ rfl).1), (fun _ h => h), ?_⟩
      clear h7 hy y hR7 ha7
      have HL3 := hid (stabC (show Stable (rdO r (.slice a' (Cmd.argsB (args.drop (k + 1)) ++ tl).length cc')) from blkP_stable _ _) HL1.out)
      apply ordq_norm
      · go_simp; rfl
      apply ordq_eff (ho := rfl)
      · go_simp
      intro y hy
      have hy2 := Sts.alloc HL3.out hy (.cells #[.int .i64 x] 3)
      refine eff_value (fun y => y.cell? ⟨gc, 3, none⟩ = some va) (fun y' => Sts w (blkP y.heap.size (.cells #[.int .i64 x] 3 (0, 0)) :: rdO r (.slice a' (Cmd.argsB (args.drop (k + 1)) ++ tl).length cc') :: blkP gc (.cells (cmdV (src : Int) (num : Int) (sv : Int) va (.slice none 0 0)) 39 (0, 0)) :: rowP 3 1 va k vs :: [blkP w.heap.size (.cells zeroCmd 39 (0, 0))]) y') (v := .slice (some ⟨y.heap.size, 0, none⟩) 1 1) (w := y.alloc (.cells #[.int .i64 x] 3)) ?_ hy2 (fun y hy => (Sts.boxCell hy.tail.tail 3 _ rfl).1) (fun _ h => h) ?_
      · go_simp
      apply ordq_norm
      · go_simp; rfl
      clear hy hy2
      generalize y.heap.size = gx at *
      clear y
      apply ordq_eff (ho := rfl)
      · go_simp
      intro y hy
      have hc := (Sts.boxCell hy 0 _ rfl).1
      have hy3 := hy.perm (List.perm_middle (l₁ := [_, _, _]))
      refine eff_app1 HVL.out 34 3 (.int .i64 0) 8 Tryz.underlying34 infoInt rfl (by decide) (stabC (blkP_stable _ _) (stabC (show Stable (rdO r (.slice a' (Cmd.argsB (args.drop (k + 1)) ++ tl).length cc')) from blkP_stable _ _) (stabC (blkP_stable _ _) HLB.out))) hy3 (.tmp 34) (.tmp 37) rfl gx (.int .i64 x) ?_ ?_ hc rfl (by omega) (fun y v' hy => (Sts.boxCell hy.tail.tail.tail 3 _ rfl).1) ?_
      · go_simp
      · go_simp
      intro v1
      apply ordq_norm
      · go_simp; rfl
      clear hy hy3 hc y
      apply ordq_pure (ho := rfl)
      · go_simp
      · intro x hx; go_simp; rfl
      apply ordq_norm
      · go_simp; rfl
      apply ordq_eff (ho := rfl)
      · go_simp
      intro y hy
      obtain ⟨a1, cc1, rfl⟩ := own_slice hy.rowOwn
      have hy4 := (hy.perm (List.perm_middle (l₁ := [_, _, _])))
      refine effS_cellS rfl hy4 (stabC (rowP_stable _ _ _ _ _) (stabC (blkP_stable _ _) (stabC (show Stable (rdO r (.slice a' (Cmd.argsB (args.drop (k + 1)) ++ tl).length cc')) from blkP_stable _ _) HLB.out))) (.tmp 39) (.tmp 38) 34 rfl 3 (.slice a1 (k + 1) cc1) ?_ ?_ szSlI (show 3 < 5 by decide) rfl (fun y' => DecRel w y' b r gc src num sv args tl (k + 1)) ?_ ?_
      · go_simp
      · go_simp
      · intro w' h7
        refine ⟨.slice a1 (k + 1) cc1, .slice a' (Cmd.argsB (args.drop (k + 1)) ++ tl).length cc', HR7.out, fun h => ⟨_, _, _, by rw [HA7.out h]⟩, ?_⟩
        rw [HTK.out]
        have h8 : Sts w (blkP gc (.cells (cmdV (src : Int) (num : Int) (sv : Int) (.slice a1 (k + 1) cc1) (.slice none 0 0)) 39 (0, 0)) :: rowP 3 1 (.slice a1 (k + 1) cc1) (k + 1) (vs ++ [.int .i64 x]) :: blkP gx (.cells #[.int .i64 x] 3 (0, 0)) :: rdO r (.slice a' (Cmd.argsB (args.drop (k + 1)) ++ tl).length cc') :: [blkP w.heap.size (.cells zeroCmd 39 (0, 0))]) w' := h7
        have h9 := (h8.perm (List.perm_middle (l₁ := [_, _]))).tail
        exact h9.perm (List.perm_middle (l₁ := [_, _]))
      apply ordq_norm
      · go_simp; rfl
      refine ordq_nil fun z hz => ?_
      have HZ := hid hz
      clear hz hy hy4 y
      go_wp2_with fail
      go_roundw
      case rel => exact ⟨k + 1, by omega, by first | rfl | go_num, HZ.out⟩
      case measure => simp [intOf]; omega
    · have hk2 : k = args.length := by omega
      have d9 : decide ((k : Int) < ((args.length : Nat) : Int)) = false := decide_eq_false (by omega)
      rw [List.drop_of_length_le (show args.length ≤ k by omega)] at hRd hne
      rw [List.take_of_length_le (show args.length ≤ k by omega)] at hs
      have hRd : RdB w vr tl := hRd
      obtain ⟨aa, ca, hva⟩ := own_slice (hs.perm (List.perm_middle (l₁ := [_, _]))).rowOwn
      have HSX := hid hs
      have HLA := hid (stabC (blkP_stable gc (.cells (cmdV (src : Int) (num : Int) (sv : Int) va (.slice none 0 0)) 39 (0, 0))) (stabC (rowP_stable 3 1 va k (i64s args)) HLB.out))
      have HVA := hid hva
      have HK2 := hid hk2
      clear hk2 hk
      obtain ⟨D, hD⟩ : ∃ D, D = Nat.beq (Cmd.datN (sv : Int)) 1 := ⟨_, rfl⟩
      rw [← hD]
      cases D
      case' true =>
        have hd1 : Cmd.datN (sv : Int) = 1 := Nat.eq_of_beq_eq_true hD.symm
        have hdat := HDAT.out
        rw [if_pos hd1] at hdat
        simp only [Bool.and_eq_true, decide_eq_true_eq] at hdat
        obtain ⟨hn1, hn2⟩ := hdat
        have htl2 : tl = Cmd.blobB data ++ [] := by rw [HTL.out, if_pos hd1, List.append_nil]
        obtain ⟨o', n', c', rfl⟩ := hne (by show 1 ≤ tl.length; rw [htl2]; simp [Cmd.blobB]; omega)
        rw [htl2] at hRd
        have HBL2 := hid (cRdBlob HLA.out r b o' n' c' data 512 [] hn1 hn2 (by decide) hRd HSX.out)
        clear hRd hne hs hva hd1 hD htl2 hn1 hn2
        go_wp2_with (first
          | (go_at_call 65; refine HBL2.out.mono ?_; rintro e w8 ⟨⟨c9, rfl, h9⟩, a', cc', _, _, h8⟩
             have HDR := hid h9
             have H8 := hid (Sts.swap h8)
             clear h8 h9)
          | (refine wpList_cellS H8.out (stabC (show Stable (rdO r (.slice a' ([] : List Nat).length cc')) from blkP_stable _ _) (stabC (rowP_stable _ _ _ _ _) HLB.out)) rfl (.tmp 43) (.tmp 42) 35 rfl 4 (.slice (some ⟨b, o' + (Cmd.vint (Cmd.zig (data.length : Int))).length, none⟩) data.length c9) rfl rfl szSl8 (show 4 < 5 by decide) rfl ?_; intro w9 h10; have H10 := hid h10; clear h10))
        obtain ⟨vd, hvd⟩ : ∃ vd, vd = Value.slice (some ⟨b, o' + (Cmd.vint (Cmd.zig (data.length : Int))).length, none⟩) data.length c9 := ⟨_, rfl⟩
        have HVD : Hid (∃ ad cd, vd = .slice ad data.length cd ∧ (ad = none → cd = 0)) := hid ⟨_, _, hvd, fun h => by cases h⟩
        have hF : ∃ a2 c2, Sts w (blkP gc (.cells (cmdV (src : Int) (num : Int) (sv : Int) va vd) 39 (0, 0)) :: rdO r (.slice a2 0 c2) :: rowP 3 1 va k (i64s args) :: [blkP w.heap.size (.cells zeroCmd 39 (0, 0))]) w9 := ⟨a', cc', by rw [hvd]; exact H10.out⟩
        have HDR2 : Hid (RdB w vd data) := hid (by rw [hvd]; exact HDR.out)
        rw [← hvd]
        obtain ⟨a2, c2, hF⟩ := hF
        have HF := hid hF
        clear hF hvd H10 H8 HDR HBL2
        generalize w9 = zz at *
      case' false =>
        have hd0 : ¬ Cmd.datN (sv : Int) = 1 := fun h => by rw [h] at hD; cases hD
        have hdat := HDAT.out
        rw [if_neg hd0, decide_eq_true_eq] at hdat
        have htl2 : tl = [] := by rw [HTL.out, if_neg hd0]
        rw [htl2] at hRd
        obtain ⟨a2, c2, hvr, _⟩ := RdB.open hRd
        obtain ⟨vd, hvd⟩ : ∃ vd, vd = Value.slice none 0 0 := ⟨_, rfl⟩
        have HVD : Hid (∃ ad cd, vd = .slice ad data.length cd ∧ (ad = none → cd = 0)) := hid ⟨none, 0, by rw [hdat]; exact hvd, fun _ => rfl⟩
        have HF : Hid (Sts w (blkP gc (.cells (cmdV (src : Int) (num : Int) (sv : Int) va vd) 39 (0, 0)) :: rdO r (.slice a2 0 c2) :: rowP 3 1 va k (i64s args) :: [blkP w.heap.size (.cells zeroCmd 39 (0, 0))]) wr) := hid (by
          have h := HSX.out.swap
          rw [hvr] at h
          rw [hvd]
          exact h)
        have HDR2 : Hid (RdB w vd data) := hid (by
          rw [hvd, List.eq_nil_of_length_eq_zero hdat]
          exact ⟨Rd.nil _ _ _ (Nat.zero_le _), by simp⟩)
        clear hRd hne hs hva hD hd0 hdat htl2 hvr hvd
        go_wp2_with fail
        generalize wr = zz at *
      all_goals
        have hstF : ∀ B ∈ blkP gc (.cells (cmdV (src : Int) (num : Int) (sv : Int) va vd) 39 (0, 0)) :: rdO r (.slice a2 0 c2) :: rowP 3 1 va k (i64s args) :: [blkP w.heap.size (.cells zeroCmd 39 (0, 0))], Stable B := stabC (blkP_stable _ _) (stabC (show Stable (rdO r (.slice a2 0 c2)) from blkP_stable _ _) (stabC (rowP_stable _ _ _ _ _) HLB.out))
        have HST := hid hstF
        have HA : ∀ y, Sts w (blkP gc (.cells (cmdV (src : Int) (num : Int) (sv : Int) va vd) 39 (0, 0)) :: rdO r (.slice a2 0 c2) :: rowP 3 1 va k (i64s args) :: [blkP w.heap.size (.cells zeroCmd 39 (0, 0))]) y → Rd y va (i64s args) := fun y hy => (hy.perm (List.perm_middle (l₁ := [_, _]))).rdRow (by rw [i64s_len, HK2.out])
        have HLd : ∀ y, Sts w (blkP gc (.cells (cmdV (src : Int) (num : Int) (sv : Int) va vd) 39 (0, 0)) :: rdO r (.slice a2 0 c2) :: rowP 3 1 va k (i64s args) :: [blkP w.heap.size (.cells zeroCmd 39 (0, 0))]) y → (loadVar 39 ⟨gc, 0, none⟩).run Tryz.prog y = .ok (.agg (cmdV (src : Int) (num : Int) (sv : Int) va vd)) y := fun y hy => ldCmd rfl hy
        have HV : ∀ y, Sts w (blkP gc (.cells (cmdV (src : Int) (num : Int) (sv : Int) va vd) 39 (0, 0)) :: rdO r (.slice a2 0 c2) :: rowP 3 1 va k (i64s args) :: [blkP w.heap.size (.cells zeroCmd 39 (0, 0))]) y → Calls Tryz.prog 12 #[.agg (cmdV (src : Int) (num : Int) (sv : Int) va vd)] y fun e w' => e = .returned (.bool true) ∧ Below y.heap.size y w' := by
          intro y hy
          obtain ⟨ad, cd, hvd, _⟩ := HVD.out
          have hA := HA y hy
          rw [HVA.out, HK2.out] at hA
          have h := cRValid y (src : Int) (num : Int) (sv : Int) aa ca args ad cd data.length (by have := HSN.out.1; omega) (by have := HSN.out.2; omega) (by have := HSV.out; omega) hA (by have := HN.out; omega)
          rw [HOK.out, ← hvd, ← HK2.out, ← HVA.out] at h
          exact h
        have HEn : ∀ y, Sts w (blkP gc (.cells (cmdV (src : Int) (num : Int) (sv : Int) va vd) 39 (0, 0)) :: rdO r (.slice a2 0 c2) :: rowP 3 1 va k (i64s args) :: [blkP w.heap.size (.cells zeroCmd 39 (0, 0))]) y → Calls Tryz.prog 66 #[.agg (cmdV (src : Int) (num : Int) (sv : Int) va vd)] y fun e w' => ∃ r, e = .returned r ∧ New y w' 5 r (u8s (Cmd.enc src num sv args data)) := by
          intro y hy
          obtain ⟨ad, cd, hvd, hnil⟩ := HVD.out
          have hA := HA y hy
          rw [HVA.out, HK2.out] at hA
          have hD2 := HDR2.out.below hy.below
          rw [hvd] at hD2
          have h := cREncode y src num sv aa ca args ad cd data HSN.out.1 HSN.out.2 hA hD2 HN.out hnil HOK.out
          rw [← hvd, ← HK2.out, ← HVA.out] at h
          exact h
        have HCB : ∀ y l, Sts w l y → (convert 35 9 (.slice (some ⟨b, off, none⟩) n c)).run Tryz.prog y = .ok (.string (strB (Cmd.enc src num sv args data))) y := fun y l hy => (HRB.out.below hy.below).str 35 9 5 Tryz.underlying35 Tryz.underlying5 Tryz.underlying9
        have HQ1 := hid HLd
        have HQ2 := hid HV
        have HQ3 := hid HEn
        have HQ4 := hid HCB
        have HQ5 := hid HA
        clear HLd HV HEn HCB HA hstF
        refine wp_region_ordQ (.pure 0 (.pure 1 (.pure 2 (.pure 3 (.pure 4 (.pure 5 (.pure 6 (.pure 7 (.pure 8 (.pure 9 (.pure 10 (.pure 11 (.pure 12 (.pure 13 (.eff 14 (.pure 15 (.pure 16 (.pure 17 (.pure 18 (.pure 21 (.pure 22 (.eff 19 (.pure 20 (.pure 23 (.pure 24 .nil))))))))))))))))))))))))) (fun y => Sts w (blkP gc (.cells (cmdV (src : Int) (num : Int) (sv : Int) va vd) 39 (0, 0)) :: rdO r (.slice a2 0 c2) :: rowP 3 1 va k (i64s args) :: [blkP w.heap.size (.cells zeroCmd 39 (0, 0))]) y) (fun y => Sts w (blkP gc (.cells (cmdV (src : Int) (num : Int) (sv : Int) va vd) 39 (0, 0)) :: rdO r (.slice a2 0 c2) :: rowP 3 1 va k (i64s args) :: [blkP w.heap.size (.cells zeroCmd 39 (0, 0))]) y) (by kernel_rfl) (by kernel_rfl) (HF.out.drew HST.out) (fun y hy => hy) ?_
        iterate 13
          (apply ordq_pure (ho := rfl)
           · go_simp
           · intro x hx; have k0 := (Sts.boxCell hx.tail 0 _ rfl).1; have k1 := (Sts.boxCell hx.tail 1 _ rfl).1; go_simp; rfl
           apply ordq_norm
           · go_simp; rfl)
        apply ordq_pure (ho := rfl)
        · go_simp
        · exact fun x hx => exec_ldS (.tmp 5) 39 rfl rfl (HQ1.out x hx)
        apply ordq_norm
        · go_simp; rfl
        apply ordq_eff (ho := rfl)
        · go_simp
        intro y hy
        refine eff_call (f := 12) (by go_simp) (HQ2.out y hy) ?_
        rintro e w7 ⟨rfl, h7⟩
        refine ⟨_, rfl, (fun y => Sts w (blkP gc (.cells (cmdV (src : Int) (num : Int) (sv : Int) va vd) 39 (0, 0)) :: rdO r (.slice a2 0 c2) :: rowP 3 1 va k (i64s args) :: [blkP w.heap.size (.cells zeroCmd 39 (0, 0))]) y), (fun y => Sts w (blkP gc (.cells (cmdV (src : Int) (num : Int) (sv : Int) va vd) 39 (0, 0)) :: rdO r (.slice a2 0 c2) :: rowP 3 1 va k (i64s args) :: [blkP w.heap.size (.cells zeroCmd 39 (0, 0))]) y), hy.quiet HST.out h7, (fun y hy => hy), (fun _ h => h), ?_⟩
        clear h7 hy y
        apply ordq_norm
        · go_simp; rfl
        iterate 3
          (apply ordq_pure (ho := rfl)
           · go_simp
           · intro x hx; go_simp; rfl
           apply ordq_norm
           · go_simp; rfl)
        apply ordq_pure (ho := rfl)
        · go_simp
        · exact fun x hx => exec_ldS (.tmp 5) 39 rfl rfl (HQ1.out x hx)
        apply ordq_norm
        · go_simp; rfl
        iterate 2
          (apply ordq_pure (ho := rfl)
           · go_simp
           · intro x hx; have k3 := HQ4.out x _ hx; go_simp; rfl
           apply ordq_norm
           · go_simp; rfl)
        apply ordq_eff (ho := rfl)
        · go_simp
        intro y hy
        refine eff_call (f := 66) (by go_simp) (HQ3.out y hy) ?_
        rintro e w7 ⟨rr, rfl, h7⟩
        have h8 := Sts.new HST.out hy h7
        rw [u8s_len] at h8
        refine ⟨_, rfl, (fun y => Sts w (rowP 5 1 rr (Cmd.enc src num sv args data).length (u8s (Cmd.enc src num sv args data)) :: blkP gc (.cells (cmdV (src : Int) (num : Int) (sv : Int) va vd) 39 (0, 0)) :: rdO r (.slice a2 0 c2) :: rowP 3 1 va k (i64s args) :: [blkP w.heap.size (.cells zeroCmd 39 (0, 0))]) y), (fun y => Sts w (rowP 5 1 rr (Cmd.enc src num sv args data).length (u8s (Cmd.enc src num sv args data)) :: blkP gc (.cells (cmdV (src : Int) (num : Int) (sv : Int) va vd) 39 (0, 0)) :: rdO r (.slice a2 0 c2) :: rowP 3 1 va k (i64s args) :: [blkP w.heap.size (.cells zeroCmd 39 (0, 0))]) y), h8, (fun y hy => hy), (fun _ h => h.tail), ?_⟩
        clear h7 h8 hy y
        have CV3 := hid (fun (y : World) (hy : Sts w (rowP 5 1 rr (Cmd.enc src num sv args data).length (u8s (Cmd.enc src num sv args data)) :: blkP gc (.cells (cmdV (src : Int) (num : Int) (sv : Int) va vd) 39 (0, 0)) :: rdO r (.slice a2 0 c2) :: rowP 3 1 va k (i64s args) :: [blkP w.heap.size (.cells zeroCmd 39 (0, 0))]) y) => (Sts.rdB8 hy HRB.out.2).str (P := Tryz.prog) 35 9 5 Tryz.underlying35 Tryz.underlying5 Tryz.underlying9)
        iterate 3
          (apply ordq_norm
           · go_simp; rfl
           apply ordq_pure (ho := rfl)
           · go_simp
           · intro x hx; have k1 := CV3.out x hx; go_simp; rfl)
        apply ordq_norm
        · go_simp; rfl
        refine ordq_nil fun z hz => ?_
        have HZ := hid hz.tail
        clear hz
        obtain ⟨ad, cd, hvd, hnil⟩ := HVD.out
        have HN1 := hid hvd
        have HN2 := hid hnil
        clear hvd hnil
        have H11 := hid (HZ.out.perm (List.perm_middle (l₁ := [_, _, _])))
        have HONE : Hid (((cmdV (src : Int) (num : Int) (sv : Int) va vd) : Array Value).toList.all (fun v => v.oneCell') = true) := hid (by rw [HVA.out, HN1.out]; rfl)
        go_wp2_with (first
          | (refine wpList_ldS rfl (.tmp 5) 39 rfl rfl (.agg (cmdV (src : Int) (num : Int) (sv : Int) va vd)) (ldCmd rfl HZ.out) ?_)
          | (refine wpList_aggS H11.out (stabC (blkP_stable _ _) (stabC (show Stable (rdO r (.slice a2 0 c2)) from blkP_stable _ _) (stabC (rowP_stable _ _ _ _ _) stab0))) rfl (.tmp 2) (.tmp 70) 39 rfl (cmdV (src : Int) (num : Int) (sv : Int) va vd) rfl rfl szCmdR rfl HONE.out ?_; intro w12 h12; have H12 := hid h12; clear h12))
        refine post_cell2S H12.out Tryz.results16 rfl rfl (ldCmd rfl H12.out) (.bool true) rfl ⟨aa, ca, ad, cd, ?_, ?_, ?_, HN2.out, H12.out.below⟩
        · rw [HVA.out, HN1.out, HK2.out]
        · have h := (H12.out.tail.perm (List.perm_middle (l₁ := [_, _]))).rdRow (by rw [i64s_len, HK2.out])
          rw [HVA.out, HK2.out] at h
          exact h
        · have h := HDR2.out.below H12.out.below
          rw [HN1.out] at h
          exact h
end Go.Proofs.YtnklmadmenkdoaaGreat
namespace Go.Proofs.YtnklmadmenkdoaaGreat
open Go.RowKit Go.Proofs.Num
theorem Rd.i64 {w : World} {a : Option Addr} {n c : Nat} {l : List Int} (h : Rd w (.slice a n c) (i64s l)) (k : Nat) (hk : k < l.length) : ∃ b o, a = some ⟨b, o, none⟩ ∧ w.cell? ⟨b, o + k, none⟩ = some (.int .i64 l[k]) := by
  obtain ⟨a0, c9, e0, hc0, hx⟩ := h
  obtain ⟨b0, off, e1, hb0, hx0⟩ := hx k (by rw [i64s_len]; exact hk)
  injection e0 with e2 e3 e4
  subst e2
  subst e1
  exact ⟨b0, off, rfl, by rw [hx0]; simp [i64s]⟩
set_option maxRecDepth 100000 in
set_option maxHeartbeats 2000000 in
theorem cRSame (w : World) (src num s : Int) (a1 a2 d1 d2 : Option Addr) (c1 c2 e1 e2 : Nat) (args : List Int) (data : List Nat) (hA1 : Rd w (.slice a1 args.length c1) (i64s args)) (hA2 : Rd w (.slice a2 args.length c2) (i64s args)) (hD1 : RdB w (.slice d1 data.length e1) data) (hD2 : RdB w (.slice d2 data.length e2) data) (hA : args.length < 100) :
    Calls Tryz.prog 17 #[.agg (cmdV src num s (.slice a1 args.length c1) (.slice d1 data.length e1)), .agg (cmdV src num s (.slice a2 args.length c2) (.slice d2 data.length e2))] w fun e w' => e = .returned (.bool true) ∧ Below w.heap.size w w' := by
  have hS0 := Sts.alloc stab0 (Sts.nil w) (.cells (cmdV src num s (.slice a1 args.length c1) (.slice d1 data.length e1)) 39)
  have hl0 : ∀ B ∈ [blkP w.heap.size (.cells (cmdV src num s (.slice a1 args.length c1) (.slice d1 data.length e1)) 39 (0, 0))], Stable B := stabC (blkP_stable _ _) stab0
  have hS1 := hS0.alloc hl0 (.cells (cmdV src num s (.slice a2 args.length c2) (.slice d2 data.length e2)) 39)
  have hsz : (w.alloc (.cells (cmdV src num s (.slice a1 args.length c1) (.slice d1 data.length e1)) 39)).heap.size = w.heap.size + 1 := by simp
  rw [hsz] at hS1
  have f3 := (Sts.boxCell hS1 3 _ rfl).1
  have f4 := (Sts.boxCell hS1 4 _ rfl).1
  have f0 := (Sts.boxCell hS1 0 _ rfl).1
  have f1 := (Sts.boxCell hS1 1 _ rfl).1
  have f2 := (Sts.boxCell hS1 2 _ rfl).1
  have g3 := (Sts.boxCell hS1.tail 3 _ rfl).1
  have g4 := (Sts.boxCell hS1.tail 4 _ rfl).1
  have g0 := (Sts.boxCell hS1.tail 0 _ rfl).1
  have g1 := (Sts.boxCell hS1.tail 1 _ rfl).1
  have g2 := (Sts.boxCell hS1.tail 2 _ rfl).1
  have k1 := (hD1.below hS1.below).str (P := Tryz.prog) 35 9 5 Tryz.underlying35 Tryz.underlying5 Tryz.underlying9
  have k2 := (hD2.below hS1.below).str (P := Tryz.prog) 35 9 5 Tryz.underlying35 Tryz.underlying5 Tryz.underlying9
  have HS := hid hS1
  have HL := hid (stabC (blkP_stable (w.heap.size + 1) (.cells (cmdV src num s (.slice a2 args.length c2) (.slice d2 data.length e2)) 39 (0, 0))) hl0)
  have HR1 := hid hA1
  have HR2 := hid hA2
  have HA := hid hA
  clear hS0 hl0 hS1 hsz hA1 hA2 hD1 hD2 hA
  unfold cmdV at *
  go_enter Tryz.func17, Tryz.ntmps17
  go_wp2_with fail
  go_loopw [5] (fun i wr => ∃ k : Nat, k ≤ args.length ∧ i = .int .i64 (k : Int) ∧ Sts w [blkP (w.heap.size + 1) (.cells (cmdV src num s (.slice a2 args.length c2) (.slice d2 data.length e2)) 39 (0, 0)), blkP w.heap.size (.cells (cmdV src num s (.slice a1 args.length c1) (.slice d1 data.length e1)) 39 (0, 0))] wr) (fun i _ => args.length - (intOf i).toNat)
  case atStart => exact ⟨0, Nat.zero_le _, rfl, HS.out⟩
  case round =>
    obtain ⟨k, hk, rfl, hs⟩ := hrel
    clear f0 f1 f2 f3 f4 g0 g1 g2 g3 g4 k1 k2
    have f3 : wr.cell? ⟨w.heap.size + 1, 3, none⟩ = some (.slice a2 args.length c2) := (Sts.boxCell hs 3 _ rfl).1
    have g3 : wr.cell? ⟨w.heap.size, 3, none⟩ = some (.slice a1 args.length c1) := (Sts.boxCell hs.tail 3 _ rfl).1
    have HSX := hid hs
    by_cases hlt : k < args.length
    · obtain ⟨b1, o1, hb1, q1⟩ := Rd.i64 (HR1.out.below hs.below) k hlt
      obtain ⟨b2, o2, hb2, q2⟩ := Rd.i64 (HR2.out.below hs.below) k hlt
      rw [hb1] at g3
      rw [hb2] at f3
      clear hb1 hb2 hs
      generalize args[k] = x at *
      have hk0 : (0 : Int) ≤ (k : Int) := Int.natCast_nonneg _
      have hk1 : (k : Int) < ((args.length : Nat) : Int) := by omega
      have hkk : k < 100 := by have := HA.out; omega
      have hxx : (x != x) = false := by simp
      go_wp2_with fail
      go_quiet (fail)
      go_wp2_with fail
      go_roundw
      case rel => exact ⟨k + 1, by omega, by first | rfl | go_num, (HSX.out.quiet HL.out (below_drewN (Below.refl _ _) _))⟩
      case measure => simp [intOf]; omega
    · clear hs
      go_wp2_with fail
      go_ret
      exact ⟨rfl, HSX.out.below⟩
end Go.Proofs.YtnklmadmenkdoaaGreat
