/- The law SinkCompletes. -/
import Derived.Test.YtfjadhkhmhnccaaSnkK
import Derived.Test.YtfjadhkhmhnccaaOpenG
set_option linter.unusedVariables false
set_option linter.unusedSimpArgs false
namespace Fil
open Go
theorem checkV_fit (s : Snk) : s.checkV.fitB = s.fitB := by
  unfold Snk.checkV
  split
  · rfl
  · split
    · rfl
    · split
      · rfl
      · split
        · rfl
        · split <;> rfl
theorem endV_fit (r : Snk × Int) : (Snk.endV r).1.fitB = r.1.fitB := by
  unfold Snk.endV
  split
  · exact checkV_fit _
  · rfl
theorem take_rec {s : Snk} {p : Pdu} {now : Int} (hv : p.validB = true) (hi : ((p.src == (s.adv now).src) && (p.num == (s.adv now).num)) = true) (hf : fwdB p.kind = true) (hc : (((p.kind == 1) || (p.kind == 3)) && (p.cls != (s.adv now).cls)) = false) : s.takeV p now = Snk.endV ((s.adv now).recV p) := by
  unfold Snk.takeV
  rw [hv, hi, hf, hc]
  simp
theorem Snk.Inv.recMeta {b c sm now s} (h : Snk.Inv b c sm now s) : s.takeV (metaP c b.length) now = Snk.endV ((s.adv now).recV (metaP c b.length)) := by
  refine take_rec (metaP_valid c h.hc b.length h.hb) ?_ (by show fwdB 1 = true; decide) ?_
  · rw [h.adv, h.src, h.num]; rfl
  · rw [h.adv, h.cls]; simp [metaP]
theorem Snk.Inv.recEnd {b c sm now s} (h : Snk.Inv b c sm now s) (m : Nat) : s.takeV (endP c b.length m) now = Snk.endV ((s.adv now).recV (endP c b.length m)) := by
  refine take_rec (endP_valid c h.hc b.length m h.hb) ?_ (by show fwdB 3 = true; decide) ?_
  · rw [h.adv, h.src, h.num]; rfl
  · rw [h.adv, h.cls]; simp [endP]
theorem Snk.Inv.recPiece {b c sm now s} (h : Snk.Inv b c sm now s) (po : Nat) (da : Option Addr) (ds : List Nat) (dc : Nat) (h0 : 0 < ds.length) (h1 : po + ds.length ≤ 200) : s.takeV (pieceQ po da ds dc) now = Snk.endV ((s.adv now).recV (pieceQ po da ds dc)) := by
  refine take_rec (pieceQ_valid po da ds dc h0 h1) ?_ (by show fwdB 2 = true; decide) ?_
  · rw [h.adv, h.src, h.num]; rfl
  · simp [pieceQ]
theorem Snk.Inv.fitB {b c sm now s} (h : Snk.Inv b c sm now s) : s.fitB = true := fitB_of h.fit (by have := h.len; omega)
end Fil
namespace Go.Proofs.Ytfjadhkhmhnccaa
open Go.RowKit Go.Proofs.Num
section
variable {W w : World} {l : List HProp} (hl : ∀ B ∈ l, Stable B) (q : Nat) (s : Fil.Snk) (b : List Nat) (c : Int) (sm : Nat) (now : Int) (hs : Sts W (snkP q s :: l) w) (h : Fil.Snk.Inv b c sm now s)
include hl hs h
theorem cTakeMeta (hr : ∀ s', s' = (s.takeV (Fil.metaP c b.length) now).1 → Fil.Snk.Inv b c sm now s') : Calls Try.prog 36 #[.pointer (some ⟨q, 0, none⟩), .agg (Fil.metaP c b.length).cells, .int .i64 now] w fun e w' => ∃ e0, e = .returned (.int .i64 e0) ∧ e0 = (s.takeV (Fil.metaP c b.length) now).2 ∧ Sts W (snkP q (s.takeV (Fil.metaP c b.length) now).1 :: l) w' := by
  refine (cTakeS hl q s _ _ now (Fil.metaP c b.length) hs (show (1 : Nat) ≤ 1000 by omega) (show (0 : Nat) ≤ 1000 by omega) ⟨rfl, rfl, rfl⟩ (rdP_none ⟨rfl, rfl, rfl⟩) (fun hk => by exact absurd hk (by show ¬ ((1 : Int) = 3); decide)) h.fitB ?_ rfl).mono ?_
  · rw [← Fil.endV_fit, ← h.recMeta]; exact (hr _ rfl).fitB
  · rintro e w' ⟨rfl, h⟩; exact ⟨_, rfl, rfl, h⟩
theorem cTakeEnd (m : Nat) (hr : (s.takeV (Fil.endP c b.length m) now).1.fitB = true) : Calls Try.prog 36 #[.pointer (some ⟨q, 0, none⟩), .agg (Fil.endP c b.length m).cells, .int .i64 now] w fun e w' => ∃ e0, e = .returned (.int .i64 e0) ∧ e0 = (s.takeV (Fil.endP c b.length m) now).2 ∧ Sts W (snkP q (s.takeV (Fil.endP c b.length m) now).1 :: l) w' := by
  refine (cTakeS hl q s _ _ now (Fil.endP c b.length m) hs (show (0 : Nat) ≤ 1000 by omega) (show (0 : Nat) ≤ 1000 by omega) ⟨rfl, rfl, rfl⟩ (rdP_none ⟨rfl, rfl, rfl⟩) (fun _ => h.don) h.fitB ?_ rfl).mono ?_
  · rw [← Fil.endV_fit, ← h.recEnd]; exact hr
  · rintro e w' ⟨rfl, h⟩; exact ⟨_, rfl, rfl, h⟩
end
theorem cTakePiece {W w : World} {l : List HProp} (hl : ∀ B ∈ l, Stable B) (q : Nat) (s : Fil.Snk) (b : List Nat) (c : Int) (sm : Nat) (now : Int) (h : Fil.Snk.Inv b c sm now s) (po : Nat) (va : Option Addr) (ds : List Nat) (vc : Nat) (hs : Sts W (snkP q s :: rowP 5 1 (.slice va ds.length vc) ds.length (u8s ds) :: l) w) (h8 : ∀ x ∈ ds, x < 256) (h0 : 0 < ds.length) (h1 : po + ds.length ≤ 200) (hr : (s.takeV (Fil.pieceQ po va ds vc) now).1.fitB = true) : Calls Try.prog 36 #[.pointer (some ⟨q, 0, none⟩), .agg (Fil.pieceQ po va ds vc).cells, .int .i64 now] w fun e w' => ∃ e0, e = .returned (.int .i64 e0) ∧ e0 = (s.takeV (Fil.pieceQ po va ds vc) now).2 ∧ Sts W (snkP q (s.takeV (Fil.pieceQ po va ds vc) now).1 :: l) w' := by
  refine (cTakeS (stabC (rowP_stable _ _ _ _ _) hl) q s _ _ now (Fil.pieceQ po va ds vc) hs (show (0 : Nat) ≤ 1000 by omega) (show ds.length ≤ 1000 by omega) ⟨rfl, rfl, rfl⟩ (rdP_row h8) (fun hk => by exact absurd hk (by show ¬ ((2 : Int) = 3); decide)) h.fitB ?_ rfl).mono ?_
  · rw [← Fil.endV_fit, ← h.recPiece po va ds vc h0 h1]; exact hr
  · rintro e w' ⟨rfl, h⟩; exact ⟨_, rfl, rfl, h.swap.tail⟩
set_option maxRecDepth 100000 in
set_option maxHeartbeats 4000000 in
theorem completes_far (w : World) (v vl : Value) (sec : Bool) (b : List Nat) (L : List Int) (hb : RdB w v b) (hL : Rd w vl (L.map (.int .i64))) (hbig : 200 < b.length ∨ (b.length ≤ 200 ∧ 200 < L.length)) : Calls Try.prog 8 #[v, vl, .bool sec] w fun e w' => e = .returned (.bool true) ∧ Below w.heap.size w w' := by
  obtain ⟨a, cap, rfl, _⟩ := hb.open
  obtain ⟨la, lcap, rfl, _⟩ := hL
  rw [List.length_map]
  clear hb
  rcases hbig with h1 | ⟨h0, h1⟩
  · have h1i : (200 : Int) < b.length := by omega
    have h1d : decide ((200 : Int) < b.length) = true := decide_eq_true h1i
    go_enter Try.func8, Try.ntmps8
    go_wp2_with (first | (go_at_call 32; refine (cAlive28 _).mono ?_; rintro e w9 ⟨rfl, hb9⟩; have H9 := hid hb9; clear hb9))
    go_ret
    exact ⟨rfl, H9.out⟩
  · have h0i : ¬ (200 : Int) < b.length := by omega
    have h0d : decide ((200 : Int) < b.length) = false := decide_eq_false h0i
    have h1i : (200 : Int) < L.length := by omega
    have h1d : decide ((200 : Int) < L.length) = true := decide_eq_true h1i
    go_enter Try.func8, Try.ntmps8
    go_wp2_with (first | (go_at_call 32; refine (cAlive28 _).mono ?_; rintro e w9 ⟨rfl, hb9⟩; have H9 := hid hb9; clear hb9))
    go_ret
    exact ⟨rfl, H9.out⟩
set_option maxRecDepth 100000 in
set_option maxHeartbeats 16000000 in
theorem completes_near (w : World) (v vl : Value) (sec : Bool) (b : List Nat) (L : List Int) (hb : RdB w v b) (hL : Rd w vl (L.map (.int .i64))) (hn : b.length ≤ 200) (hl2 : L.length ≤ 200) : Calls Try.prog 8 #[v, vl, .bool sec] w fun e w' => e = .returned (.bool true) ∧ Below w.heap.size w w' := by
  have HB : Hid (∀ y, Below w.heap.size w y → RdB y v b) := hid fun y hy => hb.below hy
  have HB8 := hid hb.2
  have HLB : Hid (∀ y, Below w.heap.size w y → Rd y vl (L.map (.int .i64))) := hid fun y hy => hL.below hy
  obtain ⟨a, cap, rfl, _⟩ := hb.open
  obtain ⟨la, lcap, rfl, _, hLX⟩ := hL
  rw [List.length_map] at *
  have HLX := hid hLX
  have HN := hid hn
  have h0i : ¬ (200 : Int) < b.length := by omega
  have h0d : decide ((200 : Int) < b.length) = false := decide_eq_false h0i
  have h1i : ¬ (200 : Int) < L.length := by omega
  have h1d : decide ((200 : Int) < L.length) = false := decide_eq_false h1i
  have H0 := hid (Sts.nil w)
  clear hb hLX
  go_enter Try.func8, Try.ntmps8
  cases sec with
  | false =>
    go_wp2_with fail
    clear h0i h0d h1i h1d
    refine (cLId _).mono ?_
    rintro e w1 ⟨rfl, hb⟩
    have H1 := hid (H0.out.quiet stab0 hb)
    clear hb H0
    go_wp2_with fail
    refine (cLConfig _).mono ?_
    rintro e w2 ⟨rfl, hb⟩
    have H2 := hid (H1.out.quiet stab0 hb)
    clear hb H1
    go_wp2_with fail
    refine (cKNewOk stab0 1 5 1 2 10 2 H2.out (by decide)).mono ?_
    rintro e w3 ⟨q, rfl, h⟩
    have HF0 := hid (Fil.snk0_full b 1 (by decide) (Fil.sumV b) HN.out HB8.out (fun _ => False) (fun _ _ h => h))
    have H3 := hid h
    clear h H2
    go_wp2_with fail
    go_loopw [10] (fun i wr => ∃ (k : Nat) (s : Fil.Snk), k ≤ L.length ∧ i = .int .i64 (k : Int) ∧ Fil.Snk.Full b 1 (Fil.sumV b) 0 (fun _ => False) s ∧ Sts w [snkP q s] wr) (fun i _ => L.length - (intOf i).toNat)
    case atStart => exact ⟨0, _, by omega, rfl, HF0.out, H3.out⟩
    case round =>
      obtain ⟨k, s, hk, rfl, hF, hS⟩ := hrel
      have HF := hid hF
      have HS := hid hS
      clear hF hS H3 HF0
      by_cases hlt : k < L.length
      · obtain ⟨b1, o1, e1, hb1, x0⟩ := HLX.out k (by simpa using hlt)
        subst e1
        have p0 := HS.out.below.cell (p := ⟨b1, o1 + k, none⟩) hb1
        rw [x0, List.getElem_map] at p0
        clear x0 hb1
        generalize L[k] = x at *
        obtain ⟨y, hy⟩ : ∃ y, x.tmod 80 = y := ⟨_, rfl⟩
        have hyb : -80 < y ∧ y < 80 := by
          have a1 := Int.tmod_lt_of_pos x (show (0 : Int) < 80 by decide)
          have a2 : -(80 : Int) < x.tmod 80 := by
            have := Int.lt_tmod_of_pos x (show (0 : Int) < 80 by decide); omega
          omega
        have hyw : IntKind.i64.wrap (y + 80) = y + 80 := by rw [IntKind.wrap_i64]; omega
        obtain ⟨kk, hkk⟩ : ∃ kk : Nat, (y + 80).tmod 80 = (kk : Int) := by
          obtain ⟨m, hm⟩ := Int.eq_ofNat_of_zero_le (show 0 ≤ y + 80 by omega)
          exact ⟨m % 80, by rw [hm, Int.tmod_eq_emod_of_nonneg (by omega)]; simp⟩
        have hkb : kk < 80 := by
          have := Int.tmod_lt_of_pos (y + 80) (show (0 : Int) < 80 by decide); omega
        clear hyb
        by_cases h78 : kk = 78
        · subst h78
          go_wp2_with fail
          clear p0 hy hyw hkk
          refine (cLMeta _ _ _ b.length cap).mono ?_
          rintro e w4a ⟨rfl, hb⟩
          have HAw4 := hid (HS.out.quiet (stab1 (snkP_stable _ _)) hb)
          clear hb
          go_wp2_with fail
          refine (cTakeMeta stab0 q s b _ (Fil.sumV b) 0 HAw4.out HF.out.inv (fun s' he => by rw [he]; exact (HF.out.meta' rfl).1.inv)).mono ?_
          rintro e w4 ⟨e0, rfl, he0, h⟩
          have H4 := hid h
          clear h he0 HAw4
          go_wp2_with fail
          go_roundw
          case rel => exact ⟨k + 1, _, by omega, by go_num, (HF.out.meta' rfl).1, H4.out⟩
          case measure => simp [intOf]; omega
        · have n78 : ((kk : Int) == 78) = false := by rw [beq_eq_false_iff_ne]; omega
          by_cases h79 : kk = 79
          · subst h79
            go_wp2_with fail
            clear p0 hy hyw hkk n78
            refine (cLEnd _ _ _ b (HB.out _ HS.out.below) (by have := HN.out; omega)).mono ?_
            rintro e w4a ⟨rfl, hb⟩
            have HAw4 := hid (HS.out.quiet (stab1 (snkP_stable _ _)) hb)
            clear hb
            go_wp2_with fail
            refine (cTakeEnd stab0 q s b _ (Fil.sumV b) 0 HAw4.out HF.out.inv (Fil.sumV b) (HF.out.end' rfl).1.inv.fitB).mono ?_
            rintro e w4 ⟨e0, rfl, he0, h⟩
            have H4 := hid h
            clear h he0 HAw4
            go_wp2_with fail
            go_roundw
            case rel => exact ⟨k + 1, _, by omega, by go_num, (HF.out.end' rfl).1, H4.out⟩
            case measure => simp [intOf]; omega
          · have n79 : ((kk : Int) == 79) = false := by rw [beq_eq_false_iff_ne]; omega
            obtain ⟨f, hf⟩ : ∃ f, f = 3 * kk := ⟨_, rfl⟩
            obtain ⟨f4, hf4⟩ : ∃ f4, f4 = f + 4 := ⟨_, rfl⟩
            have hfi : 3 * (kk : Int) = (f : Int) := by omega
            have hfw : IntKind.i64.wrap (f : Int) = (f : Int) := i64w f (by omega)
            have hf4i : (f : Int) + 4 = (f4 : Int) := by omega
            have hf4w : IntKind.i64.wrap (f4 : Int) = (f4 : Int) := i64w f4 (by omega)
            have HLT : Hid (f < f4 ∧ f4 = f + 4) := hid (by omega)
            clear hf hf4
            by_cases hfn : f < b.length
            · have hfd : decide (f < b.length) = true := decide_eq_true hfn
              have hfi2 : (f : Int) < (b.length : Int) := by omega
              by_cases hm : f4 ≤ b.length
              · have hmi : (f4 : Int) ≤ (b.length : Int) := by omega
                have hmj : min (f4 : Int) (b.length : Int) = (f4 : Int) := by omega
                go_wp2_with fail
                clear p0 hy hyw hkk n78 n79 hfi hfw hf4i hf4w hfd hfi2 hmi hmj
                refine (cLPiece _ _ b (HB.out _ HS.out.below) f f4 (by have := HLT.out; omega) (by omega) (by have := HN.out; omega)).mono ?_
                rintro e w4a ⟨va, vc, rfl, hN⟩
                have hds : (b.drop f).take (f4 - f) = (b.drop f).take ((b.drop f).take (f4 - f)).length := by have := HLT.out; congr 1; first | (simp; done) | (simp; omega)
                have hdl : ((b.drop f).take (f4 - f)).length = f4 - f := by have := HLT.out; first | (simp; done) | (simp; omega)
                have hd8 : ∀ x ∈ (b.drop f).take (f4 - f), x < 256 := fun x hx => HB8.out x (List.mem_of_mem_drop (List.mem_of_mem_take hx))
                have hNN := HS.out.new (stab1 (snkP_stable _ _)) hN
                rw [u8s_len] at hNN
                have hFP := fun va vc => HF.out.piece rfl f va ((b.drop f).take (f4 - f)) vc (by have := HLT.out; rw [hdl]; omega) (by have := HLT.out; rw [hdl]; omega) hds
                rw [hdl] at hFP
                have HNN := hid hNN.swap
                have HFP := hid hFP
                have HD8 := hid hd8
                have HDL := hid hdl
                clear hNN hFP hN hds hd8 hdl
                generalize (b.drop f).take (f4 - f) = ds at *
                go_wp2_with fail
                refine (cTakePiece stab0 q s b _ (Fil.sumV b) 0 HF.out.inv f va ds vc HNN.out HD8.out (by have := HLT.out; rw [HDL.out]; omega) (by have := HLT.out; rw [HDL.out]; have := HN.out; omega) (HFP.out va vc).inv.fitB).mono ?_
                rintro e w4 ⟨e0, rfl, he0, h⟩
                have H4 := hid h
                clear h he0 HNN
                go_wp2_with fail
                go_roundw
                case rel => exact ⟨k + 1, _, by omega, by go_num, (HFP.out va vc).mono (fun m m1 m2 h => Or.inl h), H4.out⟩
                case measure => simp [intOf]; omega
              · have hmi : (b.length : Int) < (f4 : Int) := by omega
                have hmk : ¬ (f4 : Int) ≤ (b.length : Int) := by omega
                have hmj : min (f4 : Int) (b.length : Int) = (b.length : Int) := by omega
                go_wp2_with fail
                clear p0 hy hyw hkk n78 n79 hfi hfw hf4i hf4w hfd hfi2 hmi hmj hmk
                refine (cLPiece _ _ b (HB.out _ HS.out.below) f b.length (by have := HLT.out; omega) (by omega) (by have := HN.out; omega)).mono ?_
                rintro e w4a ⟨va, vc, rfl, hN⟩
                have hds : (b.drop f).take (b.length - f) = (b.drop f).take ((b.drop f).take (b.length - f)).length := by have := HLT.out; congr 1; first | (simp; done) | (simp; omega)
                have hdl : ((b.drop f).take (b.length - f)).length = b.length - f := by have := HLT.out; first | (simp; done) | (simp; omega)
                have hd8 : ∀ x ∈ (b.drop f).take (b.length - f), x < 256 := fun x hx => HB8.out x (List.mem_of_mem_drop (List.mem_of_mem_take hx))
                have hNN := HS.out.new (stab1 (snkP_stable _ _)) hN
                rw [u8s_len] at hNN
                have hFP := fun va vc => HF.out.piece rfl f va ((b.drop f).take (b.length - f)) vc (by have := HLT.out; rw [hdl]; omega) (by have := HLT.out; rw [hdl]; omega) hds
                rw [hdl] at hFP
                have HNN := hid hNN.swap
                have HFP := hid hFP
                have HD8 := hid hd8
                have HDL := hid hdl
                clear hNN hFP hN hds hd8 hdl
                generalize (b.drop f).take (b.length - f) = ds at *
                go_wp2_with fail
                refine (cTakePiece stab0 q s b _ (Fil.sumV b) 0 HF.out.inv f va ds vc HNN.out HD8.out (by have := HLT.out; rw [HDL.out]; omega) (by have := HLT.out; rw [HDL.out]; have := HN.out; omega) (HFP.out va vc).inv.fitB).mono ?_
                rintro e w4 ⟨e0, rfl, he0, h⟩
                have H4 := hid h
                clear h he0 HNN
                go_wp2_with fail
                go_roundw
                case rel => exact ⟨k + 1, _, by omega, by go_num, (HFP.out va vc).mono (fun m m1 m2 h => Or.inl h), H4.out⟩
                case measure => simp [intOf]; omega
            · have hfd : decide (f < b.length) = false := decide_eq_false hfn
              have hfi2 : ¬ (f : Int) < (b.length : Int) := by omega
              go_wp2_with fail
              go_roundw
              case rel => exact ⟨k + 1, _, by omega, by go_num, HF.out, HS.out⟩
              case measure => simp [intOf]; omega
      · obtain rfl : L.length = k := by omega
        go_wp2_with fail
        go_loopw [12] (fun i wr => ∃ (k : Nat) (s : Fil.Snk), k ≤ 100 ∧ i = .int .i64 (k : Int) ∧ Fil.Snk.Full b 1 (Fil.sumV b) 0 (fun m => m < 3 * (k : Int)) s ∧ Sts w [snkP q s] wr) (fun i _ => 100 - (intOf i).toNat)
        case atStart => exact ⟨0, _, by omega, rfl, HF.out.mono (fun m m1 m2 h => by omega), HS.out⟩
        case round =>
          clear HF HS
          obtain ⟨k, s, hk, rfl, hF, hS⟩ := hrel
          have HF := hid hF
          have HS := hid hS
          clear hF hS
          obtain ⟨f, hf⟩ : ∃ f, f = 3 * k := ⟨_, rfl⟩
          obtain ⟨f3, hf3⟩ : ∃ f3, f3 = f + 3 := ⟨_, rfl⟩
          have hfi : 3 * (k : Int) = (f : Int) := by omega
          have hfw : IntKind.i64.wrap (f : Int) = (f : Int) := i64w f (by omega)
          have hf3i : (f : Int) + 3 = (f3 : Int) := by omega
          have hf3w : IntKind.i64.wrap (f3 : Int) = (f3 : Int) := i64w f3 (by omega)
          have HFK := hid hfi
          have HFE : Hid (f = 3 * k ∧ f3 = f + 3) := hid ⟨hf, hf3⟩
          have HLT : Hid (f < f3 ∧ f3 = f + 3) := hid (by omega)
          clear hf hf3
          by_cases hfn : f < b.length
          · have hfd : decide (f < b.length) = true := decide_eq_true hfn
            have hfi2 : (f : Int) < (b.length : Int) := by omega
            by_cases hm : f3 ≤ b.length
            · have hmi : (f3 : Int) ≤ (b.length : Int) := by omega
              have hmj : min (f3 : Int) (b.length : Int) = (f3 : Int) := by omega
              go_wp2_with fail
              clear hfi hfw hf3i hf3w hfd hfi2 hmi hmj
              refine (cLPiece _ _ b (HB.out _ HS.out.below) f f3 (by have := HLT.out; omega) (by omega) (by have := HN.out; omega)).mono ?_
              rintro e w4a ⟨va, vc, rfl, hN⟩
              have hds : (b.drop f).take (f3 - f) = (b.drop f).take ((b.drop f).take (f3 - f)).length := by have := HLT.out; congr 1; first | (simp; done) | (simp; omega)
              have hdl : ((b.drop f).take (f3 - f)).length = f3 - f := by have := HLT.out; first | (simp; done) | (simp; omega)
              have hd8 : ∀ x ∈ (b.drop f).take (f3 - f), x < 256 := fun x hx => HB8.out x (List.mem_of_mem_drop (List.mem_of_mem_take hx))
              have hNN := HS.out.new (stab1 (snkP_stable _ _)) hN
              rw [u8s_len] at hNN
              have hFP := fun va vc => HF.out.piece rfl f va ((b.drop f).take (f3 - f)) vc (by have := HLT.out; rw [hdl]; omega) (by have := HLT.out; rw [hdl]; omega) hds
              rw [hdl] at hFP
              have HNN := hid hNN.swap
              have HFP := hid hFP
              have HD8 := hid hd8
              have HDL := hid hdl
              clear hNN hFP hN hds hd8 hdl
              generalize (b.drop f).take (f3 - f) = ds at *
              go_wp2_with fail
              refine (cTakePiece stab0 q s b _ (Fil.sumV b) 0 HF.out.inv f va ds vc HNN.out HD8.out (by have := HLT.out; rw [HDL.out]; omega) (by have := HLT.out; rw [HDL.out]; have := HN.out; omega) (HFP.out va vc).inv.fitB).mono ?_
              rintro e w4 ⟨e0, rfl, he0, h⟩
              have H4 := hid h
              clear h he0 HNN
              go_wp2_with fail
              go_roundw
              case rel => exact ⟨k + 1, _, by have := HFE.out; have := HN.out; omega, by go_num, (HFP.out va vc).mono (fun m m1 m2 h => by have := HFK.out; have := HLT.out; simp only [Int.natCast_add, Int.natCast_one] at h; omega), H4.out⟩
              case measure => have := HFE.out; have := HN.out; simp [intOf]; omega
            · have hmi : (b.length : Int) < (f3 : Int) := by omega
              have hmk : ¬ (f3 : Int) ≤ (b.length : Int) := by omega
              have hmj : min (f3 : Int) (b.length : Int) = (b.length : Int) := by omega
              go_wp2_with fail
              clear hfi hfw hf3i hf3w hfd hfi2 hmi hmj hmk
              refine (cLPiece _ _ b (HB.out _ HS.out.below) f b.length (by have := HLT.out; omega) (by omega) (by have := HN.out; omega)).mono ?_
              rintro e w4a ⟨va, vc, rfl, hN⟩
              have hds : (b.drop f).take (b.length - f) = (b.drop f).take ((b.drop f).take (b.length - f)).length := by have := HLT.out; congr 1; first | (simp; done) | (simp; omega)
              have hdl : ((b.drop f).take (b.length - f)).length = b.length - f := by have := HLT.out; first | (simp; done) | (simp; omega)
              have hd8 : ∀ x ∈ (b.drop f).take (b.length - f), x < 256 := fun x hx => HB8.out x (List.mem_of_mem_drop (List.mem_of_mem_take hx))
              have hNN := HS.out.new (stab1 (snkP_stable _ _)) hN
              rw [u8s_len] at hNN
              have hFP := fun va vc => HF.out.piece rfl f va ((b.drop f).take (b.length - f)) vc (by have := HLT.out; rw [hdl]; omega) (by have := HLT.out; rw [hdl]; omega) hds
              rw [hdl] at hFP
              have HNN := hid hNN.swap
              have HFP := hid hFP
              have HD8 := hid hd8
              have HDL := hid hdl
              clear hNN hFP hN hds hd8 hdl
              generalize (b.drop f).take (b.length - f) = ds at *
              go_wp2_with fail
              refine (cTakePiece stab0 q s b _ (Fil.sumV b) 0 HF.out.inv f va ds vc HNN.out HD8.out (by have := HLT.out; rw [HDL.out]; omega) (by have := HLT.out; rw [HDL.out]; have := HN.out; omega) (HFP.out va vc).inv.fitB).mono ?_
              rintro e w4 ⟨e0, rfl, he0, h⟩
              have H4 := hid h
              clear h he0 HNN
              go_wp2_with fail
              go_roundw
              case rel => exact ⟨k + 1, _, by have := HFE.out; have := HN.out; omega, by go_num, (HFP.out va vc).mono (fun m m1 m2 h => by have := HFK.out; have := HLT.out; simp only [Int.natCast_add, Int.natCast_one] at h; omega), H4.out⟩
              case measure => have := HFE.out; have := HN.out; simp [intOf]; omega
          · have hfd : decide (f < b.length) = false := decide_eq_false hfn
            have hfi2 : ¬ (f : Int) < (b.length : Int) := by omega
            have HFQ := hid (HF.out.mono (T := fun _ => True) (fun m m1 m2 _ => by have := HFE.out; omega))
            go_wp2_with fail
            clear hfi hfw hf3i hf3w hfd hfi2 HF
            have HF := HFQ
            refine (cLEnd _ _ _ b (HB.out _ HS.out.below) (by have := HN.out; omega)).mono ?_
            rintro e w4a ⟨rfl, hb⟩
            have HAw4 := hid (HS.out.quiet (stab1 (snkP_stable _ _)) hb)
            clear hb
            go_wp2_with fail
            refine (cTakeEnd stab0 q s b _ (Fil.sumV b) 0 HAw4.out HF.out.inv (Fil.sumV b) (HF.out.end' rfl).1.inv.fitB).mono ?_
            rintro e w4 ⟨e0, rfl, he0, h⟩
            have H4 := hid h
            clear h he0 HAw4
            go_wp2_with fail
            have HE := hid (HF.out.end' rfl)
            generalize hs2 : (s.takeV (Fil.endP 1 b.length (Fil.sumV b)) 0).1 = s2 at *
            clear hs2 HF HFQ HS
            have HF := hid HE.out.1
            refine (cLMeta _ _ _ b.length cap).mono ?_
            rintro e w5a ⟨rfl, hb⟩
            have HAw5 := hid (H4.out.quiet (stab1 (snkP_stable _ _)) hb)
            clear hb
            go_wp2_with fail
            refine (cTakeMeta stab0 q s2 b _ (Fil.sumV b) 0 HAw5.out HF.out.inv (fun s' he => by rw [he]; exact (HF.out.meta' rfl).1.inv)).mono ?_
            rintro e w5 ⟨e0, rfl, he0, h⟩
            have H5 := hid h
            clear h he0 HAw5
            go_wp2_with fail
            have hph := (HE.out.1.meta' rfl).2 HE.out.2 (fun _ _ _ => trivial)
            have hfu := (HE.out.1.meta' rfl).1
            generalize hs3 : (s2.takeV (Fil.metaP 1 b.length) 0).1 = s3 at *
            clear hs3 HE HF H4
            obtain ⟨dn1, dn2, dn3, dn4, dn5⟩ := hfu.done hph
            have HPH := hid hph
            have HFU := hid hfu
            have HD1 := hid dn1
            have HD2 := hid dn2
            have HD3 := hid dn3
            have HD4 := hid dn4
            have HD5 := hid dn5
            clear hph hfu dn1 dn2 dn3 dn4 dn5
            refine (cFileYes stab0 q s3 H5.out (Or.inl HPH.out) HFU.out.inv.fit).mono ?_
            rintro e w6 ⟨fr, rfl, h⟩
            rw [HD2.out] at h
            have H6 := hid h
            clear h H5
            obtain ⟨sb, hsb⟩ : ∃ sb, sb = strB b := ⟨_, rfl⟩
            have cv1 : (convert 24 9 fr).run Try.prog w6 = .ok (.string sb) w6 := by rw [hsb]; exact RdB.str ⟨Rd.of_own (Sts.rowOwn H6.out) (u8s_len _), HB8.out⟩ 24 9 5 Try.underlying24 Try.underlying5 Try.underlying9
            have cv2 : (convert 24 9 (.slice a b.length cap)).run Try.prog w6 = .ok (.string sb) w6 := by rw [hsb]; exact RdB.str (HB.out _ H6.out.below) 24 9 5 Try.underlying24 Try.underlying5 Try.underlying9
            have hnm : s3.name = ⟨#[120]⟩ := HD1.out
            rw [hnm]
            clear hsb hnm
            go_wp2_with fail
            clear cv1 cv2
            refine (cMissK stab0 q s3 H6.out.tail b.length HD3.out (by have := HN.out; omega) (by have := HFU.out.inv.len; omega)).mono ?_
            rintro e w7 ⟨r, rfl, hN⟩
            rw [HD4.out] at hN
            obtain ⟨ra, rc, hr⟩ := hN.rd.eq
            subst hr
            have H7 := hid (H6.out.tail.quiet (stab1 (snkP_stable _ _)) hN.below)
            clear hN H6
            go_wp2_with fail
            refine (cStateK q s3 H7.out).mono ?_
            rintro e w8 ⟨rfl, rfl⟩
            rw [HD5.out]
            go_wp2_with fail
            refine (cAlive28 _).mono ?_
            rintro e w9 ⟨rfl, hb9⟩
            have H9 := hid (H7.out.below.trans (hb9.mono H7.out.below.size))
            clear hb9
            go_wp2_with fail
            go_ret
            exact ⟨rfl, H9.out⟩
  | true =>
    go_wp2_with fail
    clear h0i h0d h1i h1d
    refine (cLId _).mono ?_
    rintro e w1 ⟨rfl, hb⟩
    have H1 := hid (H0.out.quiet stab0 hb)
    clear hb H0
    go_wp2_with fail
    refine (cLConfig _).mono ?_
    rintro e w2 ⟨rfl, hb⟩
    have H2 := hid (H1.out.quiet stab0 hb)
    clear hb H1
    go_wp2_with fail
    refine (cKNewOk stab0 1 5 2 2 10 2 H2.out (by decide)).mono ?_
    rintro e w3 ⟨q, rfl, h⟩
    have HF0 := hid (Fil.snk0_full b 2 (by decide) (Fil.sumV b) HN.out HB8.out (fun _ => False) (fun _ _ h => h))
    have H3 := hid h
    clear h H2
    go_wp2_with fail
    go_loopw [10] (fun i wr => ∃ (k : Nat) (s : Fil.Snk), k ≤ L.length ∧ i = .int .i64 (k : Int) ∧ Fil.Snk.Full b 2 (Fil.sumV b) 0 (fun _ => False) s ∧ Sts w [snkP q s] wr) (fun i _ => L.length - (intOf i).toNat)
    case atStart => exact ⟨0, _, by omega, rfl, HF0.out, H3.out⟩
    case round =>
      obtain ⟨k, s, hk, rfl, hF, hS⟩ := hrel
      have HF := hid hF
      have HS := hid hS
      clear hF hS H3 HF0
      by_cases hlt : k < L.length
      · obtain ⟨b1, o1, e1, hb1, x0⟩ := HLX.out k (by simpa using hlt)
        subst e1
        have p0 := HS.out.below.cell (p := ⟨b1, o1 + k, none⟩) hb1
        rw [x0, List.getElem_map] at p0
        clear x0 hb1
        generalize L[k] = x at *
        obtain ⟨y, hy⟩ : ∃ y, x.tmod 80 = y := ⟨_, rfl⟩
        have hyb : -80 < y ∧ y < 80 := by
          have a1 := Int.tmod_lt_of_pos x (show (0 : Int) < 80 by decide)
          have a2 : -(80 : Int) < x.tmod 80 := by
            have := Int.lt_tmod_of_pos x (show (0 : Int) < 80 by decide); omega
          omega
        have hyw : IntKind.i64.wrap (y + 80) = y + 80 := by rw [IntKind.wrap_i64]; omega
        obtain ⟨kk, hkk⟩ : ∃ kk : Nat, (y + 80).tmod 80 = (kk : Int) := by
          obtain ⟨m, hm⟩ := Int.eq_ofNat_of_zero_le (show 0 ≤ y + 80 by omega)
          exact ⟨m % 80, by rw [hm, Int.tmod_eq_emod_of_nonneg (by omega)]; simp⟩
        have hkb : kk < 80 := by
          have := Int.tmod_lt_of_pos (y + 80) (show (0 : Int) < 80 by decide); omega
        clear hyb
        by_cases h78 : kk = 78
        · subst h78
          go_wp2_with fail
          clear p0 hy hyw hkk
          refine (cLMeta _ _ _ b.length cap).mono ?_
          rintro e w4a ⟨rfl, hb⟩
          have HAw4 := hid (HS.out.quiet (stab1 (snkP_stable _ _)) hb)
          clear hb
          go_wp2_with fail
          refine (cTakeMeta stab0 q s b _ (Fil.sumV b) 0 HAw4.out HF.out.inv (fun s' he => by rw [he]; exact (HF.out.meta' rfl).1.inv)).mono ?_
          rintro e w4 ⟨e0, rfl, he0, h⟩
          have H4 := hid h
          clear h he0 HAw4
          go_wp2_with fail
          go_roundw
          case rel => exact ⟨k + 1, _, by omega, by go_num, (HF.out.meta' rfl).1, H4.out⟩
          case measure => simp [intOf]; omega
        · have n78 : ((kk : Int) == 78) = false := by rw [beq_eq_false_iff_ne]; omega
          by_cases h79 : kk = 79
          · subst h79
            go_wp2_with fail
            clear p0 hy hyw hkk n78
            refine (cLEnd _ _ _ b (HB.out _ HS.out.below) (by have := HN.out; omega)).mono ?_
            rintro e w4a ⟨rfl, hb⟩
            have HAw4 := hid (HS.out.quiet (stab1 (snkP_stable _ _)) hb)
            clear hb
            go_wp2_with fail
            refine (cTakeEnd stab0 q s b _ (Fil.sumV b) 0 HAw4.out HF.out.inv (Fil.sumV b) (HF.out.end' rfl).1.inv.fitB).mono ?_
            rintro e w4 ⟨e0, rfl, he0, h⟩
            have H4 := hid h
            clear h he0 HAw4
            go_wp2_with fail
            go_roundw
            case rel => exact ⟨k + 1, _, by omega, by go_num, (HF.out.end' rfl).1, H4.out⟩
            case measure => simp [intOf]; omega
          · have n79 : ((kk : Int) == 79) = false := by rw [beq_eq_false_iff_ne]; omega
            obtain ⟨f, hf⟩ : ∃ f, f = 3 * kk := ⟨_, rfl⟩
            obtain ⟨f4, hf4⟩ : ∃ f4, f4 = f + 4 := ⟨_, rfl⟩
            have hfi : 3 * (kk : Int) = (f : Int) := by omega
            have hfw : IntKind.i64.wrap (f : Int) = (f : Int) := i64w f (by omega)
            have hf4i : (f : Int) + 4 = (f4 : Int) := by omega
            have hf4w : IntKind.i64.wrap (f4 : Int) = (f4 : Int) := i64w f4 (by omega)
            have HLT : Hid (f < f4 ∧ f4 = f + 4) := hid (by omega)
            clear hf hf4
            by_cases hfn : f < b.length
            · have hfd : decide (f < b.length) = true := decide_eq_true hfn
              have hfi2 : (f : Int) < (b.length : Int) := by omega
              by_cases hm : f4 ≤ b.length
              · have hmi : (f4 : Int) ≤ (b.length : Int) := by omega
                have hmj : min (f4 : Int) (b.length : Int) = (f4 : Int) := by omega
                go_wp2_with fail
                clear p0 hy hyw hkk n78 n79 hfi hfw hf4i hf4w hfd hfi2 hmi hmj
                refine (cLPiece _ _ b (HB.out _ HS.out.below) f f4 (by have := HLT.out; omega) (by omega) (by have := HN.out; omega)).mono ?_
                rintro e w4a ⟨va, vc, rfl, hN⟩
                have hds : (b.drop f).take (f4 - f) = (b.drop f).take ((b.drop f).take (f4 - f)).length := by have := HLT.out; congr 1; first | (simp; done) | (simp; omega)
                have hdl : ((b.drop f).take (f4 - f)).length = f4 - f := by have := HLT.out; first | (simp; done) | (simp; omega)
                have hd8 : ∀ x ∈ (b.drop f).take (f4 - f), x < 256 := fun x hx => HB8.out x (List.mem_of_mem_drop (List.mem_of_mem_take hx))
                have hNN := HS.out.new (stab1 (snkP_stable _ _)) hN
                rw [u8s_len] at hNN
                have hFP := fun va vc => HF.out.piece rfl f va ((b.drop f).take (f4 - f)) vc (by have := HLT.out; rw [hdl]; omega) (by have := HLT.out; rw [hdl]; omega) hds
                rw [hdl] at hFP
                have HNN := hid hNN.swap
                have HFP := hid hFP
                have HD8 := hid hd8
                have HDL := hid hdl
                clear hNN hFP hN hds hd8 hdl
                generalize (b.drop f).take (f4 - f) = ds at *
                go_wp2_with fail
                refine (cTakePiece stab0 q s b _ (Fil.sumV b) 0 HF.out.inv f va ds vc HNN.out HD8.out (by have := HLT.out; rw [HDL.out]; omega) (by have := HLT.out; rw [HDL.out]; have := HN.out; omega) (HFP.out va vc).inv.fitB).mono ?_
                rintro e w4 ⟨e0, rfl, he0, h⟩
                have H4 := hid h
                clear h he0 HNN
                go_wp2_with fail
                go_roundw
                case rel => exact ⟨k + 1, _, by omega, by go_num, (HFP.out va vc).mono (fun m m1 m2 h => Or.inl h), H4.out⟩
                case measure => simp [intOf]; omega
              · have hmi : (b.length : Int) < (f4 : Int) := by omega
                have hmk : ¬ (f4 : Int) ≤ (b.length : Int) := by omega
                have hmj : min (f4 : Int) (b.length : Int) = (b.length : Int) := by omega
                go_wp2_with fail
                clear p0 hy hyw hkk n78 n79 hfi hfw hf4i hf4w hfd hfi2 hmi hmj hmk
                refine (cLPiece _ _ b (HB.out _ HS.out.below) f b.length (by have := HLT.out; omega) (by omega) (by have := HN.out; omega)).mono ?_
                rintro e w4a ⟨va, vc, rfl, hN⟩
                have hds : (b.drop f).take (b.length - f) = (b.drop f).take ((b.drop f).take (b.length - f)).length := by have := HLT.out; congr 1; first | (simp; done) | (simp; omega)
                have hdl : ((b.drop f).take (b.length - f)).length = b.length - f := by have := HLT.out; first | (simp; done) | (simp; omega)
                have hd8 : ∀ x ∈ (b.drop f).take (b.length - f), x < 256 := fun x hx => HB8.out x (List.mem_of_mem_drop (List.mem_of_mem_take hx))
                have hNN := HS.out.new (stab1 (snkP_stable _ _)) hN
                rw [u8s_len] at hNN
                have hFP := fun va vc => HF.out.piece rfl f va ((b.drop f).take (b.length - f)) vc (by have := HLT.out; rw [hdl]; omega) (by have := HLT.out; rw [hdl]; omega) hds
                rw [hdl] at hFP
                have HNN := hid hNN.swap
                have HFP := hid hFP
                have HD8 := hid hd8
                have HDL := hid hdl
                clear hNN hFP hN hds hd8 hdl
                generalize (b.drop f).take (b.length - f) = ds at *
                go_wp2_with fail
                refine (cTakePiece stab0 q s b _ (Fil.sumV b) 0 HF.out.inv f va ds vc HNN.out HD8.out (by have := HLT.out; rw [HDL.out]; omega) (by have := HLT.out; rw [HDL.out]; have := HN.out; omega) (HFP.out va vc).inv.fitB).mono ?_
                rintro e w4 ⟨e0, rfl, he0, h⟩
                have H4 := hid h
                clear h he0 HNN
                go_wp2_with fail
                go_roundw
                case rel => exact ⟨k + 1, _, by omega, by go_num, (HFP.out va vc).mono (fun m m1 m2 h => Or.inl h), H4.out⟩
                case measure => simp [intOf]; omega
            · have hfd : decide (f < b.length) = false := decide_eq_false hfn
              have hfi2 : ¬ (f : Int) < (b.length : Int) := by omega
              go_wp2_with fail
              go_roundw
              case rel => exact ⟨k + 1, _, by omega, by go_num, HF.out, HS.out⟩
              case measure => simp [intOf]; omega
      · obtain rfl : L.length = k := by omega
        go_wp2_with fail
        go_loopw [12] (fun i wr => ∃ (k : Nat) (s : Fil.Snk), k ≤ 100 ∧ i = .int .i64 (k : Int) ∧ Fil.Snk.Full b 2 (Fil.sumV b) 0 (fun m => m < 3 * (k : Int)) s ∧ Sts w [snkP q s] wr) (fun i _ => 100 - (intOf i).toNat)
        case atStart => exact ⟨0, _, by omega, rfl, HF.out.mono (fun m m1 m2 h => by omega), HS.out⟩
        case round =>
          clear HF HS
          obtain ⟨k, s, hk, rfl, hF, hS⟩ := hrel
          have HF := hid hF
          have HS := hid hS
          clear hF hS
          obtain ⟨f, hf⟩ : ∃ f, f = 3 * k := ⟨_, rfl⟩
          obtain ⟨f3, hf3⟩ : ∃ f3, f3 = f + 3 := ⟨_, rfl⟩
          have hfi : 3 * (k : Int) = (f : Int) := by omega
          have hfw : IntKind.i64.wrap (f : Int) = (f : Int) := i64w f (by omega)
          have hf3i : (f : Int) + 3 = (f3 : Int) := by omega
          have hf3w : IntKind.i64.wrap (f3 : Int) = (f3 : Int) := i64w f3 (by omega)
          have HFK := hid hfi
          have HFE : Hid (f = 3 * k ∧ f3 = f + 3) := hid ⟨hf, hf3⟩
          have HLT : Hid (f < f3 ∧ f3 = f + 3) := hid (by omega)
          clear hf hf3
          by_cases hfn : f < b.length
          · have hfd : decide (f < b.length) = true := decide_eq_true hfn
            have hfi2 : (f : Int) < (b.length : Int) := by omega
            by_cases hm : f3 ≤ b.length
            · have hmi : (f3 : Int) ≤ (b.length : Int) := by omega
              have hmj : min (f3 : Int) (b.length : Int) = (f3 : Int) := by omega
              go_wp2_with fail
              clear hfi hfw hf3i hf3w hfd hfi2 hmi hmj
              refine (cLPiece _ _ b (HB.out _ HS.out.below) f f3 (by have := HLT.out; omega) (by omega) (by have := HN.out; omega)).mono ?_
              rintro e w4a ⟨va, vc, rfl, hN⟩
              have hds : (b.drop f).take (f3 - f) = (b.drop f).take ((b.drop f).take (f3 - f)).length := by have := HLT.out; congr 1; first | (simp; done) | (simp; omega)
              have hdl : ((b.drop f).take (f3 - f)).length = f3 - f := by have := HLT.out; first | (simp; done) | (simp; omega)
              have hd8 : ∀ x ∈ (b.drop f).take (f3 - f), x < 256 := fun x hx => HB8.out x (List.mem_of_mem_drop (List.mem_of_mem_take hx))
              have hNN := HS.out.new (stab1 (snkP_stable _ _)) hN
              rw [u8s_len] at hNN
              have hFP := fun va vc => HF.out.piece rfl f va ((b.drop f).take (f3 - f)) vc (by have := HLT.out; rw [hdl]; omega) (by have := HLT.out; rw [hdl]; omega) hds
              rw [hdl] at hFP
              have HNN := hid hNN.swap
              have HFP := hid hFP
              have HD8 := hid hd8
              have HDL := hid hdl
              clear hNN hFP hN hds hd8 hdl
              generalize (b.drop f).take (f3 - f) = ds at *
              go_wp2_with fail
              refine (cTakePiece stab0 q s b _ (Fil.sumV b) 0 HF.out.inv f va ds vc HNN.out HD8.out (by have := HLT.out; rw [HDL.out]; omega) (by have := HLT.out; rw [HDL.out]; have := HN.out; omega) (HFP.out va vc).inv.fitB).mono ?_
              rintro e w4 ⟨e0, rfl, he0, h⟩
              have H4 := hid h
              clear h he0 HNN
              go_wp2_with fail
              go_roundw
              case rel => exact ⟨k + 1, _, by have := HFE.out; have := HN.out; omega, by go_num, (HFP.out va vc).mono (fun m m1 m2 h => by have := HFK.out; have := HLT.out; simp only [Int.natCast_add, Int.natCast_one] at h; omega), H4.out⟩
              case measure => have := HFE.out; have := HN.out; simp [intOf]; omega
            · have hmi : (b.length : Int) < (f3 : Int) := by omega
              have hmk : ¬ (f3 : Int) ≤ (b.length : Int) := by omega
              have hmj : min (f3 : Int) (b.length : Int) = (b.length : Int) := by omega
              go_wp2_with fail
              clear hfi hfw hf3i hf3w hfd hfi2 hmi hmj hmk
              refine (cLPiece _ _ b (HB.out _ HS.out.below) f b.length (by have := HLT.out; omega) (by omega) (by have := HN.out; omega)).mono ?_
              rintro e w4a ⟨va, vc, rfl, hN⟩
              have hds : (b.drop f).take (b.length - f) = (b.drop f).take ((b.drop f).take (b.length - f)).length := by have := HLT.out; congr 1; first | (simp; done) | (simp; omega)
              have hdl : ((b.drop f).take (b.length - f)).length = b.length - f := by have := HLT.out; first | (simp; done) | (simp; omega)
              have hd8 : ∀ x ∈ (b.drop f).take (b.length - f), x < 256 := fun x hx => HB8.out x (List.mem_of_mem_drop (List.mem_of_mem_take hx))
              have hNN := HS.out.new (stab1 (snkP_stable _ _)) hN
              rw [u8s_len] at hNN
              have hFP := fun va vc => HF.out.piece rfl f va ((b.drop f).take (b.length - f)) vc (by have := HLT.out; rw [hdl]; omega) (by have := HLT.out; rw [hdl]; omega) hds
              rw [hdl] at hFP
              have HNN := hid hNN.swap
              have HFP := hid hFP
              have HD8 := hid hd8
              have HDL := hid hdl
              clear hNN hFP hN hds hd8 hdl
              generalize (b.drop f).take (b.length - f) = ds at *
              go_wp2_with fail
              refine (cTakePiece stab0 q s b _ (Fil.sumV b) 0 HF.out.inv f va ds vc HNN.out HD8.out (by have := HLT.out; rw [HDL.out]; omega) (by have := HLT.out; rw [HDL.out]; have := HN.out; omega) (HFP.out va vc).inv.fitB).mono ?_
              rintro e w4 ⟨e0, rfl, he0, h⟩
              have H4 := hid h
              clear h he0 HNN
              go_wp2_with fail
              go_roundw
              case rel => exact ⟨k + 1, _, by have := HFE.out; have := HN.out; omega, by go_num, (HFP.out va vc).mono (fun m m1 m2 h => by have := HFK.out; have := HLT.out; simp only [Int.natCast_add, Int.natCast_one] at h; omega), H4.out⟩
              case measure => have := HFE.out; have := HN.out; simp [intOf]; omega
          · have hfd : decide (f < b.length) = false := decide_eq_false hfn
            have hfi2 : ¬ (f : Int) < (b.length : Int) := by omega
            have HFQ := hid (HF.out.mono (T := fun _ => True) (fun m m1 m2 _ => by have := HFE.out; omega))
            go_wp2_with fail
            clear hfi hfw hf3i hf3w hfd hfi2 HF
            have HF := HFQ
            refine (cLEnd _ _ _ b (HB.out _ HS.out.below) (by have := HN.out; omega)).mono ?_
            rintro e w4a ⟨rfl, hb⟩
            have HAw4 := hid (HS.out.quiet (stab1 (snkP_stable _ _)) hb)
            clear hb
            go_wp2_with fail
            refine (cTakeEnd stab0 q s b _ (Fil.sumV b) 0 HAw4.out HF.out.inv (Fil.sumV b) (HF.out.end' rfl).1.inv.fitB).mono ?_
            rintro e w4 ⟨e0, rfl, he0, h⟩
            have H4 := hid h
            clear h he0 HAw4
            go_wp2_with fail
            have HE := hid (HF.out.end' rfl)
            generalize hs2 : (s.takeV (Fil.endP 2 b.length (Fil.sumV b)) 0).1 = s2 at *
            clear hs2 HF HFQ HS
            have HF := hid HE.out.1
            refine (cLMeta _ _ _ b.length cap).mono ?_
            rintro e w5a ⟨rfl, hb⟩
            have HAw5 := hid (H4.out.quiet (stab1 (snkP_stable _ _)) hb)
            clear hb
            go_wp2_with fail
            refine (cTakeMeta stab0 q s2 b _ (Fil.sumV b) 0 HAw5.out HF.out.inv (fun s' he => by rw [he]; exact (HF.out.meta' rfl).1.inv)).mono ?_
            rintro e w5 ⟨e0, rfl, he0, h⟩
            have H5 := hid h
            clear h he0 HAw5
            go_wp2_with fail
            have hph := (HE.out.1.meta' rfl).2 HE.out.2 (fun _ _ _ => trivial)
            have hfu := (HE.out.1.meta' rfl).1
            generalize hs3 : (s2.takeV (Fil.metaP 2 b.length) 0).1 = s3 at *
            clear hs3 HE HF H4
            obtain ⟨dn1, dn2, dn3, dn4, dn5⟩ := hfu.done hph
            have HPH := hid hph
            have HFU := hid hfu
            have HD1 := hid dn1
            have HD2 := hid dn2
            have HD3 := hid dn3
            have HD4 := hid dn4
            have HD5 := hid dn5
            clear hph hfu dn1 dn2 dn3 dn4 dn5
            refine (cFileYes stab0 q s3 H5.out (Or.inl HPH.out) HFU.out.inv.fit).mono ?_
            rintro e w6 ⟨fr, rfl, h⟩
            rw [HD2.out] at h
            have H6 := hid h
            clear h H5
            obtain ⟨sb, hsb⟩ : ∃ sb, sb = strB b := ⟨_, rfl⟩
            have cv1 : (convert 24 9 fr).run Try.prog w6 = .ok (.string sb) w6 := by rw [hsb]; exact RdB.str ⟨Rd.of_own (Sts.rowOwn H6.out) (u8s_len _), HB8.out⟩ 24 9 5 Try.underlying24 Try.underlying5 Try.underlying9
            have cv2 : (convert 24 9 (.slice a b.length cap)).run Try.prog w6 = .ok (.string sb) w6 := by rw [hsb]; exact RdB.str (HB.out _ H6.out.below) 24 9 5 Try.underlying24 Try.underlying5 Try.underlying9
            have hnm : s3.name = ⟨#[120]⟩ := HD1.out
            rw [hnm]
            clear hsb hnm
            go_wp2_with fail
            clear cv1 cv2
            refine (cMissK stab0 q s3 H6.out.tail b.length HD3.out (by have := HN.out; omega) (by have := HFU.out.inv.len; omega)).mono ?_
            rintro e w7 ⟨r, rfl, hN⟩
            rw [HD4.out] at hN
            obtain ⟨ra, rc, hr⟩ := hN.rd.eq
            subst hr
            have H7 := hid (H6.out.tail.quiet (stab1 (snkP_stable _ _)) hN.below)
            clear hN H6
            go_wp2_with fail
            refine (cStateK q s3 H7.out).mono ?_
            rintro e w8 ⟨rfl, rfl⟩
            rw [HD5.out]
            go_wp2_with fail
            refine (cAlive28 _).mono ?_
            rintro e w9 ⟨rfl, hb9⟩
            have H9 := hid (H7.out.below.trans (hb9.mono H7.out.below.size))
            clear hb9
            go_wp2_with fail
            go_ret
            exact ⟨rfl, H9.out⟩
theorem completes_all (w : World) (v vl : Value) (sec : Bool) (b : List Nat) (L : List Int) (hb : RdB w v b) (hL : Rd w vl (L.map (.int .i64))) : Calls Try.prog 8 #[v, vl, .bool sec] w fun e w' => e = .returned (.bool true) ∧ Below w.heap.size w w' := by
  by_cases h1 : b.length ≤ 200
  · by_cases h2 : L.length ≤ 200
    · exact completes_near w v vl sec b L hb hL h1 h2
    · exact completes_far w v vl sec b L hb hL (Or.inr ⟨h1, by omega⟩)
  · exact completes_far w v vl sec b L hb hL (Or.inl (by omega))
end Go.Proofs.Ytfjadhkhmhnccaa
