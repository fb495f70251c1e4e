/- The law SinkRefuses. -/
import Derived.Test.YtfjadhkhmhnccaaSnkP
set_option linter.unusedVariables false
set_option linter.unusedSimpArgs false
namespace Fil
open Go
/-- A reception ahead of its end. -/
structure Snk.Pre (b : List Nat) (c : Int) (now : Int) (S : Int → Prop) (s : Snk) : Prop where
  inv : Snk.Inv b c 0 now s
  ph : s.phase = 0
  fin : s.fin = false
  ack : s.ack = false
  nak : s.nak = false
  cov : ∀ m : Int, 0 ≤ m → m < b.length → S m → Rng.Mem m s.got
theorem Snk.Pre.meta' {b c now S s} (h : Snk.Pre b c now S s) : ∃ s', s.takeV (metaP c b.length) now = (s', 0) ∧ Snk.Pre b c now S s' ∧ s'.named = true ∧ s'.got = s.got := by
  obtain ⟨e0, i1, i2, i3, i4, i5, i6, i7⟩ := h.inv.md
  rw [h.inv.takeMeta, if_pos h.ph]
  unfold Snk.endV
  rw [if_pos e0]
  have hc := i1.check0 (fun hh => by have := hh.2.2.1; rw [i3, h.fin] at this; cases this)
  rw [hc]
  exact ⟨_, rfl, ⟨i1, by rw [i5, h.ph], by rw [i3, h.fin], by rw [i6, h.ack], by rw [i7, h.nak], by rw [i4]; exact h.cov⟩, i2, i4⟩
theorem Snk.Pre.piece {b c now S s} (h : Snk.Pre b c now S s) (po : Nat) (da : Option Addr) (ds : List Nat) (dc : Nat) (h0 : 0 < ds.length) (hpo : po + ds.length ≤ b.length) (hds : ds = (b.drop po).take ds.length) :
    ∃ s', s.takeV (pieceQ po da ds dc) now = (s', 0) ∧ Snk.Pre b c now (fun m => S m ∨ ((po : Int) ≤ m ∧ m < ((po + ds.length : Nat) : Int))) s' ∧ s'.named = s.named ∧ s'.got = Rng.put s.got ((po : Int), ((po + ds.length : Nat) : Int)) := by
  have hb := h.inv.hb
  obtain ⟨e0, i1, i2, i3, i4, i5, i6, i7⟩ := h.inv.pc po ds hpo hds
  rw [h.inv.takePiece po da ds dc h0 (by omega), if_pos h.ph]
  unfold Snk.endV
  rw [if_pos e0]
  have hc := i1.check0 (fun hh => by have := hh.2.2.1; rw [i3, h.fin] at this; cases this)
  rw [hc]
  refine ⟨_, rfl, ⟨i1, by rw [i5, h.ph], by rw [i3, h.fin], by rw [i6, h.ack], by rw [i7, h.nak], ?_⟩, i2, i4⟩
  intro m m1 m2 hm
  rw [i4]
  refine ((Rng.put_spec _ _ h.inv.v).2 m).2 ?_
  rcases hm with hm | hm
  · exact Or.inr (h.cov m m1 m2 hm)
  · exact Or.inl hm
theorem Snk.Pre.end' {b c now S s} (h : Snk.Pre b c now S s) (m : Nat) : ∃ s2, Snk.Inv b c m now s2 ∧ s2.phase = 0 ∧ s2.fin = true ∧ s2.named = s.named ∧ s2.got = s.got ∧ s2.ack = (c == 2) ∧ s2.nak = (c == 2) ∧ s.takeV (endP c b.length m) now = (s2.checkV, 0) := by
  obtain ⟨s', e0, i1, i2, i3, i4, i5, i6, i7, i8, i9⟩ := h.inv.eof h.ph m (Or.inr h.fin)
  refine ⟨s', i1, i5, i2, i3, i4, by rw [i6, h.ack]; simp, i8 h.fin, ?_⟩
  rw [h.inv.takeEnd, e0]
  unfold Snk.endV
  rw [if_pos rfl]
/-- The end with another checksum. -/
theorem Snk.Pre.bad {b c now S s} (h : Snk.Pre b c now S s) (m : Nat) (hS : ∀ x : Int, 0 ≤ x → x < b.length → S x) (hn : s.named = true) (hm : sumV b ≠ m) : ∃ s2, Snk.Inv b c m now s2 ∧ s2.ack = (c == 2) ∧ s.takeV (endP c b.length m) now = (s2.failV 5, 0) := by
  obtain ⟨s2, i1, i2, i3, i4, i5, i6, i7, e⟩ := h.end' m
  refine ⟨s2, i1, i6, ?_⟩
  rw [e, i1.check1 i2 (by rw [i4, hn]) i3 (fun x x1 x2 => by rw [i5]; exact h.cov x x1 x2 (hS x x1 x2)), if_neg hm]
theorem snk0_pre (b : List Nat) (c : Int) (hc : c = 1 ∨ c = 2) (hb : b.length ≤ 200) (h8 : ∀ x ∈ b, x < 256) (S : Int → Prop) (hS : ∀ m, 0 ≤ m → ¬ S m) : Snk.Pre b c 0 S (snk0 c) :=
  ⟨snk0_inv b c hc 0 hb h8, rfl, rfl, rfl, rfl, fun m m1 _ hm => absurd hm (hS m m1)⟩
def snk1 (c : Int) : Snk := { snk0 c with now := 1 }
theorem snk1_pre (b : List Nat) (c : Int) (hc : c = 1 ∨ c = 2) (hb : b.length ≤ 200) (h8 : ∀ x ∈ b, x < 256) (S : Int → Prop) (hS : ∀ m, 0 ≤ m → ¬ S m) : Snk.Pre b c 1 S (snk1 c) := by
  have h := snk0_inv b c hc 0 hb h8
  exact ⟨⟨rfl, rfl, rfl, hc, rfl, rfl, rfl, by omega, rfl, rfl, by show (0 : Int) ≤ 0 ∧ (0 : Int) ≤ 1; omega, rfl, rfl, rfl, hb, h8, h.v, h.dl, h.d8, h.gm, h.gd, h.nm, h.fn⟩, rfl, rfl, rfl, rfl, fun m m1 _ hm => absurd hm (hS m m1)⟩
theorem snk01 (c : Int) (p : Pdu) : (snk0 c).takeV p 1 = (snk1 c).takeV p 1 := by
  unfold Snk.takeV
  rw [show (snk0 c).adv 1 = snk1 c from rfl, show (snk1 c).adv 1 = snk1 c from rfl]
/-- Refused. -/
theorem refuse_two {b m now s} (h : Snk.Inv b 2 m now s) (ha : s.ack = true) :
    (s.failV 5).susp = false ∧ (s.failV 5).ack = true ∧ (s.failV 5).adv now = s.failV 5 ∧ ({ s.failV 5 with ack := false } : Snk).adv now = { s.failV 5 with ack := false } ∧ Snk.repV { s.failV 5 with ack := false } = ({ s.failV 5 with ack := false, don := false }, true) ∧ (s.failV 5).stateV = 5 := by
  have hd : ((s.cls == 2)) = true := by rw [h.cls]; rfl
  refine ⟨rfl, ha, ?_, ?_, ?_, rfl⟩
  · unfold Snk.adv; rw [if_neg]; show ¬ (s.now < now ∧ _); rw [h.nw]; omega
  · unfold Snk.adv; rw [if_neg]; show ¬ (s.now < now ∧ _); rw [h.nw]; omega
  · unfold Snk.repV; exact if_pos hd
theorem refuse_one {b m now s} (h : Snk.Inv b 1 m now s) (ha : s.ack = false) :
    (s.failV 5).susp = false ∧ (s.failV 5).ack = false ∧ (s.failV 5).adv now = s.failV 5 ∧ Snk.repV (s.failV 5) = (s.failV 5, false) ∧ (s.failV 5).stateV = 5 := by
  have hd : ((s.cls == 2)) = false := by rw [h.cls]; rfl
  refine ⟨rfl, ha, ?_, ?_, rfl⟩
  · unfold Snk.adv; rw [if_neg]; show ¬ (s.now < now ∧ _); rw [h.nw]; omega
  · unfold Snk.repV
    rw [if_neg (by show ¬ ((s.cls == 2) = true); rw [hd]; simp), if_pos (Or.inl (by show s.cls ≠ 2; rw [h.cls]; decide))]
end Fil
namespace Fil
open Go
theorem Snk.Pre.mono {b c now S T s} (h : Snk.Pre b c now S s) (hT : ∀ m : Int, 0 ≤ m → m < b.length → T m → S m) : Snk.Pre b c now T s :=
  ⟨h.inv, h.ph, h.fin, h.ack, h.nak, fun m m1 m2 hm => h.cov m m1 m2 (hT m m1 m2 hm)⟩
end Fil
namespace Go.Proofs.Ytfjadhkhmhnccaa
open Go.RowKit Go.Proofs.Num
set_option maxRecDepth 100000 in
set_option maxHeartbeats 4000000 in
theorem refuses_far (w : World) (v : Value) (sec : Bool) (b : List Nat) (sm : Nat) (hb : RdB w v b) (hbig : 200 < b.length ∨ (b.length ≤ 200 ∧ sm = Fil.sumV b)) : Calls Try.prog 9 #[v, .int .u32 (sm : Nat), .bool sec] w fun e w' => e = .returned (.bool true) ∧ Below w.heap.size w w' := by
  have HB := hid hb
  obtain ⟨a, cap, rfl, _⟩ := hb.open
  clear hb
  rcases hbig with h1 | ⟨h0, h1⟩
  · have h1i : (200 : Int) < b.length := by omega
    have h1d : decide ((200 : Int) < b.length) = true := decide_eq_true h1i
    go_enter Try.func9, Try.ntmps9
    go_wp2_with (first | (go_at_call 32; refine (cAlive28 _).mono ?_; rintro e w9 ⟨rfl, hb9⟩; have H9 := hid hb9; clear hb9))
    go_ret
    exact ⟨rfl, H9.out⟩
  · have h0i : ¬ (200 : Int) < b.length := by omega
    have h0d : decide ((200 : Int) < b.length) = false := decide_eq_false h0i
    have HN := hid h0
    subst h1
    clear h0
    go_enter Try.func9, Try.ntmps9
    go_wp2_with fail
    refine (cRefSum w _ b HB.out (by have := HN.out; omega)).mono ?_
    rintro e w1 ⟨rfl, rfl⟩
    go_wp2_with (first | (go_at_call 32; refine (cAlive28 _).mono ?_; rintro e w9 ⟨rfl, hb9⟩; have H9 := hid hb9; clear hb9))
    go_ret
    exact ⟨rfl, H9.out⟩
set_option maxRecDepth 100000 in
set_option maxHeartbeats 16000000 in
theorem refuses_near (w : World) (v : Value) (sec : Bool) (b : List Nat) (sm : Nat) (hb : RdB w v b) (hn : b.length ≤ 200) (hm : Fil.sumV b ≠ sm) : Calls Try.prog 9 #[v, .int .u32 (sm : Nat), .bool sec] w fun e w' => e = .returned (.bool true) ∧ Below w.heap.size w w' := by
  have HB : Hid (∀ y, Below w.heap.size w y → RdB y v b) := hid fun y hy => hb.below hy
  have HB8 := hid hb.2
  obtain ⟨a, cap, rfl, _⟩ := hb.open
  have HN := hid hn
  have HNE := hid hm
  have h0i : ¬ (200 : Int) < b.length := by omega
  have h0d : decide ((200 : Int) < b.length) = false := decide_eq_false h0i
  have hne : ((sm : Int) == (Fil.sumV b : Int)) = false := by rw [beq_eq_false_iff_ne]; omega
  have H0 := hid (Sts.nil w)
  clear hb hn hm
  go_enter Try.func9, Try.ntmps9
  cases sec with
  | false =>
    go_wp2_with fail
    refine (cRefSum w _ b (HB.out _ (Below.refl _ _)) (by have := HN.out; omega)).mono ?_
    rintro e w1 ⟨rfl, rfl⟩
    go_wp2_with fail
    clear h0i h0d hne
    refine (cLId _).mono ?_
    rintro e w1 ⟨rfl, hb⟩
    have H1 := hid (H0.out.quiet stab0 hb)
    clear hb H0
    go_wp2_with fail
    refine (cLConfig _).mono ?_
    rintro e w2 ⟨rfl, hb⟩
    have H2 := hid (H1.out.quiet stab0 hb)
    clear hb H1
    go_wp2_with fail
    refine (cKNewOk stab0 1 5 1 2 10 2 H2.out (by decide)).mono ?_
    rintro e w3 ⟨q, rfl, h⟩
    have H3 : Hid (Sts w [snkP q (Fil.snk0 1)] w3) := hid h
    have HP0 := hid (Fil.snk1_pre b 1 (by decide) HN.out HB8.out (fun _ => False) (fun _ _ h => h))
    clear h H2
    go_wp2_with fail
    refine (cLEnd _ 1 _ b (HB.out _ H3.out.below) (by have := HN.out; omega)).mono ?_
    rintro e w4 ⟨rfl, hb⟩
    have H4 := hid ((H3.out.quiet (stab1 (snkP_stable _ _)) hb).alloc (stab1 (snkP_stable _ _)) (.cells zeroPdu 45 (0, 0)))
    clear hb H3
    go_wp2_with (first | (refine wpList_agg H4.out (stab1 (snkP_stable _ _)) rfl (.tmp 10) (.tmp 40) 45 rfl (Fil.endP 1 b.length (Fil.sumV b)).cells rfl rfl sizePdu rfl rfl ?_; intro w5 hz; have H5 := hid hz; clear hz H4) | (refine wpList_cell H5.out (stab1 (snkP_stable _ _)) rfl (.tmp 42) (.tmp 41) 43 rfl 8 (.int .u32 (sm : Nat)) rfl rfl szU32K (show 8 < 11 by decide) rfl ?_; intro w6 hz; replace hz : Sts w [blkP w4.heap.size (.cells (Fil.endP 1 b.length sm).cells 45 (0, 0)), snkP q (Fil.snk0 1)] w6 := hz; have H6 := hid hz.swap; clear hz H5))
    generalize w4.heap.size = bx at *
    refine (cLMeta _ 1 _ b.length cap).mono ?_
    rintro e w7 ⟨rfl, hb⟩
    have H7 := hid (H6.out.quiet (stabC (snkP_stable _ _) (stab1 (blkP_stable _ _))) hb)
    clear hb H6
    go_wp2_with fail
    obtain ⟨s1, hs1, hp1, hn1, _⟩ := HP0.out.meta'
    have htk : (Fil.snk0 1).takeV (Fil.metaP 1 b.length) 1 = (s1, 0) := by rw [Fil.snk01]; exact hs1
    have hrf : (((Fil.snk0 1).adv 1).recV (Fil.metaP 1 b.length)).1.fitB = true := by
      have e1 := HP0.out.inv.recMeta
      rw [hs1] at e1
      rw [← Fil.endV_fit, show (Fil.snk0 1).adv 1 = (Fil.snk1 1).adv 1 from rfl, ← e1]
      exact hp1.inv.fitB
    have hck := cTakeS (stab1 (blkP_stable _ _)) q _ s1 0 1 (Fil.metaP 1 b.length) H7.out (show (1 : Nat) ≤ 1000 by omega) (show (0 : Nat) ≤ 1000 by omega) ⟨rfl, rfl, rfl⟩ (rdP_none ⟨rfl, rfl, rfl⟩) (fun _ => rfl) (by kernel_rfl) hrf htk
    refine hck.mono ?_
    rintro e w8 ⟨rfl, h⟩
    have H8 := hid h
    have HP1 := hid hp1
    have HN1 := hid hn1
    clear h H7 hck hrf htk hs1 hp1 hn1 HP0
    go_wp2_with fail
    go_loopw [11] (fun i wr => ∃ (k : Nat) (s : Fil.Snk), k ≤ 250 ∧ i = .int .i64 (k : Int) ∧ Fil.Snk.Pre b 1 1 (fun m => m < (k : Int)) s ∧ s.named = true ∧ Sts w [snkP q s, blkP bx (.cells (Fil.endP 1 b.length sm).cells 45 (0, 0))] wr) (fun i _ => 300 - (intOf i).toNat)
    case atStart => exact ⟨0, s1, by omega, rfl, HP1.out.mono (fun m m1 m2 h => by omega), HN1.out, H8.out⟩
    case round =>
      obtain ⟨k, s, hk, rfl, hF, hnm, hS⟩ := hrel
      have HF := hid hF
      have HS := hid hS
      have HNM := hid hnm
      clear hF hS hnm H8 HP1 HN1
      by_cases hlt : k < b.length
      · obtain ⟨k5, hk5⟩ : ∃ k5, k5 = k + 50 := ⟨_, rfl⟩
        have hki : (k : Int) < (b.length : Int) := by omega
        have hkd : decide (k < b.length) = true := decide_eq_true hlt
        have hk5i : (k : Int) + 50 = (k5 : Int) := by omega
        have hk5w : IntKind.i64.wrap (k5 : Int) = (k5 : Int) := i64w k5 (by omega)
        have HLT : Hid (k < k5 ∧ k5 = k + 50) := hid (by omega)
        clear hk5
        by_cases hm : k5 ≤ b.length
        · have hmi : (k5 : Int) ≤ (b.length : Int) := by omega
          have hmj : min (k5 : Int) (b.length : Int) = (k5 : Int) := by omega
          go_wp2_with fail
          clear hki hkd hk5i hk5w hmi hmj
          refine (cLPiece wr _ b (HB.out _ HS.out.below) k k5 (by have := HLT.out; omega) (by omega) (by have := HN.out; omega)).mono ?_
          rintro e w4a ⟨va, vc, rfl, hN⟩
          have hds : (b.drop k).take (k5 - k) = (b.drop k).take ((b.drop k).take (k5 - k)).length := by have := HLT.out; congr 1; first | (simp; done) | (simp; omega)
          have hdl : ((b.drop k).take (k5 - k)).length = k5 - k := by have := HLT.out; first | (simp; done) | (simp; omega)
          have hd8 : ∀ x ∈ (b.drop k).take (k5 - k), x < 256 := fun x hx => HB8.out x (List.mem_of_mem_drop (List.mem_of_mem_take hx))
          have hNN := HS.out.new (stabC (snkP_stable _ _) (stab1 (blkP_stable _ _))) hN
          rw [u8s_len] at hNN
          have hFP := fun va vc => HF.out.piece k va ((b.drop k).take (k5 - k)) vc (by have := HLT.out; rw [hdl]; omega) (by have := HLT.out; rw [hdl]; omega) hds
          rw [hdl] at hFP
          have HNN := hid hNN.swap
          have HD8 := hid hd8
          have HDL := hid hdl
          obtain ⟨s2, hs2, hp2, hn2, _⟩ := hFP va vc
          have HS2 := hid hs2
          have HP2 := hid hp2
          have HN2 := hid hn2
          clear hNN hFP hN hds hd8 hdl hs2 hp2 hn2
          generalize (b.drop k).take (k5 - k) = ds at *
          go_wp2_with fail
          have htk := cTakePiece (stab1 (blkP_stable _ _)) q s b 1 0 1 HF.out.inv k va ds vc HNN.out HD8.out (by have := HLT.out; rw [HDL.out]; omega) (by have := HLT.out; rw [HDL.out]; have := HN.out; omega) (by rw [HS2.out]; exact HP2.out.inv.fitB)
          rw [HS2.out] at htk
          refine htk.mono ?_
          rintro e w4 ⟨e0, rfl, he0, h⟩
          have H4 := hid h
          clear h he0 HNN htk
          go_wp2_with fail
          go_roundw
          case rel => exact ⟨k + 50, s2, by have := HN.out; omega, by go_num, HP2.out.mono (fun m m1 m2 h => by have := HLT.out; omega), by rw [HN2.out]; exact HNM.out, H4.out⟩
          case measure => have := HLT.out; have := HN.out; simp [intOf]; omega
        · have hmi : (b.length : Int) < (k5 : Int) := by omega
          have hmk : ¬ (k5 : Int) ≤ (b.length : Int) := by omega
          have hmj : min (k5 : Int) (b.length : Int) = (b.length : Int) := by omega
          go_wp2_with fail
          clear hki hkd hk5i hk5w hmi hmj hmk
          refine (cLPiece wr _ b (HB.out _ HS.out.below) k b.length (by have := HLT.out; omega) (by omega) (by have := HN.out; omega)).mono ?_
          rintro e w4a ⟨va, vc, rfl, hN⟩
          have hds : (b.drop k).take (b.length - k) = (b.drop k).take ((b.drop k).take (b.length - k)).length := by have := HLT.out; congr 1; first | (simp; done) | (simp; omega)
          have hdl : ((b.drop k).take (b.length - k)).length = b.length - k := by have := HLT.out; first | (simp; done) | (simp; omega)
          have hd8 : ∀ x ∈ (b.drop k).take (b.length - k), x < 256 := fun x hx => HB8.out x (List.mem_of_mem_drop (List.mem_of_mem_take hx))
          have hNN := HS.out.new (stabC (snkP_stable _ _) (stab1 (blkP_stable _ _))) hN
          rw [u8s_len] at hNN
          have hFP := fun va vc => HF.out.piece k va ((b.drop k).take (b.length - k)) vc (by have := HLT.out; rw [hdl]; omega) (by have := HLT.out; rw [hdl]; omega) hds
          rw [hdl] at hFP
          have HNN := hid hNN.swap
          have HD8 := hid hd8
          have HDL := hid hdl
          obtain ⟨s2, hs2, hp2, hn2, _⟩ := hFP va vc
          have HS2 := hid hs2
          have HP2 := hid hp2
          have HN2 := hid hn2
          clear hNN hFP hN hds hd8 hdl hs2 hp2 hn2
          generalize (b.drop k).take (b.length - k) = ds at *
          go_wp2_with fail
          have htk := cTakePiece (stab1 (blkP_stable _ _)) q s b 1 0 1 HF.out.inv k va ds vc HNN.out HD8.out (by have := HLT.out; rw [HDL.out]; omega) (by have := HLT.out; rw [HDL.out]; have := HN.out; omega) (by rw [HS2.out]; exact HP2.out.inv.fitB)
          rw [HS2.out] at htk
          refine htk.mono ?_
          rintro e w4 ⟨e0, rfl, he0, h⟩
          have H4 := hid h
          clear h he0 HNN htk
          go_wp2_with fail
          go_roundw
          case rel => exact ⟨k + 50, s2, by have := HN.out; omega, by go_num, HP2.out.mono (fun m m1 m2 h => by have := HLT.out; omega), by rw [HN2.out]; exact HNM.out, H4.out⟩
          case measure => have := HLT.out; have := HN.out; simp [intOf]; omega
      · have hki : ¬ (k : Int) < (b.length : Int) := by omega
        have hkd : decide (k < b.length) = false := decide_eq_false hlt
        obtain ⟨s2, i1, i2, hs2⟩ := HF.out.bad sm (fun x x1 x2 => by omega) HNM.out HNE.out
        have HI := hid i1
        have HI2 := hid i2
        have HX := hid HS.out.swap
        have htk := cTakeEnd (stab1 (blkP_stable _ _)) q s b 1 0 1 HS.out HF.out.inv sm (by rw [hs2]; exact i1.fitB)
        rw [hs2] at htk
        have HTK := hid htk
        clear htk hs2 i1 i2
        go_wp2_with (first | (refine wpList_ld2 rfl (.tmp 10) 45 rfl rfl (.agg (Fil.endP 1 b.length sm).cells) (ldPdu rfl HX.out) ?_))
        refine HTK.out.mono ?_
        rintro e w4 ⟨e0, rfl, he0, h⟩
        obtain rfl : e0 = 0 := he0
        have H4 : Hid (Sts w [snkP q (s2.failV 5)] w4) := hid h.swap.tail
        clear h HTK HX HS HF HNM
        go_wp2_with fail
        refine (cFileNo q (s2.failV 5) H4.out rfl rfl).mono ?_
        rintro e w5 ⟨rfl, h⟩
        have H5 := hid h
        clear h H4
        go_wp2_with fail
        obtain ⟨r1, r2, r3, r5, r6⟩ := Fil.refuse_one HI.out (by rw [HI2.out]; rfl)
        have R1 := hid r1
        have R2 := hid r2
        have R3 := hid r3
        have R5 := hid r5
        have R6 := hid r6
        have HT1 : Hid (0 ≤ s2.now + s2.timeout ∧ s2.now + s2.timeout < 4611686018427387904) := hid (by rw [HI.out.nw, HI.out.timeout]; omega)
        have hrp : Fil.Snk.repP (s2.failV 5) = {} := by unfold Fil.Snk.repP; rw [R5.out]; rfl
        have hn1 := cNxtRep3 stab0 q _ (s2.failV 5) H5.out 1 R3.out R1.out R2.out HT1.out (by show (0 : Int) ≤ 0 ∧ (0 : Int) < 1000000; omega) rfl
        rw [hrp, R5.out] at hn1
        clear r1 r2 r3 r5 r6
        refine hn1.mono ?_
        rintro e w6 ⟨rfl, h⟩
        have H6 := hid (h.alloc (stab1 (snkP_stable _ _)) (.cells zeroPdu 45 (0, 0)))
        clear h H5 hn1
        go_wp2_with (first | (refine wpList_agg H6.out (stab1 (snkP_stable _ _)) rfl (.tmp 16) (.tmp 76) 45 rfl ({} : Fil.Pdu).cells rfl rfl sizePdu rfl rfl ?_; intro w7 hz; have H7 := hid hz.tail; clear hz H6))
        have hn2 := cNxtRep3 stab0 q _ (s2.failV 5) H7.out 1 R3.out R1.out R2.out HT1.out (by show (0 : Int) ≤ 0 ∧ (0 : Int) < 1000000; omega) rfl
        rw [hrp, R5.out] at hn2
        refine hn2.mono ?_
        rintro e w8 ⟨rfl, h⟩
        have H8 := hid (h.alloc (stab1 (snkP_stable _ _)) (.cells zeroPdu 45 (0, 0)))
        clear h H7 hrp hn2
        go_wp2_with (first | (refine wpList_agg H8.out (stab1 (snkP_stable _ _)) rfl (.tmp 18) (.tmp 81) 45 rfl ({} : Fil.Pdu).cells rfl rfl sizePdu rfl rfl ?_; intro w10 hz; have HZ := hid hz.tail; clear hz H8))
        refine (cStateK q _ HZ.out).mono ?_
        rintro e w11 ⟨rfl, rfl⟩
        rw [R6.out]
        go_wp2_with fail
        refine (cAlive28 _).mono ?_
        rintro e w12 ⟨rfl, hb9⟩
        have H9 := hid (HZ.out.below.trans (hb9.mono HZ.out.below.size))
        clear hb9
        go_wp2_with fail
        go_ret
        exact ⟨rfl, H9.out⟩
  | true =>
    go_wp2_with fail
    refine (cRefSum w _ b (HB.out _ (Below.refl _ _)) (by have := HN.out; omega)).mono ?_
    rintro e w1 ⟨rfl, rfl⟩
    go_wp2_with fail
    clear h0i h0d hne
    refine (cLId _).mono ?_
    rintro e w1 ⟨rfl, hb⟩
    have H1 := hid (H0.out.quiet stab0 hb)
    clear hb H0
    go_wp2_with fail
    refine (cLConfig _).mono ?_
    rintro e w2 ⟨rfl, hb⟩
    have H2 := hid (H1.out.quiet stab0 hb)
    clear hb H1
    go_wp2_with fail
    refine (cKNewOk stab0 1 5 2 2 10 2 H2.out (by decide)).mono ?_
    rintro e w3 ⟨q, rfl, h⟩
    have H3 : Hid (Sts w [snkP q (Fil.snk0 2)] w3) := hid h
    have HP0 := hid (Fil.snk1_pre b 2 (by decide) HN.out HB8.out (fun _ => False) (fun _ _ h => h))
    clear h H2
    go_wp2_with fail
    refine (cLEnd _ 2 _ b (HB.out _ H3.out.below) (by have := HN.out; omega)).mono ?_
    rintro e w4 ⟨rfl, hb⟩
    have H4 := hid ((H3.out.quiet (stab1 (snkP_stable _ _)) hb).alloc (stab1 (snkP_stable _ _)) (.cells zeroPdu 45 (0, 0)))
    clear hb H3
    go_wp2_with (first | (refine wpList_agg H4.out (stab1 (snkP_stable _ _)) rfl (.tmp 10) (.tmp 40) 45 rfl (Fil.endP 2 b.length (Fil.sumV b)).cells rfl rfl sizePdu rfl rfl ?_; intro w5 hz; have H5 := hid hz; clear hz H4) | (refine wpList_cell H5.out (stab1 (snkP_stable _ _)) rfl (.tmp 42) (.tmp 41) 43 rfl 8 (.int .u32 (sm : Nat)) rfl rfl szU32K (show 8 < 11 by decide) rfl ?_; intro w6 hz; replace hz : Sts w [blkP w4.heap.size (.cells (Fil.endP 2 b.length sm).cells 45 (0, 0)), snkP q (Fil.snk0 2)] w6 := hz; have H6 := hid hz.swap; clear hz H5))
    generalize w4.heap.size = bx at *
    refine (cLMeta _ 2 _ b.length cap).mono ?_
    rintro e w7 ⟨rfl, hb⟩
    have H7 := hid (H6.out.quiet (stabC (snkP_stable _ _) (stab1 (blkP_stable _ _))) hb)
    clear hb H6
    go_wp2_with fail
    obtain ⟨s1, hs1, hp1, hn1, _⟩ := HP0.out.meta'
    have htk : (Fil.snk0 2).takeV (Fil.metaP 2 b.length) 1 = (s1, 0) := by rw [Fil.snk01]; exact hs1
    have hrf : (((Fil.snk0 2).adv 1).recV (Fil.metaP 2 b.length)).1.fitB = true := by
      have e1 := HP0.out.inv.recMeta
      rw [hs1] at e1
      rw [← Fil.endV_fit, show (Fil.snk0 2).adv 1 = (Fil.snk1 2).adv 1 from rfl, ← e1]
      exact hp1.inv.fitB
    have hck := cTakeS (stab1 (blkP_stable _ _)) q _ s1 0 1 (Fil.metaP 2 b.length) H7.out (show (1 : Nat) ≤ 1000 by omega) (show (0 : Nat) ≤ 1000 by omega) ⟨rfl, rfl, rfl⟩ (rdP_none ⟨rfl, rfl, rfl⟩) (fun _ => rfl) (by kernel_rfl) hrf htk
    refine hck.mono ?_
    rintro e w8 ⟨rfl, h⟩
    have H8 := hid h
    have HP1 := hid hp1
    have HN1 := hid hn1
    clear h H7 hck hrf htk hs1 hp1 hn1 HP0
    go_wp2_with fail
    go_loopw [11] (fun i wr => ∃ (k : Nat) (s : Fil.Snk), k ≤ 250 ∧ i = .int .i64 (k : Int) ∧ Fil.Snk.Pre b 2 1 (fun m => m < (k : Int)) s ∧ s.named = true ∧ Sts w [snkP q s, blkP bx (.cells (Fil.endP 2 b.length sm).cells 45 (0, 0))] wr) (fun i _ => 300 - (intOf i).toNat)
    case atStart => exact ⟨0, s1, by omega, rfl, HP1.out.mono (fun m m1 m2 h => by omega), HN1.out, H8.out⟩
    case round =>
      obtain ⟨k, s, hk, rfl, hF, hnm, hS⟩ := hrel
      have HF := hid hF
      have HS := hid hS
      have HNM := hid hnm
      clear hF hS hnm H8 HP1 HN1
      by_cases hlt : k < b.length
      · obtain ⟨k5, hk5⟩ : ∃ k5, k5 = k + 50 := ⟨_, rfl⟩
        have hki : (k : Int) < (b.length : Int) := by omega
        have hkd : decide (k < b.length) = true := decide_eq_true hlt
        have hk5i : (k : Int) + 50 = (k5 : Int) := by omega
        have hk5w : IntKind.i64.wrap (k5 : Int) = (k5 : Int) := i64w k5 (by omega)
        have HLT : Hid (k < k5 ∧ k5 = k + 50) := hid (by omega)
        clear hk5
        by_cases hm : k5 ≤ b.length
        · have hmi : (k5 : Int) ≤ (b.length : Int) := by omega
          have hmj : min (k5 : Int) (b.length : Int) = (k5 : Int) := by omega
          go_wp2_with fail
          clear hki hkd hk5i hk5w hmi hmj
          refine (cLPiece wr _ b (HB.out _ HS.out.below) k k5 (by have := HLT.out; omega) (by omega) (by have := HN.out; omega)).mono ?_
          rintro e w4a ⟨va, vc, rfl, hN⟩
          have hds : (b.drop k).take (k5 - k) = (b.drop k).take ((b.drop k).take (k5 - k)).length := by have := HLT.out; congr 1; first | (simp; done) | (simp; omega)
          have hdl : ((b.drop k).take (k5 - k)).length = k5 - k := by have := HLT.out; first | (simp; done) | (simp; omega)
          have hd8 : ∀ x ∈ (b.drop k).take (k5 - k), x < 256 := fun x hx => HB8.out x (List.mem_of_mem_drop (List.mem_of_mem_take hx))
          have hNN := HS.out.new (stabC (snkP_stable _ _) (stab1 (blkP_stable _ _))) hN
          rw [u8s_len] at hNN
          have hFP := fun va vc => HF.out.piece k va ((b.drop k).take (k5 - k)) vc (by have := HLT.out; rw [hdl]; omega) (by have := HLT.out; rw [hdl]; omega) hds
          rw [hdl] at hFP
          have HNN := hid hNN.swap
          have HD8 := hid hd8
          have HDL := hid hdl
          obtain ⟨s2, hs2, hp2, hn2, _⟩ := hFP va vc
          have HS2 := hid hs2
          have HP2 := hid hp2
          have HN2 := hid hn2
          clear hNN hFP hN hds hd8 hdl hs2 hp2 hn2
          generalize (b.drop k).take (k5 - k) = ds at *
          go_wp2_with fail
          have htk := cTakePiece (stab1 (blkP_stable _ _)) q s b 2 0 1 HF.out.inv k va ds vc HNN.out HD8.out (by have := HLT.out; rw [HDL.out]; omega) (by have := HLT.out; rw [HDL.out]; have := HN.out; omega) (by rw [HS2.out]; exact HP2.out.inv.fitB)
          rw [HS2.out] at htk
          refine htk.mono ?_
          rintro e w4 ⟨e0, rfl, he0, h⟩
          have H4 := hid h
          clear h he0 HNN htk
          go_wp2_with fail
          go_roundw
          case rel => exact ⟨k + 50, s2, by have := HN.out; omega, by go_num, HP2.out.mono (fun m m1 m2 h => by have := HLT.out; omega), by rw [HN2.out]; exact HNM.out, H4.out⟩
          case measure => have := HLT.out; have := HN.out; simp [intOf]; omega
        · have hmi : (b.length : Int) < (k5 : Int) := by omega
          have hmk : ¬ (k5 : Int) ≤ (b.length : Int) := by omega
          have hmj : min (k5 : Int) (b.length : Int) = (b.length : Int) := by omega
          go_wp2_with fail
          clear hki hkd hk5i hk5w hmi hmj hmk
          refine (cLPiece wr _ b (HB.out _ HS.out.below) k b.length (by have := HLT.out; omega) (by omega) (by have := HN.out; omega)).mono ?_
          rintro e w4a ⟨va, vc, rfl, hN⟩
          have hds : (b.drop k).take (b.length - k) = (b.drop k).take ((b.drop k).take (b.length - k)).length := by have := HLT.out; congr 1; first | (simp; done) | (simp; omega)
          have hdl : ((b.drop k).take (b.length - k)).length = b.length - k := by have := HLT.out; first | (simp; done) | (simp; omega)
          have hd8 : ∀ x ∈ (b.drop k).take (b.length - k), x < 256 := fun x hx => HB8.out x (List.mem_of_mem_drop (List.mem_of_mem_take hx))
          have hNN := HS.out.new (stabC (snkP_stable _ _) (stab1 (blkP_stable _ _))) hN
          rw [u8s_len] at hNN
          have hFP := fun va vc => HF.out.piece k va ((b.drop k).take (b.length - k)) vc (by have := HLT.out; rw [hdl]; omega) (by have := HLT.out; rw [hdl]; omega) hds
          rw [hdl] at hFP
          have HNN := hid hNN.swap
          have HD8 := hid hd8
          have HDL := hid hdl
          obtain ⟨s2, hs2, hp2, hn2, _⟩ := hFP va vc
          have HS2 := hid hs2
          have HP2 := hid hp2
          have HN2 := hid hn2
          clear hNN hFP hN hds hd8 hdl hs2 hp2 hn2
          generalize (b.drop k).take (b.length - k) = ds at *
          go_wp2_with fail
          have htk := cTakePiece (stab1 (blkP_stable _ _)) q s b 2 0 1 HF.out.inv k va ds vc HNN.out HD8.out (by have := HLT.out; rw [HDL.out]; omega) (by have := HLT.out; rw [HDL.out]; have := HN.out; omega) (by rw [HS2.out]; exact HP2.out.inv.fitB)
          rw [HS2.out] at htk
          refine htk.mono ?_
          rintro e w4 ⟨e0, rfl, he0, h⟩
          have H4 := hid h
          clear h he0 HNN htk
          go_wp2_with fail
          go_roundw
          case rel => exact ⟨k + 50, s2, by have := HN.out; omega, by go_num, HP2.out.mono (fun m m1 m2 h => by have := HLT.out; omega), by rw [HN2.out]; exact HNM.out, H4.out⟩
          case measure => have := HLT.out; have := HN.out; simp [intOf]; omega
      · have hki : ¬ (k : Int) < (b.length : Int) := by omega
        have hkd : decide (k < b.length) = false := decide_eq_false hlt
        obtain ⟨s2, i1, i2, hs2⟩ := HF.out.bad sm (fun x x1 x2 => by omega) HNM.out HNE.out
        have HI := hid i1
        have HI2 := hid i2
        have HX := hid HS.out.swap
        have htk := cTakeEnd (stab1 (blkP_stable _ _)) q s b 2 0 1 HS.out HF.out.inv sm (by rw [hs2]; exact i1.fitB)
        rw [hs2] at htk
        have HTK := hid htk
        clear htk hs2 i1 i2
        go_wp2_with (first | (refine wpList_ld2 rfl (.tmp 10) 45 rfl rfl (.agg (Fil.endP 2 b.length sm).cells) (ldPdu rfl HX.out) ?_))
        refine HTK.out.mono ?_
        rintro e w4 ⟨e0, rfl, he0, h⟩
        obtain rfl : e0 = 0 := he0
        have H4 : Hid (Sts w [snkP q (s2.failV 5)] w4) := hid h.swap.tail
        clear h HTK HX HS HF HNM
        go_wp2_with fail
        refine (cFileNo q (s2.failV 5) H4.out rfl rfl).mono ?_
        rintro e w5 ⟨rfl, h⟩
        have H5 := hid h
        clear h H4
        go_wp2_with fail
        obtain ⟨r1, r2, r3, r4, r5, r6⟩ := Fil.refuse_two HI.out (by rw [HI2.out]; rfl)
        have R1 := hid r1
        have R2 := hid r2
        have R3 := hid r3
        have R4 := hid r4
        have R5 := hid r5
        have R6 := hid r6
        have HT1 : Hid (0 ≤ s2.now + s2.timeout ∧ s2.now + s2.timeout < 4611686018427387904) := hid (by rw [HI.out.nw, HI.out.timeout]; omega)
        clear r1 r2 r3 r4 r5 r6
        refine (cNxtAck stab0 q _ (s2.failV 5) H5.out 1 R3.out R1.out R2.out).mono ?_
        rintro e w6 ⟨rfl, h⟩
        have H6 := hid (h.alloc (stab1 (snkP_stable _ _)) (.cells zeroPdu 45 (0, 0)))
        clear h H5
        go_wp2_with (first | (refine wpList_agg H6.out (stab1 (snkP_stable _ _)) rfl (.tmp 16) (.tmp 76) 45 rfl ((s2.failV 5).unitP 6).cells rfl rfl sizePdu rfl rfl ?_; intro w7 hz; have H7 := hid hz.swap; clear hz H6))
        generalize w6.heap.size = b16 at *
        refine (cNxtRep3 (stab1 (blkP_stable _ _)) q _ { s2.failV 5 with ack := false } H7.out 1 R4.out R1.out rfl HT1.out (by show (0 : Int) ≤ 0 ∧ (0 : Int) < 1000000; omega) rfl).mono ?_
        rintro e w8 ⟨rfl, h⟩
        have hrp : Fil.Snk.repP { s2.failV 5 with ack := false } = { kind := 5, src := s2.src, num := s2.num, code := 5 } := by unfold Fil.Snk.repP; rw [R5.out]; rfl
        rw [R5.out] at h
        rw [hrp, R5.out]
        have H8 := hid (h.alloc (stabC (snkP_stable _ _) (stab1 (blkP_stable _ _))) (.cells zeroPdu 45 (0, 0)))
        clear h H7 hrp
        go_wp2_with (first | (refine wpList_agg H8.out (stabC (snkP_stable _ _) (stab1 (blkP_stable _ _))) rfl (.tmp 18) (.tmp 81) 45 rfl ({ kind := 5, src := s2.src, num := s2.num, code := 5 } : Fil.Pdu).cells rfl rfl sizePdu rfl rfl ?_; intro w10 hz; have e0 : w10.cell? ⟨w8.heap.size, 0, none⟩ = some (.int .i64 5) := (Sts.boxCell hz 0 _ rfl).1; have e9 : w10.cell? ⟨w8.heap.size, 9, none⟩ = some (.int .i64 5) := (Sts.boxCell hz 9 _ rfl).1; have e6 : w10.cell? ⟨b16, 0, none⟩ = some (.int .i64 6) := (Sts.boxCell hz.third 0 _ rfl).1; have HZ := hid hz.swap; clear hz H8))
        refine (cStateK q _ HZ.out).mono ?_
        rintro e w11 ⟨rfl, rfl⟩
        rw [show Fil.Snk.stateV { s2.failV 5 with ack := false, don := false } = 5 from rfl]
        go_wp2_with fail
        refine (cAlive28 _).mono ?_
        rintro e w12 ⟨rfl, hb9⟩
        have H9 := hid (HZ.out.below.trans (hb9.mono HZ.out.below.size))
        clear hb9
        go_wp2_with fail
        go_ret
        exact ⟨rfl, H9.out⟩
theorem refuses_all (w : World) (v : Value) (sec : Bool) (b : List Nat) (sm : Nat) (hb : RdB w v b) : Calls Try.prog 9 #[v, .int .u32 (sm : Nat), .bool sec] w fun e w' => e = .returned (.bool true) ∧ Below w.heap.size w w' := by
  by_cases h1 : b.length ≤ 200
  · by_cases h2 : Fil.sumV b = sm
    · exact refuses_far w v sec b sm hb (Or.inr ⟨h1, h2.symm⟩)
    · exact refuses_near w v sec b sm hb h1 h2
  · exact refuses_far w v sec b sm hb (Or.inl (by omega))
end Go.Proofs.Ytfjadhkhmhnccaa
