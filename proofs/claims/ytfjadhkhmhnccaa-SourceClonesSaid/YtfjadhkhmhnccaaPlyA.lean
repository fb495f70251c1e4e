/- The specification's Next and Take whole; the invariant of both sending ends. The specification's comparison of two units that are equal; a struct loaded in one step. -/
import Derived.Test.YtfjadhkhmhnccaaRefNxC
import Derived.Test.YtfjadhkhmhnccaaRefTkD
import Derived.Test.YtfjadhkhmhnccaaRefTkB
import Derived.Test.YtfjadhkhmhnccaaRefTkC
import Derived.Test.YtfjadhkhmhnccaaSrcOps
import Derived.Test.YtfjadhkhmhnccaaSrcSml
import Derived.Test.YtfjadhkhmhnccaaStr
set_option linter.unusedVariables false
set_option linter.unusedSimpArgs false
namespace Fil
structure Reg (s : Src) : Prop where
  good : Good s
  cls : s.cls = 1 ∨ s.cls = 2
  ph : 0 ≤ s.phase
  du : s.phase = 2 → s.due = true
theorem pass_data (s : Src) (now : Int) : (s.pass now).data = s.data := by unfold Src.pass; split <;> rfl
theorem pass_phase (s : Src) (now : Int) : (s.pass now).phase = s.phase := by unfold Src.pass; split <;> rfl
theorem pass_cls (s : Src) (now : Int) : (s.pass now).cls = s.cls := by unfold Src.pass; split <;> rfl
theorem pass_due (s : Src) (now : Int) : (s.pass now).due = s.due := by unfold Src.pass; split <;> rfl
theorem Reg.pass {s : Src} (h : Reg s) (now : Int) : Reg (s.pass now) := ⟨h.good.pass now, by rw [pass_cls]; exact h.cls, by rw [pass_phase]; exact h.ph, by rw [pass_phase, pass_due]; exact h.du⟩
theorem reqGo_cls (l : List Rng.R) : ∀ s : Src, (s.reqGo l).cls = s.cls ∧ (s.reqGo l).phase = s.phase ∧ (s.reqGo l).due = s.due := by
  induction l with
  | nil => intro s; exact ⟨rfl, rfl, rfl⟩
  | cons g l ih =>
    intro s
    show ((s.req1 g).reqGo l).cls = _ ∧ ((s.req1 g).reqGo l).phase = _ ∧ ((s.req1 g).reqGo l).due = _
    obtain ⟨h1, h2, h3⟩ := ih (s.req1 g)
    rw [h1, h2, h3]
    unfold Src.req1
    split <;> exact ⟨rfl, rfl, rfl⟩
theorem Reg.goV {s : Src} (h : Reg s) : Reg s.goV.1 := by
  refine ⟨h.good.goV, ?_, ?_, ?_⟩
  all_goals
    unfold Src.goV
    split
    · first | exact h.cls | exact h.ph | exact h.du
    split
    · rename_i hd
      first
        | exact h.cls
        | (show 0 ≤ (if s.phase = 2 then (if s.code = 0 then (4 : Int) else 5) else s.phase); have := h.ph; split <;> (try split) <;> omega)
        | (show (if s.phase = 2 then (if s.code = 0 then (4 : Int) else 5) else s.phase) = 2 → _; intro hq; exfalso; revert hq; split <;> (try split) <;> omega)
    split
    · first | exact h.cls | (show (0 : Int) ≤ 6; omega) | (show (6 : Int) = 2 → _; omega)
    split
    · first | exact h.cls | exact h.ph | exact h.du
    split
    · first | exact h.cls | exact h.ph | exact h.du
    split
    · first | exact h.cls | exact h.ph | exact h.du
    split
    · unfold Src.fwdV
      split
      · first | exact h.cls | exact h.ph | exact h.du
      · split
        · first | exact h.cls | exact h.ph | exact h.du
        · unfold Src.eofV
          split
          · first | exact h.cls | (show (0 : Int) ≤ 1; omega) | (show (1 : Int) = 2 → _; omega)
          · first | exact h.cls | (show (0 : Int) ≤ 4; omega) | (show (4 : Int) = 2 → _; omega)
    · unfold Src.repV
      split
      · first | exact h.cls | exact h.ph | exact h.du
      · split
        · first | exact h.cls | (show (0 : Int) ≤ 5; omega) | (show (5 : Int) = 2 → _; omega)
        · first | exact h.cls | exact h.ph | exact h.du
theorem Reg.nextV {s : Src} (h : Reg s) (now : Int) : Reg (s.nextV now).1 := (h.pass now).goV
theorem Reg.recV {s : Src} (h : Reg s) (p : Pdu) : Reg (s.recV p).1 := by
  refine ⟨h.good.recV p, ?_, ?_, ?_⟩
  all_goals
    unfold Src.recV
    split
    · first | exact h.cls | exact h.ph | exact h.du
    split
    · first | exact h.cls | exact h.ph | exact h.du
    split
    · unfold Src.ackV
      split
      · first | exact h.cls | exact h.ph | exact h.du
      · split
        · first | exact h.cls | exact h.ph | exact h.du
        · first | exact h.cls | exact h.ph | exact h.du
    split
    · unfold Src.reqV
      obtain ⟨h1, h2, h3⟩ := reqGo_cls p.gaps s
      split
      · first | exact h.cls | exact h.ph | exact h.du
      split
      · first | exact h.cls | exact h.ph | exact h.du
      · first
          | (show (s.reqGo p.gaps).cls = 1 ∨ (s.reqGo p.gaps).cls = 2; rw [h1]; exact h.cls)
          | (show 0 ≤ (s.reqGo p.gaps).phase; rw [h2]; exact h.ph)
          | (show (s.reqGo p.gaps).phase = 2 → (s.reqGo p.gaps).due = true; rw [h2, h3]; exact h.du)
    · unfold Src.endV
      split
      · first | exact h.cls | exact h.ph | exact h.du
      · split
        · first | exact h.cls | (show (0 : Int) ≤ 2; omega) | exact fun _ => rfl
        · first | exact h.cls | exact h.ph | exact fun _ => rfl
theorem Reg.takeV {s : Src} (h : Reg s) (p : Pdu) (now : Int) : Reg (s.takeV p now).1 := (h.pass now).recV p
theorem Reg.suspV {s : Src} (h : Reg s) (now : Int) : Reg (s.suspV now).1 := by
  have h := h.pass now
  unfold Src.suspV
  split
  · exact h
  · exact ⟨⟨h.good.n, h.good.b, h.good.c, h.good.to, h.good.re, h.good.nw, h.good.ti, h.good.tr, h.good.at0, h.good.w, h.good.wv⟩, h.cls, h.ph, h.du⟩
theorem Reg.resV {s : Src} (h : Reg s) (now : Int) : Reg (s.resV now).1 := by
  have h := h.pass now
  unfold Src.resV
  split
  · exact h
  · exact ⟨⟨h.good.n, h.good.b, h.good.c, h.good.to, h.good.re, h.good.nw, h.good.nw, h.good.tr, h.good.at0, h.good.w, h.good.wv⟩, h.cls, h.ph, h.du⟩
theorem Reg.canV {s : Src} (h : Reg s) : Reg s.canV.1 := by
  refine ⟨h.good.canV, ?_, ?_, ?_⟩
  all_goals
    unfold Src.canV
    split
    · first | exact h.cls | exact h.ph | exact h.du
    · first
        | exact h.cls
        | (show 0 ≤ (if s.cls = 2 then (3 : Int) else 6); split <;> omega)
        | (show (if s.cls = 2 then (3 : Int) else 6) = 2 → _; split <;> omega)
/-- A valid gap ends at 0 only where it is the empty one. -/
theorem gapsGo_zero : ∀ (l : List Rng.R) (f : Bool) (last : Int), -1 ≤ last → gapsGo f last l = true → ∀ g ∈ l, (g.2 == 0) = (g == (0, 0))
  | [], _, _, _, _ => by simp
  | x :: l, f, last, hl, h => by
    unfold gapsGo at h
    intro g hg
    split at h
    · rename_i hc
      rcases List.mem_cons.1 hg with rfl | hg
      · rw [hc.2]; rfl
      · exact gapsGo_zero l _ _ hl h g hg
    · split at h
      · cases h
      · rename_i hc
        rcases List.mem_cons.1 hg with rfl | hg
        · have h1 : (g.2 == 0) = false := by rw [beq_eq_false_iff_ne]; omega
          have h2 : (g == (0, 0)) = false := by rw [beq_eq_false_iff_ne]; intro e; rw [e] at h1; cases h1
          rw [h1, h2]
        · exact gapsGo_zero l _ _ (by omega) h g hg
end Fil
namespace Go.Proofs.Ytfjadhkhmhnccaa
open Go.RowKit Go.Proofs.Num
theorem Sts.outNil0 {W w : World} {A : HProp} {l : List HProp} (h : Sts W (A :: l) w) : Sts W (A :: rowU none 0 [] :: l) w := (Sts.rowNilK 5 1 h).swap
section
variable {W w : World} {l : List HProp} (hl : ∀ B ∈ l, Stable B) (zh : Value × List Rng.R) (q : Nat) (s : Fil.Src) (da : Option Addr) (dc : Nat) (hs : Sts W (refP zh q s (.slice da s.data.length dc) :: l) w) (hG : Fil.Reg s)
include hl hs hG
theorem cRNext (hd : RdB W (.slice da s.data.length dc) s.data) (hzr : ∀ A y, Sts W (A :: l) y → RdR y zh.1 zh.2) (now : Int) : Calls Try.prog 76 #[.pointer (some ⟨q, 0, none⟩), .int .i64 now] w fun e w' => ∃ pa pc, e = .returned (.tuple #[.agg ((s.nextV now).2.pdu (s.pass now) pa pc).cells, .bool (s.nextV now).2.is]) ∧ Sts W (refP zh q (s.nextV now).1 (.slice da s.data.length dc) :: rowU pa pc ((s.nextV now).2.data (s.pass now)) :: l) w' := by
  have hG1 := hG.pass now
  have hz0 : (s.phase + 1 == 0) = false := by rw [beq_eq_false_iff_ne]; have := hG.ph; omega
  have hdl : s.data.length = (s.pass now).data.length := by rw [Fil.pass_data]
  have hd1 : RdB W (.slice da (s.pass now).data.length dc) (s.pass now).data := by rw [Fil.pass_data]; exact hd
  unfold Fil.Src.nextV
  obtain ⟨s1, hp⟩ : ∃ s1, s.pass now = s1 := ⟨_, rfl⟩
  rw [hp] at hG1 hdl hd1 ⊢
  have hg := hG1.good
  have hn : s1.data.length < 100000000 := by have := hg.n; omega
  have hwl := hg.wl
  have hT : 0 ≤ s1.timer + s1.timeout ∧ s1.timer + s1.timeout < 4611686018427387904 := by have := hg.ti; have := hg.to; omega
  obtain ⟨c, hc⟩ : ∃ c : Nat, s1.chunk = (c : Int) := ⟨s1.chunk.toNat, by have := hg.c; omega⟩
  have hc2 : 0 < c ∧ c ≤ 512 := by have := hg.c; omega
  have fin : ∀ (u : Fil.U) (s2 : Fil.Src) (P : Array Value) (b : Bool), P = (u.pdu s1 none 0).cells → b = u.is → u.data s1 = [] → ∀ (e : Ending) (w' : World), (e = .returned (.tuple #[.agg P, .bool b]) ∧ Sts W (refP zh q s2 (.slice da s1.data.length dc) :: l) w') →
      ∃ pa pc, e = .returned (.tuple #[.agg (u.pdu s1 pa pc).cells, .bool u.is]) ∧ Sts W (refP zh q s2 (.slice da s.data.length dc) :: rowU pa pc (u.data s1) :: l) w' := by
    rintro u s2 P b hP hb' hdd e w' ⟨rfl, h⟩
    exact ⟨none, 0, by rw [hP, hb'], by rw [hdd, hdl]; exact Sts.outNil0 h⟩
  unfold Fil.Src.goV
  by_cases c1 : s1.susp = true
  · rw [if_pos c1]
    exact (cRNextSusp hl zh q s s1 da dc hs now hp hz0 hdl c1).mono (fin .non s1 _ _ rfl rfl rfl)
  · rw [if_neg c1]
    have c1 : s1.susp = false := by simpa using c1
    by_cases c2 : s1.due = true
    · rw [if_pos c2]
      unfold Fil.Src.finV
      by_cases c3 : s1.phase = 2
      · rw [if_pos c3]
        by_cases c4 : s1.code = 0
        · rw [if_pos c4]
          exact (cRNextAckB hl zh q s s1 da dc hs now hp hz0 hdl c1 c2 c3 c4).mono (fin .ack _ _ _ rfl rfl rfl)
        · rw [if_neg c4]
          exact (cRNextAckC hl zh q s s1 da dc hs now hp hz0 hdl c1 c2 c3 (by rw [bne_iff_ne]; exact c4)).mono (fin .ack _ _ _ rfl rfl rfl)
      · rw [if_neg c3]
        exact (cRNextAckA hl zh q s s1 da dc hs now hp hz0 hdl c1 c2 (by rw [beq_eq_false_iff_ne]; omega)).mono (fin .ack _ _ _ rfl rfl rfl)
    · rw [if_neg c2]
      have c2 : s1.due = false := by simpa using c2
      by_cases c3 : s1.phase = 3
      · rw [if_pos c3]
        exact (cRNextOff hl zh q s s1 da dc hs now hp hz0 hdl c1 c2 c3 hd1 hn).mono (fin (.eof 17) _ _ _ rfl rfl rfl)
      · rw [if_neg c3]
        by_cases c4 : 4 ≤ s1.phase
        · rw [if_pos c4]
          exact (cRNextOver hl zh q s s1 da dc hs now hp hz0 hdl c1 c2 (by rw [beq_eq_false_iff_ne]; omega) (by rw [bne_iff_ne]; omega) (by rw [bne_iff_ne]; omega)).mono (fin .non s1 _ _ rfl rfl rfl)
        · rw [if_neg c4]
          have hph : s1.phase = 0 ∨ s1.phase = 1 := by
            have h0 := hG1.ph
            have h2 : s1.phase ≠ 2 := fun h => by have := hG1.du h; rw [c2] at this; cases this
            omega
          by_cases c5 : s1.mreq = true
          · rw [if_pos c5]
            rcases hph with c6 | c6
            · exact (cRNextMeta0 hl zh q s s1 da dc hs now hp hz0 hdl c1 c2 c6 c5).mono (fin .head _ _ _ rfl rfl rfl)
            · exact (cRNextMeta1 hl zh q s s1 da dc hs now hp hz0 hdl c1 c2 c6 c5).mono (fin .head _ _ _ rfl rfl rfl)
          · rw [if_neg c5]
            have c5 : s1.mreq = false := by simpa using c5
            cases hw : s1.wanted with
            | cons g rest =>
              simp only []
              have hgw := hg.w g (by rw [hw]; simp)
              obtain ⟨a, b⟩ := g
              obtain ⟨f, rfl⟩ : ∃ f : Nat, a = (f : Int) := ⟨a.toNat, by simp only [] at hgw; omega⟩
              obtain ⟨t, rfl⟩ : ∃ t : Nat, b = (t : Int) := ⟨b.toNat, by simp only [] at hgw; omega⟩
              simp only [] at hgw
              unfold Fil.Src.agnV
              simp only [Int.toNat_natCast]
              have hc3 : s1.chunk.toNat = c := by omega
              rw [hc3]
              rcases hph with c6 | c6
              · refine Calls.mono (cRNextAgain0 hl zh q s s1 da dc hs now hp hz0 hdl c1 c2 c6 c5 hzr hd1 hn f t c (min t (f + c)) rest hw (by omega) (by omega) hc hc2 rfl (by omega)) ?_
                rintro e w' ⟨pa, pc, h1, h2⟩
                exact ⟨pa, pc, h1, by rw [hdl]; exact h2⟩
              · refine Calls.mono (cRNextAgain1 hl zh q s s1 da dc hs now hp hz0 hdl c1 c2 c6 c5 hzr hd1 hn f t c (min t (f + c)) rest hw (by omega) (by omega) hc hc2 rfl (by omega)) ?_
                rintro e w' ⟨pa, pc, h1, h2⟩
                exact ⟨pa, pc, h1, by rw [hdl]; exact h2⟩
            | nil =>
              simp only []
              have c6 : s1.wanted.length = 0 := by rw [hw]; rfl
              by_cases c7 : s1.phase = 0
              · rw [if_pos c7]
                unfold Fil.Src.fwdV
                by_cases h0 : s1.started = false
                · rw [if_pos h0]
                  exact (cRNextFwdHead hl zh q s s1 da dc hs now hp hz0 hdl c1 c2 c7 c5 hzr c6 h0).mono (fin .head _ _ _ rfl rfl rfl)
                · rw [if_neg h0]
                  have h0 : s1.started = true := by simpa using h0
                  by_cases h1 : s1.at' < (s1.data.length : Int)
                  · rw [if_pos h1]
                    obtain ⟨f, hf⟩ : ∃ f : Nat, s1.at' = (f : Int) := ⟨s1.at'.toNat, by have := hg.at0; omega⟩
                    have hf2 : s1.at'.toNat = f := by omega
                    have hc3 : s1.chunk.toNat = c := by omega
                    rw [hf2, hc3]
                    refine Calls.mono (cRNextFwdPiece hl zh q s s1 da dc hs now hp hz0 hdl c1 c2 c7 c5 hzr c6 hd1 hn f c (min (f + c) s1.data.length) h0 hf hc (by omega) hc2 rfl) ?_
                    rintro e w' ⟨pa, pc, h1, h2⟩
                    exact ⟨pa, pc, h1, by rw [hdl]; exact h2⟩
                  · rw [if_neg h1]
                    unfold Fil.Src.eofV
                    by_cases hcl : s1.cls = 2
                    · rw [if_pos hcl]
                      exact (cRNextFwdEof2 hl zh q s s1 da dc hs now hp hz0 hdl c1 c2 c7 c5 hzr c6 hd1 hn h0 (by omega) hcl).mono (fin (.eof 0) _ _ _ rfl rfl rfl)
                    · rw [if_neg hcl]
                      exact (cRNextFwdEof1 hl zh q s s1 da dc hs now hp hz0 hdl c1 c2 c7 c5 hzr c6 hd1 hn h0 (by omega) (hG1.cls.resolve_right hcl)).mono (fin (.eof 0) _ _ _ rfl rfl rfl)
              · rw [if_neg c7]
                have c8 : s1.phase = 1 := hph.resolve_left c7
                unfold Fil.Src.repV
                rcases Bool.eq_false_or_eq_true s1.acked with ha | ha
                · rw [if_pos (by unfold Fil.Src.quietB; rw [ha]; simp)]
                  exact (cRNextRepAck hl zh q s s1 da dc hs now hp hz0 hdl c1 c2 c8 c5 hzr c6 hT ha).mono (fin .non s1 _ _ rfl rfl rfl)
                · rcases Bool.eq_false_or_eq_true (decide (s1.now < s1.timer + s1.timeout)) with hdd | hdd
                  · rw [if_pos (by unfold Fil.Src.quietB; rw [hdd]; simp)]
                    exact (cRNextRepWait hl zh q s s1 da dc hs now hp hz0 hdl c1 c2 c8 c5 hzr c6 hT ha hdd).mono (fin .non s1 _ _ rfl rfl rfl)
                  · rw [if_neg (by unfold Fil.Src.quietB; rw [ha, hdd, c8]; simp)]
                    by_cases hr : s1.retries ≤ s1.tries
                    · rw [if_pos hr]
                      exact (cRNextRepFail hl zh q s s1 da dc hs now hp hz0 hdl c1 c2 c8 c5 hzr c6 hT ha hdd (decide_eq_true hr)).mono (fin .non _ _ _ rfl rfl rfl)
                    · rw [if_neg hr]
                      exact (cRNextRepEof hl zh q s s1 da dc hs now hp hz0 hdl c1 c2 c8 c5 hzr c6 hT ha hdd (decide_eq_false hr) (by have := hg.tr; omega) hd1 hn).mono (fin (.eof 0) _ _ _ rfl rfl rfl)
theorem cRTake (hzr : ∀ A y, Sts W (A :: l) y → RdR y zh.1 zh.2) (p : Fil.Pdu) (now : Int) (hname : p.name.size ≤ 1000000) (hdata : p.data.length < 1000000000) (hgl : p.gaps.length < 1000) (hg : ∀ A y, Sts W (A :: l) y → RdR y (.slice p.ga p.gaps.length p.gc) p.gaps) :
    Calls Try.prog 72 #[.pointer (some ⟨q, 0, none⟩), .agg p.cells, .int .i64 now] w fun e w' => e = .returned (.int .i64 (s.takeV p now).2) ∧ Sts W (refP zh q (s.takeV p now).1 (.slice da s.data.length dc) :: l) w' := by
  have hG1 := hG.pass now
  have hz0 : (s.phase + 1 == 0) = false := by rw [beq_eq_false_iff_ne]; have := hG.ph; omega
  have hdl : s.data.length = (s.pass now).data.length := by rw [Fil.pass_data]
  unfold Fil.Src.takeV
  obtain ⟨s1, hp⟩ : ∃ s1, s.pass now = s1 := ⟨_, rfl⟩
  rw [hp] at hG1 hdl ⊢
  have hwl := hG1.good.wl
  have fin : ∀ {s2 : Fil.Src} {r : Int} (e : Ending) (w' : World), (e = .returned (.int .i64 r) ∧ Sts W (refP zh q s2 (.slice da s1.data.length dc) :: l) w') → e = .returned (.int .i64 r) ∧ Sts W (refP zh q s2 (.slice da s.data.length dc) :: l) w' := by
    rintro s2 r e w' ⟨h1, h2⟩
    exact ⟨h1, by rw [hdl]; exact h2⟩
  unfold Fil.Src.recV
  by_cases hb : (p.validB && (p.src == s1.src) && (p.num == s1.num) && !Fil.fwdB p.kind) = false
  · rw [if_pos hb]
    refine Calls.mono ?_ fin
    cases hv : p.validB with
    | false => exact cRTakeBad hl zh q s s1 da dc hs now hp hz0 hdl p hname hdata hgl hg hv
    | true =>
      cases hi : ((p.src == s1.src) && (p.num == s1.num)) with
      | false => exact cRTakeId hl zh q s s1 da dc hs now hp hz0 hdl p hname hdata hgl hg hv hi
      | true =>
        simp only [Bool.and_eq_true] at hi
        have hf : Fil.fwdB p.kind = true := by simpa [hv, hi.1, hi.2] using hb
        have hk : p.kind ≠ 4 ∧ p.kind ≠ 5 ∧ p.kind ≠ 6 := by
          refine ⟨fun h => ?_, fun h => ?_, fun h => ?_⟩ <;> (rw [h] at hf; revert hf; decide)
        exact cRTakeFwd hl zh q s s1 da dc hs now hp hz0 hdl p hname hdata hgl hg hv hi.1 hi.2 (by rw [bne_iff_ne]; exact hk.1) (by rw [bne_iff_ne]; exact hk.2.1) (by rw [bne_iff_ne]; exact hk.2.2)
  · rw [if_neg hb]
    have hb : (p.validB && (p.src == s1.src) && (p.num == s1.num) && !Fil.fwdB p.kind) = true := by rwa [Bool.not_eq_false] at hb
    simp only [Bool.and_eq_true] at hb
    obtain ⟨⟨⟨hv, i1⟩, i2⟩, hf⟩ := hb
    have hf : Fil.fwdB p.kind = false := by simpa using hf
    have hkr : 1 ≤ p.kind ∧ p.kind ≤ 7 := by
      unfold Fil.Pdu.validB Fil.withinB at hv
      simp only [Bool.and_eq_true, decide_eq_true_eq] at hv
      omega
    have hk : p.kind = 4 ∨ p.kind = 5 ∨ p.kind = 6 := by
      unfold Fil.fwdB Fil.withinB at hf
      simp only [Bool.or_eq_false_iff, Bool.and_eq_false_iff, decide_eq_false_iff_not, beq_eq_false_iff_ne] at hf
      omega
    by_cases hc : s1.cls = 2
    · rw [if_neg (by simpa using hc)]
      have hc1 : (s1.cls == 1) = false := by rw [hc]; rfl
      by_cases h6 : p.kind = 6
      · rw [if_pos h6]
        unfold Fil.Src.ackV
        by_cases p0 : s1.phase = 0
        · rw [if_pos p0]; exact (cRTakeAck0 hl zh q s s1 da dc hs now hp hz0 hdl p hname hdata hgl hg hv i1 i2 h6 hc1 p0).mono fin
        · rw [if_neg p0]
          by_cases p1 : s1.phase = 1
          · rw [if_pos p1]; exact (cRTakeAck1 hl zh q s s1 da dc hs now hp hz0 hdl p hname hdata hgl hg hv i1 i2 h6 hc1 p1).mono fin
          · rw [if_neg p1]; exact (cRTakeAck2 hl zh q s s1 da dc hs now hp hz0 hdl p hname hdata hgl hg hv i1 i2 h6 hc1 (by rw [beq_eq_false_iff_ne]; omega) (by rw [beq_eq_false_iff_ne]; omega)).mono fin
      · rw [if_neg h6]
        by_cases h4 : p.kind = 4
        · rw [if_pos h4]
          have hgB : Fil.gapsB p.gaps = true := by
            unfold Fil.Pdu.validB at hv
            simp only [Bool.and_eq_true] at hv
            have := hv.2
            unfold Fil.Pdu.kindB at this
            simpa [h4] using this
          have hgz : ∀ r ∈ p.gaps, (r.2 == 0) = (r == (0, 0)) := by
            unfold Fil.gapsB at hgB
            simp only [Bool.and_eq_true] at hgB
            exact Fil.gapsGo_zero _ _ _ (by omega) hgB.1
          unfold Fil.Src.reqV
          by_cases ha : (p.gaps.any fun r => decide ((s1.data.length : Int) < r.2)) = true
          · rw [if_pos ha]
            have hbad : ∃ r ∈ p.gaps, (s1.data.length : Int) < r.2 := by
              obtain ⟨r, hr, h⟩ := List.any_eq_true.1 ha
              exact ⟨r, hr, by simpa using h⟩
            by_cases p0 : s1.phase = 0
            · exact (cRTakeNakBadA hl zh q s s1 da dc hs now hp hz0 hdl p hname hdata hgl hg hv i1 i2 h4 hc1 p0 hbad).mono fin
            · by_cases p1 : s1.phase = 1
              · exact (cRTakeNakBadB hl zh q s s1 da dc hs now hp hz0 hdl p hname hdata hgl hg hv i1 i2 h4 hc1 p1 hbad).mono fin
              · exact (cRTakeNakBadC hl zh q s s1 da dc hs now hp hz0 hdl p hname hdata hgl hg hv i1 i2 h4 hc1 (by rw [beq_eq_false_iff_ne]; omega) (by rw [beq_eq_false_iff_ne]; omega) hbad).mono fin
          · rw [if_neg ha]
            have hok : ∀ r ∈ p.gaps, r.2 ≤ (s1.data.length : Int) := by
              intro r hr
              rcases Int.lt_or_le (s1.data.length : Int) r.2 with h | h
              · exact absurd (List.any_eq_true.2 ⟨r, hr, by simpa using h⟩) ha
              · exact h
            by_cases p0 : s1.phase = 0
            · rw [if_neg (fun h => h.1 p0)]
              exact (cRTakeNak0 hl zh q s s1 da dc hs now hp hz0 hdl p hname hdata hgl hg hzr hv i1 i2 h4 hc1 hok hgz p0 (by omega)).mono fin
            · by_cases p1 : s1.phase = 1
              · rw [if_neg (fun h => h.2 p1)]
                exact (cRTakeNak1 hl zh q s s1 da dc hs now hp hz0 hdl p hname hdata hgl hg hzr hv i1 i2 h4 hc1 hok hgz p1 (by omega)).mono fin
              · rw [if_pos ⟨p0, p1⟩]
                exact (cRTakeNakIdle hl zh q s s1 da dc hs now hp hz0 hdl p hname hdata hgl hg hv i1 i2 h4 hc1 hok (by rw [beq_eq_false_iff_ne]; omega) (by rw [beq_eq_false_iff_ne]; omega)).mono fin
        · rw [if_neg h4]
          have h5 : p.kind = 5 := by omega
          unfold Fil.Src.endV
          by_cases p2 : s1.phase = 2
          · rw [if_pos p2]; exact (cRTakeFin2 hl zh q s s1 da dc hs now hp hz0 hdl p hname hdata hgl hg hv i1 i2 h5 hc1 p2).mono fin
          · rw [if_neg p2]
            by_cases p0 : s1.phase = 0
            · rw [if_pos (Or.inl p0)]; exact (cRTakeFinA hl zh q s s1 da dc hs now hp hz0 hdl p hname hdata hgl hg hv i1 i2 h5 hc1 p0).mono fin
            · by_cases p1 : s1.phase = 1
              · rw [if_pos (Or.inr p1)]; exact (cRTakeFinB hl zh q s s1 da dc hs now hp hz0 hdl p hname hdata hgl hg hv i1 i2 h5 hc1 p1).mono fin
              · rw [if_neg (by rintro (h | h); exact p0 h; exact p1 h)]
                exact (cRTakeFin3 hl zh q s s1 da dc hs now hp hz0 hdl p hname hdata hgl hg hv i1 i2 h5 hc1 (by rw [beq_eq_false_iff_ne]; omega) (by rw [beq_eq_false_iff_ne]; omega) (by rw [bne_iff_ne]; omega)).mono fin
    · rw [if_pos hc]
      have hc1 : s1.cls = 1 := hG1.cls.resolve_right hc
      rcases hk with h | h | h
      · exact (cRTakeStateNak hl zh q s s1 da dc hs now hp hz0 hdl p hname hdata hgl hg hv i1 i2 h hc1).mono fin
      · exact (cRTakeStateFin hl zh q s s1 da dc hs now hp hz0 hdl p hname hdata hgl hg hv i1 i2 h hc1).mono fin
      · exact (cRTakeStateAck hl zh q s s1 da dc hs now hp hz0 hdl p hname hdata hgl hg hv i1 i2 h hc1).mono fin
end
end Go.Proofs.Ytfjadhkhmhnccaa
namespace Go.Proofs.Ytfjadhkhmhnccaa
open Go.RowKit Go.Proofs.Num
theorem wpList_ld {ops : Array Oper} {rest : List Oper} {o : Oper} {a : Act} {Q : Exit → Act → World → Prop} {w : World} {b j : Nat} (hgd : o.guard = none) (x : Operand) (t : TypeId) (ho : o.op = .load t x) (hx : a.eval x = .pointer (some ⟨b, j, none⟩)) (v : Value)
    (hld : (loadVar t ⟨b, j, none⟩).run Try.prog w = .ok v w) (h : wpList Try.prog ops Q rest (a.put o.dst v) w) : wpList Try.prog ops Q (o :: rest) a w := by
  refine wpList_plain hgd fun K hK => ?_
  have hr : (execOp a.eval o).run Try.prog w = .ok (.value v) w := by
    unfold execOp
    simp only [ho, hx]
    have h1 : (Instr.loadAt t (.pointer (some ⟨b, j, none⟩))).run Try.prog w = .ok v w := by
      simp only [Instr.loadAt, Instr.sureAddr]
      simp [Sem.run_bind, asAddr, hld, Result.andThen]
    simp [Sem.run_bind, h1, Result.andThen]
  unfold Oper.wp
  rw [hr]
  exact hK _ _ h
set_option maxRecDepth 100000 in
set_option maxHeartbeats 2000000 in
theorem cSame (w : World) (p : Fil.Pdu) (a2 : Option Addr) (c2 : Nat) (h1 : RdB w (.slice p.da p.data.length p.dc) p.data) (h2 : RdB w (.slice a2 p.data.length c2) p.data) (hg : p.gaps = []) :
    Calls Try.prog 77 #[.agg p.cells, .agg ({ p with da := a2, dc := c2 } : Fil.Pdu).cells] w fun e w' => e = .returned (.bool true) ∧ Below w.heap.size w w' := by
  have HPC : p.cells = #[.int .i64 p.kind, .int .i64 p.src, .int .i64 p.num, .int .i64 p.cls, .string p.name, .int .i64 p.size, .int .i64 p.off, .slice p.da p.data.length p.dc, .int .u32 (p.sum : Nat), .int .i64 p.code, .slice p.ga 0 p.gc] := by unfold Fil.Pdu.cells; rw [hg]; rfl
  have HPC2 : ({ p with da := a2, dc := c2 } : Fil.Pdu).cells = #[.int .i64 p.kind, .int .i64 p.src, .int .i64 p.num, .int .i64 p.cls, .string p.name, .int .i64 p.size, .int .i64 p.off, .slice a2 p.data.length c2, .int .u32 (p.sum : Nat), .int .i64 p.code, .slice p.ga 0 p.gc] := by unfold Fil.Pdu.cells; simp only []; rw [hg]; rfl
  rw [HPC, HPC2]
  clear HPC HPC2
  have hb : Below w.heap.size w ((w.alloc (.cells #[.int .i64 p.kind, .int .i64 p.src, .int .i64 p.num, .int .i64 p.cls, .string p.name, .int .i64 p.size, .int .i64 p.off, .slice p.da p.data.length p.dc, .int .u32 (p.sum : Nat), .int .i64 p.code, .slice p.ga 0 p.gc] 45)).alloc (.cells #[.int .i64 p.kind, .int .i64 p.src, .int .i64 p.num, .int .i64 p.cls, .string p.name, .int .i64 p.size, .int .i64 p.off, .slice a2 p.data.length c2, .int .u32 (p.sum : Nat), .int .i64 p.code, .slice p.ga 0 p.gc] 45)) := ((Below.refl _ _).alloc (Nat.le_refl _) _).alloc (by simp) _
  have e1 : (w.alloc (.cells #[.int .i64 p.kind, .int .i64 p.src, .int .i64 p.num, .int .i64 p.cls, .string p.name, .int .i64 p.size, .int .i64 p.off, .slice p.da p.data.length p.dc, .int .u32 (p.sum : Nat), .int .i64 p.code, .slice p.ga 0 p.gc] 45)).heap.size = w.heap.size + 1 := by show (w.heap.push _).size = _; simp
  have cv1 := (h1.below hb).str (P := Try.prog) 24 9 5 Try.underlying24 Try.underlying5 Try.underlying9
  have cv2 := (h2.below hb).str (P := Try.prog) 24 9 5 Try.underlying24 Try.underlying5 Try.underlying9
  have HB := hid hb
  obtain ⟨sb, hsb⟩ : ∃ sb, sb = strB p.data := ⟨_, rfl⟩
  rw [← hsb] at cv1 cv2
  clear h1 h2 hb hsb e1 hg
  obtain ⟨kind, src, num, cls, name, size, off, da, data, dc, sum, code, ga, gaps, gc⟩ := p
  simp only [] at *
  generalize data.length = n at *
  go_enter Try.func77, Try.ntmps77
  go_wp2_with fail
  go_loop [5] (fun i => i = .int .i64 0) (fun _ => 0)
  case atStart => rfl
  case round =>
    subst hrel
    go_wp2_with fail
    go_ret
    exact ⟨rfl, HB.out⟩
end Go.Proofs.Ytfjadhkhmhnccaa
