/- A held entity sends nothing, and after its release its files arrive: every file, whenever it is held, however long. -/
import Derived.Test.YtgidckkcibplgaaGreatHldL1
import Derived.Test.YtgidckkcibplgaaGreatHldL2
import Derived.Test.YtgidckkcibplgaaGreatHldL3
import Derived.Test.YtgidckkcibplgaaGreatHldL4
import Derived.Test.YtgidckkcibplgaaGreatHldL5
import Derived.Test.YtgidckkcibplgaaGreatHldL6
import Derived.Test.YtgidckkcibplgaaGreatHldL7
import Derived.Test.YtgidckkcibplgaaGreatHldL8
import Derived.Test.YtgidckkcibplgaaGreatHldL9
import Derived.Test.YtgidckkcibplgaaGreatHldL10
import Derived.Test.YtgidckkcibplgaaGreatHldL11
import Derived.Test.YtgidckkcibplgaaGreatHldL12
import Derived.Test.YtgidckkcibplgaaGreatHldL13
import Derived.Test.YtgidckkcibplgaaGreatHldL14
import Derived.Test.YtgidckkcibplgaaGreatHldE
import Derived.Test.YtgidckkcibplgaaGreatHldB
import Derived.Test.YtgidckkcibplgaaGreatBytX
set_option linter.unusedVariables false
namespace Go.Proofs.YtgidckkcibplgaaGreat
open Go.Ev Go.RowKit
theorem hldAlls : ∀ (L : Nat), L ≤ 41 → hldAll L = true
  | 0, _ => hldAll0
  | 1, _ => hldAll1
  | 2, _ => hldAll2
  | 3, _ => hldAll3
  | 4, _ => hldAll4
  | 5, _ => hldAll5
  | 6, _ => hldAll6
  | 7, _ => hldAll7
  | 8, _ => hldAll8
  | 9, _ => hldAll9
  | 10, _ => hldAll10
  | 11, _ => hldAll11
  | 12, _ => hldAll12
  | 13, _ => hldAll13
  | 14, _ => hldAll14
  | 15, _ => hldAll15
  | 16, _ => hldAll16
  | 17, _ => hldAll17
  | 18, _ => hldAll18
  | 19, _ => hldAll19
  | 20, _ => hldAll20
  | 21, _ => hldAll21
  | 22, _ => hldAll22
  | 23, _ => hldAll23
  | 24, _ => hldAll24
  | 25, _ => hldAll25
  | 26, _ => hldAll26
  | 27, _ => hldAll27
  | 28, _ => hldAll28
  | 29, _ => hldAll29
  | 30, _ => hldAll30
  | 31, _ => hldAll31
  | 32, _ => hldAll32
  | 33, _ => hldAll33
  | 34, _ => hldAll34
  | 35, _ => hldAll35
  | 36, _ => hldAll36
  | 37, _ => hldAll37
  | 38, _ => hldAll38
  | 39, _ => hldAll39
  | 40, _ => hldAll40
  | 41, _ => hldAll41
  | n + 42, h => absurd h (by omega)
set_option maxRecDepth 1000000 in
theorem hldLong : okB (callV 4 [.usl 41 9223372036854775807, .iv .u8 0 255, .iv .u8 0 255] Tryz.prog hldPr (runF Tryz.prog hldPr 100000) bare 0 kid) = true := by kernel_rfl
/-- The wait, as two numbers. -/
def waitQ (wt : Int) (j : Nat) : Int := if j = 1000255 then wt else if j = 2000254 then (if wt = 0 then 0 else wt - 1) else 0
theorem waitQ_ok {wt : Int} (h1 : 0 ≤ wt) (h2 : wt ≤ 255) (j : Nat) (hj : 1000000 ≤ j) : 0 ≤ waitQ wt j ∧ waitQ wt j ≤ ((j % 1000 : Nat) : Int) := by
  unfold waitQ
  split
  · rename_i h; subst h; omega
  · split
    · rename_i h; subst h; split <;> omega
    · omega
attribute [local irreducible] hldC hldBody hldStart hldAfter hldG hldIh hldPre hldN hldAll hldEnd
theorem hldRun (w : World) (vd : Value) (ld : List Nat) (b wt : Int) (hd : BytesX w vd ld) (hn : ld.length ≤ 1000) (hb1 : 0 ≤ b) (hb2 : b ≤ 255) (h1 : 0 ≤ wt) (h2 : wt ≤ 255) (L : Nat) (hL : L ≤ 41)
    (hx : VR (env0 (byBase w vd vd ld ld hd.rd hd.rd hn hn (waitQ wt) (waitQ_ok h1 h2))) (hldArg L) vd) :
    Calls Tryz.prog 4 #[vd, .int .u8 b, .int .u8 wt] w fun e w' => e = .returned (.bool true) ∧ Below w.heap.size w w' := by
  obtain ⟨fn, g1, g2, g3, g4, g5⟩ := fnOf_ok hldFn
  refine calls_of_wp g1 g2 ?_
  rw [g3]
  have hA := hldAlls L hL
  have hgood : (hldPre L).good := by
    have hk := hA
    unfold hldAll at hk
    simp only [Bool.and_eq_true] at hk
    exact allN_good hk.1
  have hno : ∀ x, Sub x (hldPre L) → (∃ t h s, x = .norm t h s) ∨ (∃ a b, x = .or a b) := fun x hs => by
    have hk := hA
    unfold hldAll at hk
    simp only [Bool.and_eq_true] at hk
    have := allN_sub hs hk.1
    cases x with
    | norm t h s => exact .inl ⟨t, h, s, rfl⟩
    | or a b => exact .inr ⟨a, b, rfl⟩
    | exit _ _ _ _ => cases this
    | ret _ _ _ => cases this
    | err _ => cases this
  have hρ1 : (byBase w vd vd ld ld hd.rd hd.rd hn hn (waitQ wt) (waitQ_ok h1 h2)).ρ 1000255 = wt := byBase_sm _ (by decide)
  have hρ2 : (byBase w vd vd ld ld hd.rd hd.rd hn hn (waitQ wt) (waitQ_ok h1 h2)).ρ 2000254 = if wt = 0 then 0 else wt - 1 := byBase_sm _ (by decide)
  have hBat := byBase_at (h1 := hd.rd) (h2 := hd.rd) (n1 := hn) (n2 := hn) (hq := waitQ_ok h1 h2)
  have hBpr := byBase_prot (h1 := hd.rd) (h2 := hd.rd) (n1 := hn) (n2 := hn) (hq := waitQ_ok h1 h2)
  generalize byBase w vd vd ld ld hd.rd hd.rd hn hn (waitQ wt) (waitQ_ok h1 h2) = B at *
  have hVs : VRs (env0 B) [hldArg L, .iv .u8 0 255, .sx .u8 (.lin 0 [1000255])] [vd, .int .u8 b, .int .u8 wt] := by
    refine .cons hx (.cons (.iv hb1 hb2) (.cons (.sx ?_ ?_) .nil))
    · show wt = 0 + (B.ρ 1000255 + 0)
      rw [hρ1]; omega
    · rw [IntKind.wrap_u8]; omega
  have hlen : [hldArg L, V.iv .u8 0 255, .sx .u8 (.lin 0 [1000255])].length ≤ hldN := by rw [hldN_eq]; simp
  have hI0 : InE w (env0 B) (T.puts [hldArg L, .iv .u8 0 255, .sx .u8 (.lin 0 [1000255])] 0 (T.mk un (Nat.succ (Nat.log2 (Nat.succ hldN))) hldN)) bare 0 { tmps := (⟨[vd, .int .u8 b, .int .u8 wt]⟩ : Array Value) ++ Array.replicate (hldN - (⟨[vd, .int .u8 b, .int .u8 wt]⟩ : Array Value).size) undef, defers := [] } w :=
    ⟨bare_sim hBat, enter_AR hVs hlen, fun _ _ => rfl, hBpr, Below.refl _ _⟩
  have hpre : hldPre L = cutR hldIh 11 hldC (T.puts [hldArg L, .iv .u8 0 255, .sx .u8 (.lin 0 [1000255])] 0 (T.mk un (Nat.succ (Nat.log2 (Nat.succ hldN))) hldN)) bare 0 := by unfold hldPre; rfl
  have hE : ∀ z, LpOk (bodyPost Tryz.prog fn fun e w' => e = .returned (.bool true) ∧ Below w.heap.size w w') w (hldG z L 4000200) := fun z =>
    hldEnd_ok (hldEnds z L hL) (fun t h s a w' hk ⟨e, hI⟩ x hx => by
      obtain ⟨d1, v, d2, d3⟩ := end_ok g4 hk hI.ar hI.sim
      rcases hx with rfl | rfl <;> exact ⟨d1, v, d2, by rw [d3], hI.below⟩)
  rw [hpre] at hgood hno
  refine cut_ok hldIh_ok 11 hldC _ bare 0 hgood (env0 B) _ w hI0.ar hI0.sim hI0.free (fun t' h' s' e' a' w' q1 q2 q3 => ?_) (fun t' h' s' e' a' w' q1 q2 q3 => ?_) (fun i t' h' s' e' a' w' q1 q2 q3 => ?_)
  · refine hldAll_ok hL hA hE (by rw [hpre]; exact q1) ⟨e', hI0.post q2 q3, ?_⟩
    unfold Wt
    have hb : e'.base = B := q3.le.base
    rw [hb, hρ1, hρ2]
    by_cases h0 : wt = 0
    · exact .inl h0
    · refine .inr ?_
      rw [if_neg h0]; omega
  · rcases hno _ q1 with ⟨_, _, _, h⟩ | ⟨_, _, h⟩ <;> cases h
  · rcases hno _ q1 with ⟨_, _, _, h⟩ | ⟨_, _, h⟩ <;> cases h
theorem cHolds (w : World) (vd : Value) (ld : List Nat) (b wt : Int) (hd : BytesX w vd ld) (hb1 : 0 ≤ b) (hb2 : b ≤ 255) (h1 : 0 ≤ wt) (h2 : wt ≤ 255) :
    Calls Tryz.prog 4 #[vd, .int .u8 b, .int .u8 wt] w fun e w' => e = .returned (.bool true) ∧ Below w.heap.size w w' := by
  by_cases hl : ld.length ≤ 40
  · have hn : ld.length ≤ 1000 := by omega
    rcases hd.how with h0 | ⟨bk, off, cap, hv, hc⟩
    · refine hldRun w vd ld b wt hd hn hb1 hb2 h1 h2 41 (by omega) ?_
      have key : ∀ e : Env, VR e .nils vd := fun e => by rw [h0]; exact .nils
      exact key _
    · refine hldRun w vd ld b wt hd hn hb1 hb2 h1 h2 ld.length (by omega) ?_
      have key : hldArg ld.length = .xsl 1 0 ld.length := by
        unfold hldArg
        cases hq : Nat.beq ld.length 41 with
        | true => have := Nat.eq_of_beq_eq_true hq; omega
        | false => rfl
      rw [key]
      exact byBase_xsl (h1 := hd.rd) (h2 := hd.rd) (n1 := hn) (n2 := hn) (hq := waitQ_ok h1 h2) hv hc
  · obtain ⟨a, cap, hv, _⟩ := hd.rd.1
    have key : ∀ e : Env, VR e (.usl 41 9223372036854775807) vd := fun e => by rw [hv]; exact .usl (by omega) hd.lim
    exact open_okF mixedCou hldPr_ok 100000 _ _ hldLong w _ (noBase w) (noBase_at w) (.cons (key _) (.cons (.iv hb1 hb2) (.cons (.iv h1 h2) .nil)))
end Go.Proofs.YtgidckkcibplgaaGreat
