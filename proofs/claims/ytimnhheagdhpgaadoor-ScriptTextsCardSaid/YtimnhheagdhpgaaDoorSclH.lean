/- ScriptTexts: the walk. -/
import Derived.Test.YtimnhheagdhpgaaDoorSctC
set_option linter.unusedVariables false
set_option linter.unusedSimpArgs false
namespace Go.Proofs.YtimnhheagdhpgaaDoor
open Go.RowKit Go.Proofs.Num
open Scr (Str bs lineV lineL textV textsV linesV)
theorem undef_guardT : @Go.yielded.match_1 (fun _ => Option Bool) (some undef) (fun b => some b) (fun _ => none) = none := rfl
theorem light_short {a : Scr.Act} (hI : ActI a) (hl : lightV a = true) : ShortL a := by
  obtain ⟨h1, h2⟩ := light_ok hI hl
  refine ⟨h1, h2, fun s hs => ?_⟩
  have ht : textV a = s := by
    unfold lineV at hs
    cases hl : lineL a with
    | none => rw [hl] at hs; cases hs
    | some l => rw [hl] at hs; injection hs with hs; unfold textV; rw [Scr.line_text hl, hs]
  rw [← ht]
  simp only [lightV, decide_eq_true_eq] at hl
  obtain ⟨g1, g2, g3, g4⟩ := hl
  have := text_len hI g1 g2 g3 g4
  omega
theorem lines_none : linesV [] = ([], 0) := by simp [linesV, Scr.linesF]
theorem lines_some {l : List Scr.Act} {t : Str} (h : textsV l = some t) : linesV t = (l, 0) := by
  unfold linesV
  rw [Scr.lines_texts l t _ 1 [] h (Nat.lt_succ_self _)]
  rfl
section
variable {w : World}
set_option maxRecDepth 100000 in
set_option maxHeartbeats 16000000 in
theorem textsLaw (ad : Option Addr) (c : Nat) (l : List Scr.Act) (hA : ActsR w ad l) (hI : ∀ a ∈ l, ActI a) (hE : Env w) :
    Calls Tryd.prog 7 #[.slice ad l.length c] w fun e w' => e = .returned (.bool true) ∧ Below w.heap.size w w' := by
  obtain ⟨n, hn⟩ : ∃ n, n = l.length := ⟨_, rfl⟩
  have HT17 := hid (fun x (hx : Below w.heap.size w x) (hO : ∀ a ∈ l, ShortL a) (h20 : l.length ≤ 20) => cText17 (w := x) ad c l (fun k hk => by
    obtain ⟨g, f, dv, av, cv, h1, h2⟩ := hA k hk
    exact ⟨g, f, dv, av, cv, h1, fun y hy => h2 y (below_step hx hy)⟩) hO h20 (hE.below hx))
  have HT18 := hid (fun x (hx : Below w.heap.size w x) (hO : ∀ a ∈ l, ShortL a) (h20 : l.length ≤ 20) => cText18 (w := x) ad c l (fun k hk => by
    obtain ⟨g, f, dv, av, cv, h1, h2⟩ := hA k hk
    exact ⟨g, f, dv, av, cv, h1, fun y hy => h2 y (below_step hx hy)⟩) hO h20)
  have HLI := hid (fun x (hx : Below w.heap.size w x) s (hs : s.length < 900000) => (cLines (w := x) s hs (hE.below hx)).mono fun e w' h => linesE.two h)
  have HAW := hid (fun x (hx : Below w.heap.size w x) => cAwake (w := x) (hE.below hx))
  rw [← hn] at HT17 HT18 ⊢
  have HN := hid hn
  have HA := hid hA
  have HI := hid hI
  clear hA hI hE hn
  by_cases hb : 20 < n
  · have d1 : decide (20 < (n : Int)) = true := decide_eq_true (by omega)
    go_enter Tryd.func7, Tryd.ntmps7
    go_wp2_with fail
    all_goals (go_ret; exact ⟨rfl, Below.refl _ _⟩)
  · have d1 : decide (20 < (n : Int)) = false := decide_eq_false (by omega)
    have d2 : ¬ 20 < (n : Int) := by omega
    go_enter Tryd.func7, Tryd.ntmps7
    go_wp2_with fail
    go_loopw [3] (fun i wr => ∃ k : Nat, i = .int .i64 k ∧ k ≤ n ∧ Hid (∀ j (hj : j < l.length), j < k → lightV l[j] = true) ∧ Hid (Below w.heap.size w wr)) (fun i _ => n - (intOf i).toNat)
    case atStart => exact ⟨0, rfl, by omega, hid (fun j hj h => absurd h (by omega)), hid (Below.refl _ _)⟩
    case round =>
      obtain ⟨k, rfl, hk, HK, HW⟩ := hrel
      by_cases hlt : k < n
      · have hkl : k < l.length := by rw [← HN.out]; exact hlt
        obtain ⟨g, f, dv, av, cv, rfl, hx⟩ := HA.out k hkl
        have HLd := hid (hx wr HW.out)
        have HLT := hid (cLight (w := wr) _ dv av cv HLd.out.2)
        have HNX := hid (fun h : lightV (l[k]'hkl) = true => show ∀ j (hj : j < l.length), j < k + 1 → lightV l[j] = true from fun j hj hjk => by
          by_cases e : j = k
          · subst e; exact h
          · exact HK.out j hj (by omega))
        obtain ⟨a, ha⟩ : ∃ a, a = l[k]'hkl := ⟨_, rfl⟩
        rw [← ha] at HLd HLT HNX
        clear hx ha HA HI HT17 HT18 HLI HAW HK
        obtain ⟨b, hb2⟩ : ∃ b, b = lightV a := ⟨_, rfl⟩
        rw [← hb2] at HLT HNX
        clear hb2
        cases b with
        | false =>
          go_wp2_with (first | (refine wpList_ixF rfl (.tmp 19) (.tmp 20) rfl rfl rfl hlt ?_) | (refine wpList_ld rfl (.tmp 21) 29 rfl rfl (.agg (actC a dv av cv)) HLd.out.1 ?_) | (go_at_call 14; refine HLT.out.mono ?_; rintro e w4 ⟨rfl, hb⟩; have H4 := hid (below_step HW.out hb); clear hb))
          all_goals (go_ret; exact ⟨rfl, H4.out⟩)
        | true =>
          go_wp2_with (first | (refine wpList_ixF rfl (.tmp 19) (.tmp 20) rfl rfl rfl hlt ?_) | (refine wpList_ld rfl (.tmp 21) 29 rfl rfl (.agg (actC a dv av cv)) HLd.out.1 ?_) | (go_at_call 14; refine HLT.out.mono ?_; rintro e w4 ⟨rfl, hb⟩; have H4 := hid (below_step HW.out hb); clear hb))
          all_goals (go_roundw
                     case rel => exact ⟨k + 1, by simp [intOf], by omega, hid (HNX.out trivial), hid H4.out⟩
                     case measure => simp [intOf]; omega)
      · obtain rfl : k = n := by omega
        have hO : ∀ a ∈ l, ShortL a := fun a ha => by
          obtain ⟨j, hj, rfl⟩ := List.getElem_of_mem ha
          exact light_short (HI.out _ (List.getElem_mem _)) (HK.out j hj (by rw [HN.out]; exact hj))
        have h20 : l.length ≤ 20 := by have := HN.out; omega
        have h20k : k ≤ 20 := by omega
        have H17 := hid (HT17.out wr HW.out hO h20k)
        have H18 := hid (fun x (hx : Below w.heap.size w x) => HT18.out x hx hO h20k)
        have hlen := fun t h => textsV_len (l := l) (t := t) (fun a ha => (hO a ha).len) h
        have hu := undef_guardT
        unfold text18E at H18
        cases hr : textsV l with
        | none =>
          have HL1 := hid (fun x hx => HLI.out x hx [] (by decide))
          rw [lines_none] at HL1
          rw [hr] at H17 H18
          simp only [Option.getD_none, Option.isSome_none, List.length_nil] at H17 H18 HL1
          clear hr hlen hO HT17 HT18 HLI HA HI HK hlt HN
          go_wp2_with (first | (go_at_call 17; refine H17.out.mono ?_; rintro e w1 ⟨rfl, hb⟩; have H1 := hid (below_step HW.out hb); clear hb) | (go_at_call 18; refine (H18.out _ H1.out).mono ?_; rintro e w2 ⟨rfl, hb⟩; have H2 := hid (below_step H1.out hb); clear hb) | (go_at_call 12; refine (HL1.out _ H2.out).mono ?_; rintro e w3 ⟨ad1, c1, rfl, hb, -⟩; have H3 := hid (below_step H2.out hb); clear hb) | (go_at_call 11; refine (HAW.out _ H3.out).mono ?_; rintro e w6 ⟨rfl, hb⟩; have H6 := hid (below_step H3.out hb); clear hb))
          all_goals (go_ret; exact ⟨rfl, H6.out⟩)
        | some t =>
          have ht := hlen t hr
          have HL1 := hid (fun x hx => HLI.out x hx t (by omega))
          rw [lines_some hr] at HL1
          rw [hr] at H17 H18
          simp only [Option.getD_some, Option.isSome_some] at H17 H18 HL1
          rw [← HN.out] at HL1
          obtain ⟨X, hX⟩ : ∃ X : ByteArray, X = ⟨t.toArray⟩ := ⟨_, rfl⟩
          rw [← hX] at H17 H18 HL1
          clear hr hlen hO HT17 HT18 HLI HA HI HK hlt hX ht HN h20
          go_wp2_with (first | (go_at_call 17; refine H17.out.mono ?_; rintro e w1 ⟨rfl, hb⟩; have H1 := hid (below_step HW.out hb); clear hb) | (go_at_call 18; refine (H18.out _ H1.out).mono ?_; rintro e w2 ⟨rfl, hb⟩; have H2 := hid (below_step H1.out hb); clear hb) | (go_at_call 12; refine (HL1.out _ H2.out).mono ?_; rintro e w3 ⟨ad1, c1, rfl, hb, -⟩; have H3 := hid (below_step H2.out hb); clear hb) | (go_at_call 11; refine (HAW.out _ H3.out).mono ?_; rintro e w6 ⟨rfl, hb⟩; have H6 := hid (below_step H3.out hb); clear hb))
          all_goals (go_ret; exact ⟨rfl, H6.out⟩)
end
end Go.Proofs.YtimnhheagdhpgaaDoor
