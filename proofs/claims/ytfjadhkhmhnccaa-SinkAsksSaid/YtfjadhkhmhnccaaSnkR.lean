/- The law SinkAsks. -/
import Derived.Test.YtfjadhkhmhnccaaSnkQ
set_option linter.unusedVariables false
set_option linter.unusedSimpArgs false
namespace Rng
def Mul5 (l : List R) : Prop := ∀ r ∈ l, r.1 % 5 = 0 ∧ r.2 % 5 = 0
theorem ins_mul : ∀ (l : List R) (r : R), Mul5 l → r.1 % 5 = 0 ∧ r.2 % 5 = 0 → Mul5 (ins l r)
  | [], r, _, hr => by
    intro x hx; unfold ins at hx; simp at hx; subst hx; exact hr
  | y :: l, r, hl, hr => by
    have hy := hl y (by simp)
    have hl' : Mul5 l := fun x hx => hl x (by simp [hx])
    unfold ins
    split
    · intro x hx
      rcases List.mem_cons.1 hx with rfl | hx
      · exact hy
      · exact ins_mul l r hl' hr x hx
    · split
      · refine ins_mul l _ hl' ⟨?_, ?_⟩
        · show (min r.1 y.1) % 5 = 0
          rcases Int.le_total r.1 y.1 with h | h
          · rw [Int.min_eq_left h]; exact hr.1
          · rw [Int.min_eq_right h]; exact hy.1
        · show (max r.2 y.2) % 5 = 0
          rcases Int.le_total r.2 y.2 with h | h
          · rw [Int.max_eq_right h]; exact hy.2
          · rw [Int.max_eq_left h]; exact hr.2
      · intro x hx
        rcases List.mem_cons.1 hx with rfl | hx
        · exact hr
        · exact hl x hx
theorem put_mul {l : List R} {r : R} (hl : Mul5 l) (hr : r.1 % 5 = 0 ∧ r.2 % 5 = 0) : Mul5 (put l r) := by
  unfold put
  split
  · exact hl
  · exact ins_mul l r hl hr
theorem foldPut_mul : ∀ (k l : List R), Mul5 k → Mul5 l → Mul5 (k.foldl put l)
  | [], l, _, hl => hl
  | x :: k, l, hk, hl => foldPut_mul k (put l x) (fun r hr => hk r (by simp [hr])) (put_mul hl (hk x (by simp)))
theorem ofV_mul {l : List R} (h : Mul5 l) : Mul5 (ofV l) := foldPut_mul l [] h (by intro r hr; simp at hr)
theorem remV_mul {l : List R} {r : R} (hl : Mul5 l) (hr : r.1 % 5 = 0 ∧ r.2 % 5 = 0) : Mul5 (remV l r) := by
  unfold remV
  split
  · exact ofV_mul hl
  · refine ofV_mul fun x hx => ?_
    obtain ⟨y, hy, hxy⟩ := List.mem_flatMap.1 hx
    have hy2 := ofV_mul hl y hy
    simp only [cut, List.mem_cons, List.not_mem_nil, or_false] at hxy
    rcases hxy with rfl | rfl
    · refine ⟨hy2.1, ?_⟩
      show (min y.2 r.1) % 5 = 0
      rcases Int.le_total y.2 r.1 with h | h
      · rw [Int.min_eq_left h]; exact hy2.2
      · rw [Int.min_eq_right h]; exact hr.1
    · refine ⟨?_, hy2.2⟩
      show (max y.1 r.2) % 5 = 0
      rcases Int.le_total y.1 r.2 with h | h
      · rw [Int.max_eq_right h]; exact hr.2
      · rw [Int.max_eq_left h]; exact hy2.1
theorem foldRem_mul : ∀ (d o : List R), Mul5 d → Mul5 o → Mul5 (d.foldl remV o)
  | [], o, _, ho => ho
  | r :: d, o, hd, ho => foldRem_mul d (remV o r) (fun x hx => hd x (by simp [hx])) (remV_mul ho (hd r (by simp)))
theorem missV_mul {l : List R} {t : Int} (hl : Mul5 l) (ht : t % 5 = 0) : Mul5 (missV l t) :=
  foldRem_mul _ _ (ofV_mul hl) (ofV_mul (fun r hr => by simp at hr; subst hr; exact ⟨rfl, ht⟩))
theorem mul_len : ∀ {l : List R}, Valid l → Mul5 l → ∀ {a b : Int}, a % 5 = 0 → a ≤ b + 5 → (∀ r ∈ l, a ≤ r.1 ∧ r.1 < r.2 ∧ r.2 ≤ b) → 10 * (l.length : Int) ≤ b - a + 5
  | [], _, _, a, b, _, hab, _ => by simp; omega
  | x :: l, h, hm, a, b, ha, hab, hr => by
    obtain ⟨h1, h2, h3⟩ := valid_cons.1 h
    have hx := hr x (by simp)
    have hxm := hm x (by simp)
    have ih := mul_len h3 (fun r hr => hm r (by simp [hr])) (a := x.2 + 5) (b := b) (by omega) (by omega) (fun r hrm => by
      have e1 := h2 r hrm
      have e2 := hr r (by simp [hrm])
      have e3 := hm r (by simp [hrm])
      exact ⟨by omega, e2.2.1, e2.2.2⟩)
    simp only [List.length_cons]
    omega
theorem missV_short {l : List R} (hl : Mul5 l) : (missV l 100).length ≤ 10 := by
  obtain ⟨h1, h2⟩ := missV_mem l 100
  have := mul_len h1 (missV_mul hl (by decide)) (a := 0) (b := 100) (by decide) (by decide) (valid_in h1 fun m hm => ((h2 m).1 hm).1)
  omega
theorem missV_nil_cov {l : List R} {n : Int} (h : missV l n = []) : ∀ m, 0 ≤ m → m < n → Mem m l := fun m m1 m2 => by
  have h2 := (missV_mem l n).2 m
  rw [h] at h2
  exact Classical.byContradiction fun hc => mem_nil (h2.2 ⟨⟨m1, m2⟩, hc⟩)
end Rng
namespace Fil
open Go
def zer : List Nat := List.replicate 100 0
theorem zer_len : zer.length = 100 := by decide
theorem zer_lt : ∀ x ∈ zer, x < 256 := fun x hx => by have := List.eq_of_mem_replicate hx; omega
/-- What is sent behind the end. -/
theorem asks_nak {now s2} (i : Snk.Inv zer 2 (sumV zer) now s2) (h0 : s2.phase = 0) (hf : s2.fin = true) (hn : ¬ (s2.named = true ∧ Snk.Cov zer s2)) (hm : Rng.Mul5 s2.got) :
    s2.checkV = s2 ∧ s2.missT = 100 ∧ s2.gapsV = (if s2.named = true then [] else [((0 : Int), (0 : Int))]) ++ Rng.missV s2.got 100 := by
  have hmt : s2.missT = 100 := by
    unfold Snk.missT Snk.tot
    cases hnm : s2.named with
    | true => rw [if_pos rfl]; simp only []; rw [if_pos trivial, (i.nm hnm).2, zer_len]; rfl
    | false => simp only [Bool.false_eq_true, if_false, hf, if_true]; rw [(i.fn hf).1, zer_len]; rfl
  refine ⟨i.check0 (fun hh => hn ⟨hh.2.1, hh.2.2.2⟩), hmt, ?_⟩
  unfold Snk.gapsV
  rw [hmt]
  refine List.take_of_length_le ?_
  have := Rng.missV_short hm
  rw [List.length_append]
  split
  · simp; omega
  · simp; omega
theorem asks_done {now s2} (i : Snk.Inv zer 2 (sumV zer) now s2) (h0 : s2.phase = 0) (hf : s2.fin = true) (hn : s2.named = true) (hc : Snk.Cov zer s2) : s2.checkV = { s2 with phase := 1, nak := false } := by
  rw [i.check1 h0 hn hf hc, if_pos rfl]
theorem cov_miss {s2 : Snk} : Snk.Cov zer s2 ↔ Rng.missV s2.got 100 = [] := by
  have e : (zer.length : Int) = 100 := by rw [zer_len]; rfl
  constructor
  · intro h; exact Rng.missV_none (fun m m1 m2 => h m m1 (by rw [e]; exact m2))
  · intro h m m1 m2; exact Rng.missV_nil_cov h m m1 (by rw [e] at m2; exact m2)
end Fil
namespace Go.Proofs.Ytfjadhkhmhnccaa
open Go.RowKit Go.Proofs.Num
def hund : Array Value := ⟨List.replicate 100 (Value.int .u8 0)⟩
theorem make100 (W : World) : (Instr.makeSlice 24 (.int .i64 100) (.int .i64 100)).run Try.prog W = .ok (.slice (some ⟨W.heap.size, 0, none⟩) 100 100) (W.alloc (.cells hund 5)) := by kernel_rfl
theorem hund_zer : hund.toList = u8s Fil.zer := by simp [hund, u8s, Fil.zer, List.map_replicate]
theorem rdHund {W y : World} {L : List HProp} {b0 : Nat} (hs : Sts W L y) (h : blkP b0 (.cells hund 5 (0, 0)) ∈ L) : RdB y (.slice (some ⟨b0, 0, none⟩) 100 100) Fil.zer := by
  have hr := (Rds.blk (l := L) (n := 100) (by simp [hund]) (by decide) h) emp y hs.withEmp
  rw [hund_zer] at hr
  exact ⟨hr, Fil.zer_lt⟩
set_option maxRecDepth 100000 in
set_option maxHeartbeats 4000000 in
theorem asks_far (w : World) (v : Value) (known : Bool) (L : List Nat) (hL : RdB w v L) (hbig : 100 < L.length) : Calls Try.prog 10 #[v, .bool known] w fun e w' => e = .returned (.bool true) ∧ Below w.heap.size w w' := by
  obtain ⟨a, cap, rfl, _⟩ := hL.open
  clear hL
  have h1i : (100 : Int) < L.length := by omega
  have h1d : decide ((100 : Int) < L.length) = true := decide_eq_true h1i
  go_enter Try.func10, Try.ntmps10
  go_wp2_with (first | (go_at_call 32; refine (cAlive28 _).mono ?_; rintro e w9 ⟨rfl, hb9⟩; have H9 := hid hb9; clear hb9))
  go_ret
  exact ⟨rfl, H9.out⟩
theorem Sts.pick4 {W w : World} {A B C D E : HProp} (h : Sts W [A, B, C, D, E] w) : Sts W [D, A, C] w := by
  have h1 : Sts W [D, A, C, B, E] w := h.perm (((List.Perm.swap C B [D, E]).cons A).trans (List.perm_middle (a := D) (l₁ := [A, C, B]) (l₂ := [E])))
  have h2 : Sts W [B, E, D, A, C] w := h1.perm (List.perm_append_comm (l₁ := [D, A, C]) (l₂ := [B, E]))
  exact h2.tail.tail
set_option maxRecDepth 100000 in
set_option maxHeartbeats 16000000 in
theorem asks_near (w : World) (v : Value) (known : Bool) (L : List Nat) (hL : RdB w v L) (hn : L.length ≤ 100) : Calls Try.prog 10 #[v, .bool known] w fun e w' => e = .returned (.bool true) ∧ Below w.heap.size w w' := by
  have HL8 := hid hL.2
  obtain ⟨a, cap, rfl, hLX⟩ := hL.open
  have HLX := hid hLX
  have HN := hid hn
  have h0i : ¬ (100 : Int) < L.length := by omega
  have h0d : decide ((100 : Int) < L.length) = false := decide_eq_false h0i
  have H0 := hid (Sts.nil w)
  have hmk := make100
  clear hL hLX hn
  go_enter Try.func10, Try.ntmps10
  cases known with
  | false =>
    go_wp2_with fail
    clear h0i h0d hmk
    have H1a := hid (H0.out.alloc stab0 (.cells hund 5 (0, 0)))
    clear H0
    generalize hb0 : w.heap.size = b0 at H1a
    generalize w.alloc (.cells hund 5) = w1 at *
    refine (cLId _).mono ?_
    rintro e w2 ⟨rfl, hb⟩
    have H2 := hid (H1a.out.quiet (stab1 (blkP_stable _ _)) hb)
    clear hb H1a
    go_wp2_with fail
    refine (cLConfig _).mono ?_
    rintro e w3 ⟨rfl, hb⟩
    have H3 := hid (H2.out.quiet (stab1 (blkP_stable _ _)) hb)
    clear hb H2
    go_wp2_with fail
    refine (cKNewOk (stab1 (blkP_stable _ _)) 1 5 2 2 10 2 H3.out (by decide)).mono ?_
    rintro e w4 ⟨q, rfl, h⟩
    have H4 : Hid (Sts w [snkP q (Fil.snk0 2), blkP b0 (.cells hund 5 (0, 0))] w4) := hid h
    have HP0 := hid (Fil.snk0_pre Fil.zer 2 (by decide) (by rw [Fil.zer_len]; decide) Fil.zer_lt (fun _ => False) (fun _ _ h => h))
    clear h H3
    go_wp2_with fail
    obtain ⟨s1, hs1⟩ : ∃ s1, s1 = Fil.snk0 2 := ⟨_, rfl⟩
    have HP1 : Hid (Fil.Snk.Pre Fil.zer 2 0 (fun _ => False) s1) := hid (by rw [hs1]; exact HP0.out)
    have HN1 : Hid (s1.named = false) := hid (by rw [hs1]; rfl)
    have HGN : Hid (s1.got = []) := hid (by rw [hs1]; rfl)
    have HG1 : Hid (Rng.Mul5 s1.got) := hid (by rw [HGN.out]; intro r hr; simp at hr)
    have H6 := hid (Sts.rowNilK 81 2 H4.out).swap
    rw [← hs1] at H6
    clear hs1 H4
    go_loopw [8, 9] (fun hv i wr => ∃ (k : Nat) (s : Fil.Snk), k ≤ L.length ∧ i = .int .i64 (k : Int) ∧ Fil.Snk.Pre Fil.zer 2 0 (fun _ => False) s ∧ s.named = false ∧ Rng.Mul5 s.got ∧ Sts w [snkP q s, rowP 81 2 hv (s.got).length (Fil.rcells (s.got)), blkP b0 (.cells hund 5 (0, 0))] wr) (fun hv i _ => L.length - (intOf i).toNat)
    case atStart => exact ⟨0, s1, by omega, rfl, HP1.out, HN1.out, HG1.out, by rw [HGN.out]; exact H6.out⟩
    case round =>
      obtain ⟨k, s, hk, rfl, hF, hnm, hmul, hS⟩ := hrel
      have HF := hid hF
      have HS := hid hS
      have HNM := hid hnm
      have HMU := hid hmul
      clear hF hS hnm hmul H6 HP1 HN1 HG1 HGN
      by_cases hlt : k < L.length
      · have hLn : L.length ≤ 100 := HN.out
        obtain ⟨b1, o1, e1, hb1, x0⟩ := HLX.out k hlt
        subst e1
        have p0 := HS.out.below.cell (p := ⟨b1, o1 + k, none⟩) hb1
        rw [x0] at p0
        have hx256 : L[k] < 256 := HL8.out _ (List.getElem_mem _)
        clear x0 hb1
        generalize L[k] = x at *
        obtain ⟨y, hy⟩ : ∃ y, y = x % 20 := ⟨_, rfl⟩
        obtain ⟨f, hf⟩ : ∃ f, f = y * 5 := ⟨_, rfl⟩
        obtain ⟨f5, hf5⟩ : ∃ f5, f5 = f + 5 := ⟨_, rfl⟩
        have hy20 : y < 20 := by omega
        have hr : (x : Int).tmod 20 = (y : Int) := by rw [Int.tmod_eq_emod_of_nonneg (by omega)]; omega
        have hyw : IntKind.i64.wrap (y : Int) = (y : Int) := i64w y (by omega)
        have hm5 : (y : Int) * 5 = (f : Int) := by omega
        have hfw : IntKind.i64.wrap (f : Int) = (f : Int) := i64w f (by omega)
        have hf5i : (f : Int) + 5 = (f5 : Int) := by omega
        have hf5w : IntKind.i64.wrap (f5 : Int) = (f5 : Int) := i64w f5 (by omega)
        have HLT : Hid (f5 = f + 5 ∧ f5 ≤ 100 ∧ f % 5 = 0) := hid (by omega)
        clear hy hf hf5 hx256 hy20
        go_wp2_with fail
        clear p0 hr hyw hm5 hfw
        refine (cLPiece wr _ Fil.zer (rdHund HS.out (by simp)) f f5 (by have := HLT.out; omega) (by have := HLT.out; rw [Fil.zer_len]; omega) (by rw [Fil.zer_len]; decide)).mono ?_
        rintro e w7 ⟨va, vc, rfl, hN⟩
        have hdl : ((Fil.zer.drop f).take (f5 - f)).length = f5 - f := by have := HLT.out; rw [List.length_take, List.length_drop, Fil.zer_len]; omega
        have hds : (Fil.zer.drop f).take (f5 - f) = (Fil.zer.drop f).take ((Fil.zer.drop f).take (f5 - f)).length := by rw [hdl]
        have hd8 : ∀ x ∈ (Fil.zer.drop f).take (f5 - f), x < 256 := fun x hx => Fil.zer_lt x (List.mem_of_mem_drop (List.mem_of_mem_take hx))
        have hNN := HS.out.new (stabC (snkP_stable _ _) (stabC (rowP_stable _ _ _ _ _) (stab1 (blkP_stable _ _)))) hN
        rw [u8s_len] at hNN
        have hFP := fun va vc => HF.out.piece f va ((Fil.zer.drop f).take (f5 - f)) vc (by have := HLT.out; rw [hdl]; omega) (by have := HLT.out; rw [hdl, Fil.zer_len]; omega) hds
        rw [hdl] at hFP
        have HNN := hid hNN.swap
        have HD8 := hid hd8
        have HDL := hid hdl
        obtain ⟨s2, hs2, hp2, hn2, hg2⟩ := hFP va vc
        have hg3 : s2.got = Rng.ofV (s.got ++ [((f : Int), (f5 : Int))]) := by
          rw [hg2, Rng.put_valid HF.out.inv.v, show ((f + (f5 - f) : Nat) : Int) = (f5 : Int) by have := HLT.out; omega]
        have hg4 : Rng.Mul5 s2.got := by
          rw [hg2]; exact Rng.put_mul HMU.out ⟨by have := HLT.out; simp only []; omega, by have := HLT.out; simp only []; omega⟩
        have HS2 := hid hs2
        have HP2 := hid hp2
        have HN2 := hid hn2
        have HG3 := hid hg3
        have HG4 := hid hg4
        clear hNN hFP hN hds hd8 hdl hs2 hp2 hn2 hg2 hg3 hg4
        generalize (Fil.zer.drop f).take (f5 - f) = ds at *
        go_wp2_with fail
        have htk := cTakePiece (stabC (rowP_stable _ _ _ _ _) (stab1 (blkP_stable _ _))) q s Fil.zer 2 0 0 HF.out.inv f va ds vc HNN.out HD8.out (by have := HLT.out; rw [HDL.out]; omega) (by have := HLT.out; rw [HDL.out]; omega) (by rw [HS2.out]; exact HP2.out.inv.fitB)
        rw [HS2.out] at htk
        refine htk.mono ?_
        rintro e w8 ⟨e0, rfl, he0, h⟩
        have H8 := hid h
        clear h he0 HNN htk
        go_wp2_with fail
        clear hf5i hf5w
        refine (cRefAdd w8 _ s.got (f : Int) (f5 : Int) (RdR.of_own (Sts.rowOwnK H8.out.tail) rfl) (by have := HF.out.inv.len; omega)).mono ?_
        rintro e w9 ⟨r, rfl, hN⟩
        rw [← HG3.out] at hN
        have H9 := hid (Sts.newR (stabC (snkP_stable _ _) (stabC (rowP_stable _ _ _ _ _) (stab1 (blkP_stable _ _)))) H8.out hN).swap.third.tail
        clear hN H8
        go_wp2_with fail
        go_roundw
        case rel => exact ⟨k + 1, s2, by omega, by go_num, HP2.out.mono (fun m m1 m2 h => absurd h id), by rw [HN2.out]; exact HNM.out, HG4.out, H9.out⟩
        case measure => simp [intOf]; omega
      · obtain rfl : L.length = k := by omega
        obtain ⟨ha, hc, hhe⟩ := (RdR.of_own (Sts.rowOwnK HS.out.tail) rfl).eq
        subst hhe
        go_wp2_with fail
        refine (cLEnd wr 2 _ Fil.zer (rdHund HS.out (by simp)) (by rw [Fil.zer_len]; decide)).mono ?_
        rintro e w7 ⟨rfl, hb⟩
        have H7 := hid (HS.out.quiet (stabC (snkP_stable _ _) (stabC (rowP_stable _ _ _ _ _) (stab1 (blkP_stable _ _)))) hb)
        clear hb HS
        go_wp2_with fail
        obtain ⟨s2, i1, i2, i3, i4, i5, i6, i7, he⟩ := HF.out.end' (Fil.sumV Fil.zer)
        have hnm2 : s2.named = false := by rw [i4]; exact HNM.out
        have hmu2 : Rng.Mul5 s2.got := by rw [i5]; exact HMU.out
        have htk := cTakeEnd (stabC (rowP_stable _ _ _ _ _) (stab1 (blkP_stable _ _))) q s Fil.zer 2 0 0 H7.out HF.out.inv (Fil.sumV Fil.zer) (by rw [he, Fil.checkV_fit]; exact i1.fitB)
        rw [he, ← i5] at htk
        refine htk.mono ?_
        rintro e w8 ⟨e0, rfl, he0, h⟩
        have H8 := hid h
        have I1 := hid i1
        have I2 := hid i2
        have I3 := hid i3
        have I6 : Hid (s2.ack = true) := hid i6
        have I7 : Hid (s2.nak = true) := hid i7
        have HN2 := hid hnm2
        have HM2 := hid hmu2
        rw [← i5]
        clear h he0 H7 htk i1 i2 i3 i4 i5 i6 i7 he hnm2 hmu2 HF HNM HMU
        have hin : ∀ r ∈ s2.got, 0 ≤ r.1 ∧ r.2 ≤ ((100 : Nat) : Int) := fun r hr => by
          have := I1.out.rin r hr; rw [Fil.zer_len] at this; omega
        have HIN := hid hin
        have HGL : Hid (s2.got.length < 400000) := hid (by have := I1.out.len; omega)
        clear hin
        go_wp2_with fail
        have hcv : ¬ (s2.named = true ∧ Fil.Snk.Cov Fil.zer s2) := fun h => by rw [HN2.out] at h; exact absurd h.1 (by decide)
        obtain ⟨hck, hmt, hgp⟩ := Fil.asks_nak I1.out I2.out I3.out hcv HM2.out
        rw [hck] at H8
        have hgp2 : s2.gapsV = [((0 : Int), (0 : Int))] ++ Rng.missV s2.got 100 := by rw [hgp, HN2.out]; rfl
        have had : s2.adv 0 = s2 := by unfold Fil.Snk.adv; rw [if_neg]; rw [I1.out.nw]; omega
        have had2 : ({ s2 with ack := false } : Fil.Snk).adv 0 = { s2 with ack := false } := by unfold Fil.Snk.adv; rw [if_neg]; show ¬ (s2.now < 0 ∧ _); rw [I1.out.nw]; omega
        have hT : 0 ≤ s2.timer + s2.timeout ∧ s2.timer + s2.timeout < 4611686018427387904 := by have := I1.out.timer; rw [I1.out.timeout]; omega
        have hT2 : decide (s2.timer + s2.timeout ≤ s2.now) = false := decide_eq_false (by have := I1.out.timer; rw [I1.out.timeout, I1.out.nw]; omega)
        have HAD := hid had
        have HAD2 := hid had2
        have HTT := hid hT
        have HT2 := hid hT2
        have HMT := hid hmt
        have hml : (Rng.missV s2.got 100).length ≤ 10 := Rng.missV_short HM2.out
        have HML := hid hml
        obtain ⟨G9, hg9⟩ : ∃ G9, s2.gapsV = G9 := ⟨_, rfl⟩
        have HG9 := hid hg9
        have HGP : Hid (G9 = [((0 : Int), (0 : Int))] ++ Rng.missV s2.got 100) := hid (by rw [← hg9]; exact hgp2)
        clear had had2 hT hT2 hck hmt hgp hgp2 hml hg9 hcv
        refine (cNxtAck (stabC (rowP_stable _ _ _ _ _) (stab1 (blkP_stable _ _))) q _ s2 H8.out 0 HAD.out I1.out.susp I6.out).mono ?_
        rintro e w9 ⟨rfl, h⟩
        have H9 := hid h
        clear h H8
        go_wp2_with fail
        refine (cNxtNakB (stabC (rowP_stable _ _ _ _ _) (stab1 (blkP_stable _ _))) q _ { s2 with ack := false } H9.out 0 HAD2.out I1.out.susp rfl HTT.out I2.out HT2.out I7.out HN2.out 100 HMT.out (by decide) (by have := HGL.out; show s2.got.length < 1000000; omega) _ rfl G9 HG9.out).mono ?_
        rintro e w10 ⟨ga, gc, rfl, h⟩
        have H10 := hid (h.alloc (stabC (snkP_stable _ _) (stabC (rowP_stable _ _ _ _ _) (stabC (rowP_stable _ _ _ _ _) (stab1 (blkP_stable _ _))))) (.cells zeroPdu 45 (0, 0)))
        clear h H9
        go_wp2_with (first | (refine wpList_agg H10.out (stabC (snkP_stable _ _) (stabC (rowP_stable _ _ _ _ _) (stabC (rowP_stable _ _ _ _ _) (stab1 (blkP_stable _ _))))) rfl (.tmp 11) (.tmp 65) 45 rfl ({ kind := 4, src := s2.src, num := s2.num, ga := ga, gaps := G9, gc := gc } : Fil.Pdu).cells rfl rfl sizePdu rfl rfl ?_; intro w11 hz; have H11 := hid hz; clear hz H10))
        generalize w10.heap.size = b11 at *
        have H12 : Hid (Sts w [rowP 81 2 (.slice ha s2.got.length hc) s2.got.length (Fil.rcells s2.got), blkP b11 (.cells ({ kind := 4, src := s2.src, num := s2.num, ga := ga, gaps := G9, gc := gc } : Fil.Pdu).cells 45 (0, 0)), rowP 81 2 (.slice ga G9.length gc) G9.length (Fil.rcells G9)] w11) := hid (Sts.pick4 H11.out)
        clear H11
        refine (cLMissing w11 _ s2.got (RdR.of_own (Sts.rowOwnK H12.out) rfl) HGL.out 100 (by decide) HIN.out).mono ?_
        rintro e w12 ⟨r, rfl, hN⟩
        obtain ⟨ra, rc, hr⟩ := hN.rd.eq
        subst hr
        have H13 := hid (Sts.newR (stabC (rowP_stable _ _ _ _ _) (stabC (blkP_stable _ _) (stab1 (rowP_stable _ _ _ _ _)))) H12.out hN)
        clear hN H12
        obtain ⟨M, hM⟩ : ∃ M, Rng.missV s2.got ((100 : Nat) : Int) = M := ⟨_, rfl⟩
        have HMM := hid hM
        rw [hM] at H13
        have hMl : M.length ≤ 10 := by rw [← hM]; exact HML.out
        have HGM : Hid (G9 = [((0 : Int), (0 : Int))] ++ M) := hid (by rw [← hM]; exact HGP.out)
        clear hM
        rw [show (Rng.missV s2.got ((100 : Nat) : Int)) = M from HMM.out]
        have e0 : w12.cell? ⟨b11, 0, none⟩ = some (.int .i64 4) := (Sts.boxCell H13.out.tail.tail 0 _ rfl).1
        have e10 : w12.cell? ⟨b11, 10, none⟩ = some (.slice ga G9.length gc) := (Sts.boxCell H13.out.tail.tail 10 _ rfl).1
        have HAL := hid ((H13.out.alloc (stabC (rowP_stable _ _ _ _ _) (stabC (rowP_stable _ _ _ _ _) (stabC (blkP_stable _ _) (stab1 (rowP_stable _ _ _ _ _))))) (.cells #[.int .i64 0, .int .i64 0] 81 (0, 0))).weaken (B := rowP 81 2 (.slice (some ⟨w12.heap.size, 0, none⟩) 1 1) ([((0 : Int), (0 : Int))]).length (Fil.rcells ([((0 : Int), (0 : Int))]))) (fun F h => blkP.rowR h (by decide) rfl (by unfold maxLen; omega)))
        clear e0 e10
        go_wp2_with (at_builtin; refine wpList_appendR (l := [((0 : Int), (0 : Int))]) rfl (.tmp 87) (.tmp 88) rfl HAL.out (stabC (rowP_stable _ _ _ _ _) (stabC (rowP_stable _ _ _ _ _) (stabC (blkP_stable _ _) (stab1 (rowP_stable _ _ _ _ _))))) rfl _ rfl (RdR.of_own (Sts.rowOwnK HAL.out.tail) rfl) (by simp; omega) ?_; intro v13 w13 hz; obtain ⟨xa, xc, hv⟩ := (RdR.of_own (Sts.rowOwnK hz) rfl).eq; subst hv; have H14 := hid hz; have e0 : w13.cell? ⟨b11, 0, none⟩ = some (.int .i64 4) := (Sts.boxCell hz.tail.tail.tail 0 _ rfl).1; have e10 : w13.cell? ⟨b11, 10, none⟩ = some (.slice ga G9.length gc) := (Sts.boxCell hz.tail.tail.tail 10 _ rfl).1; clear hz)
        refine (cLSame w13 _ _ G9 (RdR.of_own (Sts.rowOwnK H14.out.tail.tail.tail.tail) rfl) (by rw [HGM.out]; exact RdR.of_own (Sts.rowOwnK H14.out) rfl) (by rw [HGM.out]; simp; omega)).mono ?_
        rintro e w14 ⟨rfl, hb⟩
        have HB14 := hid (H14.out.below.trans (hb.mono H14.out.below.size))
        clear hb
        go_wp2_with fail
        refine (cAlive28 _).mono ?_
        rintro e w15 ⟨rfl, hb9⟩
        have H99 := hid (HB14.out.trans (hb9.mono HB14.out.size))
        clear hb9
        go_wp2_with fail
        go_ret
        exact ⟨rfl, H99.out⟩
  | true =>
    go_wp2_with fail
    clear h0i h0d hmk
    have H1a := hid (H0.out.alloc stab0 (.cells hund 5 (0, 0)))
    clear H0
    generalize hb0 : w.heap.size = b0 at H1a
    generalize w.alloc (.cells hund 5) = w1 at *
    refine (cLId _).mono ?_
    rintro e w2 ⟨rfl, hb⟩
    have H2 := hid (H1a.out.quiet (stab1 (blkP_stable _ _)) hb)
    clear hb H1a
    go_wp2_with fail
    refine (cLConfig _).mono ?_
    rintro e w3 ⟨rfl, hb⟩
    have H3 := hid (H2.out.quiet (stab1 (blkP_stable _ _)) hb)
    clear hb H2
    go_wp2_with fail
    refine (cKNewOk (stab1 (blkP_stable _ _)) 1 5 2 2 10 2 H3.out (by decide)).mono ?_
    rintro e w4 ⟨q, rfl, h⟩
    have H4 : Hid (Sts w [snkP q (Fil.snk0 2), blkP b0 (.cells hund 5 (0, 0))] w4) := hid h
    have HP0 := hid (Fil.snk0_pre Fil.zer 2 (by decide) (by rw [Fil.zer_len]; decide) Fil.zer_lt (fun _ => False) (fun _ _ h => h))
    clear h H3
    go_wp2_with fail
    refine (cLMeta _ 2 _ 100 100).mono ?_
    rintro e w5 ⟨rfl, hb⟩
    have H5 := hid (H4.out.quiet (stabC (snkP_stable _ _) (stab1 (blkP_stable _ _))) hb)
    clear hb H4
    go_wp2_with fail
    obtain ⟨s1, hs1, hp1, hn1, hg1⟩ := HP0.out.meta'
    have hck := cTakeMeta (stab1 (blkP_stable _ _)) q _ Fil.zer 2 0 0 H5.out HP0.out.inv (fun s' he => by rw [he, hs1]; exact hp1.inv)
    rw [hs1] at hck
    refine hck.mono ?_
    rintro e w6 ⟨e0, rfl, he0, h⟩
    have HP1 := hid hp1
    have HN1 := hid hn1
    have HG1 : Hid (Rng.Mul5 s1.got) := hid (by rw [hg1]; intro r hr; exact absurd hr (by simp [Fil.snk0]))
    have HGN : Hid (s1.got = []) := hid hg1
    have H6 := hid (Sts.rowNilK 81 2 h).swap
    clear h H5 hck hs1 hp1 hn1 hg1 he0
    go_wp2_with fail
    go_loopw [8, 9] (fun hv i wr => ∃ (k : Nat) (s : Fil.Snk), k ≤ L.length ∧ i = .int .i64 (k : Int) ∧ Fil.Snk.Pre Fil.zer 2 0 (fun _ => False) s ∧ s.named = true ∧ Rng.Mul5 s.got ∧ Sts w [snkP q s, rowP 81 2 hv (s.got).length (Fil.rcells (s.got)), blkP b0 (.cells hund 5 (0, 0))] wr) (fun hv i _ => L.length - (intOf i).toNat)
    case atStart => exact ⟨0, s1, by omega, rfl, HP1.out, HN1.out, HG1.out, by rw [HGN.out]; exact H6.out⟩
    case round =>
      obtain ⟨k, s, hk, rfl, hF, hnm, hmul, hS⟩ := hrel
      have HF := hid hF
      have HS := hid hS
      have HNM := hid hnm
      have HMU := hid hmul
      clear hF hS hnm hmul H6 HP1 HN1 HG1 HGN
      by_cases hlt : k < L.length
      · have hLn : L.length ≤ 100 := HN.out
        obtain ⟨b1, o1, e1, hb1, x0⟩ := HLX.out k hlt
        subst e1
        have p0 := HS.out.below.cell (p := ⟨b1, o1 + k, none⟩) hb1
        rw [x0] at p0
        have hx256 : L[k] < 256 := HL8.out _ (List.getElem_mem _)
        clear x0 hb1
        generalize L[k] = x at *
        obtain ⟨y, hy⟩ : ∃ y, y = x % 20 := ⟨_, rfl⟩
        obtain ⟨f, hf⟩ : ∃ f, f = y * 5 := ⟨_, rfl⟩
        obtain ⟨f5, hf5⟩ : ∃ f5, f5 = f + 5 := ⟨_, rfl⟩
        have hy20 : y < 20 := by omega
        have hr : (x : Int).tmod 20 = (y : Int) := by rw [Int.tmod_eq_emod_of_nonneg (by omega)]; omega
        have hyw : IntKind.i64.wrap (y : Int) = (y : Int) := i64w y (by omega)
        have hm5 : (y : Int) * 5 = (f : Int) := by omega
        have hfw : IntKind.i64.wrap (f : Int) = (f : Int) := i64w f (by omega)
        have hf5i : (f : Int) + 5 = (f5 : Int) := by omega
        have hf5w : IntKind.i64.wrap (f5 : Int) = (f5 : Int) := i64w f5 (by omega)
        have HLT : Hid (f5 = f + 5 ∧ f5 ≤ 100 ∧ f % 5 = 0) := hid (by omega)
        clear hy hf hf5 hx256 hy20
        go_wp2_with fail
        clear p0 hr hyw hm5 hfw
        refine (cLPiece wr _ Fil.zer (rdHund HS.out (by simp)) f f5 (by have := HLT.out; omega) (by have := HLT.out; rw [Fil.zer_len]; omega) (by rw [Fil.zer_len]; decide)).mono ?_
        rintro e w7 ⟨va, vc, rfl, hN⟩
        have hdl : ((Fil.zer.drop f).take (f5 - f)).length = f5 - f := by have := HLT.out; rw [List.length_take, List.length_drop, Fil.zer_len]; omega
        have hds : (Fil.zer.drop f).take (f5 - f) = (Fil.zer.drop f).take ((Fil.zer.drop f).take (f5 - f)).length := by rw [hdl]
        have hd8 : ∀ x ∈ (Fil.zer.drop f).take (f5 - f), x < 256 := fun x hx => Fil.zer_lt x (List.mem_of_mem_drop (List.mem_of_mem_take hx))
        have hNN := HS.out.new (stabC (snkP_stable _ _) (stabC (rowP_stable _ _ _ _ _) (stab1 (blkP_stable _ _)))) hN
        rw [u8s_len] at hNN
        have hFP := fun va vc => HF.out.piece f va ((Fil.zer.drop f).take (f5 - f)) vc (by have := HLT.out; rw [hdl]; omega) (by have := HLT.out; rw [hdl, Fil.zer_len]; omega) hds
        rw [hdl] at hFP
        have HNN := hid hNN.swap
        have HD8 := hid hd8
        have HDL := hid hdl
        obtain ⟨s2, hs2, hp2, hn2, hg2⟩ := hFP va vc
        have hg3 : s2.got = Rng.ofV (s.got ++ [((f : Int), (f5 : Int))]) := by
          rw [hg2, Rng.put_valid HF.out.inv.v, show ((f + (f5 - f) : Nat) : Int) = (f5 : Int) by have := HLT.out; omega]
        have hg4 : Rng.Mul5 s2.got := by
          rw [hg2]; exact Rng.put_mul HMU.out ⟨by have := HLT.out; simp only []; omega, by have := HLT.out; simp only []; omega⟩
        have HS2 := hid hs2
        have HP2 := hid hp2
        have HN2 := hid hn2
        have HG3 := hid hg3
        have HG4 := hid hg4
        clear hNN hFP hN hds hd8 hdl hs2 hp2 hn2 hg2 hg3 hg4
        generalize (Fil.zer.drop f).take (f5 - f) = ds at *
        go_wp2_with fail
        have htk := cTakePiece (stabC (rowP_stable _ _ _ _ _) (stab1 (blkP_stable _ _))) q s Fil.zer 2 0 0 HF.out.inv f va ds vc HNN.out HD8.out (by have := HLT.out; rw [HDL.out]; omega) (by have := HLT.out; rw [HDL.out]; omega) (by rw [HS2.out]; exact HP2.out.inv.fitB)
        rw [HS2.out] at htk
        refine htk.mono ?_
        rintro e w8 ⟨e0, rfl, he0, h⟩
        have H8 := hid h
        clear h he0 HNN htk
        go_wp2_with fail
        clear hf5i hf5w
        refine (cRefAdd w8 _ s.got (f : Int) (f5 : Int) (RdR.of_own (Sts.rowOwnK H8.out.tail) rfl) (by have := HF.out.inv.len; omega)).mono ?_
        rintro e w9 ⟨r, rfl, hN⟩
        rw [← HG3.out] at hN
        have H9 := hid (Sts.newR (stabC (snkP_stable _ _) (stabC (rowP_stable _ _ _ _ _) (stab1 (blkP_stable _ _)))) H8.out hN).swap.third.tail
        clear hN H8
        go_wp2_with fail
        go_roundw
        case rel => exact ⟨k + 1, s2, by omega, by go_num, HP2.out.mono (fun m m1 m2 h => absurd h id), by rw [HN2.out]; exact HNM.out, HG4.out, H9.out⟩
        case measure => simp [intOf]; omega
      · obtain rfl : L.length = k := by omega
        obtain ⟨ha, hc, hhe⟩ := (RdR.of_own (Sts.rowOwnK HS.out.tail) rfl).eq
        subst hhe
        go_wp2_with fail
        refine (cLEnd wr 2 _ Fil.zer (rdHund HS.out (by simp)) (by rw [Fil.zer_len]; decide)).mono ?_
        rintro e w7 ⟨rfl, hb⟩
        have H7 := hid (HS.out.quiet (stabC (snkP_stable _ _) (stabC (rowP_stable _ _ _ _ _) (stab1 (blkP_stable _ _)))) hb)
        clear hb HS
        go_wp2_with fail
        obtain ⟨s2, i1, i2, i3, i4, i5, i6, i7, he⟩ := HF.out.end' (Fil.sumV Fil.zer)
        have hnm2 : s2.named = true := by rw [i4]; exact HNM.out
        have hmu2 : Rng.Mul5 s2.got := by rw [i5]; exact HMU.out
        have htk := cTakeEnd (stabC (rowP_stable _ _ _ _ _) (stab1 (blkP_stable _ _))) q s Fil.zer 2 0 0 H7.out HF.out.inv (Fil.sumV Fil.zer) (by rw [he, Fil.checkV_fit]; exact i1.fitB)
        rw [he, ← i5] at htk
        refine htk.mono ?_
        rintro e w8 ⟨e0, rfl, he0, h⟩
        have H8 := hid h
        have I1 := hid i1
        have I2 := hid i2
        have I3 := hid i3
        have I6 : Hid (s2.ack = true) := hid i6
        have I7 : Hid (s2.nak = true) := hid i7
        have HN2 := hid hnm2
        have HM2 := hid hmu2
        rw [← i5]
        clear h he0 H7 htk i1 i2 i3 i4 i5 i6 i7 he hnm2 hmu2 HF HNM HMU
        have hin : ∀ r ∈ s2.got, 0 ≤ r.1 ∧ r.2 ≤ ((100 : Nat) : Int) := fun r hr => by
          have := I1.out.rin r hr; rw [Fil.zer_len] at this; omega
        have HIN := hid hin
        have HGL : Hid (s2.got.length < 400000) := hid (by have := I1.out.len; omega)
        clear hin
        go_wp2_with fail
        by_cases hcv : s2.named = true ∧ Fil.Snk.Cov Fil.zer s2
        · rw [Fil.asks_done I1.out I2.out I3.out hcv.1 hcv.2] at H8
          have hms := Fil.cov_miss.1 hcv.2
          have HMS := hid hms
          have had : ({ s2 with phase := 1, nak := false } : Fil.Snk).adv 0 = { s2 with phase := 1, nak := false } := by unfold Fil.Snk.adv; rw [if_neg]; show ¬ (s2.now < 0 ∧ _); rw [I1.out.nw]; omega
          have had2 : ({ s2 with phase := 1, nak := false, ack := false } : Fil.Snk).adv 0 = { s2 with phase := 1, nak := false, ack := false } := by unfold Fil.Snk.adv; rw [if_neg]; show ¬ (s2.now < 0 ∧ _); rw [I1.out.nw]; omega
          have hT : 0 ≤ s2.timer + s2.timeout ∧ s2.timer + s2.timeout < 4611686018427387904 := by have := I1.out.timer; rw [I1.out.timeout]; omega
          have HAD := hid had
          have HAD2 := hid had2
          have HTT := hid hT
          clear had had2 hT hms
          refine (cNxtAck (stabC (rowP_stable _ _ _ _ _) (stab1 (blkP_stable _ _))) q _ { s2 with phase := 1, nak := false } H8.out 0 HAD.out I1.out.susp I6.out).mono ?_
          rintro e w9 ⟨rfl, h⟩
          have H9 := hid h
          clear h H8
          go_wp2_with fail
          refine (cNxtIdle (stabC (rowP_stable _ _ _ _ _) (stab1 (blkP_stable _ _))) q _ { s2 with phase := 1, nak := false, ack := false } H9.out 0 HAD2.out I1.out.susp rfl HTT.out rfl rfl rfl).mono ?_
          rintro e w10 ⟨rfl, h⟩
          have H10 := hid (h.alloc (stabC (snkP_stable _ _) (stabC (rowP_stable _ _ _ _ _) (stab1 (blkP_stable _ _)))) (.cells zeroPdu 45 (0, 0)))
          clear h H9
          go_wp2_with (first | (refine wpList_agg H10.out (stabC (snkP_stable _ _) (stabC (rowP_stable _ _ _ _ _) (stab1 (blkP_stable _ _)))) rfl (.tmp 11) (.tmp 65) 45 rfl zeroPdu rfl rfl sizePdu rfl rfl ?_; intro w11 hz; have H11 := hid hz.tail; clear hz H10))
          refine (cLMissing w11 _ s2.got (RdR.of_own (Sts.rowOwnK H11.out.tail) rfl) HGL.out 100 (by decide) HIN.out).mono ?_
          rintro e w12 ⟨r, rfl, hN⟩
          rw [show Rng.missV s2.got ((100 : Nat) : Int) = [] from HMS.out] at hN
          obtain ⟨ra, rc, hr⟩ := hN.rd.eq
          subst hr
          have HB12 := hid (H11.out.below.trans (hN.below.mono H11.out.below.size))
          clear hN
          go_wp2_with fail
          refine (cAlive28 _).mono ?_
          rintro e w13 ⟨rfl, hb9⟩
          have H99 := hid (HB12.out.trans (hb9.mono HB12.out.size))
          clear hb9
          go_wp2_with fail
          go_ret
          exact ⟨rfl, H99.out⟩
        · obtain ⟨hck, hmt, hgp⟩ := Fil.asks_nak I1.out I2.out I3.out hcv HM2.out
          rw [hck] at H8
          have hgp2 : s2.gapsV = [] ++ Rng.missV s2.got 100 := by rw [hgp, HN2.out]; rfl
          have had : s2.adv 0 = s2 := by unfold Fil.Snk.adv; rw [if_neg]; rw [I1.out.nw]; omega
          have had2 : ({ s2 with ack := false } : Fil.Snk).adv 0 = { s2 with ack := false } := by unfold Fil.Snk.adv; rw [if_neg]; show ¬ (s2.now < 0 ∧ _); rw [I1.out.nw]; omega
          have hT : 0 ≤ s2.timer + s2.timeout ∧ s2.timer + s2.timeout < 4611686018427387904 := by have := I1.out.timer; rw [I1.out.timeout]; omega
          have hT2 : decide (s2.timer + s2.timeout ≤ s2.now) = false := decide_eq_false (by have := I1.out.timer; rw [I1.out.timeout, I1.out.nw]; omega)
          have hne : Rng.missV s2.got 100 ≠ [] := fun h => hcv ⟨HN2.out, Fil.cov_miss.2 h⟩
          have HNE := hid hne
          clear hne
          have HAD := hid had
          have HAD2 := hid had2
          have HTT := hid hT
          have HT2 := hid hT2
          have HMT := hid hmt
          have hml : (Rng.missV s2.got 100).length ≤ 10 := Rng.missV_short HM2.out
          have HML := hid hml
          obtain ⟨G9, hg9⟩ : ∃ G9, s2.gapsV = G9 := ⟨_, rfl⟩
          have HG9 := hid hg9
          have HGP : Hid (G9 = [] ++ Rng.missV s2.got 100) := hid (by rw [← hg9]; exact hgp2)
          clear had had2 hT hT2 hck hmt hgp hgp2 hml hg9 hcv
          refine (cNxtAck (stabC (rowP_stable _ _ _ _ _) (stab1 (blkP_stable _ _))) q _ s2 H8.out 0 HAD.out I1.out.susp I6.out).mono ?_
          rintro e w9 ⟨rfl, h⟩
          have H9 := hid h
          clear h H8
          go_wp2_with fail
          refine (cNxtNakA (stabC (rowP_stable _ _ _ _ _) (stab1 (blkP_stable _ _))) q _ { s2 with ack := false } H9.out 0 HAD2.out I1.out.susp rfl HTT.out I2.out HT2.out I7.out HN2.out 100 HMT.out (by decide) (by have := HGL.out; show s2.got.length < 1000000; omega) _ rfl G9 HG9.out).mono ?_
          rintro e w10 ⟨ga, gc, rfl, h⟩
          have H10 := hid (h.alloc (stabC (snkP_stable _ _) (stabC (rowP_stable _ _ _ _ _) (stabC (rowP_stable _ _ _ _ _) (stab1 (blkP_stable _ _))))) (.cells zeroPdu 45 (0, 0)))
          clear h H9
          go_wp2_with (first | (refine wpList_agg H10.out (stabC (snkP_stable _ _) (stabC (rowP_stable _ _ _ _ _) (stabC (rowP_stable _ _ _ _ _) (stab1 (blkP_stable _ _))))) rfl (.tmp 11) (.tmp 65) 45 rfl ({ kind := 4, src := s2.src, num := s2.num, ga := ga, gaps := G9, gc := gc } : Fil.Pdu).cells rfl rfl sizePdu rfl rfl ?_; intro w11 hz; have H11 := hid hz; clear hz H10))
          generalize w10.heap.size = b11 at *
          have H12 : Hid (Sts w [rowP 81 2 (.slice ha s2.got.length hc) s2.got.length (Fil.rcells s2.got), blkP b11 (.cells ({ kind := 4, src := s2.src, num := s2.num, ga := ga, gaps := G9, gc := gc } : Fil.Pdu).cells 45 (0, 0)), rowP 81 2 (.slice ga G9.length gc) G9.length (Fil.rcells G9)] w11) := hid (Sts.pick4 H11.out)
          clear H11
          refine (cLMissing w11 _ s2.got (RdR.of_own (Sts.rowOwnK H12.out) rfl) HGL.out 100 (by decide) HIN.out).mono ?_
          rintro e w12 ⟨r, rfl, hN⟩
          obtain ⟨ra, rc, hr⟩ := hN.rd.eq
          subst hr
          have H13 := hid (Sts.newR (stabC (rowP_stable _ _ _ _ _) (stabC (blkP_stable _ _) (stab1 (rowP_stable _ _ _ _ _)))) H12.out hN)
          clear hN H12
          obtain ⟨M, hM⟩ : ∃ M, Rng.missV s2.got ((100 : Nat) : Int) = M := ⟨_, rfl⟩
          have HMM := hid hM
          rw [hM] at H13
          have hMl : M.length ≤ 10 := by rw [← hM]; exact HML.out
          have HGM : Hid (G9 = [] ++ M) := hid (by rw [← hM]; exact HGP.out)
          have hMn : M ≠ [] := by rw [← hM]; exact HNE.out
          have hM0 : M.length ≠ 0 := fun h => hMn (List.length_eq_zero_iff.1 h)
          have hM0i : ((M.length : Int) == 0) = false := by rw [beq_eq_false_iff_ne]; omega
          have hM0n : (M.length == 0) = false := by rw [beq_eq_false_iff_ne]; exact hM0
          clear hMn
          clear hM
          rw [show (Rng.missV s2.got ((100 : Nat) : Int)) = M from HMM.out]
          have e0 : w12.cell? ⟨b11, 0, none⟩ = some (.int .i64 4) := (Sts.boxCell H13.out.tail.tail 0 _ rfl).1
          have e10 : w12.cell? ⟨b11, 10, none⟩ = some (.slice ga G9.length gc) := (Sts.boxCell H13.out.tail.tail 10 _ rfl).1
          go_wp2_with fail
          refine (cLSame w12 _ _ G9 (RdR.of_own (Sts.rowOwnK H13.out.tail.tail.tail) rfl) (by have h := HGM.out; rw [List.nil_append] at h; rw [h]; exact RdR.of_own (Sts.rowOwnK H13.out) rfl) (by rw [HGM.out]; simp; omega)).mono ?_
          rintro e w14 ⟨rfl, hb⟩
          have HB14 := hid (H13.out.below.trans (hb.mono H13.out.below.size))
          clear hb
          go_wp2_with fail
          refine (cAlive28 _).mono ?_
          rintro e w15 ⟨rfl, hb9⟩
          have H99 := hid (HB14.out.trans (hb9.mono HB14.out.size))
          clear hb9
          go_wp2_with fail
          go_ret
          exact ⟨rfl, H99.out⟩
theorem asks_all (w : World) (v : Value) (known : Bool) (L : List Nat) (hL : RdB w v L) : Calls Try.prog 10 #[v, .bool known] w fun e w' => e = .returned (.bool true) ∧ Below w.heap.size w w' := by
  by_cases h1 : L.length ≤ 100
  · exact asks_near w v known L hL h1
  · exact asks_far w v known L hL (by omega)
end Go.Proofs.Ytfjadhkhmhnccaa
