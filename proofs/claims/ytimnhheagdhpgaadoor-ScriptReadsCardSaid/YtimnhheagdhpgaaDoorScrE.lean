/- The words of a line. -/
import Derived.Test.YtimnhheagdhpgaaDoorScrC
import Derived.Lib.OthersKept
import Derived.WalkSmall
set_option linter.unusedVariables false
set_option linter.unusedSimpArgs false
namespace Go.Proofs.YtimnhheagdhpgaaDoor
open Go.RowKit Go.Proofs.Num Scr
theorem Sts.iter {W w : World} {k : Nat} {S : ByteArray} {p : Nat} {l : List HProp} (hl : ∀ A ∈ l, Stable A) (h : Sts W (blkP k (.stringIter S p) :: l) w) (p' : Nat) : Sts W (blkP k (.stringIter S p') :: l) (w.iterAt k S p') := by
  obtain ⟨F, ⟨F1, F2, ⟨a, hF1⟩, r, hd, hF⟩, hb, hn⟩ := h
  have hk : Keep (fun j => j = k) w (w.iterAt k S p') := ⟨rfl, rfl, rfl, by rw [Lib.iterAt_size]; exact Nat.le_refl _, fun i _ hi => Lib.iterAt_other w k i S p' hi⟩
  refine ⟨F, ⟨F1, F2, ⟨Lib.iterAt_heap w k S p p' a, hF1⟩, (stars_stable hl).keep r hk (fun j h2 h1 => hd j ((hF1 j).2 h1) h2), hd, hF⟩, ?_, hn⟩
  exact Lib.below_iterAt hb (hn k ((hF k).2 (Or.inl ((hF1 k).2 rfl)))) S p'
theorem Sts.iterHeap {W w : World} {k : Nat} {S : ByteArray} {p : Nat} {l : List HProp} (h : Sts W (blkP k (.stringIter S p) :: l) w) : w.heap[k]? = some (.stringIter S p) := by
  obtain ⟨F, a, _⟩ := h.head; exact a
/-- A piece of a string. -/
theorem run_piece (S : ByteArray) (a b : Nat) (hab : a ≤ b) (hb : b ≤ (bs S).length) (x : World) : (Instr.slice 9 (.string S) (some (.int .i64 (a : Int))) (some (.int .i64 (b : Int))) none).run Tryd.prog x = .ok (.string ⟨(((bs S).drop a).take (b - a)).toArray⟩) x := by
  rw [run_slice_string x 9 S .i64 .i64 (a : Int) (b : Int) Tryd.underlying9 (by omega) (by omega) (by rw [bs_size]; omega)]
  rw [← ByteArray.extract_mk, mk_bs]
  rfl
theorem run_rest (S : ByteArray) (a : Nat) (ha : a ≤ (bs S).length) (x : World) : (Instr.slice 9 (.string S) (some (.int .i64 (a : Int))) none none).run Tryd.prog x = .ok (.string ⟨((bs S).drop a).toArray⟩) x := by
  rw [run_slice_string_from_if x 9 S .i64 (a : Int) Tryd.underlying9, if_pos ⟨by omega, by rw [bs_size]; omega⟩]
  have e : S.extract (a : Int).toNat S.size = ⟨((bs S).drop a).toArray⟩ := by
    have := ByteArray.extract_mk (bs S) a (bs S).length
    rw [mk_bs] at this
    rw [show (a : Int).toNat = a by omega, bs_size, this, List.take_of_length_le (by simp)]
  rw [e]
def wordsE (w w' : World) (s : Str) (e : Ending) : Prop := ∃ v, e = .returned (.tuple #[v, .bool (okW s)]) ∧ Below w.heap.size w w' ∧ (okW s = true → New w w' 9 v (strsV (splitW s)))
structure WInv (l : Str) (pos start : Nat) (out : List Str) : Prop where
  le : start ≤ pos
  free : ∀ j, start ≤ j → j < pos → l.getD j 0 ≠ 32
  split : out ++ splitW (l.drop start) = splitW l
  ne : ∀ x ∈ out, x ≠ []
  few : out.length ≤ start
section
variable {w : World}
set_option maxHeartbeats 8000000 in
theorem cWords (S : ByteArray) (hs : S.size < 1000000) : Calls Tryd.prog 19 #[.string S] w fun e w' => wordsE w w' (bs S) e := by
  obtain ⟨N, hN⟩ : ∃ N, N = (bs S).length := ⟨_, rfl⟩
  have hz : S.size = N := by rw [bs_size, hN]
  have HN := hid hN
  have hN1 : N < 1000000 := by omega
  clear hN hs
  have hS0 := hid ((Sts.nil w).alloc stab0 (.stringIter S 0))
  have hS1 := hid (Sts.rowNil 9 hS0.out)
  obtain ⟨l, hl⟩ : ∃ l, l = bs S := ⟨_, rfl⟩
  have HL := hid hl
  rw [← hl] at HN ⊢
  clear hl
  go_enter Tryd.func19, Tryd.ntmps19
  go_wp2_with fail
  go_loopw [4, 5] (fun v st wr => ∃ (pos start : Nat) (out : List Str), pos ≤ N ∧ start ≤ pos ∧ st = .int .i64 start ∧ out.length < 1000001 ∧ Hid (WInv l pos start out) ∧ Hid (Sts w [rowP 9 1 v (strsV out).length (strsV out), blkP w.heap.size (.stringIter S pos)] wr)) (fun _ _ wr => N - wr.iterPos w.heap.size)
  case atStart => exact ⟨0, 0, [], by omega, by omega, rfl, by simp, hid ⟨by omega, fun j h1 h2 => by omega, rfl, by simp, by simp⟩, hid hS1.out⟩
  case round =>
    obtain ⟨pos, start, out, hp, hst, rfl, hfew, HI, HS⟩ := hrel
    have hst1 : ∀ p, Stable (blkP w.heap.size (.stringIter S p)) := fun p => blkP_stable _ _
    have hit := Sts.iterHeap HS.out.swap
    have hpos0 := iterPos_of hit
    have HIT0 := hid hit
    have hf2 : (strsV out).length + 1 < 1000000000 := by rw [strsV_len]; omega
    by_cases hlt : pos < N
    · have hw1 : 1 ≤ (Utf8.decode S pos).2 := by
        by_cases hc : (bs S).getD pos 0 = 32
        · rw [dec_blank S pos hc]; simp
        · exact (dec_other S pos (by rw [← HL.out, ← HN.out]; exact hlt) hc).2.1
      have hnx : ∀ ty, (Instr.next (.pointer (some ⟨w.heap.size, 0, none⟩)) true ty).run Tryd.prog wr = _ := fun ty => Lib.run_next_any_at wr w.heap.size S pos ty hit (by rw [hz]; exact hlt)
      have HS2 := hid (Sts.iter (stab1 (rowP_stable _ _ _ _ _)) HS.out.swap (pos + (Utf8.decode S pos).2)).swap
      obtain ⟨W1, hW1⟩ : ∃ W1, W1 = wr.iterAt w.heap.size S (pos + (Utf8.decode S pos).2) := ⟨_, rfl⟩
      rw [← hW1] at hnx HS2
      clear hW1 HS hit
      by_cases hc : l.getD pos 0 = 32
      · have hd := dec_blank S pos (by rw [← HL.out]; exact hc)
        rw [hd] at hnx HS2
        obtain ⟨⟨h1, h2, h3, h4, h5⟩⟩ := (⟨HI.out⟩ : Nonempty (WInv l pos start out))
        have hsp := split_at h1 (by rw [← HN.out]; exact hlt) h2 hc
        clear HI
        by_cases he : pos = start
        · subst he
          have hk : okW l = false := by
            cases hk : okW l with
            | false => rfl
            | true =>
              exfalso
              simp only [okW, List.all_eq_true, decide_eq_true_eq] at hk
              apply hk [] ?_ rfl
              rw [← h3, hsp]
              simp
          have HK := hid hk
          clear hk h2 h3 h4 h5 hsp hd
          go_wp2_with fail
          all_goals (go_ret2; exact ⟨_, by rw [HK.out]; rfl, HS2.out.below, fun h => by rw [HK.out] at h; cases h⟩)
        · have hpc := run_piece S start pos h1 (by rw [← HL.out, ← HN.out]; omega)
          rw [← HL.out] at hpc
          have hI2 : WInv l (pos + 1) (pos + 1) (out ++ [(l.drop start).take (pos - start)]) := {
            le := Nat.le_refl _
            free := fun j h1 h2 => by omega
            split := by rw [List.append_assoc, ← h3, hsp]; rfl
            ne := by
              intro x hx
              rcases List.mem_append.1 hx with hx | hx
              · exact h4 x hx
              · rw [List.mem_singleton] at hx
                subst hx
                intro e
                have := congrArg List.length e
                simp only [List.length_take, List.length_drop, List.length_nil] at this
                have := HN.out
                omega
            few := by simp; omega }
          have HI2 := hid hI2
          obtain ⟨wd, hwd⟩ : ∃ wd, wd = (l.drop start).take (pos - start) := ⟨_, rfl⟩
          rw [← hwd] at hpc HI2
          clear hI2 h1 h2 h3 h4 hsp hd hwd
          have hne : ((pos : Int) == (start : Int)) = false := by simp; omega
          go_wp2_with (first | (at_builtin; refine wpList_app eltStr (ms := [.string ⟨wd.toArray⟩]) rfl (.tmp 19) (.tmp 24) rfl (HS2.out.box (stabC (rowP_stable _ _ _ _ _) (stab1 (hst1 _))) _) (stab1 (hst1 _)) rfl ⟨W1.heap.size, 0, none⟩ 1 rfl (new_cell _ _ _) (fun u hu => by simp only [List.mem_singleton] at hu; subst hu; rfl) (by decide) hf2 ?_; intro v' w2 hz2; have HZ := hid hz2; clear hz2))
          all_goals (go_roundw
                     case rel => exact ⟨pos + 1, pos + 1, out ++ [wd], by omega, by omega, by simp, by have := HI2.out.few; omega, HI2, hid (by have := HZ.out; simpa [strsV, strV] using this)⟩
                     case measure => rw [iterPos_of (Sts.iterHeap HZ.out.swap), hpos0]; omega)
      · obtain ⟨d1, d2, d3, d4⟩ := dec_other S pos (by rw [← HL.out, ← HN.out]; exact hlt) (by rw [← HL.out]; exact hc)
        obtain ⟨r, hr⟩ : ∃ r, r = (Utf8.decode S pos).1 := ⟨_, rfl⟩
        obtain ⟨wd, hwd⟩ : ∃ wd, wd = (Utf8.decode S pos).2 := ⟨_, rfl⟩
        rw [← hr] at hnx
        rw [← hwd] at HS2 hw1 d2 d3 d4
        rw [← hr] at d1
        clear hr hwd
        rw [← HL.out] at d3 d4
        have hI := HI.out
        have HI2 := hid (show WInv l (pos + wd) start out from { le := by have := hI.le; omega, free := fun j h1 h2 => by
                                                                   by_cases e : j < pos
                                                                   · exact hI.free j h1 e
                                                                   · exact d4 j (by omega) h2
                                                                 split := hI.split, ne := hI.ne, few := hI.few })
        rw [← HN.out] at d3
        clear hI HI d4 hc hpos0
        have hr32 : ((r : Int) == 32) = false := by simp; omega
        go_wp2_with fail
        all_goals (go_roundw
                   case rel => exact ⟨pos + wd, start, out, by omega, by omega, rfl, by omega, HI2, HS2⟩
                   case measure => rw [iterPos_of (Sts.iterHeap HS2.out.swap), iterPos_of HIT0.out]; omega)
    · have hpN : pos = N := by omega
      have hnx : ∀ ty, (Instr.next (.pointer (some ⟨w.heap.size, 0, none⟩)) true ty).run Tryd.prog wr = _ := fun ty => Lib.run_next_end_at wr w.heap.size S pos ty hit (by rw [hz]; exact hlt)
      have hrs := run_rest S start (by rw [← HL.out, ← HN.out]; omega)
      rw [← HL.out] at hrs
      obtain ⟨h1, h2, h3, h4, h5⟩ := HI.out
      rw [hpN, HN.out] at h2
      have hse := split_end h2
      have hk : okW l = decide (start < N) := by
        rw [okW, ← h3, hse, Bool.eq_iff_iff]
        simp only [List.all_eq_true, decide_eq_true_eq]
        constructor
        · intro h
          have := h (l.drop start) (by simp)
          rw [HN.out]
          rcases Nat.lt_or_ge start l.length with h' | h'
          · exact h'
          · exact absurd (List.drop_eq_nil_of_le h') this
        · intro h x hx
          rcases List.mem_append.1 hx with hx | hx
          · exact h4 x hx
          · rw [List.mem_singleton] at hx
            subst hx
            intro e
            have := congrArg List.length e
            simp only [List.length_drop, List.length_nil] at this
            rw [HN.out] at h
            omega
      have HK := hid hk
      have HSP := hid (show splitW l = out ++ [l.drop start] by rw [← h3, hse])
      obtain ⟨wd, hwd⟩ : ∃ wd, wd = l.drop start := ⟨_, rfl⟩
      rw [← hwd] at hrs HSP
      clear h1 h2 h3 h4 h5 hse hk hwd HI
      subst hpN
      go_wp2_with (first | (at_builtin; refine wpList_app eltStr (ms := [.string ⟨wd.toArray⟩]) rfl (.tmp 28) (.tmp 32) rfl (HS.out.box (stabC (rowP_stable _ _ _ _ _) (stab1 (hst1 _))) _) (stab1 (hst1 _)) rfl ⟨wr.heap.size, 0, none⟩ 1 rfl (new_cell _ _ _) (fun u hu => by simp only [List.mem_singleton] at hu; subst hu; rfl) (by decide) hf2 ?_; intro v' w2 hz2; have HZ := hid hz2; clear hz2))
      all_goals (go_ret2
                 refine ⟨_, by rw [HK.out]; first | rfl | simp, HZ.out.below, fun h => ?_⟩
                 rw [HSP.out]
                 have := Sts.isNew HZ.out (by simp)
                 simpa [strsV, strV] using this)
end
end Go.Proofs.YtimnhheagdhpgaaDoor
