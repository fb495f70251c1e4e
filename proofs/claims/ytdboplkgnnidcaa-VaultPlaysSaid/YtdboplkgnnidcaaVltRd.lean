/- The contract of the vault's read : what it gives back. -/
import Derived.Test.YtdboplkgnnidcaaVltRead
import Derived.Deep.QuietTactic
import Derived.BigQuiet
import Derived.Test.YtdboplkgnnidcaaMade
set_option linter.unusedVariables false
set_option linter.unusedSimpArgs false
namespace Vlt
/-- The generation and the image of the copy at word a of the memory's words; generation 0 if the copy is not valid. -/
def readV (want : List Nat) (half a : Nat) : Nat × List Nat :=
  if want.getD a 0 = 0 ∨ 4 * ((half : Int) - 3) < (want.getD (a + 1) 0 : Nat) then (0, [])
  else
    let b := (Pat.bytesOf ((want.drop (a + 2)).take (room (want.getD (a + 1) 0)))).take (want.getD (a + 1) 0)
    if (want.drop a).take (room (want.getD (a + 1) 0) + 3) = wordsV (want.getD a 0) b then (want.getD a 0, b) else (0, [])
end Vlt
namespace Go.Proofs.Ytdboplkgnnidcaa
open Go.RowKit Go.Proofs.Num
/-- A block just made is a row. -/
theorem blkP.row {b : Nat} {cs : Array Value} {e : TypeId} {w : World} {F : Nat → Prop} (h : blkP b (.cells cs e (0, 0)) w F) (hm : cs.size ≤ 1000000) : rowP e 1 (.slice (some ⟨b, 0, none⟩) cs.size cs.size) cs.size cs.toList w F :=
  ⟨⟨by simp, Or.inr ⟨b, cs.size, cs, rfl, Nat.zero_le _, h.1, Nat.le_refl _, by unfold maxLen; omega, by omega, List.take_of_length_le (by simp)⟩⟩, fun k => by rw [h.2 k]; simp [Value.ownBlock]; exact eq_comm⟩
/-- What read leaves. -/
def ReadEnd (W : World) (q p at' half K : Nat) (want : List Nat) (l : List HProp) (a : Nat) (e : Ending) (w' : World) : Prop :=
  ∃ bv, e = .returned (.tuple #[.int .i64 ((Vlt.readV want half a).1 : Nat), bv]) ∧ Sts W (rowP 5 1 bv (Vlt.readV want half a).2.length (u8s (Vlt.readV want half a).2) :: vaultP q p at' half :: wordP p K want :: l) w'
theorem own_pre {w : World} {b N k : Nat} {e : TypeId} {v : Value} {xs : List Value} (h : w.ownsRow b e 1 v N xs) (hk : k ≤ N) :
    (v = .slice none 0 0 ∧ N = 0) ∨ ∃ g cap, v = .slice (some ⟨g, 0, none⟩) N cap ∧ N ≤ cap ∧ cap ≤ maxLen ∧ w.ownsRow b e 1 (.slice (some ⟨g, 0, none⟩) k cap) k (xs.take k) := by
  rcases h.2 with ⟨h2, h3⟩ | ⟨g, cap, cur, hv, hg, hc, hn, hm, _⟩
  · subst h2; subst h3
    exact Or.inl ⟨rfl, by simp⟩
  · subst hv
    exact Or.inr ⟨g, cap, rfl, by omega, hm, own_prefix h hk (by simp)⟩
theorem words_lt (g : Nat) (b : List Nat) (hg : g < 4294967296) (hb : ∀ x ∈ b, x < 256) (hl : b.length < 1000000) : ∀ x ∈ Vlt.wordsV g b, x < 4294967296 := by
  intro x hx
  simp only [Vlt.wordsV, Vlt.headV, List.mem_append, List.mem_cons, List.not_mem_nil, or_false] at hx
  rcases hx with (rfl | rfl | hx) | rfl
  · exact hg
  · omega
  · exact Vlt.packW_lt hb _ _ hx
  · unfold Vlt.crcOf; omega
set_option maxRecDepth 100000 in
set_option maxHeartbeats 1000000 in
theorem cRead {W w : World} {l : List HProp} (hl : ∀ B ∈ l, Stable B) (q p at' half K : Nat) (want : List Nat) (hK : K < 100000000000) (i a : Nat) (ha : a = at' + i * half) (hi : i < 2) (hh : 4 ≤ half) (hat : at' + 2 * half ≤ want.length) (hw : want.length ≤ 65536)
    (hs : Sts W (vaultP q p at' half :: wordP p K want :: l) w) :
    Calls Try.prog 65 #[.pointer (some ⟨q, 0, none⟩), .int .i64 i] w fun e w' => ReadEnd W q p at' half K want l a e w' := by
  have hst : ∀ B ∈ vaultP q p at' half :: l, Stable B := stabC (blkP_stable _ _) hl
  have hih : i * half ≤ half := by have := Nat.mul_le_mul_right half (show i ≤ 1 by omega); omega
  have hz : (i : Int) * (half : Int) = ((i * half : Nat) : Int) := by rw [Int.natCast_mul]
  obtain ⟨m, hm⟩ : ∃ m, m = i * half := ⟨_, rfl⟩
  rw [← hm] at hih hz ha
  clear hm
  obtain ⟨c0, c1, c2⟩ := Sts.vault hs
  have HS := hid hs
  clear hs
  have e1 : IntKind.i64.wrap (m : Int) = (m : Int) := w64 _ (by omega) (by omega)
  have e2 : IntKind.i64.wrap ((at' : Int) + (m : Int)) = (at' : Int) + (m : Int) := w64 _ (by omega) (by omega)
  have e3 : IntKind.i64.wrap ((i : Int) * (half : Int)) = (m : Int) := by rw [hz]; exact e1
  go_enter Try.func65, Try.ntmps65
  go_wp2_with fail
  go_quiet (fail)
  have hA : (at' : Int) + (m : Int) = (a : Int) := by omega
  rw [hA]
  have hal : a + half ≤ want.length := by omega
  have hst2 : ∀ B ∈ vaultP q p at' half :: wordP p K want :: l, Stable B := stabC (blkP_stable _ _) (stabC (wordP_stable _ _ _) hl)
  have HD := fun k => HS.out.quiet hst2 (below_drewN (Below.refl _ w) k)
  clear e1 e2 e3 hA ha hz hih HS
  have HD := hid HD
  go_wp2_with fail
  refine (Sts.callV hst (HD.out _).swap (wRead hK a (by omega))).mono ?_
  rintro e w1 ⟨rfl, hs1⟩
  clear c0 c1 c2
  have hs1 := hs1.swap
  obtain ⟨c0, c1, c2⟩ := Sts.vault hs1
  have HS := hid hs1
  clear hs1 HD
  have hR := wRead (p := p) (want := want) hK (a + 1) (by omega)
  rw [show (((a + 1 : Nat)) : Int) = (a : Int) + 1 by omega] at hR
  have HR := hid hR
  have hv : ∀ x ∈ want, x < 4294967296 := by
    obtain ⟨F, hF⟩ := (HS.out.swap).head
    exact wordP.val hF
  have hg : want.getD a 0 < 4294967296 := by
    have : want.getD a 0 = want[a]'(by omega) := by simp [List.getD_eq_getElem?_getD, show a < want.length by omega]
    rw [this]; exact hv _ (List.getElem_mem _)
  have hn : want.getD (a + 1) 0 < 4294967296 := by
    have : want.getD (a + 1) 0 = want[a + 1]'(by omega) := by simp [List.getD_eq_getElem?_getD, show a + 1 < want.length by omega]
    rw [this]; exact hv _ (List.getElem_mem _)
  clear hR hv
  have hread : Vlt.readV want half a = if want.getD a 0 = 0 ∨ 4 * ((half : Int) - 3) < (want.getD (a + 1) 0 : Nat) then (0, []) else
    if (want.drop a).take (Vlt.room (want.getD (a + 1) 0) + 3) = Vlt.wordsV (want.getD a 0) ((Pat.bytesOf ((want.drop (a + 2)).take (Vlt.room (want.getD (a + 1) 0)))).take (want.getD (a + 1) 0)) then (want.getD a 0, (Pat.bytesOf ((want.drop (a + 2)).take (Vlt.room (want.getD (a + 1) 0)))).take (want.getD (a + 1) 0)) else (0, []) := rfl
  have HQ := hid hread
  have HT : ∀ c, a + c < want.length → (want.drop a).take (c + 1) = (want.drop a).take c ++ [want.getD (a + c) 0] := by
    intro c hc
    rw [List.take_succ_eq_append_getElem (by simp; omega)]
    simp [List.getD_eq_getElem?_getD, hc]
  have HG : Hid ((want.drop a).take 2 = [want.getD a 0, want.getD (a + 1) 0]) := by
    have h1 := HT 1 (by omega)
    have h0 := HT 0 (by omega)
    rw [h0] at h1
    exact hid (by simpa using h1)
  have HT := hid HT
  clear hread
  generalize want.getD a 0 = g at *
  generalize want.getD (a + 1) 0 = n at *
  go_wp2_with fail
  refine (Sts.callV hst HS.out.swap HR.out).mono ?_
  rintro e w2 ⟨rfl, hs2⟩
  clear c0 c1 c2
  have hs2 := hs2.swap
  obtain ⟨c0, c1, c2⟩ := Sts.vault hs2
  have HS2 := hid hs2
  clear hs2 HS
  by_cases hg0 : (g : Int) = 0
  · go_wp2_with fail
    go_ret2
    have e : Vlt.readV want half a = (0, []) := by rw [HQ.out, if_pos (Or.inl (by omega))]
    unfold ReadEnd
    rw [e]
    exact ⟨_, rfl, HS2.out.rowNil _⟩
  · have hg1 : ((g : Int) == 0) = false := by simpa using hg0
    go_wp2_with fail
    refine (cRoom w2 q p at' half ⟨c0, c1, c2⟩ (by omega)).mono ?_
    rintro e w3 ⟨rfl, rfl⟩
    by_cases hnr : 4 * ((half : Int) - 3) < (n : Int)
    · go_wp2_with fail
      go_ret2
      have e : Vlt.readV want half a = (0, []) := by rw [HQ.out, if_pos (Or.inr hnr)]
      unfold ReadEnd
      rw [e]
      exact ⟨_, rfl, HS2.out.rowNil _⟩
    · have hnr2 : decide (4 * ((half : Int) - 3) < (n : Int)) = false := decide_eq_false hnr
      have hnr3 : (n : Int) ≤ 4 * ((half : Int) - 3) := by omega
      have HA : Hid (Sts W (rowP 48 1 (.slice (some ⟨w2.heap.size, 0, none⟩) 2 2) 2 (u32s [g, n]) :: vaultP q p at' half :: wordP p K want :: l) (w2.alloc (.cells #[.int .u32 (g : Nat), .int .u32 (n : Nat)] 48))) :=
        hid ((HS2.out.alloc hst2 (.cells #[.int .u32 (g : Nat), .int .u32 (n : Nat)] 48)).weaken (fun F h => blkP.row h (by simp)))
      obtain ⟨t, ht⟩ : ∃ t, t = Vlt.room n := ⟨_, rfl⟩
      have htn : ((n : Int) + 3) / 4 = (t : Int) := by unfold Vlt.room at ht; omega
      have hth : t + 3 ≤ half := by unfold Vlt.room at ht; omega
      have HTR := hid ht
      clear ht
      obtain ⟨i0, hi0, hz0, hz1, hz2⟩ := info_parts info32
      go_wp2_with fail
      clear c0 c1 c2
      go_loopw [11, 12] (fun v kk wr => ∃ c : Nat, 2 ≤ c ∧ c ≤ t + 3 ∧ kk = .int .i64 c ∧ Sts W (rowP 48 1 v c (u32s ((want.drop a).take c)) :: vaultP q p at' half :: wordP p K want :: l) wr) (fun _ kk _ => t + 3 - (intOf kk).toNat)
      case atStart => exact ⟨2, by omega, by omega, rfl, by rw [HG.out]; exact HA.out⟩
      case round =>
        obtain ⟨c, hc2, hct, rfl, hs⟩ := hrel
        by_cases hlt : c < t + 3
        · obtain ⟨c0, c1, c2⟩ := Sts.vault hs.swap
          have hR := wRead (p := p) (want := want) hK (a + c) (by omega)
          rw [show (((a + c : Nat)) : Int) = (a : Int) + (c : Int) by omega] at hR
          have HR2 := hid hR
          clear hR
          have HS4 := hid hs.third
          clear hs
          go_wp2_with fail
          refine (Sts.callV (stabC (rowP_stable _ _ _ _ _) hst) HS4.out HR2.out).mono ?_
          rintro e w4 ⟨rfl, hs4⟩
          have hst5 : ∀ B ∈ vaultP q p at' half :: wordP p K want :: l, Stable B := hst2
          have hstep := HT.out c (by omega)
          have HSTEP := hid hstep
          clear hstep
          have hxb : want.getD (a + c) 0 < 4294967296 := by
            obtain ⟨F, hF⟩ := hs4.head
            have := wordP.val hF (want[a + c]'(by omega)) (List.getElem_mem _)
            simpa [List.getD_eq_getElem?_getD, show a + c < want.length by omega] using this
          have hxl : ((want.drop a).take c).length = c := by simp; omega
          generalize want.getD (a + c) 0 = x at *
          generalize (want.drop a).take c = xs at *
          have H6 := hid (Sts.box (stabC (rowP_stable _ _ _ _ _) hst2) (Sts.third' hs4) (.cells #[.int .u32 (x : Nat)] 48))
          clear hs4 HS4 HA
          go_wp2_with (at_builtin; go_loud (refine wpList_append_own_at _ rfl (.tmp 88) (.tmp 90) 22 rfl 0 48 i0 (.int .u32 0) 1 4 Try.underlying22 hi0 hz0 hz1 hz2 rfl (by decide) u11 c (u32s xs) rfl (Sts.rowOwn H6.out) ⟨w4.heap.size, 0, none⟩ 1 1 [.int .u32 (x : Nat)] rfl rfl (cell_one_new _ _ _) (by intro u hu; simp at hu; subst hu; rfl) (by unfold maxLen; omega) (by omega) (Nat.zero_le _) ?_; intro v1 w5 hown hgr _ hblk))
          have H7 := hid (Sts.grown hst2 H6.out hgr hown (by
            intro q' hq
            rcases hblk with h | h
            · exact Or.inl (h ▸ hq)
            · rw [h] at hq; injection hq with hq; exact Or.inr (by omega)))
          clear hown hgr hblk
          go_wp2_with fail
          go_roundw
          case rel =>
            refine ⟨c + 1, by omega, by omega, by first | rfl | go_num, ?_⟩
            rw [HSTEP.out, show u32s (xs ++ [x]) = u32s xs ++ [.int .u32 (x : Nat)] by simp [u32s]]
            exact H7.out
          case measure => simp [intOf]; omega
        · have ec : c = t + 3 := by omega
          subst ec
          have hxl : ((want.drop a).take (t + 3)).length = t + 3 := by simp; omega
          obtain ⟨bl, cap, rfl⟩ := own_nonnil (Sts.rowOwn hs) (by omega)
          have hrd := Rd.of_own (Sts.rowOwn hs) (by rw [u32s_len]; exact hxl)
          obtain ⟨hq0, hcap1, hcap2⟩ := hrd.cap
          clear hq0
          have hval : ∀ x ∈ want, x < 4294967296 := by
            obtain ⟨F, hF⟩ := hs.third.head
            exact wordP.val hF
          have hW : RdW wr (.slice (some ⟨bl, 2, none⟩) t (cap - 2)) ((want.drop (a + 2)).take t) := by
            refine ⟨?_, fun x hx => hval x (List.mem_of_mem_drop (List.mem_of_mem_take hx))⟩
            have h2 := (hrd.drop 2 (by rw [u32s_len, hxl]; omega) (some ⟨bl, 2, none⟩) (cap - 2) (by rw [u32s_len, hxl]; omega) (by intro b off _ hb; injection hb with hb; injection hb with h1 h2 h3; subst h1; subst h2; rfl)).take t (by simp [u32s_len, hxl]) (cap - 2) (by omega)
            have e : ((u32s ((want.drop a).take (t + 3))).drop 2).take t = u32s ((want.drop (a + 2)).take t) := by
              simp only [u32s, ← List.map_drop, ← List.map_take]
              rw [List.drop_take, List.drop_drop, List.take_take]
              congr 2
              omega
            rw [e] at h2; exact h2
          have hlW : RdW wr (.slice (some ⟨bl, 0, none⟩) (t + 3) cap) ((want.drop a).take (t + 3)) := ⟨hrd, fun x hx => hval x (List.mem_of_mem_drop (List.mem_of_mem_take hx))⟩
          unfold maxLen at hcap2
          have hwl : ((want.drop (a + 2)).take t).length = t := by simp; omega
          have HWL := hid hwl
          have HXL := hid hxl
          have HRD := hid hlW
          have HW := hid hW
          have HS4 := hid hs
          clear hs hrd hwl hxl hval hlW hW hlt
          have hcp : (2 : Int) ≤ (t : Int) + 2 := by omega
          have htr : n ≤ 4 * t := by have := HTR.out; unfold Vlt.room at this; omega
          have hnb : t < 100000 := by omega
          have HQ2 : Hid (Vlt.readV want half a = if (want.drop a).take (t + 3) = Vlt.wordsV g ((Pat.bytesOf ((want.drop (a + 2)).take t)).take n) then (g, (Pat.bytesOf ((want.drop (a + 2)).take t)).take n) else (0, [])) := by
            rw [HTR.out]; exact hid (by rw [HQ.out, if_neg (by omega)])
          go_wp2_with fail
          refine (cOctetsOf wr _ _ HW.out (by rw [HWL.out]; omega)).mono ?_
          rintro e w3 ⟨r, rfl, hN⟩
          have hlen : (Pat.bytesOf ((want.drop (a + 2)).take t)).length = 4 * t := by rw [Pat.bytesOf_len, HWL.out]
          have hbt : ∀ x ∈ Pat.bytesOf ((want.drop (a + 2)).take t), x < 256 := Pat.bytesOf_lt _
          generalize Pat.bytesOf ((want.drop (a + 2)).take t) = by4 at *
          generalize (want.drop a).take (t + 3) = l0 at *
          have HBT := hid hbt
          have HN := hid hN
          have HLEN := hid hlen
          clear hN hbt hlen
          have hK2 : ∃ bv, New wr w3 5 bv (u8s (by4.take n)) ∧ ((r = .slice none 0 0 ∧ n = 0 ∧ bv = .slice none 0 0) ∨ ∃ g2 cap2, r = .slice (some ⟨g2, 0, none⟩) (4 * t) cap2 ∧ 4 * t ≤ cap2 ∧ cap2 ≤ maxLen ∧ bv = .slice (some ⟨g2, 0, none⟩) n cap2) := by
            have hlu : (u8s by4).length = 4 * t := by rw [u8s_len]; exact HLEN.out
            have ho := HN.out.own
            rw [hlu] at ho
            rcases own_pre ho htr with ⟨h1, h2⟩ | ⟨g2, cap2, h1, h2, h3, h4⟩
            · have hn0 : n = 0 := by omega
              refine ⟨.slice none 0 0, ⟨?_, HN.out.below⟩, Or.inl ⟨h1, hn0, rfl⟩⟩
              rw [hn0]; exact ⟨by simp [u8s], Or.inl ⟨rfl, by simp [u8s]⟩⟩
            · refine ⟨_, ⟨?_, HN.out.below⟩, Or.inr ⟨g2, cap2, h1, h2, h3, rfl⟩⟩
              have e : (u8s (by4.take n)).length = n := by rw [u8s_len, List.length_take, HLEN.out]; omega
              rw [e]
              simpa [u8s, List.map_take] using h4
          obtain ⟨bv, hbv, hr⟩ := hK2
          have hbb : RdB w3 bv (by4.take n) := ⟨hbv.rd, fun x hx => HBT.out x (List.mem_of_mem_take hx)⟩
          have HC := hid (cVWords w3 g bv (by4.take n) hg hbb (by rw [List.length_take]; omega))
          have HWB := hid (words_lt g (by4.take n) hg hbb.2 (by rw [List.length_take]; omega))
          have HRD3 := hid (HRD.out.below hbv.below)
          have HS5 := hid (HS4.out.tail.new hst2 hbv)
          have HNL : Hid ((by4.take n).length = n) := hid (by rw [List.length_take, HLEN.out]; omega)
          clear hbv hbb HN HLEN HRD HS4
          generalize by4.take n = b4 at *
          generalize Vlt.wordsV g b4 = wv at *
          rcases hr with ⟨rfl, rfl, rfl⟩ | ⟨g2, cap2, rfl, hcc, hcm, rfl⟩
          all_goals
            try unfold maxLen at hcm
            go_wp2_with fail
            refine HC.out.mono ?_
            rintro e w4 ⟨r2, rfl, hN2⟩
            have HE := hid (cEqual w4 _ r2 l0 wv (HRD3.out.below hN2.below) ⟨hN2.rd, HWB.out⟩ (by rw [HXL.out]; omega))
            have HS6 := hid (HS5.out.quiet (stabC (rowP_stable _ _ _ _ _) hst2) hN2.below)
            clear hN2
            by_cases heq : l0 = wv
            · have hd : decide (l0 = wv) = true := decide_eq_true heq
              rw [hd] at HE
              have HEQ := hid heq
              clear heq hd
              go_wp2_with fail
              refine HE.out.mono ?_
              rintro e w5 ⟨rfl, hb5⟩
              have HS7 := hid (HS6.out.quiet (stabC (rowP_stable _ _ _ _ _) hst2) hb5)
              clear hb5
              go_wp2_with fail
              go_ret2
              unfold ReadEnd
              rw [HQ2.out, if_pos HEQ.out]
              refine ⟨_, rfl, ?_⟩
              have := HS7.out
              rw [u8s_len] at this
              exact this
            · have hd : decide (l0 = wv) = false := decide_eq_false heq
              rw [hd] at HE
              have HEQ := hid heq
              clear heq hd
              go_wp2_with fail
              refine HE.out.mono ?_
              rintro e w5 ⟨rfl, hb5⟩
              have HS7 := hid (HS6.out.quiet (stabC (rowP_stable _ _ _ _ _) hst2) hb5)
              clear hb5
              go_wp2_with fail
              go_ret2
              unfold ReadEnd
              rw [HQ2.out, if_neg HEQ.out]
              exact ⟨_, rfl, HS7.out.tail.rowNil _⟩
end Go.Proofs.Ytdboplkgnnidcaa
