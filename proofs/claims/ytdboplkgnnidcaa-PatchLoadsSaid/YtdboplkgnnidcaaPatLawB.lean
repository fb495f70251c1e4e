/- The law PatchLoads: its walk. -/
import Derived.Test.YtdboplkgnnidcaaPatAlive
set_option linter.unusedVariables false
namespace Pat
theorem load_room (n : Nat) (h1 : 1 ≤ n) : chkE (n + 2) 1 n = 0 := by unfold chkE; rw [if_neg (by omega), if_neg (by omega)]
theorem cut_upd (n : Nat) (la : List Nat) (h : la.length = n) : cut (upd (List.replicate (n + 2) 0) 1 la) 1 n = la := by
  unfold cut upd
  rw [show (List.replicate (n + 2) 0).take 1 = [0] by simp [List.replicate_succ]]
  simp [← h]
end Pat
namespace Go.Proofs.Ytdboplkgnnidcaa
open Go.RowKit Go.Proofs.Num
theorem below_step' {A w w' : World} (h : Below A.heap.size A w) (k : Below w.heap.size w w') : Below A.heap.size A w' := h.trans (k.mono h.size)
set_option maxRecDepth 100000 in
theorem loads_small (w : World) (va vb : Value) (la lb : List Nat) (z : Nat) (ha : RdW w va la) (hb : RdW w vb lb) (h : la.length < 1 ∨ 100 < la.length ∨ lb.length ≠ la.length) :
    Calls Try.prog 5 #[va, vb, .int .u16 z] w fun e w' => e = .returned (.bool true) ∧ Below w.heap.size w w' := by
  obtain ⟨a, capa, rfl, _⟩ := ha.open
  obtain ⟨b, capb, rfl, _⟩ := hb.open
  clear ha hb
  by_cases h1 : la.length < 1
  · have d1 : decide ((la.length : Int) < 1) = true := by simp; omega
    clear h
    go_enter Try.func5, Try.ntmps5
    go_wp2_with fail
    refine (cAlive w).mono ?_; rintro e w1 ⟨rfl, h1⟩
    go_wp2_with fail
    go_ret
    exact ⟨rfl, h1⟩
  · have d1 : decide ((la.length : Int) < 1) = false := by simp; omega
    by_cases h2 : 100 < la.length
    · have d2 : decide ((100 : Int) < la.length) = true := by simp; omega
      clear h
      go_enter Try.func5, Try.ntmps5
      go_wp2_with fail
      refine (cAlive w).mono ?_; rintro e w1 ⟨rfl, h1⟩
      go_wp2_with fail
      go_ret
      exact ⟨rfl, h1⟩
    · have d2 : decide ((100 : Int) < la.length) = false := by simp; omega
      have d3 : ((lb.length : Int) != la.length) = true := by simp; omega
      clear h
      go_enter Try.func5, Try.ntmps5
      go_wp2_with fail
      refine (cAlive w).mono ?_; rintro e w1 ⟨rfl, h1⟩
      go_wp2_with fail
      go_ret
      exact ⟨rfl, h1⟩
set_option maxHeartbeats 1000000 in
set_option maxRecDepth 100000 in
theorem loads_main (w : World) (va vb : Value) (la lb : List Nat) (z n : Nat) (hz : z < 65536) (ha : RdW w va la) (hb : RdW w vb lb) (hn : la.length = n) (hm : lb.length = n) (h1 : 1 ≤ n) (h2 : n ≤ 100) :
    Calls Try.prog 5 #[va, vb, .int .u16 z] w fun e w' => e = .returned (.bool true) ∧ Below w.heap.size w w' := by
  have HA := hid ha
  have HB := hid hb
  have hla : la.length < 1000000000 := by omega
  have hlb : lb.length < 1000000000 := by omega
  have hchk := Pat.load_room n h1
  have hcut := Pat.cut_upd n la hn
  have hup : (Pat.upd (List.replicate (n + 2) 0) 1 la).length = n + 2 := by rw [Pat.upd_len _ _ _ (by simp; omega)]; simp
  have KN := hid (Sts.call stab0 (Sts.withEmp (Sts.nil w)) (wNew (n + 2) (by omega)))
  have KL := hid (fun p w' (hs : Sts w [wordP p 0 (List.replicate (n + 2) 0)] w') => wLoad (by decide) stab0 hs va la (RdsW.arg HA.out) 1 (by decide) (sum16 la) hla)
  have KM := hid (fun p w' (hs : Sts w [wordP p 0 (Pat.upd (List.replicate (n + 2) 0) 1 la)] w') (s : Nat) => wLoad (by decide) stab0 hs vb lb (RdsW.arg HB.out) 1 (by decide) s hlb)
  have KD := hid (fun p w' (hs : Sts w [wordP p 0 (Pat.upd (List.replicate (n + 2) 0) 1 la)] w') => wDump (by decide) stab0 hs 1 n (by decide))
  have KC := hid (fun p w' r (hs : Sts w [wordP p 0 (Pat.upd (List.replicate (n + 2) 0) 1 la), rowP 48 1 r n (u32s la)] w') => wCheck (by decide) (stab1 (rowP_stable _ _ _ _ _)) hs 1 n (by decide) (by obtain ⟨F, h⟩ := hs.head; exact h.val))
  have KSA := hid (fun w' (h : Below w.heap.size w w') => cRSum w' va la (HA.out.below h) hla)
  have KSB := hid (fun w' (h : Below w.heap.size w w') => cRSum w' vb lb (HB.out.below h) hlb)
  have KE := hid (fun w' r (h : Below w.heap.size w w') (hr : RdW w' r la) => (cSame w' r va la la hr (HA.out.below h) hla hla).mono fun e w'' (hh : _ ∧ _) => show e = .returned (.bool true) ∧ Below w'.heap.size w' w'' from ⟨by rw [hh.1]; simp, hh.2⟩)
  unfold loadE at KL KM
  rw [List.length_replicate, hn, hchk, if_pos rfl, if_pos rfl, if_pos rfl, show (1 : Int).toNat = 1 from rfl] at KL
  simp only [hup, hm, hchk, if_true, show (1 : Int).toNat = 1 from rfl] at KM
  unfold Dumped at KD
  simp only [hup, hchk, Int.toNat_natCast, show (1 : Int).toNat = 1 from rfl, hcut, if_true] at KD KC
  obtain ⟨a, capa, rfl, _⟩ := ha.open
  obtain ⟨b, capb, rfl, _⟩ := hb.open
  clear ha hb hchk hup hcut HB
  generalize Pat.upd (List.replicate (n + 2) 0) 1 la = W1 at *
  generalize sum16 la = s1 at *
  generalize sum16 lb = s2 at *
  rw [hn] at KL KE KSA ⊢
  rw [hm] at KM KSB ⊢
  have hE : ∀ s : Nat, s ≠ s2 → Hid (∀ p w', Sts w [wordP p 0 W1] w' → Calls Try.prog 21 #[.pointer (some ⟨p, 0, none⟩), .int .i64 1, .slice b n capb, .int .u16 s] w' fun e w'' => e = .returned (.int .i64 5) ∧ Sts w [wordP p 0 W1] w'') := by
    intro s hs p w' h
    refine (KM.out p w' h s).mono ?_
    rintro e w'' ⟨he, hh⟩
    rw [if_neg hs] at he hh
    rw [if_neg (by decide)] at hh
    exact ⟨he, hh⟩
  have HE := hid hE
  clear KM hE
  have hZ : ((s1 : Int) == s1) = true := by simp
  have d1 : decide ((n : Int) < 1) = false := by simp; omega
  have d2 : decide ((100 : Int) < n) = false := by simp; omega
  obtain ⟨z', hz1, hz2⟩ : ∃ z' : Nat, z' ≠ s2 ∧ (if z = s2 then IntKind.u16.wrap ((z : Int) + 1) else z) = (z' : Int) := by
    by_cases h : z = s2
    · refine ⟨(z + 1) % 65536, by omega, ?_⟩
      rw [if_pos h, IntKind.wrap_u16]; omega
    · exact ⟨z, h, by rw [if_neg h]⟩
  have KM := hid (HE.out z' hz1)
  clear HE hz1
  have e2 : ((n + 2 : Nat) : Int) = (n : Int) + 2 := by omega
  rw [e2] at KN
  have HN := hid hn
  clear e2 hn hm
  by_cases hzs : z = s2
  · rw [if_pos hzs] at hz2
    have b1 : ((z : Int) == s2) = true := by simp; omega
    clear hzs
    go_enter Try.func5, Try.ntmps5
    go_wp2_with fail
    refine KN.out.mono ?_; rintro e w1 ⟨p, rfl, g1⟩
    have G1 := hid (g1.weaken (fun F h => h.word))
    have B1 := hid g1.below
    clear g1
    go_wp2_with fail
    refine (KSA.out w1 B1.out).mono ?_; rintro e w2 ⟨rfl, g2⟩
    have G2 := hid (G1.out.quiet (stab1 (wordP_stable _ _ _)) g2)
    clear g2 G1 B1
    go_wp2_with fail
    refine (KL.out p w2 G2.out).mono ?_; rintro e w3 ⟨rfl, g3⟩
    have G3 := hid g3
    have B3 := hid g3.below
    clear g3 G2
    go_wp2_with fail
    refine (KSB.out w3 B3.out).mono ?_; rintro e w4 ⟨rfl, g4⟩
    have G4 := hid (G3.out.quiet (stab1 (wordP_stable _ _ _)) g4)
    clear g4 G3 B3
    go_wp2_with fail
    refine (KM.out p w4 G4.out).mono ?_; rintro e w5 ⟨rfl, g5⟩
    have G5 := hid g5
    clear g5 G4
    go_wp2_with fail
    refine (KD.out p w5 G5.out).mono ?_; rintro e w6 (⟨g6, _⟩ | ⟨_, r, rfl, g6⟩)
    · exact absurd rfl g6
    have G6 := hid g6.swap
    clear g6 G5
    go_wp2_with fail
    refine (KC.out p w6 r G6.out).mono ?_; rintro e w7 ⟨rfl, g7⟩
    have R7 := hid (show RdW w7 r la from ⟨by obtain ⟨F, q, _⟩ := g7.swap.head; exact Rd.of_own q (by rw [u32s_len]; exact HN.out), HA.out.2⟩)
    have B7 := hid g7.below
    clear g7 G6
    go_wp2_with fail
    refine (KE.out w7 r B7.out R7.out).mono ?_; rintro e w8 ⟨rfl, g8⟩
    have B8 := hid (below_step' B7.out g8)
    clear g8 B7 R7
    go_wp2_with fail
    refine (KSA.out w8 B8.out).mono ?_; rintro e w9 ⟨rfl, g9⟩
    have B9 := hid (below_step' B8.out g9)
    clear g9 B8
    go_wp2_with fail
    refine (cAlive w9).mono ?_; rintro e w10 ⟨rfl, g10⟩
    have B10 := hid (below_step' B9.out g10)
    clear g10 B9
    go_wp2_with fail
    go_ret
    exact ⟨rfl, B10.out⟩
  · rw [if_neg hzs] at hz2
    obtain rfl : z = z' := by omega
    have b1 : ((z : Int) == s2) = false := by simp; omega
    clear hzs hz2
    go_enter Try.func5, Try.ntmps5
    go_wp2_with fail
    refine KN.out.mono ?_; rintro e w1 ⟨p, rfl, g1⟩
    have G1 := hid (g1.weaken (fun F h => h.word))
    have B1 := hid g1.below
    clear g1
    go_wp2_with fail
    refine (KSA.out w1 B1.out).mono ?_; rintro e w2 ⟨rfl, g2⟩
    have G2 := hid (G1.out.quiet (stab1 (wordP_stable _ _ _)) g2)
    clear g2 G1 B1
    go_wp2_with fail
    refine (KL.out p w2 G2.out).mono ?_; rintro e w3 ⟨rfl, g3⟩
    have G3 := hid g3
    have B3 := hid g3.below
    clear g3 G2
    go_wp2_with fail
    refine (KSB.out w3 B3.out).mono ?_; rintro e w4 ⟨rfl, g4⟩
    have G4 := hid (G3.out.quiet (stab1 (wordP_stable _ _ _)) g4)
    clear g4 G3 B3
    go_wp2_with fail
    refine (KM.out p w4 G4.out).mono ?_; rintro e w5 ⟨rfl, g5⟩
    have G5 := hid g5
    clear g5 G4
    go_wp2_with fail
    refine (KD.out p w5 G5.out).mono ?_; rintro e w6 (⟨g6, _⟩ | ⟨_, r, rfl, g6⟩)
    · exact absurd rfl g6
    have G6 := hid g6.swap
    clear g6 G5
    go_wp2_with fail
    refine (KC.out p w6 r G6.out).mono ?_; rintro e w7 ⟨rfl, g7⟩
    have R7 := hid (show RdW w7 r la from ⟨by obtain ⟨F, q, _⟩ := g7.swap.head; exact Rd.of_own q (by rw [u32s_len]; exact HN.out), HA.out.2⟩)
    have B7 := hid g7.below
    clear g7 G6
    go_wp2_with fail
    refine (KE.out w7 r B7.out R7.out).mono ?_; rintro e w8 ⟨rfl, g8⟩
    have B8 := hid (below_step' B7.out g8)
    clear g8 B7 R7
    go_wp2_with fail
    refine (KSA.out w8 B8.out).mono ?_; rintro e w9 ⟨rfl, g9⟩
    have B9 := hid (below_step' B8.out g9)
    clear g9 B8
    go_wp2_with fail
    refine (cAlive w9).mono ?_; rintro e w10 ⟨rfl, g10⟩
    have B10 := hid (below_step' B9.out g10)
    clear g10 B9
    go_wp2_with fail
    go_ret
    exact ⟨rfl, B10.out⟩
theorem loads (w : World) (va vb : Value) (la lb : List Nat) (z : Nat) (hz : z < 65536) (ha : RdW w va la) (hb : RdW w vb lb) :
    Calls Try.prog 5 #[va, vb, .int .u16 z] w fun e w' => e = .returned (.bool true) ∧ Below w.heap.size w w' := by
  by_cases h : la.length < 1 ∨ 100 < la.length ∨ lb.length ≠ la.length
  · exact loads_small w va vb la lb z ha hb h
  · exact loads_main w va vb la lb z la.length hz ha hb rfl (by omega) (by omega) (by omega)
end Go.Proofs.Ytdboplkgnnidcaa
