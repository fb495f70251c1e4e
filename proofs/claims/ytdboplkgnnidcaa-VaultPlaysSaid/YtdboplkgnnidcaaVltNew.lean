/- The contracts of the vault's newest, older, Older, Generation and Load. -/
import Derived.Test.YtdboplkgnnidcaaVltRd
import Derived.Test.YtdboplkgnnidcaaOrdR
set_option linter.unusedVariables false
set_option linter.unusedSimpArgs false
namespace Vlt
/-- The index, the generation and the image of the newest copy; generation 0 if there is none. -/
def newV (want : List Nat) (at' half : Nat) : Nat × Nat × List Nat :=
  if (readV want half at').1 < (readV want half (at' + half)).1 then (1, (readV want half (at' + half)).1, (readV want half (at' + half)).2)
  else (0, (readV want half at').1, (readV want half at').2)
def oldV (want : List Nat) (at' half : Nat) : Nat := if (newV want at' half).2.1 = 0 then 0 else 1 - (newV want at' half).1
theorem newV_lt (want : List Nat) (at' half : Nat) : (newV want at' half).1 < 2 := by unfold newV; split <;> simp
theorem oldV_lt (want : List Nat) (at' half : Nat) : oldV want at' half < 2 := by unfold oldV; split <;> omega
theorem readV_bound (want : List Nat) (half a : Nat) (hw : ∀ x ∈ want, x < 4294967296) : (readV want half a).1 < 4294967296 := by
  have hg : want.getD a 0 < 4294967296 := by
    rw [List.getD_eq_getElem?_getD]
    cases e : want[a]? with
    | none => simp
    | some x => simpa using hw x (List.mem_of_getElem? e)
  unfold readV
  split
  · simp
  · simp only []
    split
    · exact hg
    · simp
theorem newV_bound (want : List Nat) (at' half : Nat) (hw : ∀ x ∈ want, x < 4294967296) : (newV want at' half).2.1 < 4294967296 := by
  unfold newV; split
  · exact readV_bound _ _ _ hw
  · exact readV_bound _ _ _ hw
end Vlt
namespace Go.Proofs.Ytdboplkgnnidcaa
open Go.RowKit Go.Proofs.Num
def NewEnd (W : World) (q p at' half K : Nat) (want : List Nat) (l : List HProp) (e : Ending) (w' : World) : Prop :=
  ∃ bv, e = .returned (.tuple #[.int .i64 ((Vlt.newV want at' half).1 : Nat), .int .i64 ((Vlt.newV want at' half).2.1 : Nat), bv]) ∧
    Sts W (rowP 5 1 bv (Vlt.newV want at' half).2.2.length (u8s (Vlt.newV want at' half).2.2) :: vaultP q p at' half :: wordP p K want :: l) w'
theorem Sts.drop4 {W w : World} {A B C D : HProp} {l : List HProp} (h : Sts W (A :: B :: C :: D :: l) w) : Sts W (A :: B :: C :: l) w :=
  Sts.tail (h.perm (show (A :: B :: C :: D :: l).Perm (D :: A :: B :: C :: l) from (List.perm_middle (l₁ := [A, B, C]) (a := D) (l₂ := l))))
theorem Sts.rot4 {W w : World} {A B C D : HProp} {l : List HProp} (h : Sts W (A :: B :: C :: D :: l) w) : Sts W (D :: A :: B :: C :: l) w :=
  h.perm (show (A :: B :: C :: D :: l).Perm (D :: A :: B :: C :: l) from (List.perm_middle (l₁ := [A, B, C]) (a := D) (l₂ := l)))
section
variable {W w : World} {l : List HProp} (hl : ∀ B ∈ l, Stable B) (q p at' half K : Nat) (want : List Nat) (hK : K < 100000000000) (hh : 4 ≤ half) (hat : at' + 2 * half ≤ want.length) (hw : want.length ≤ 65536)
  (hs : Sts W (vaultP q p at' half :: wordP p K want :: l) w)
include hl hK hh hat hw hs
set_option maxRecDepth 100000 in
theorem cNewest : Calls Try.prog 52 #[.pointer (some ⟨q, 0, none⟩)] w (NewEnd W q p at' half K want l) := by
  have HS := hid hs
  clear hs
  have H0 := hid (cRead hl q p at' half K want hK 0 at' (by omega) (by omega) hh hat hw HS.out)
  go_enter Try.func52, Try.ntmps52
  go_wp2_with fail
  refine H0.out.mono ?_
  rintro e w1 ⟨bv, rfl, hs1⟩
  have hs1' := hs1.third'
  have H1 := hid (cRead (stabC (rowP_stable _ _ _ _ _) hl) q p at' half K want hK 1 (at' + half) (by omega) (by omega) hh hat hw (hs1.perm (show (rowP 5 1 bv (Vlt.readV want half at').2.length (u8s (Vlt.readV want half at').2) :: vaultP q p at' half :: wordP p K want :: l).Perm (vaultP q p at' half :: wordP p K want :: rowP 5 1 bv (Vlt.readV want half at').2.length (u8s (Vlt.readV want half at').2) :: l) from (List.perm_middle (l₁ := [vaultP q p at' half, wordP p K want]) (a := rowP 5 1 bv (Vlt.readV want half at').2.length (u8s (Vlt.readV want half at').2)) (l₂ := l)).symm)))
  have hval : ∀ x ∈ want, x < 4294967296 := by
    obtain ⟨F, hF⟩ := hs1.third.head
    exact wordP.val hF
  have b0 := Vlt.readV_bound want half at' hval
  have b1 := Vlt.readV_bound want half (at' + half) hval
  have hN := hid (show Vlt.newV want at' half = if (Vlt.readV want half at').1 < (Vlt.readV want half (at' + half)).1 then (1, (Vlt.readV want half (at' + half)).1, (Vlt.readV want half (at' + half)).2) else (0, (Vlt.readV want half at').1, (Vlt.readV want half at').2) from rfl)
  unfold ReadEnd at H1
  clear hs1 hs1' hval H0
  generalize Vlt.readV want half at' = r at *
  generalize Vlt.readV want half (at' + half) = s at *
  obtain ⟨g, b⟩ := r
  obtain ⟨h, c⟩ := s
  simp only [] at H1 b0 b1 hN
  go_wp2_with fail
  refine H1.out.mono ?_
  rintro e w2 ⟨cv, rfl, hs2⟩
  have HS2 := hid hs2
  clear hs2
  by_cases hlt : g < h
  · go_wp2_with fail
    go_ret3
    unfold NewEnd
    rw [hN.out, if_pos hlt]
    exact ⟨_, rfl, Sts.drop4 HS2.out⟩
  · go_wp2_with fail
    go_ret3
    unfold NewEnd
    rw [hN.out, if_neg hlt]
    exact ⟨_, rfl, (HS2.out.perm (show (_ :: _ :: _ :: rowP 5 1 bv b.length (u8s b) :: l).Perm (_ :: rowP 5 1 bv b.length (u8s b) :: _ :: _ :: l) from List.Perm.cons _ (List.perm_middle (l₁ := [_, _]) (l₂ := l)))).tail⟩
theorem cOlder : Calls Try.prog 63 #[.pointer (some ⟨q, 0, none⟩)] w (fun e w' => e = .returned (.int .i64 (Vlt.oldV want at' half : Nat)) ∧ Sts W (vaultP q p at' half :: wordP p K want :: l) w') := by
  have H0 := hid (cNewest hl q p at' half K want hK hh hat hw hs)
  have hlt := Vlt.newV_lt want at' half
  have hO := hid (show Vlt.oldV want at' half = if (Vlt.newV want at' half).2.1 = 0 then 0 else 1 - (Vlt.newV want at' half).1 from rfl)
  unfold NewEnd at H0
  clear hs
  generalize Vlt.newV want at' half = r at *
  generalize Vlt.oldV want at' half = o at *
  obtain ⟨i, g, b⟩ := r
  simp only [] at H0 hlt hO
  go_enter Try.func63, Try.ntmps63
  go_wp2_with fail
  refine H0.out.mono ?_
  rintro e w1 ⟨bv, rfl, hs1⟩
  have HS := hid hs1.tail
  clear hs1
  by_cases hg : (g : Int) = 0
  · go_wp2_with fail
    go_ret
    exact ⟨ret_int (by rw [hO.out, if_pos (by omega)]; rfl), HS.out⟩
  · have hg2 : ((g : Int) == 0) = false := by simpa using hg
    go_wp2_with fail
    go_ret
    exact ⟨ret_int (by rw [hO.out, if_neg (by omega)]; omega), HS.out⟩
theorem cGeneration : Calls Try.prog 38 #[.pointer (some ⟨q, 0, none⟩)] w (fun e w' => e = .returned (.int .i64 ((Vlt.newV want at' half).2.1 : Nat)) ∧ Sts W (vaultP q p at' half :: wordP p K want :: l) w') := by
  have H0 := hid (cNewest hl q p at' half K want hK hh hat hw hs)
  have c0 := (Sts.vault hs).c0
  have H1 := hid (cUsable w q p c0)
  unfold NewEnd at H0
  clear hs c0
  generalize Vlt.newV want at' half = r at *
  obtain ⟨i, g, b⟩ := r
  simp only [] at H0
  go_enter Try.func38, Try.ntmps38
  go_wp2_with fail
  refine H1.out.mono ?_
  rintro e w1 ⟨rfl, rfl⟩
  go_wp2_with fail
  refine H0.out.mono ?_
  rintro e w1 ⟨bv, rfl, hs1⟩
  have HS := hid hs1.tail
  clear hs1
  go_wp2_with fail
  go_ret
  exact ⟨rfl, HS.out⟩
/-- What Load leaves. -/
def LoadEnd (W : World) (q p at' half K : Nat) (want : List Nat) (l : List HProp) (e : Ending) (w' : World) : Prop :=
  ∃ bv, e = .returned (.tuple #[bv, .int .i64 (if (Vlt.newV want at' half).2.1 = 0 then 8 else 0)]) ∧
    Sts W (rowP 5 1 bv (if (Vlt.newV want at' half).2.1 = 0 then [] else (Vlt.newV want at' half).2.2).length (u8s (if (Vlt.newV want at' half).2.1 = 0 then [] else (Vlt.newV want at' half).2.2)) :: vaultP q p at' half :: wordP p K want :: l) w'
theorem cLoad : Calls Try.prog 31 #[.pointer (some ⟨q, 0, none⟩)] w (LoadEnd W q p at' half K want l) := by
  have H0 := hid (cNewest hl q p at' half K want hK hh hat hw hs)
  have c0 := (Sts.vault hs).c0
  have H1 := hid (cUsable w q p c0)
  unfold NewEnd at H0
  clear hs c0
  have hE : ∀ r, r = Vlt.newV want at' half → ∀ e w', (∃ bv, e = Ending.returned (.tuple #[bv, .int .i64 (if r.2.1 = 0 then 8 else 0)]) ∧
    Sts W (rowP 5 1 bv (if r.2.1 = 0 then [] else r.2.2).length (u8s (if r.2.1 = 0 then [] else r.2.2)) :: vaultP q p at' half :: wordP p K want :: l) w') → LoadEnd W q p at' half K want l e w' := by
    intro r hr e w' h; subst hr; exact h
  have HE := hid (hE _ rfl)
  clear hE
  generalize Vlt.newV want at' half = r at *
  obtain ⟨i, g, b⟩ := r
  simp only [] at H0 HE
  go_enter Try.func31, Try.ntmps31
  go_wp2_with fail
  refine H1.out.mono ?_
  rintro e w1 ⟨rfl, rfl⟩
  go_wp2_with fail
  refine H0.out.mono ?_
  rintro e w1 ⟨bv, rfl, hs1⟩
  have HS := hid hs1
  clear hs1
  by_cases hg : (g : Int) = 0
  · go_wp2_with fail
    go_ret2
    refine HE.out _ _ ?_
    rw [if_pos (by omega), if_pos (by omega)]
    exact ⟨_, rfl, HS.out.tail.rowNil _⟩
  · have hg2 : ((g : Int) == 0) = false := by simpa using hg
    go_wp2_with fail
    go_ret2
    refine HE.out _ _ ?_
    rw [if_neg (by omega), if_neg (by omega)]
    exact ⟨_, rfl, HS.out⟩
set_option maxRecDepth 100000 in
theorem cOlderA : Calls Try.prog 47 #[.pointer (some ⟨q, 0, none⟩)] w (fun e w' => e = .returned (.int .i64 ((at' : Int) + ((Vlt.oldV want at' half * half : Nat) : Int))) ∧ Sts W (vaultP q p at' half :: wordP p K want :: l) w') := by
  have hst2 : ∀ B ∈ vaultP q p at' half :: wordP p K want :: l, Stable B := stabC (blkP_stable _ _) (stabC (wordP_stable _ _ _) hl)
  have hC := fun y (hy : Sts W (vaultP q p at' half :: wordP p K want :: l) y) => cOlder hl q p at' half K want hK hh hat hw hy
  have c0 := (Sts.vault hs).c0
  have H1 := hid (cUsable w q p c0)
  have hlt := Vlt.oldV_lt want at' half
  have HC := hid hC
  have HS := hid hs
  clear hs c0 hC
  generalize Vlt.oldV want at' half = o at *
  go_enter Try.func47, Try.ntmps47
  go_wp2_with fail
  refine H1.out.mono ?_
  rintro e w1 ⟨rfl, rfl⟩
  go_wp2_with fail
  refine wp_region_ord (.pure 0 (.pure 1 (.pure 2 (.pure 3 (.pure 4 (.pure 6 (.pure 7 (.pure 8 (.pure 9 (.eff 5 (.pure 10 (.pure 11 (.pure 12 .nil))))))))))))) (fun y => Sts W (vaultP q p at' half :: wordP p K want :: l) y) (fun y => Sts W (vaultP q p at' half :: wordP p K want :: l) y) (by kernel_rfl) (by kernel_rfl) (HS.out.drew hst2) (fun _ h => h) ?_
  iterate 9
    (apply ord_pure (ho := rfl)
     · go_simp
     · intro x hx; obtain ⟨c0, c1, c2⟩ := Sts.vault hx; go_simp; rfl
     apply ord_norm
     · go_simp; rfl)
  apply ord_eff (ho := rfl)
  · go_simp
  intro y hy
  refine eff_call (f := 63) (by go_simp) (HC.out y hy) ?_
  rintro e w1 ⟨rfl, hs1⟩
  refine ⟨_, rfl, (fun y => Sts W (vaultP q p at' half :: wordP p K want :: l) y), (fun y => Sts W (vaultP q p at' half :: wordP p K want :: l) y), hs1, (fun _ h => h), (fun _ h => h), ?_⟩
  clear hs1
  apply ord_norm
  · go_simp; rfl
  have hz : ((o * half : Nat) : Int) = (o : Int) * (half : Int) := Int.natCast_mul _ _
  have hb : o * half ≤ 1 * half := Nat.mul_le_mul_right _ (by omega)
  have hm : IntKind.i64.wrap ((o : Int) * (half : Int)) = (o : Int) * (half : Int) := by
    rw [← hz]; exact i64w _ (by omega)
  have hs : IntKind.i64.wrap ((at' : Int) + (o : Int) * (half : Int)) = (at' : Int) + (o : Int) * (half : Int) := by
    rw [← hz, IntKind.wrap_i64]; omega
  have HZ := hid hz
  clear hz hb
  apply ord_pure (ho := rfl)
  · go_simp
  · intro x hx; go_simp; rfl
  apply ord_norm
  · go_simp; rfl
  try rw [hm]
  apply ord_pure (ho := rfl)
  · go_simp
  · intro x hx; go_simp; rfl
  apply ord_norm
  · go_simp; rfl
  try rw [hs]
  apply ord_pure (ho := rfl)
  · go_simp
  · intro x hx; go_simp; rfl
  apply ord_norm
  · go_simp; rfl
  refine ord_nil fun y hy => ?_
  have HF := hid hy
  clear hy hm hs
  go_wp2_with fail
  go_ret
  exact ⟨ret_int (by rw [HZ.out]), HF.out⟩
end
end Go.Proofs.Ytdboplkgnnidcaa
