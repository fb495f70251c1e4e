/- The contracts of the vault's small functions: the bytes of words. -/
import Derived.Test.YtdboplkgnnidcaaOctFns
set_option linter.unusedVariables false
namespace Go.Proofs.Ytdboplkgnnidcaa
open Go.RowKit Go.Proofs.Num
/-- What lies at the head of a state is new. -/
theorem Sts.isNew {W w : World} {l : List HProp} {e : TypeId} {v : Value} {n : Nat} {ys : List Value} (h : Sts W (rowP e 1 v n ys :: l) w) (hn : ys.length = n) : New W w e v ys := by
  subst hn
  obtain ⟨F, ⟨F1, F2, ⟨⟨h1, h2⟩, hf⟩, _, _, hu⟩, hb, hlow⟩ := h
  refine ⟨⟨h1, ?_⟩, hb⟩
  rcases h2 with h2 | ⟨g, cap, cur, hv, hg, r⟩
  · exact Or.inl h2
  · refine Or.inr ⟨g, cap, cur, hv, ?_, r⟩
    have : v.ownBlock = some g := by rw [hv]; rfl
    exact hlow g ((hu g).2 (Or.inl ((hf g).2 this)))
set_option maxRecDepth 100000 in
theorem cOctetsOf (w : World) (v : Value) (l : List Nat) (h : RdW w v l) (hn : l.length < 100000000) :
    Calls Try.prog 70 #[v] w fun e w' => ∃ r, e = .returned r ∧ New w w' 5 r (u8s (Pat.bytesOf l)) := by
  obtain ⟨a, cap, rfl, hx⟩ := h.open
  have hB := h.2
  have HX := hid hx
  clear h hx
  go_enter Try.func70, Try.ntmps70
  go_wp2_with fail
  refine (wNewWriter stab0 (Sts.nil w)).mono ?_
  rintro e w1 ⟨p, rfl, hs⟩
  go_wp2_with fail
  go_loopw [9] (fun i wr => ∃ k : Nat, k ≤ l.length ∧ i = .int .i64 k ∧ Sts w [writerP p (Pat.bytesOf (l.take k))] wr) (fun i _ => l.length - (intOf i).toNat)
  case atStart => exact ⟨0, by omega, rfl, hs⟩
  case round =>
    obtain ⟨k, hk, rfl, hs⟩ := hrel
    by_cases hlt : k < l.length
    · obtain ⟨b, off, rfl, hb, hcell⟩ := HX.out k hlt
      rw [← hs.below.cell hb] at hcell
      have hxb := hB _ (List.getElem_mem hlt)
      have HS := hid (Pat.bytesOf_take l k hlt)
      have hlen : (Pat.bytesOf (l.take k)).length < 1000000000 := by rw [Pat.bytesOf_len, List.length_take]; omega
      generalize l[k] = x at *
      generalize Pat.bytesOf (l.take k) = ys at *
      go_wp2_with fail
      refine (wUint stab0 hs x 4 (by omega) (by omega) (by omega) hlen).mono ?_
      rintro e w2 ⟨rfl, hs2⟩
      rw [Oct.be_four] at hs2
      go_wp2_with fail
      go_roundw
      case rel => exact ⟨k + 1, by omega, by go_num, by rw [HS.out]; exact hs2⟩
      case measure => simp [intOf]; omega
    · have e : l.take k = l := List.take_of_length_le (by omega)
      rw [e] at hs
      go_wp2_with fail
      refine (wBytes stab0 hs (by rw [Pat.bytesOf_len]; omega)).mono ?_
      rintro e w2 ⟨r, rfl, hs2⟩
      go_wp2_with fail
      go_ret
      exact ⟨r, rfl, Sts.isNew hs2 (u8s_len _)⟩
end Go.Proofs.Ytdboplkgnnidcaa
