/- What the sending end does without answers, as a function. -/
import Derived.Test.YtfjadhkhmhnccaaSrcOps
set_option linter.unusedVariables false
set_option linter.unusedSimpArgs false
namespace Go.Proofs.Ytfjadhkhmhnccaa
open Fil
section
variable (src num cls : Int) (name : ByteArray) (data : List Nat) (chunk timeout retries : Int)
/-- Behind the metadata, at the offset k. -/
def ordS (k : Nat) : Src := { newSrc src num cls name data chunk timeout retries with started := true, at' := (k : Int) }
theorem new_good (hb : newB src num cls name data.length chunk timeout retries = true) (hd : ∀ x ∈ data, x < 256) : Fil.Good (newSrc src num cls name data chunk timeout retries) ∧ (cls = 1 ∨ cls = 2) := by
  unfold newB at hb
  simp only [Bool.and_eq_true] at hb
  obtain ⟨⟨⟨hv, h1⟩, h2⟩, h3⟩ := hb
  unfold Pdu.validB at hv
  simp only [Bool.and_eq_true] at hv
  have hk := hv.2
  have hk : (withinB cls 1 2 && withinB (data.length : Nat) 0 65536 && nameB name) = true := hk
  unfold withinB at *
  simp only [Bool.and_eq_true, decide_eq_true_eq] at h1 h2 h3 hk
  refine ⟨⟨by show data.length ≤ 65536; omega, hd, h1, h2, h3, ⟨Int.le_refl _, by show (0 : Int) ≤ 1099511627776; omega⟩, ⟨Int.le_refl _, by show (0 : Int) ≤ 1099511627776; omega⟩, ⟨Int.le_refl _, by show (0 : Int) ≤ 255; omega⟩, Int.le_refl _, fun r hr => (by cases hr), Rng.Valid.nil⟩, by omega⟩
theorem ord_head : (newSrc src num cls name data chunk timeout retries).nextV 0 = (ordS src num cls name data chunk timeout retries 0, .head) := by kernel_rfl
theorem ord_pass (k : Nat) : (ordS src num cls name data chunk timeout retries k).pass 0 = ordS src num cls name data chunk timeout retries k := by kernel_rfl
theorem ord_go (k : Nat) : (ordS src num cls name data chunk timeout retries k).nextV 0 = (ordS src num cls name data chunk timeout retries k).fwdV := by kernel_rfl
theorem ord_piece (k c : Nat) (hk : k < data.length) (hc : chunk = (c : Int)) : (ordS src num cls name data chunk timeout retries k).nextV 0 = (ordS src num cls name data chunk timeout retries (min (k + c) data.length), .piece k (min (k + c) data.length)) := by
  rw [ord_go]
  unfold Src.fwdV
  have h0 : (ordS src num cls name data chunk timeout retries k).started = true := rfl
  have h1 : (ordS src num cls name data chunk timeout retries k).at' = (k : Int) := rfl
  have h2 : (ordS src num cls name data chunk timeout retries k).data = data := rfl
  have h3 : (ordS src num cls name data chunk timeout retries k).chunk = chunk := rfl
  rw [h0, if_neg (by decide), h1, h2, if_pos (by omega), h3, hc]
  simp only [Int.toNat_natCast]
  rw [← hc]
  rfl
theorem ord_eof : (ordS src num cls name data chunk timeout retries data.length).nextV 0 = ((ordS src num cls name data chunk timeout retries data.length).eofV, .eof 0) := by
  rw [ord_go]
  unfold Src.fwdV
  have h0 : (ordS src num cls name data chunk timeout retries data.length).started = true := rfl
  have h1 : (ordS src num cls name data chunk timeout retries data.length).at' = (data.length : Int) := rfl
  have h2 : (ordS src num cls name data chunk timeout retries data.length).data = data := rfl
  rw [h0, if_neg (by decide), h1, h2, if_neg (by omega)]
theorem ord_end1 : ((ordS src num 1 name data chunk timeout retries data.length).eofV).nextV 0 = ((ordS src num 1 name data chunk timeout retries data.length).eofV, .non) := by kernel_rfl
theorem ord_end2 (ht : 1 ≤ timeout) : ((ordS src num 2 name data chunk timeout retries data.length).eofV).nextV 0 = ((ordS src num 2 name data chunk timeout retries data.length).eofV, .non) := by
  have h : ((ordS src num 2 name data chunk timeout retries data.length).eofV).nextV 0 = ((ordS src num 2 name data chunk timeout retries data.length).eofV).repV := by kernel_rfl
  rw [h]
  unfold Src.repV
  have hq : ((ordS src num 2 name data chunk timeout retries data.length).eofV).quietB = decide (0 < 0 + timeout) := by kernel_rfl
  rw [hq, if_pos (by simp; omega)]
theorem ord_st1 : ((ordS src num 1 name data chunk timeout retries data.length).eofV).stateV = 4 := by kernel_rfl
theorem ord_st2 : ((ordS src num 2 name data chunk timeout retries data.length).eofV).stateV = 2 := by kernel_rfl
end
end Go.Proofs.Ytfjadhkhmhnccaa
