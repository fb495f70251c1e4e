/- Byte strings: what a slice of bytes converts to. No program in sight. -/
import Derived.Test.YtgidckkcibplgaaGreatSepc
import Derived.Laws.BytesArg
import Derived.Laws.StructEq
set_option linter.unusedVariables false
namespace Go.Proofs.Num
open Go.RowKit
def strB (l : List Nat) : ByteArray := ⟨(l.map UInt8.ofNat).toArray⟩
theorem strB_inj (a b : List Nat) (ha : ∀ x ∈ a, x < 256) (hb : ∀ x ∈ b, x < 256) (h : strB a = strB b) : a = b := by
  have h1 : a.map UInt8.ofNat = b.map UInt8.ofNat := by
    unfold strB at h; injection h with h; simpa using h
  clear h
  induction a generalizing b with
  | nil => cases b with
    | nil => rfl
    | cons y b => simp at h1
  | cons x a ih => cases b with
    | nil => simp at h1
    | cons y b =>
      simp only [List.map_cons, List.cons.injEq] at h1
      have hx := ha x (by simp)
      have hy := hb y (by simp)
      have e : x = y := by
        have := congrArg UInt8.toNat h1.1
        simpa [UInt8.toNat_ofNat, Nat.mod_eq_of_lt hx, Nat.mod_eq_of_lt hy] using this
      rw [e, ih b (fun z hz => ha z (by simp [hz])) (fun z hz => hb z (by simp [hz])) h1.2]
theorem strB_of (l : List Nat) : strOfNums (l.map Int.ofNat) = strB l := by
  unfold strOfNums strB
  simp
theorem RdB.str {P : Program} {w : World} {v : Value} {l : List Nat} (h : RdB w v l) (src dst e : TypeId) (hs : P.underlying src = some (.slice e)) (he : P.underlying e = some (.int .u8)) (hd : P.underlying dst = some .string) :
    (convert src dst v).run P w = .ok (.string (strB l)) w := by
  obtain ⟨a, cap, rfl, hc⟩ := h.open
  cases l with
  | nil =>
    rw [run_convert_bytes_string w src dst e a _ cap hs he hd]
    cases a with
    | none => simp [Conv.bytesToString]; rfl
    | some p =>
      have := run_bytesToString (P := P) w p 0 cap [] (by
        have := run_loadCells_list (P := P) w p [] (fun j v hj => by simp at hj)
        simpa using this)
      exact this
  | cons x l =>
    obtain ⟨b, off, rfl, hb, _⟩ := hc 0 (by simp)
    have := run_convert_bytes_arg (P := P) w src e hs he b off (x :: l).length cap ((x :: l).map Int.ofNat) (by simp) (fun i hi => by
      obtain ⟨b', off', h1, h2, h3⟩ := hc i hi
      simp only [Option.some.injEq, Addr.mk.injEq, and_true] at h1
      obtain ⟨rfl, rfl⟩ := h1
      rw [h3]
      rw [List.getD_eq_getElem?_getD, List.getElem?_map, List.getElem?_eq_getElem hi]
      rfl) dst hd
    rw [this, strB_of]
theorem New.rdB {w w' : World} {e : TypeId} {v : Value} {l : List Nat} (h : New w w' e v (u8s l)) (hl : ∀ x ∈ l, x < 256) : RdB w' v l := ⟨h.rd, hl⟩
theorem New.rdW {w w' : World} {e : TypeId} {v : Value} {l : List Nat} (h : New w w' e v (u32s l)) (hl : ∀ x ∈ l, x < 4294967296) : RdW w' v l := ⟨h.rd, hl⟩
theorem str_beq (a b : List Nat) (ha : ∀ x ∈ a, x < 256) (hb : ∀ x ∈ b, x < 256) : decide (strB a = strB b) = decide (a = b) := by
  by_cases h : a = b
  · simp [h]
  · have : ¬ strB a = strB b := fun e => h (strB_inj a b ha hb e)
    simp [h, this]
theorem strT_beq (a b : List Nat) (ha : ∀ x ∈ a, x < 256) (hb : ∀ x ∈ b, x < 256) : ((strB a).toList == (strB b).toList) = decide (a = b) := by
  rw [ByteArray.toList_eq, ByteArray.toList_eq]
  by_cases h : a = b
  · subst h; simp
  · have h1 : ¬ (strB a).data.toList = (strB b).data.toList := fun e => h (strB_inj a b ha hb (by
      have := Array.ext' e
      unfold strB at this ⊢
      exact congrArg ByteArray.mk this))
    rw [beq_eq_false_iff_ne.2 h1]; simp [h]
end Go.Proofs.Num
