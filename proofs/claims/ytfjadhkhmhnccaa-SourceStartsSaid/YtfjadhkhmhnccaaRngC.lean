/- SortFunc over a row of ranges. -/
import Derived.Test.YtfjadhkhmhnccaaRngB
import Derived.Test.YtfjadhkhmhnccaaShelf
import Derived.Lib.RowBridge
set_option linter.unusedVariables false
set_option linter.unusedSimpArgs false
namespace Go.Proofs.Ytfjadhkhmhnccaa
open Go.RowKit Go.Proofs.Num Go.Shelf Go.Lib
open Go.Sort (grow alloc_eq_grow grow_grow Holds HoldsK putRow putRowK putCells mapBlock flatK SWO SortedIn PermIn)
/-- A range's two cells. -/
def encR (x : Int × Int) : List Value := [.int .i64 x.1, .int .i64 x.2]
abbrev cfR : Int × Int → Int × Int → Int := fun x y => Lib.compareInt x.1 y.1
theorem ltR (x y : Int × Int) : ltOf cfR x y = decide (x.1 < y.1) := by
  unfold ltOf cfR Lib.compareInt
  by_cases h1 : x.1 < y.1
  · simp [h1]
  · by_cases h2 : y.1 < x.1 <;> simp [h1, h2]
theorem swoR : SWO (ltOf cfR) where
  irrefl x := by rw [ltR]; simp
  trans x y z h1 h2 := by rw [ltR] at *; simp at *; omega
  ntrans x y z h1 h2 := by rw [ltR] at *; simp at *; omega
set_option maxHeartbeats 1000000 in
theorem cCmpR (x y : Int × Int) (W : World) : Calls Try.prog 125 #[.agg #[.int .i64 x.1, .int .i64 x.2], .agg #[.int .i64 y.1, .int .i64 y.2]] W fun e w' => e = .returned (.int .i64 (Lib.compareInt x.1 y.1)) ∧ ∃ q os', w' = grow (W.drewN q) os' := by
  have hcon := fun W' => AnyG.cmp_Compare_int Try.cmpInt x.1 y.1 W'
  change ∀ W', Calls Try.prog 126 _ _ _ at hcon
  generalize Lib.compareInt x.1 y.1 = r at hcon ⊢
  go_enter Try.func125, Try.ntmps125
  go_wp2_with (go_at_call 126; refine (hcon _).mono ?_; rintro e w' ⟨rfl, rfl⟩)
  go_ret
  exact ⟨rfl, 0, _, by rw [alloc_eq_grow, alloc_eq_grow, grow_grow]; rfl⟩
theorem cmpLaysR (blk off size : Nat) (w : World) : CmpLays Try.prog 125 #[] encR 2 cfR blk off size w :=
  fun _ _ _ _ x y => cCmpR x y _
theorem flat_get (d : Array (Int × Int)) (i : Nat) (h : i < d.size * 2) : (flatK encR 2 d)[i]? = (Fil.rcells d.toList)[i]? := by
  have hj : i / 2 < d.size := by omega
  have hg := rcells_get d.toList (i / 2) (by simpa using hj)
  have e0 : (flatK encR 2 d)[i]? = some (encR d[i / 2]!)[i % 2]! := by
    rw [Array.getElem?_eq_getElem (by simpa using h), ← getElem!_pos _ i (by simpa using h), Sort.get_flatK _ _ _ _ h]
  rw [e0, getElem!_pos d _ hj]
  rcases (by omega : i / 2 * 2 = i ∨ i / 2 * 2 + 1 = i) with e | e
  · rw [e] at hg; rw [hg.1, show i % 2 = 0 by omega]; rfl
  · rw [e] at hg; rw [hg.2, show i % 2 = 1 by omega]; rfl
theorem flat_toList (d : Array (Int × Int)) : (flatK encR 2 d).toList = Fil.rcells d.toList := by
  apply List.ext_getElem?
  intro i
  rw [Array.getElem?_toList]
  rcases Nat.lt_or_ge i (d.size * 2) with h | h
  · exact flat_get d i h
  · rw [Array.getElem?_eq_none (by simpa using h), List.getElem?_eq_none (by rw [rcells_len]; simpa using h)]
/-- The row at the head is the sort's. -/
theorem Sts.holdsR {W w : World} {L : List HProp} {g cap n : Nat} {l : List Rng.R} (h : Sts W (rowP 81 2 (.slice (some ⟨g, 0, none⟩) n cap) n (Fil.rcells l) :: L) w) (hn : l.length = n) : HoldsK encR 2 w g 0 l.toArray := by
  intro j hj
  have hj' : j < l.length * 2 := by simpa using hj
  refine ⟨?_, by rw [Nat.zero_add]; exact Sts.rowFreeK h j⟩
  rw [Nat.zero_add]
  refine Sts.rowCellK h j (by omega) _ ?_
  have e := flat_get l.toArray j (by simpa using hj')
  rw [← e, Array.getElem?_eq_getElem hj, getElem!_pos _ j hj]
  rfl
theorem Sts.rowStoresAll {W : World} {e : TypeId} {g cap n s : Nat} {L : List HProp} (hL : ∀ A ∈ L, Stable A) : ∀ (zs pre xs : List Value) (w : World), Sts W (rowP e s (.slice (some ⟨g, 0, none⟩) n cap) n (pre ++ xs) :: L) w → xs.length = zs.length →
    Sts W (rowP e s (.slice (some ⟨g, 0, none⟩) n cap) n (pre ++ zs) :: L) (w.setCells g pre.length zs)
  | [], pre, xs, w, h, hx => by have : xs = [] := List.eq_nil_of_length_eq_zero (by simpa using hx); subst this; exact h
  | z :: zs, pre, [], w, h, hx => by simp at hx
  | z :: zs, pre, x :: xs, w, h, hx => by
    have h1 := Sts.rowStoreK hL h pre.length z
    rw [List.set_append_right _ _ (Nat.le_refl _), Nat.sub_self, List.set_cons_zero] at h1
    have h2 := Sts.rowStoresAll hL zs (pre ++ [z]) xs _ (by rw [List.append_assoc]; exact h1) (by simpa using hx)
    rw [List.append_assoc, List.length_append] at h2
    exact h2
theorem below_grow (w : World) (os : Array Obj) : Below w.heap.size w (grow w os) :=
  ⟨rfl, rfl, rfl, by simp [grow], fun i hi => Sort.heap_grow_old w os hi⟩
/-- The row as the sort leaves it. -/
theorem Sts.sorted {W w : World} {L : List HProp} {g cap n : Nat} {l : List Rng.R} (hL : ∀ A ∈ L, Stable A) (h : Sts W (rowP 81 2 (.slice (some ⟨g, 0, none⟩) n cap) n (Fil.rcells l) :: L) w) (hn : l.length = n) (d : Array (Int × Int)) (hd : d.size = n) (q : Nat) (os : Array Obj) :
    Sts W (rowP 81 2 (.slice (some ⟨g, 0, none⟩) n cap) n (Fil.rcells d.toList) :: L) (sortWorldK encR 2 w g 0 q d os) := by
  have hL2 : ∀ A ∈ rowP 81 2 (.slice (some ⟨g, 0, none⟩) n cap) n (Fil.rcells l) :: L, Stable A := stabC (rowP_stable _ _ _ _ _) hL
  have h1 : Sts W (rowP 81 2 (.slice (some ⟨g, 0, none⟩) n cap) n (Fil.rcells l) :: L) (w.drewN q) := h.quiet hL2 (below_drewN (Below.refl _ _) q)
  have h2 := Sts.rowStoresAll hL (Fil.rcells d.toList) [] (Fil.rcells l) _ h1 (by rw [rcells_len, rcells_len]; simp [hn, hd])
  have hK := Sts.holdsR h hn
  have e : sortWorldK encR 2 w g 0 q d os = grow ((w.drewN q).setCells g 0 (Fil.rcells d.toList)) os := by
    unfold sortWorldK putRowK
    rw [← flat_toList d]
    have := putRow_eq_setCells id w g 0 (flatK encR 2 l.toArray) (flatK encR 2 d).toList q hK (by simp [hn, hd])
    simp only [List.map_id, Array.toArray_toList] at this
    rw [this]
  rw [e]
  exact h2.quiet (stabC (rowP_stable _ _ _ _ _) hL) (below_grow _ _)
set_option maxRecDepth 100000 in
theorem aggR : ∀ w, (isAgg 81).run Try.prog w = .ok true w := fun w => by first | rfl | simp [go_sem] | kernel_rfl
theorem cSortSome {W w : World} {L : List HProp} (hL : ∀ A ∈ L, Stable A) (g cap : Nat) (l : List Rng.R) (hs : Sts W (rowP 81 2 (.slice (some ⟨g, 0, none⟩) l.length cap) l.length (Fil.rcells l) :: L) w) (hn : l.length < 1000000) :
    Calls Try.prog 124 #[.slice (some ⟨g, 0, none⟩) l.length cap, .func (.func 125) #[] #[]] w fun e w' => e = .returned (.tuple #[]) ∧ ∃ d : List Rng.R, d.Perm l ∧ d.Pairwise (fun a b => a.1 ≤ b.1) ∧ Sts W (rowP 81 2 (.slice (some ⟨g, 0, none⟩) l.length cap) l.length (Fil.rcells d) :: L) w' := by
  have eg : ∀ args w, (callFunc 125 args).run Try.prog w = .ok (.enter 125 args) w := enters_of Try.func125 (by kernel_rfl) rfl
  have hblk : g < w.heap.size := (Sts.rowOwnK hs).lt g rfl |>.2
  have hcon := AnyQ.slices_SortFunc Try.sortRng 2 aggR sizeR encR (fun _ => rfl) (fun x v hv => by simp [encR] at hv; rcases hv with rfl | rfl <;> rfl) cfR swoR 125 #[] g 0 cap l.toArray w eg (cmpLaysR g 0 l.toArray.size w) (Sts.holdsR hs rfl) hblk (by simp; omega)
  change Calls Try.prog 124 _ _ _ at hcon
  rw [List.size_toArray] at hcon
  refine hcon.mono ?_
  rintro e w' ⟨rfl, d, n, os, ⟨hsz, -, hp⟩, hso, rfl⟩
  have hd : d.size = l.length := by rw [hsz]; simp
  refine ⟨rfl, d.toList, ?_, ?_, Sts.sorted hL hs rfl d hd n os⟩
  · rw [show d.extract 0 l.length = d by rw [← hd]; simp, show l.toArray.extract 0 l.length = l.toArray by simp] at hp
    exact hp
  · rw [List.pairwise_iff_getElem]
    intro i j hi hj hij
    have h := hso i j (Nat.zero_le _) hij (by rw [← hd]; simpa using hj)
    rw [ltR, getElem!_pos d i (by simpa using hi), getElem!_pos d j (by simpa using hj)] at h
    simpa using h
end Go.Proofs.Ytfjadhkhmhnccaa
