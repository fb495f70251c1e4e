/- Restore, whatever its arguments. The specification's Restore, whatever its arguments. -/
import Derived.Test.YtgidckkcibplgaaGreatResJ
import Derived.Test.YtgidckkcibplgaaGreatResG
import Derived.Test.YtgidckkcibplgaaGreatResN
import Derived.Test.YtgidckkcibplgaaGreatResI
set_option linter.unusedVariables false
set_option linter.unusedSimpArgs false
set_option linter.unusedSectionVars false
namespace Go.Proofs.YtgidckkcibplgaaGreat
open Go.RowKit Go.Proofs.Num
/-- All that Restore asks. -/
def AllOk (self chunk to re : Int) (l : List Rng.R) (next : Int) : Prop := ((0 ≤ self ∧ self ≤ 15) ∧ (1 ≤ chunk ∧ chunk ≤ 512) ∧ (1 ≤ to ∧ to ≤ 1048576) ∧ (0 ≤ re ∧ re ≤ 255)) ∧ RestOk self l next
def RestD (W : World) (self chunk to re next : Int) (l : List Rng.R) (e : Ending) (w' : World) : Prop :=
  Below W.heap.size W w' ∧ ((e = .returned (.tuple #[.pointer none, .int .i64 1]) ∧ ¬ AllOk self chunk to re l next) ∨
  (∃ c q m1 m2 m3, e = .returned (.tuple #[.pointer (some ⟨c, 0, none⟩), .int .i64 0]) ∧ AllOk self chunk to re l next ∧ CouAt w' self chunk to re next c q m1 m2 m3 l))
theorem cRestAll {W w : World} (a : Option Addr) (cap : Nat) (l : List Rng.R) (hr : RdR W (.slice a l.length cap) l) (hn : l.length < 1000000) (self chunk to re next : Int) (q m : Nat) (hs : Sts W (blkP q (.cells #[.int .i64 1, .int .i64 1, .map (some m)] 74 (0, 0)) :: blkP m (.map #[] 0) :: []) w) :
    Calls Tryz.prog 10 #[.int .i64 self, .pointer (some ⟨q, 0, none⟩), .agg #[.int .i64 chunk, .int .i64 to, .int .i64 re], .slice a l.length cap, .int .i64 next] w fun e w' => RestD W self chunk to re next l e w' := by
  have hST : ∀ B ∈ [blkP q (.cells #[.int .i64 1, .int .i64 1, .map (some m)] 74 (0, 0)), blkP m (.map #[] 0)], Stable B := stabC (blkP_stable _ _) (stab1 (blkP_stable _ _))
  by_cases hv : (0 ≤ self ∧ self ≤ 15) ∧ (1 ≤ chunk ∧ chunk ≤ 512) ∧ (1 ≤ to ∧ to ≤ 1048576) ∧ (0 ≤ re ∧ re ≤ 255)
  · have conv : ∀ e w', RestC W [] self chunk to re next q m l e w' → RestD W self chunk to re next l e w' := by
      rintro e w' (⟨h1, h2, h3⟩ | ⟨c, m1, m2, m3, v, h1, h2, h3, ⟨va, vn, vc, rfl⟩, h5⟩)
      · exact ⟨h3, Or.inl ⟨h1, fun h => h2 h.2⟩⟩
      · refine ⟨h5.below, Or.inr ⟨c, q, m1, m2, m3, h1, ⟨hv, h2⟩, ⟨⟨va, vn, vc, ?_, h3⟩, ?_, ?_⟩⟩⟩
        · obtain ⟨F, hF⟩ := h5.head; exact hF.1
        · obtain ⟨F, hF⟩ := h5.tail.tail.tail.head; exact hF.1
        · obtain ⟨F, hF⟩ := h5.tail.tail.head; exact hF.1
    by_cases hb : l.length ≤ 256 ∧ 1 ≤ next ∧ next ≤ 65536
    · exact (cRestT (L := []) stab0 a cap l hr hn self chunk to re next q m hs hv.1 hv.2.1 hv.2.2.1 hv.2.2.2 hb).mono conv
    · exact (cRestF (L := []) stab0 a cap l hn self chunk to re next q m hs hv.1 hv.2.1 hv.2.2.1 hv.2.2.2 hb).mono conv
  · refine (cRestB hST _ self chunk to re next _ hs hv).mono ?_
    rintro e w' ⟨h1, h2⟩
    exact ⟨h2.below, Or.inl ⟨h1, fun h => hv h.1⟩⟩
end Go.Proofs.YtgidckkcibplgaaGreat
namespace Go.Proofs.YtgidckkcibplgaaGreat
open Go.RowKit Go.Proofs.Num
theorem cRRestAll (w : World) (a : Option Addr) (cap : Nat) (l : List Rng.R) (h : RdR w (.slice a l.length cap) l) (hn : l.length < 1000000) (self chunk to re next : Int) :
    Calls Tryz.prog 12 #[.int .i64 self, .agg #[.int .i64 1, .int .i64 1, .slice none 0 0], .agg #[.int .i64 chunk, .int .i64 to, .int .i64 re], .slice a l.length cap, .int .i64 next] w fun e w' => Below w.heap.size w w' ∧ ∃ cs : Array Value, cs.size = 16 ∧ cs.toList.all (fun v => v.oneCell') = true ∧ ((e = .returned (.tuple #[.agg cs, .int .i64 1]) ∧ ¬ AllOk self chunk to re l next) ∨ (e = .returned (.tuple #[.agg cs, .int .i64 0]) ∧ AllOk self chunk to re l next)) := by
  by_cases hv : (0 ≤ self ∧ self ≤ 15) ∧ (1 ≤ chunk ∧ chunk ≤ 512) ∧ (1 ≤ to ∧ to ≤ 1048576) ∧ (0 ≤ re ∧ re ≤ 255)
  · have conv : ∀ e w', (Below w.heap.size w w' ∧ Rest29 self l next e) → (Below w.heap.size w w' ∧ ∃ cs : Array Value, cs.size = 16 ∧ cs.toList.all (fun v => v.oneCell') = true ∧ ((e = .returned (.tuple #[.agg cs, .int .i64 1]) ∧ ¬ AllOk self chunk to re l next) ∨ (e = .returned (.tuple #[.agg cs, .int .i64 0]) ∧ AllOk self chunk to re l next))) := by
      rintro e w' ⟨h1, cs, h2, h3, h4⟩
      refine ⟨h1, cs, h2, h3, ?_⟩
      rcases h4 with h4 | h4
      · exact Or.inl ⟨h4.1, fun h => h4.2 h.2⟩
      · exact Or.inr ⟨h4.1, hv, h4.2⟩
    by_cases hb : l.length ≤ 256 ∧ 1 ≤ next ∧ next ≤ 65536
    · exact (cRRest29T w a cap l h hn self chunk to re next hv.1 hv.2.1 hv.2.2.1 hv.2.2.2 hb).mono conv
    · exact (cRRest29F w a cap l hn self chunk to re next hv.1 hv.2.1 hv.2.2.1 hv.2.2.2 hb).mono conv
  · refine (cRRestB w _ self chunk to re next hv).mono ?_
    rintro e w' ⟨h1, h2⟩
    exact ⟨h1, zero29, rfl, rfl, Or.inl ⟨h2, fun h => hv h.1⟩⟩
end Go.Proofs.YtgidckkcibplgaaGreat
