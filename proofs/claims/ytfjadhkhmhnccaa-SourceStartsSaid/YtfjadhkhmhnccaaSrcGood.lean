/- The sending end's invariant. -/
import Derived.Test.YtfjadhkhmhnccaaSrcMod
set_option linter.unusedVariables false
set_option linter.unusedSimpArgs false
namespace Rng
/-- What lies in a valid list lies where its members lie. -/
theorem bound {v : List R} {a b : Int} (hv : Valid v) (h : ∀ m, Mem m v → a ≤ m ∧ m < b) : ∀ r ∈ v, a ≤ r.1 ∧ r.1 < r.2 ∧ r.2 ≤ b := by
  intro r hr
  have h0 := hv.1 r hr
  have h1 := h r.1 ⟨r, hr, by omega, h0⟩
  have h2 := h (r.2 - 1) ⟨r, hr, by omega, by omega⟩
  omega
theorem bound_of {v : List R} {a b : Int} (h : ∀ r ∈ v, a ≤ r.1 ∧ r.2 ≤ b) : ∀ m, Mem m v → a ≤ m ∧ m < b := by
  rintro m ⟨r, hr, h1, h2⟩
  have := h r hr
  omega
theorem remV_spec (l : List R) (r : R) : Valid (remV l r) ∧ ∀ m, Mem m (remV l r) → Mem m l := by
  unfold remV
  split
  · exact ⟨(ofV_spec l).1, fun m hm => ((ofV_spec l).2 m).1 hm⟩
  · refine ⟨(ofV_spec _).1, fun m hm => ?_⟩
    obtain ⟨x, hx, h1, h2⟩ := ((ofV_spec _).2 m).1 hm
    rw [List.mem_flatMap] at hx
    obtain ⟨y, hy, hxy⟩ := hx
    refine ((ofV_spec l).2 m).1 ⟨y, hy, ?_⟩
    simp only [cut, List.mem_cons, List.not_mem_nil, or_false] at hxy
    rcases hxy with rfl | rfl <;> simp only [] at h1 h2 <;> omega
end Rng
namespace Fil
theorem gapsGo_nonneg : ∀ (l : List Rng.R) (f : Bool) (last : Int), gapsGo f last l = true → ∀ g ∈ l, 0 ≤ g.1
  | [], _, _, _ => by simp
  | x :: l, f, last, h => by
    unfold gapsGo at h
    intro g hg
    split at h
    · rename_i hc
      rcases List.mem_cons.1 hg with rfl | hg
      · rw [hc.2]; exact Int.le_refl _
      · exact gapsGo_nonneg l _ _ h g hg
    · split at h
      · cases h
      · rename_i hc
        rcases List.mem_cons.1 hg with rfl | hg
        · omega
        · exact gapsGo_nonneg l _ _ h g hg
theorem Good.finV {s : Src} (h : Good s) : Good s.finV := ⟨h.n, h.b, h.c, h.to, h.re, h.nw, h.ti, h.tr, h.at0, h.w, h.wv⟩
theorem Good.eofV {s : Src} (h : Good s) : Good s.eofV := by
  unfold Src.eofV
  split
  · exact ⟨h.n, h.b, h.c, h.to, h.re, h.nw, h.nw, ⟨Int.le_refl _, by show (0 : Int) ≤ 255; omega⟩, h.at0, h.w, h.wv⟩
  · exact ⟨h.n, h.b, h.c, h.to, h.re, h.nw, h.ti, h.tr, h.at0, h.w, h.wv⟩
theorem Good.remW {s : Src} (h : Good s) (r : Rng.R) : Good { s with wanted := Rng.remV s.wanted r } := by
  obtain ⟨h1, h2⟩ := Rng.remV_spec s.wanted r
  exact ⟨h.n, h.b, h.c, h.to, h.re, h.nw, h.ti, h.tr, h.at0, Rng.bound h1 fun m hm => Rng.bound_of (fun x hx => ⟨(h.w x hx).1, (h.w x hx).2.2⟩) m (h2 m hm), h1⟩
theorem Good.goV {s : Src} (h : Good s) : Good s.goV.1 := by
  unfold Src.goV
  split
  · exact h
  split
  · exact h.finV
  split
  · exact ⟨h.n, h.b, h.c, h.to, h.re, h.nw, h.ti, h.tr, h.at0, h.w, h.wv⟩
  split
  · exact h
  split
  · exact ⟨h.n, h.b, h.c, h.to, h.re, h.nw, h.ti, h.tr, h.at0, h.w, h.wv⟩
  split
  · exact h.remW _
  · split
    · unfold Src.fwdV
      split
      · exact ⟨h.n, h.b, h.c, h.to, h.re, h.nw, h.ti, h.tr, h.at0, h.w, h.wv⟩
      · split
        · exact ⟨h.n, h.b, h.c, h.to, h.re, h.nw, h.ti, h.tr, Int.natCast_nonneg _, h.w, h.wv⟩
        · exact h.eofV
    · unfold Src.repV
      split
      · exact h
      · split
        · exact ⟨h.n, h.b, h.c, h.to, h.re, h.nw, h.ti, h.tr, h.at0, h.w, h.wv⟩
        · rename_i hr
          have h1 := h.tr
          have h2 := h.re
          exact ⟨h.n, h.b, h.c, h.to, h.re, h.nw, h.nw, ⟨by show 0 ≤ s.tries + 1; omega, by show s.tries + 1 ≤ 255; omega⟩, h.at0, h.w, h.wv⟩
theorem Good.nextV {s : Src} (h : Good s) (now : Int) : Good (s.nextV now).1 := (h.pass now).goV
theorem Good.req1 {s : Src} (h : Good s) (g : Rng.R) (hg : 0 ≤ g.1 ∧ g.2 ≤ (s.data.length : Int)) : Good (s.req1 g) ∧ (s.req1 g).data = s.data := by
  unfold Src.req1
  split
  · exact ⟨⟨h.n, h.b, h.c, h.to, h.re, h.nw, h.ti, h.tr, h.at0, h.w, h.wv⟩, rfl⟩
  · have hv := (Rng.ofV_spec (s.wanted ++ [g])).1
    refine ⟨⟨h.n, h.b, h.c, h.to, h.re, h.nw, h.ti, h.tr, h.at0, Rng.bound hv fun m hm => Rng.bound_of ?_ m (((Rng.ofV_spec _).2 m).1 hm), hv⟩, rfl⟩
    intro x hx
    rcases List.mem_append.1 hx with hx | hx
    · exact ⟨(h.w x hx).1, (h.w x hx).2.2⟩
    · simp at hx; subst hx; exact hg
theorem Good.reqGo : ∀ (l : List Rng.R) {s : Src}, Good s → (∀ g ∈ l, 0 ≤ g.1 ∧ g.2 ≤ (s.data.length : Int)) → Good (s.reqGo l)
  | [], s, h, _ => h
  | g :: l, s, h, hl => by
    obtain ⟨h1, h2⟩ := h.req1 g (hl g (by simp))
    exact Good.reqGo l h1 (by rw [h2]; exact fun x hx => hl x (by simp [hx]))
theorem Good.recV {s : Src} (h : Good s) (p : Pdu) : Good (s.recV p).1 := by
  unfold Src.recV
  split
  · exact h
  rename_i hb
  split
  · exact h
  split
  · unfold Src.ackV
    split
    · exact h
    · split
      · exact ⟨h.n, h.b, h.c, h.to, h.re, h.nw, h.ti, h.tr, h.at0, h.w, h.wv⟩
      · exact h
  split
  · rename_i h4
    unfold Src.reqV
    split
    · exact h
    rename_i ha
    split
    · exact h
    · have hv : p.validB = true := by
        rw [Bool.not_eq_false] at hb
        simp only [Bool.and_eq_true] at hb
        exact hb.1.1.1
      have hk : gapsB p.gaps = true := by
        unfold Pdu.validB at hv
        simp only [Bool.and_eq_true] at hv
        have := hv.2
        unfold Pdu.kindB at this
        simpa [h4] using this
      unfold gapsB at hk
      simp only [Bool.and_eq_true] at hk
      have hn := gapsGo_nonneg _ _ _ hk.1
      have hg := Good.reqGo p.gaps h (fun g hg => ⟨hn g hg, by
        rcases Int.lt_or_le (s.data.length : Int) g.2 with h | h
        · exact absurd (List.any_eq_true.2 ⟨g, hg, by simpa using h⟩) ha
        · exact h⟩)
      exact ⟨hg.n, hg.b, hg.c, hg.to, hg.re, hg.nw, hg.nw, ⟨Int.le_refl _, by show (0 : Int) ≤ 255; omega⟩, hg.at0, hg.w, hg.wv⟩
  · unfold Src.endV
    split
    · exact h
    · split
      · exact ⟨h.n, h.b, h.c, h.to, h.re, h.nw, h.ti, h.tr, h.at0, by simp, Rng.Valid.nil⟩
      · exact ⟨h.n, h.b, h.c, h.to, h.re, h.nw, h.ti, h.tr, h.at0, h.w, h.wv⟩
theorem Good.takeV {s : Src} (h : Good s) (p : Pdu) (now : Int) : Good (s.takeV p now).1 := (h.pass now).recV p
end Fil
