/- Upsets of different words: how a slice holds them; the contract of spacecraftlaw32.apart. -/
import Derived.Test.YtdboplkgnnidcaaVltLawB
set_option linter.unusedVariables false
set_option linter.unusedSimpArgs false
namespace Go.Proofs.Ytdboplkgnnidcaa
open Go.RowKit Go.Proofs.Num
def UpsAt (w : World) (v : Value) (S : List (Int × Int)) : Prop := ∃ a cap, v = .slice a S.length cap ∧ S.length ≤ maxLen ∧ ∀ j, (h : j < S.length) → ∃ b off, a = some ⟨b, off, none⟩ ∧ b < w.heap.size ∧ w.cell? ⟨b, off + j * 2, none⟩ = some (.int .i64 S[j].1) ∧ w.cell? ⟨b, off + j * 2 + 1, none⟩ = some (.int .i64 S[j].2)
def ApartOk (S : List (Int × Int)) (n : Int) (m : Nat) : Prop := ∀ j, (h : j < S.length) → j < m → (0 ≤ S[j].1 ∧ S[j].1 < n) ∧ (0 ≤ S[j].2 ∧ S[j].2 ≤ 38) ∧ ∀ k, (h2 : k < j) → S[k].1 ≠ S[j].1
def ApartPost (w : World) (S : List (Int × Int)) (n : Int) (e : Ending) (w' : World) : Prop := ∃ b : Bool, e = .returned (.bool b) ∧ (b = true → S.length ≤ 40 ∧ ApartOk S n S.length) ∧ Below w.heap.size w w'
def ApartAt (w : World) (S : List (Int × Int)) (n : Int) (i : Value) (wr : World) : Prop := ∃ k : Nat, k ≤ S.length ∧ i = .int .i64 k ∧ ApartOk S n k ∧ Below w.heap.size w wr
def ApartIn (w : World) (S : List (Int × Int)) (k : Nat) (hk : k < S.length) (i : Value) (wr : World) : Prop := ∃ j : Nat, ∃ hj : j ≤ k, i = .int .i64 j ∧ (∀ c, (h : c < j) → S[c].1 ≠ S[k].1) ∧ Below w.heap.size w wr
set_option maxRecDepth 100000 in
theorem cApart (w : World) (v : Value) (S : List (Int × Int)) (n : Int) (h : UpsAt w v S) :
    Calls Try.prog 39 #[v, .int .i64 n] w (ApartPost w S n) := by
  obtain ⟨a, cap, rfl, hm, hx⟩ := h
  have HX := hid hx
  unfold maxLen at hm
  clear hx
  by_cases h40 : 40 < S.length
  · have hd : decide ((40 : Int) < (S.length : Int)) = true := decide_eq_true (by omega)
    go_enter Try.func39, Try.ntmps39
    go_wp2_with fail
    go_ret
    exact ⟨false, rfl, by simp, Below.refl _ _⟩
  · have hd : decide ((40 : Int) < (S.length : Int)) = false := decide_eq_false (by omega)
    go_enter Try.func39, Try.ntmps39
    go_wp2_with fail
    go_loopw [5] (fun i wr => ApartAt w S n i wr) (fun i _ => S.length - (intOf i).toNat)
    case atStart => exact ⟨0, by omega, rfl, fun j _ h => by omega, Below.refl _ _⟩
    case round =>
      obtain ⟨k, hk, rfl, hok, hbel⟩ := hrel
      have HOK := hid hok
      have HB := hid hbel
      clear hok hbel
      by_cases hlt : k < S.length
      · obtain ⟨b, off, rfl, hb, c0, c1⟩ := HX.out k hlt
        rw [← HB.out.cell hb] at c0 c1
        have HN : Hid (∀ x y, x = S[k].1 → y = S[k].2 → (0 ≤ x ∧ x < n) → (0 ≤ y ∧ y ≤ 38) → (∀ c, (h : c < k) → S[c].1 ≠ x) → ApartOk S n (k + 1)) := hid (by
          rintro x y rfl rfl h1 h2 h3 j hj hjk
          by_cases e : j = k
          · subst e; exact ⟨h1, h2, h3⟩
          · exact HOK.out j hj (by omega))
        obtain ⟨x, hx⟩ : ∃ x, x = S[k].1 := ⟨_, rfl⟩
        obtain ⟨y, hy⟩ : ∃ y, y = S[k].2 := ⟨_, rfl⟩
        rw [← hx] at c0
        rw [← hy] at c1
        have HXE := hid hx
        have HYE := hid hy
        clear hx hy
        by_cases hbad : x < 0 ∨ n ≤ x ∨ y < 0 ∨ 38 < y
        · have hb' : decide (x < 0) = true ∨ (decide (x < 0) = false ∧ decide (n ≤ x) = true) ∨ (decide (x < 0) = false ∧ decide (n ≤ x) = false ∧ decide (y < 0) = true) ∨ (decide (x < 0) = false ∧ decide (n ≤ x) = false ∧ decide (y < 0) = false ∧ decide (38 < y) = true) := by
            simp only [decide_eq_true_eq, decide_eq_false_iff_not]; omega
          clear hbad
          rcases hb' with h | ⟨h, h2⟩ | ⟨h, h2, h3⟩ | ⟨h, h2, h3, h4⟩
          all_goals
            go_wp2_with fail
            go_ret
            exact ⟨false, rfl, by simp, HB.out⟩
        · have h1 : decide (x < 0) = false := decide_eq_false (by omega)
          have h2 : decide (n ≤ x) = false := decide_eq_false (by omega)
          have h3 : decide (y < 0) = false := decide_eq_false (by omega)
          have h4 : decide (38 < y) = false := decide_eq_false (by omega)
          have HBAD := hid hbad
          clear hbad
          go_wp2_with fail
          obtain ⟨wo, rfl⟩ : ∃ wo : World, wo = wr := ⟨_, rfl⟩
          clear c0 c1
          go_loopw [6] (fun i wr => ApartIn w S k hlt i wr) (fun i _ => k - (intOf i).toNat)
          case atStart => exact ⟨0, by omega, rfl, fun c h => by omega, HB.out⟩
          case round =>
            obtain ⟨j, hj, rfl, hne, hbel⟩ := hrel
            have HNE := hid hne
            have HB2 := hid hbel
            clear hne hbel
            obtain ⟨b', off', e', hb, c0, c1⟩ := HX.out k hlt
            injection e' with e'
            injection e' with e1 e2 e3
            subst e1
            subst e2
            rw [← HB2.out.cell hb, ← HXE.out] at c0
            clear c1 e3
            by_cases hjk : j < k
            · obtain ⟨b', off', e', _, c2, _⟩ := HX.out j (by omega)
              injection e' with e'
              injection e' with e1 e2 e3
              subst e1
              subst e2
              rw [← HB2.out.cell hb] at c2
              clear e3
              obtain ⟨z, hz⟩ : ∃ z, z = S[j].1 := ⟨_, rfl⟩
              rw [← hz] at c2
              have HZ := hid hz
              clear hz
              have hjl : j < S.length := by omega
              by_cases hzx : z = x
              · have hd2 : (z == x) = true := by simpa using hzx
                have hd3 : decide (z = x) = true := by simpa using hzx
                clear hzx
                go_wp2_with fail
                go_quiet (fail)
                go_wp2_with fail
                go_ret
                exact ⟨false, rfl, by simp, below_drewN HB2.out _⟩
              · have hd2 : (z == x) = false := by simpa using hzx
                have HZX := hid hzx
                clear hzx
                go_wp2_with fail
                go_quiet (fail)
                go_wp2_with fail
                go_roundw
                case rel =>
                  refine ⟨j + 1, by omega, by go_num, fun c hc => ?_, below_drewN HB2.out _⟩
                  by_cases e : c = j
                  · subst e; rw [← HZ.out, ← HXE.out]; exact HZX.out
                  · exact HNE.out c (by omega)
                case measure => simp [intOf]; omega
            · have ej : j = k := by omega
              subst ej
              clear c0
              go_wp2_with fail
              go_roundw
              case rel => exact ⟨j + 1, by omega, by go_num, HN.out x y HXE.out HYE.out (by have := HBAD.out; omega) (by have := HBAD.out; omega) (fun c h => by rw [HXE.out]; exact HNE.out c h), HB2.out⟩
              case measure => simp [intOf]; omega
      · have ek : k = S.length := by omega
        go_wp2_with fail
        go_ret
        exact ⟨true, rfl, fun _ => ⟨by omega, by rw [← ek]; exact HOK.out⟩, HB.out⟩
end Go.Proofs.Ytdboplkgnnidcaa
