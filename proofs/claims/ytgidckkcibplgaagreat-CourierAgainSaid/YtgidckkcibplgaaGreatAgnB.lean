/- After a restart, a delivered file is not stored again, and its sender completes: every file, every pattern of losses. -/
import Derived.Test.YtgidckkcibplgaaGreatAgnL1
import Derived.Test.YtgidckkcibplgaaGreatAgnL2
import Derived.Test.YtgidckkcibplgaaGreatAgnL3
import Derived.Test.YtgidckkcibplgaaGreatAgnL4
import Derived.Test.YtgidckkcibplgaaGreatAgnZ
import Derived.Test.YtgidckkcibplgaaGreatEvK2
set_option linter.unusedVariables false
namespace Go.Proofs.YtgidckkcibplgaaGreat
open Go.Ev Go.RowKit
theorem agnHeads : ∀ L, 1 ≤ L → L ≤ 40 → agnHead L = true
  | 0, h, _ => absurd h (by omega)
  | 1, _, _ => agnHead1
  | 2, _, _ => agnHead2
  | 3, _, _ => agnHead3
  | 4, _, _ => agnHead4
  | 5, _, _ => agnHead5
  | 6, _, _ => agnHead6
  | 7, _, _ => agnHead7
  | 8, _, _ => agnHead8
  | 9, _, _ => agnHead9
  | 10, _, _ => agnHead10
  | 11, _, _ => agnHead11
  | 12, _, _ => agnHead12
  | 13, _, _ => agnHead13
  | 14, _, _ => agnHead14
  | 15, _, _ => agnHead15
  | 16, _, _ => agnHead16
  | 17, _, _ => agnHead17
  | 18, _, _ => agnHead18
  | 19, _, _ => agnHead19
  | 20, _, _ => agnHead20
  | 21, _, _ => agnHead21
  | 22, _, _ => agnHead22
  | 23, _, _ => agnHead23
  | 24, _, _ => agnHead24
  | 25, _, _ => agnHead25
  | 26, _, _ => agnHead26
  | 27, _, _ => agnHead27
  | 28, _, _ => agnHead28
  | 29, _, _ => agnHead29
  | 30, _, _ => agnHead30
  | 31, _, _ => agnHead31
  | 32, _, _ => agnHead32
  | 33, _, _ => agnHead33
  | 34, _, _ => agnHead34
  | 35, _, _ => agnHead35
  | 36, _, _ => agnHead36
  | 37, _, _ => agnHead37
  | 38, _, _ => agnHead38
  | 39, _, _ => agnHead39
  | 40, _, _ => agnHead40
  | n + 41, _, h => absurd h (by omega)
/-- A byte string as it is handed over. -/
structure BytesX (w : World) (v : Value) (l : List Nat) : Prop where
  rd : RdX w v l
  lim : l.length ≤ 9223372036854775807
  how : v = .slice none 0 0 ∨ ∃ b off cap, v = .slice (some ⟨b, off, none⟩) l.length cap ∧ l.length ≤ cap
theorem cAgain (w : World) (vd vp : Value) (ld lp : List Nat) (hd : BytesX w vd ld) (hp : BytesX w vp lp) :
    Calls Tryz.prog 7 #[vd, vp] w fun e w' => e = .returned (.bool true) ∧ Below w.heap.size w w' := by
  have us : ∀ {v l} (hv : BytesX w v l) (e : Env) lo hi, lo ≤ l.length → l.length ≤ hi → VR e (.usl lo hi) v := fun {v l} hv e lo hi h1 h2 => by
    obtain ⟨a, cap, rfl, _⟩ := hv.rd.1
    exact .usl h1 h2
  by_cases h1 : ld.length ≤ 40
  · by_cases h2 : lp.length ≤ 10
    · have n1 : ld.length ≤ 1000 := by omega
      have n2 : lp.length ≤ 1000 := by omega
      have hx2 := byBase_xsu (h1 := hd.rd) (h2 := hp.rd) (n1 := n1) (n2 := n2) h2
      rcases hd.how with h0 | ⟨b, off, cap, hv, hc⟩
      · refine open_okF mixedCou agnPr_ok 100000 _ _ agnNil w _ (byBase w vd vp ld lp hd.rd hp.rd n1 n2) byBase_at (.cons ?_ (.cons hx2 .nil))
        have hn : ∀ e : Env, VR e .nils vd := fun e => by rw [h0]; exact .nils
        exact hn _
      · have hx1 := byBase_xsl (h1 := hd.rd) (h2 := hp.rd) (n1 := n1) (n2 := n2) hv hc
        rcases Nat.eq_zero_or_pos ld.length with hz | hz
        · have key : ∀ (e : Env) n, n = 0 → VR e (.xsl 1 0 n) vd → VR e (.xsl 1 0 0) vd := fun e n h0 h => by subst h0; exact h
          have hx1 := key _ _ hz hx1
          exact open_okF mixedCou agnPr_ok 100000 _ _ agnZero w _ (byBase w vd vp ld lp hd.rd hp.rd n1 n2) byBase_at (.cons hx1 (.cons hx2 .nil))
        · exact calls_cut mixedCou agnPr_ok agnPrS_ok 100000 100000 15 _ agnFn [.xsl 1 0 ld.length, .xsu 2 10] (by kernel_rfl) agnG (agnHeads ld.length hz h1) agnTail w _ (byBase w vd vp ld lp hd.rd hp.rd n1 n2) byBase_at byBase_prot (.cons hx1 (.cons hx2 .nil))
    · exact open_okF mixedCou agnPr_ok 100000 _ _ agnDown w _ (noBase w) (noBase_at w) (.cons (us hd _ _ _ (Nat.zero_le _) h1) (.cons (us hp _ _ _ (by omega) hp.lim) .nil))
  · exact open_okF mixedCou agnPr_ok 100000 _ _ agnLong w _ (noBase w) (noBase_at w) (.cons (us hd _ _ _ (by omega) hd.lim) (.cons (us hp _ _ _ (Nat.zero_le _) hp.lim) .nil))
end Go.Proofs.YtgidckkcibplgaaGreat
