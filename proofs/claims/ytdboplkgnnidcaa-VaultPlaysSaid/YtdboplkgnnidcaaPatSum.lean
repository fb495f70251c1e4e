/- The contracts of the checksums of words, and of the comparison of words. -/
import Derived.Test.YtdboplkgnnidcaaPatFnsB
import Derived.Test.YtdboplkgnnidcaaStr
set_option linter.unusedVariables false
namespace Go.Proofs.Ytdboplkgnnidcaa
open Go.RowKit Go.Proofs.Num
def sum16 (l : List Nat) : Nat := Crc.crc16 65535 (Pat.bytesOf l)
theorem cPSum (w : World) (v : Value) (l : List Nat) (h : RdW w v l) (hn : l.length < 1000000000) :
    Calls Try.prog 17 #[v] w fun e w' => e = .returned (.int .u16 (sum16 l : Nat)) ∧ Below w.heap.size w w' := by
  have K := hid (cBytes w v l h hn)
  have K2 := hid (fun w' v' (h : RdB w' v' (Pat.bytesOf l)) => cSum16 w' v' _ h (by rw [Pat.bytesOf_len]; omega))
  unfold sum16
  go_enter Try.func17, Try.ntmps17
  go_wp2_with fail
  refine K.out.mono ?_; rintro e w1 ⟨r, rfl, h1⟩
  have hr := hid (h1.rdB (Pat.bytesOf_lt l))
  have hb := hid h1.below
  go_wp2_with fail
  refine (K2.out _ _ hr.out).mono ?_; rintro e w2 ⟨rfl, rfl⟩
  go_wp2_with fail
  go_ret
  exact ⟨rfl, hb.out⟩
theorem cRSum (w : World) (v : Value) (l : List Nat) (h : RdW w v l) (hn : l.length < 1000000000) :
    Calls Try.prog 18 #[v] w fun e w' => e = .returned (.int .u16 (sum16 l : Nat)) ∧ Below w.heap.size w w' := by
  have K := hid (cRBytes w v l h hn)
  have K2 := hid (fun w' v' (h : RdB w' v' (Pat.bytesOf l)) => cRSum16 w' v' _ h (by rw [Pat.bytesOf_len]; omega))
  unfold sum16
  go_enter Try.func18, Try.ntmps18
  go_wp2_with fail
  refine K.out.mono ?_; rintro e w1 ⟨r, rfl, h1⟩
  have hr := hid (h1.rdB (Pat.bytesOf_lt l))
  have hb := hid h1.below
  go_wp2_with fail
  refine (K2.out _ _ hr.out).mono ?_; rintro e w2 ⟨rfl, rfl⟩
  go_wp2_with fail
  go_ret
  exact ⟨rfl, hb.out⟩
theorem strW_beq (la lb : List Nat) (ha : ∀ x ∈ la, x < 4294967296) (hb : ∀ x ∈ lb, x < 4294967296) : ((strB (Pat.bytesOf la)).toList == (strB (Pat.bytesOf lb)).toList) = decide (la = lb) := by
  rw [strT_beq _ _ (Pat.bytesOf_lt la) (Pat.bytesOf_lt lb)]
  by_cases h : la = lb
  · simp [h]
  · have : ¬ Pat.bytesOf la = Pat.bytesOf lb := fun e => h (Pat.bytesOf_inj la lb ha hb e)
    simp [h, this]
theorem str8 {w : World} {v : Value} {l : List Nat} (h : RdB w v l) : (convert 23 9 v).run Try.prog w = .ok (.string (strB l)) w := h.str _ _ _ Try.underlying23 Try.underlying5 Try.underlying9
set_option maxHeartbeats 1000000 in
theorem cSame (w : World) (va vb : Value) (la lb : List Nat) (ha : RdW w va la) (hb : RdW w vb lb) (hn : la.length < 1000000000) (hm : lb.length < 1000000000) :
    Calls Try.prog 16 #[va, vb] w fun e w' => e = .returned (.bool (decide (la = lb))) ∧ Below w.heap.size w w' := by
  have KA := hid (fun w' (k : Below w.heap.size w w') => cRBytes w' va la (ha.below k) hn)
  have KB := hid (fun w' (k : Below w.heap.size w w') => cRBytes w' vb lb (hb.below k) hm)
  have H0 : Hid (Below w.heap.size w w.drew) := (Below.refl _ _).drew
  have hE := hid (strW_beq la lb ha.2 hb.2)
  have BA := hid (Pat.bytesOf_lt la)
  have BB := hid (Pat.bytesOf_lt lb)
  go_enter Try.func16, Try.ntmps16
  go_wp2_with fail
  go_region_with
    (first
      | (go_at_call 15; (with_reducible refine (KA.out _ H0.out).mono ?_); rintro e w1 ⟨r1, rfl, n1⟩; have H1 := hid (H0.out.trans (n1.below.mono H0.out.size)); have N1 := hid n1; have c1 := str8 (n1.rdB BA.out); clear n1)
      | (go_at_call 15; (with_reducible refine (KB.out _ H1.out).mono ?_); rintro e w2 ⟨r2, rfl, n2⟩; have H2 := hid (H1.out.trans (n2.below.mono H1.out.size)); have c2 := str8 (n2.rdB BB.out); have c3 := str8 ((N1.out.rdB BA.out).below n2.below); clear n2))
  all_goals
    go_wp2_with fail
    go_ret
    exact ⟨ret_bool hE.out, H2.out⟩
end Go.Proofs.Ytdboplkgnnidcaa
