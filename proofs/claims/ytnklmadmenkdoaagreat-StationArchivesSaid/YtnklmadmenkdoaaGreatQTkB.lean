/- Cells of a block that is owned; the tracker of commands: found or not found, and as it grows. The tracker of commands as it grows: tracker.Issue. -/
import Derived.Test.YtnklmadmenkdoaaGreatQSndN
import Derived.Test.YtnklmadmenkdoaaGreatQFndA
set_option linter.unusedVariables false
set_option linter.unusedSimpArgs false
namespace Go.Proofs.Num
open Go.RowKit
/-- The block g is owned; from off on it holds vs, and none of these cells is frozen. -/
def regP (g off : Nat) (vs : List Value) : HProp := fun w F => (∃ cs el fr, w.heap[g]? = some (.cells cs el fr) ∧ (fr.1 = fr.2 ∨ off + vs.length ≤ fr.1) ∧ ∀ i, i < vs.length → cs[off + i]? = vs[i]?) ∧ ∀ k, F k ↔ k = g
theorem regP_stable (g off : Nat) (vs : List Value) : Stable (regP g off vs) where
  dom := by rintro w F ⟨⟨cs, el, fr, h, _⟩, hF⟩ k hk; rw [(hF k).1 hk]; exact lt_of_heap h
  keep := by
    rintro w w' F S ⟨⟨cs, el, fr, h, h2⟩, hF⟩ hk hS
    exact ⟨⟨cs, el, fr, hk.heap h (hS g ((hF g).2 rfl)), h2⟩, hF⟩
theorem Sts.regCell {W w : World} {g off : Nat} {vs : List Value} {l : List HProp} (h : Sts W (regP g off vs :: l) w) (i : Nat) (v : Value) (hv : vs[i]? = some v) : w.cell? ⟨g, off + i, none⟩ = some v ∧ w.frozen? ⟨g, off + i, none⟩ = false := by
  obtain ⟨F, ⟨cs, el, fr, hb, hfr, hc⟩, _⟩ := h.head
  have hi := (List.getElem?_eq_some_iff.1 hv).1
  refine ⟨?_, ?_⟩
  · simp only [World.cell?, hb]
    have := hc i hi
    rw [hv] at this
    simpa using this
  · simp only [World.frozen?, hb]
    simp
    omega
theorem Sts.regStore {W w : World} {g off : Nat} {vs : List Value} {l : List HProp} (hl : ∀ A ∈ l, Stable A) (h : Sts W (regP g off vs :: l) w) (i : Nat) (v : Value) (hi : i < vs.length) : Sts W (regP g off (vs.set i v) :: l) (w.setCell ⟨g, off + i, none⟩ v) := by
  obtain ⟨F, ⟨F1, F2, ⟨⟨cs, el, fr, hb, hfr, hc⟩, hg⟩, r, hd, hF⟩, hbl, hn⟩ := h
  have hk : Keep (fun k => k = g) w (w.setCell ⟨g, off + i, none⟩ v) := (Keep.refl (fun k => k = g) w).setCell (p := ⟨g, off + i, none⟩) (fun _ => rfl) v
  refine ⟨F, ⟨F1, F2, ⟨⟨cs.setIfInBounds (off + i) v, el, fr, ?_, by rw [List.length_set]; exact hfr, fun j hj => ?_⟩, hg⟩, (stars_stable hl).keep r hk (fun k h2 h1 => hd k ((hg k).2 h1) h2), hd, hF⟩, ?_, hn⟩
  · rw [setCell_eq_setRow w g (off + i) cs el fr v hb]
    exact setRow_heap w g cs _ el _ hb
  · rw [List.length_set] at hj
    rw [Array.getElem?_setIfInBounds, List.getElem?_set]
    by_cases e : i = j
    · subst e
      have hsz : off + i < cs.size := by
        have := hc i hi
        rw [List.getElem?_eq_getElem hi] at this
        exact (Array.getElem?_eq_some_iff.1 this).1
      rw [if_pos rfl, if_pos hsz, if_pos rfl, if_pos hi]
    · rw [if_neg (by omega), if_neg e]
      exact hc j hj
  · exact hbl.setCell (hn g ((hF g).2 (Or.inl ((hg g).2 rfl)))) v
theorem Sts.grownS' {W w w1 : World} {l : List HProp} {e : TypeId} {s : Nat} {v v' : Value} {n n' : Nat} {xs xs' : List Value} (hl : ∀ A ∈ l, Stable A) (h : Sts W (rowP e s v n xs :: l) w)
    (hg : w.grownBy w1 v.ownBlock) (ho : w1.ownsRow 0 e s v' n' xs') (hv : ∀ k, v'.ownBlock = some k → v.ownBlock = some k ∨ w.heap.size ≤ k) : Sts W (rowP e s v' n' xs' :: l) w1 := by
  obtain ⟨F, ⟨F1, F2, ⟨a, hF1⟩, r, hd, hF⟩, hb, hn⟩ := h
  have hs := stars_stable hl
  have hk : Keep F1 w w1 := Keep.of_grown hg (fun k hk _ => (hF1 k).2 hk)
  refine ⟨fun k => v'.ownBlock = some k ∨ F2 k, ⟨fun k => v'.ownBlock = some k, F2, ⟨ho, fun k => Iff.rfl⟩, hs.keep r hk (fun k h2 h1 => hd k h1 h2), ?_, fun k => Iff.rfl⟩, ?_, ?_⟩
  · intro k h1 h2
    rcases hv k h1 with h | h
    · exact hd k ((hF1 k).2 h) h2
    · have := hs.dom r k h2; omega
  · exact hb.grown hg hb.size (fun k hk => hn k ((hF k).2 (Or.inl ((hF1 k).2 hk))))
  · rintro k (h | h)
    · rcases hv k h with h' | h'
      · exact hn k ((hF k).2 (Or.inl ((hF1 k).2 h')))
      · have := hb.size; omega
    · exact hn k ((hF k).2 (Or.inr h))
theorem Sts.rowOwnS' {W w : World} {l : List HProp} {e : TypeId} {s : Nat} {v : Value} {n : Nat} {xs : List Value} (h : Sts W (rowP e s v n xs :: l) w) : w.ownsRow 0 e s v n xs := by
  obtain ⟨F, a, _⟩ := h.head; exact a
end Go.Proofs.Num
namespace Trk
/-- The cells of the commands, numbered from i + 1 on, with stages and codes. -/
def cells : Nat → List (Int × Int) → List Go.Value
  | _, [] => []
  | i, x :: l => [.int .i64 1, .int .i64 ((i + 1 : Nat) : Int), .int .i64 0, .int .i64 x.1, .int .i64 x.2] ++ cells (i + 1) l
theorem cells_len : ∀ (l : List (Int × Int)) (i : Nat), (cells i l).length = l.length * 5
  | [], _ => rfl
  | x :: l, i => by simp only [cells, List.length_append, cells_len l, List.length_cons, List.length_nil]; omega
theorem cells_get : ∀ (l : List (Int × Int)) (i k : Nat) (hk : k < l.length) (j : Nat), j < 5 → (cells i l)[k * 5 + j]? = ([.int .i64 1, .int .i64 ((i + k + 1 : Nat) : Int), .int .i64 0, .int .i64 l[k].1, .int .i64 l[k].2] : List Go.Value)[j]?
  | [], _, _, hk, _, _ => by simp at hk
  | x :: l, i, 0, hk, j, hj => by
    simp only [cells, Nat.zero_mul, Nat.zero_add, List.getElem_cons_zero, Nat.add_zero]
    rw [List.getElem?_append_left (by simpa using hj)]
  | x :: l, i, k + 1, hk, j, hj => by
    have := cells_get l (i + 1) k (by simpa using hk) j hj
    simp only [cells, List.getElem_cons_succ]
    rw [List.getElem?_append_right (by simp; omega), show (k + 1) * 5 + j - ([.int .i64 1, .int .i64 ((i + 1 : Nat) : Int), .int .i64 0, .int .i64 x.1, .int .i64 x.2] : List Go.Value).length = k * 5 + j by simp; omega, this]
    rw [show i + 1 + k + 1 = i + (k + 1) + 1 by omega]
theorem cells_set (l : List (Int × Int)) (i k : Nat) (s c : Int) (hk : k < l.length) : ((cells i l).set (k * 5 + 3) (.int .i64 s)).set (k * 5 + 4) (.int .i64 c) = cells i (l.set k (s, c)) := by
  induction l generalizing i k with
  | nil => simp at hk
  | cons x l ih =>
    cases k with
    | zero => simp [cells]
    | succ k =>
      have h := ih (i + 1) k (by simpa using hk)
      simp only [cells, List.set_cons_succ]
      rw [List.set_append_right _ _ (by simp; omega), List.set_append_right _ _ (by simp; omega), ← h]
      congr 1
      simp only [List.length_cons, List.length_nil]
      rw [show (k + 1) * 5 + 3 - (0 + 1 + 1 + 1 + 1 + 1) = k * 5 + 3 by omega, show (k + 1) * 5 + 4 - (0 + 1 + 1 + 1 + 1 + 1) = k * 5 + 4 by omega]
end Trk
namespace Go.Proofs.YtnklmadmenkdoaaGreat
open Go.RowKit Go.Proofs.Num
/-- The tracker's cells. -/
def trkV (now : Nat) (g off k c : Nat) : List Value := [.bool true, .int .i64 (now : Int), .int .i64 220, .slice (some ⟨g, off, none⟩) k c]
theorem blkP.rowK {b s : Nat} {cs : Array Value} {e : TypeId} {w : World} {F : Nat → Prop} (h : blkP b (.cells cs e (0, 0)) w F) (hs : cs.size = s) : rowP e s (.slice (some ⟨b, 0, none⟩) 1 1) 1 cs.toList w F :=
  ⟨⟨by simp [hs], Or.inr ⟨b, 1, cs, rfl, Nat.zero_le _, h.1, Nat.le_refl _, by unfold maxLen; omega, by omega, List.take_of_length_le (by simp [hs])⟩⟩, fun k => by rw [h.2 k]; simp [Value.ownBlock]; exact eq_comm⟩
section
variable {W w : World} {l : List HProp} (tq g off c now : Nat) (ts : List (Int × Int))
abbrev trkL (tq g off c now : Nat) (ts : List (Int × Int)) (l : List HProp) : List HProp := regP tq 0 (trkV now g off ts.length c) :: regP g off (Trk.cells 0 ts) :: l
theorem trkL_stable (hl : ∀ B ∈ l, Stable B) : ∀ B ∈ trkL tq g off c now ts l, Stable B := stabC (regP_stable _ _ _) (stabC (regP_stable _ _ _) hl)
theorem trk0 (h : Sts W (trkL tq g off c now ts l) w) : w.cell? ⟨tq, 0, none⟩ = some (.bool true) := (Sts.regCell h 0 _ rfl).1
theorem trk1 (h : Sts W (trkL tq g off c now ts l) w) : w.cell? ⟨tq, 1, none⟩ = some (.int .i64 (now : Int)) ∧ w.frozen? ⟨tq, 1, none⟩ = false := by
  have := Sts.regCell h 1 (.int .i64 (now : Int)) rfl; simpa using this
theorem trk3 (h : Sts W (trkL tq g off c now ts l) w) : w.cell? ⟨tq, 3, none⟩ = some (.slice (some ⟨g, off, none⟩) ts.length c) := by
  have := (Sts.regCell h 3 (.slice (some ⟨g, off, none⟩) ts.length c) rfl).1; simpa using this
theorem trkC (h : Sts W (trkL tq g off c now ts l) w) (k : Nat) (hk : k < ts.length) (j : Nat) (hj : j < 5) (v : Value) (hv : ([.int .i64 1, .int .i64 ((k + 1 : Nat) : Int), .int .i64 0, .int .i64 ts[k].1, .int .i64 ts[k].2] : List Value)[j]? = some v) : w.cell? ⟨g, off + k * 5 + j, none⟩ = some v ∧ w.frozen? ⟨g, off + k * 5 + j, none⟩ = false := by
  have h1 := Trk.cells_get ts 0 k hk j hj
  rw [Nat.zero_add] at h1
  have := Sts.regCell h.tail (k * 5 + j) v (h1.trans hv)
  rw [Nat.add_assoc]; exact this
set_option maxRecDepth 100000 in
theorem cTkValid (h : Sts W (trkL tq g off c now ts l) w) : Calls Tryz.prog 118 #[.pointer (some ⟨tq, 0, none⟩)] w fun e w' => e = .returned (.bool true) ∧ w = w' := by
  have c0 := trk0 tq g off c now ts h
  clear h
  go_enter Tryz.func118, Tryz.ntmps118
  go_wp2
  go_ret
  exact ⟨rfl, rfl⟩
set_option maxRecDepth 100000 in
set_option maxHeartbeats 1000000 in
theorem cTkAdvance (hl : ∀ B ∈ l, Stable B) (h : Sts W (trkL tq g off c now ts l) w) (n : Nat) (h1 : now ≤ n) (h2 : n ≤ 1000000) : Calls Tryz.prog 119 #[.pointer (some ⟨tq, 0, none⟩), .int .i64 (n : Int)] w fun e w' => e = .returned (.tuple #[]) ∧ Sts W (trkL tq g off c n ts l) w' := by
  obtain ⟨c1, f1⟩ := trk1 tq g off c now ts h
  have d2 : decide ((n : Int) ≤ 1099511627776) = true := decide_eq_true (by omega)
  have d2' : (n : Int) ≤ 1099511627776 := by omega
  have HS := hid h
  have HL := hid hl
  rcases Nat.lt_or_ge now n with hlt | hge
  · have d1 : decide ((now : Int) < (n : Int)) = true := decide_eq_true (by omega)
    have d1' : (now : Int) < (n : Int) := by omega
    clear h hl h1 h2
    go_enter Tryz.func119, Tryz.ntmps119
    go_wp2
    go_end0
    exact ⟨rfl, Sts.regStore (stabC (regP_stable _ _ _) HL.out) HS.out 1 (.int .i64 (n : Int)) (by show 1 < 4; decide)⟩
  · obtain rfl : n = now := by omega
    have d1 : decide ((n : Int) < (n : Int)) = false := decide_eq_false (by omega)
    clear h hl h1 h2 hge
    go_enter Tryz.func119, Tryz.ntmps119
    go_wp2
    go_end0
    exact ⟨rfl, HS.out⟩
set_option maxRecDepth 100000 in
set_option maxHeartbeats 2000000 in
theorem cTkFindYes (h : Sts W (trkL tq g off c now ts l) w) (j : Nat) (hj : j < ts.length) (hn : ts.length < 1000) : Calls Tryz.prog 120 #[.pointer (some ⟨tq, 0, none⟩), .int .i64 1, .int .i64 ((j + 1 : Nat) : Int)] w fun e w' => e = .returned (.pointer (some ⟨g, off + j * 5, none⟩)) ∧ w = w' := by
  have KV := hid (cTkValid tq g off c now ts h)
  have c3 := trk3 tq g off c now ts h
  have HC := hid (show ∀ k, k < ts.length → w.cell? ⟨g, off + k * 5, none⟩ = some (.int .i64 1) ∧ w.cell? ⟨g, off + k * 5 + 1, none⟩ = some (.int .i64 ((k + 1 : Nat) : Int)) from fun k hk => ⟨by have := (trkC tq g off c now ts h k hk 0 (by decide) _ rfl).1; simpa using this, (trkC tq g off c now ts h k hk 1 (by decide) _ rfl).1⟩)
  obtain ⟨J, hJ⟩ : ∃ J : Int, J = ((j + 1 : Nat) : Int) := ⟨_, rfl⟩
  rw [← hJ]
  obtain ⟨n, hnn⟩ : ∃ n, n = ts.length := ⟨_, rfl⟩
  rw [← hnn] at c3 HC hj hn
  clear h hnn
  have HJ := hid hJ
  have HLT := hid hj
  have HN := hid hn
  clear hJ hj hn
  go_enter Tryz.func120, Tryz.ntmps120
  go_wp2_with (go_at_call 118; refine KV.out.mono ?_; rintro e w1 ⟨rfl, rfl⟩)
  go_loopw [16] (fun i wr => ∃ k : Nat, k ≤ j ∧ i = .int .i64 (k : Int) ∧ wr = w) (fun i _ => j - (intOf i).toNat)
  case atStart => exact ⟨0, Nat.zero_le _, rfl, rfl⟩
  case round =>
    obtain ⟨k, hk, rfl, hw⟩ := hrel
    have hkn : k < n := by have := HLT.out; omega
    have kn : (k : Int) < (n : Int) := by omega
    obtain ⟨q0, q1⟩ := HC.out k hkn
    obtain ⟨k1, hk1⟩ : ∃ k1 : Int, k1 = ((k + 1 : Nat) : Int) := ⟨_, rfl⟩
    rw [← hk1] at q1
    have HK1 := hid hk1
    by_cases hkj : k = j
    · have e1 : (k1 == J) = true := by rw [beq_iff_eq, hk1, HJ.out, hkj]
      subst hkj
      clear hk1 hkn hk
      go_wp2_with fail
      go_ret
      exact ⟨rfl, by trivial⟩
    · have e1 : (k1 == J) = false := by rw [beq_eq_false_iff_ne, hk1, HJ.out]; omega
      have HKJ : Hid (k < j) := hid (by omega)
      have HKW : Hid (wrap64 ((k : Int) + 1) = ((k + 1 : Nat) : Int)) := hid (by have := HN.out; unfold wrap64; omega)
      clear hk1 hkn hk hkj
      go_wp2_with fail
      rw [HKW.out]
      exact ⟨⟨k + 1, by have := HKJ.out; omega, rfl, by trivial⟩, by have := HKJ.out; simp [intOf]; omega⟩
set_option maxRecDepth 100000 in
set_option maxHeartbeats 2000000 in
theorem cTkFindNo (h : Sts W (trkL tq g off c now ts l) w) (s num : Int) (hno : ¬ (s = 1 ∧ 1 ≤ num ∧ num ≤ ts.length)) (hn : ts.length < 1000) : Calls Tryz.prog 120 #[.pointer (some ⟨tq, 0, none⟩), .int .i64 s, .int .i64 num] w fun e w' => e = .returned (.pointer none) ∧ w = w' := by
  have KV := hid (cTkValid tq g off c now ts h)
  have c3 := trk3 tq g off c now ts h
  have HC := hid (show ∀ k, k < ts.length → w.cell? ⟨g, off + k * 5, none⟩ = some (.int .i64 1) ∧ w.cell? ⟨g, off + k * 5 + 1, none⟩ = some (.int .i64 ((k + 1 : Nat) : Int)) from fun k hk => ⟨by have := (trkC tq g off c now ts h k hk 0 (by decide) _ rfl).1; simpa using this, (trkC tq g off c now ts h k hk 1 (by decide) _ rfl).1⟩)
  obtain ⟨n, hnn⟩ : ∃ n, n = ts.length := ⟨_, rfl⟩
  rw [← hnn] at c3 HC hno hn
  clear h hnn
  have HNO := hid hno
  have HN := hid hn
  clear hno hn
  go_enter Tryz.func120, Tryz.ntmps120
  go_wp2_with (go_at_call 118; refine KV.out.mono ?_; rintro e w1 ⟨rfl, rfl⟩)
  go_loopw [16] (fun i wr => ∃ k : Nat, k ≤ n ∧ i = .int .i64 (k : Int) ∧ wr = w) (fun i _ => n - (intOf i).toNat)
  case atStart => exact ⟨0, Nat.zero_le _, rfl, rfl⟩
  case round =>
    obtain ⟨k, hk, rfl, hw⟩ := hrel
    by_cases hkn : k < n
    · have kn : (k : Int) < (n : Int) := by omega
      obtain ⟨q0, q1⟩ := HC.out k hkn
      obtain ⟨k1, hk1⟩ : ∃ k1 : Int, k1 = ((k + 1 : Nat) : Int) := ⟨_, rfl⟩
      rw [← hk1] at q1
      have HKN := hid hkn
      have HKW : Hid (wrap64 ((k : Int) + 1) = ((k + 1 : Nat) : Int)) := hid (by have := HN.out; unfold wrap64; omega)
      by_cases hs : s = 1
      · subst hs
        have e1 : (k1 == num) = false := by rw [beq_eq_false_iff_ne, hk1]; have := HNO.out; omega
        clear hk1 hkn hk
        go_wp2_with fail
        rw [HKW.out]
        exact ⟨⟨k + 1, HKN.out, rfl, by trivial⟩, by have := HKN.out; simp [intOf]; omega⟩
      · have e1 : ((1 : Int) == s) = false := by rw [beq_eq_false_iff_ne]; exact fun e => hs e.symm
        clear hk1 hkn hk hs
        go_wp2_with fail
        rw [HKW.out]
        exact ⟨⟨k + 1, HKN.out, rfl, by trivial⟩, by have := HKN.out; simp [intOf]; omega⟩
    · have kn : ¬ (k : Int) < (n : Int) := by omega
      have kn' : decide ((k : Int) < (n : Int)) = false := decide_eq_false kn
      clear hk hkn
      go_wp2_with fail
      go_ret
      exact ⟨rfl, by trivial⟩
end
section
variable {W w : World} {l : List HProp} (tq now : Nat)
def trk0V (now : Nat) : List Value := [.bool true, .int .i64 (now : Int), .int .i64 220, .slice none 0 0]
theorem trkE_c (h : Sts W (regP tq 0 (trk0V now) :: l) w) : (w.cell? ⟨tq, 0, none⟩ = some (.bool true) ∧ w.cell? ⟨tq, 1, none⟩ = some (.int .i64 (now : Int)) ∧ w.frozen? ⟨tq, 1, none⟩ = false ∧ w.cell? ⟨tq, 3, none⟩ = some (.slice none 0 0)) := by
  have h0 := Sts.regCell h 0 _ rfl
  have h1 := Sts.regCell h 1 (.int .i64 (now : Int)) rfl
  have h3 := Sts.regCell h 3 (.slice none 0 0) rfl
  simp only [Nat.zero_add] at h0 h1 h3
  exact ⟨h0.1, h1.1, h1.2, h3.1⟩
set_option maxRecDepth 100000 in
theorem cTkValid0 (h : Sts W (regP tq 0 (trk0V now) :: l) w) : Calls Tryz.prog 118 #[.pointer (some ⟨tq, 0, none⟩)] w fun e w' => e = .returned (.bool true) ∧ w = w' := by
  have c0 := (trkE_c tq now h).1
  clear h
  go_enter Tryz.func118, Tryz.ntmps118
  go_wp2
  go_ret
  exact ⟨rfl, rfl⟩
set_option maxRecDepth 100000 in
set_option maxHeartbeats 1000000 in
theorem cTkAdvance0 (hl : ∀ B ∈ l, Stable B) (h : Sts W (regP tq 0 (trk0V now) :: l) w) (n : Nat) (h1 : now ≤ n) (h2 : n ≤ 1000000) : Calls Tryz.prog 119 #[.pointer (some ⟨tq, 0, none⟩), .int .i64 (n : Int)] w fun e w' => e = .returned (.tuple #[]) ∧ Sts W (regP tq 0 (trk0V n) :: l) w' := by
  obtain ⟨_, c1, f1, _⟩ := trkE_c tq now h
  have d2 : decide ((n : Int) ≤ 1099511627776) = true := decide_eq_true (by omega)
  have d2' : (n : Int) ≤ 1099511627776 := by omega
  have HS := hid h
  have HL := hid hl
  rcases Nat.lt_or_ge now n with hlt | hge
  · have d1 : decide ((now : Int) < (n : Int)) = true := decide_eq_true (by omega)
    have d1' : (now : Int) < (n : Int) := by omega
    clear h hl h1 h2
    go_enter Tryz.func119, Tryz.ntmps119
    go_wp2
    go_end0
    exact ⟨rfl, Sts.regStore HL.out HS.out 1 (.int .i64 (n : Int)) (by show 1 < 4; decide)⟩
  · obtain rfl : n = now := by omega
    have d1 : decide ((n : Int) < (n : Int)) = false := decide_eq_false (by omega)
    clear h hl h1 h2 hge
    go_enter Tryz.func119, Tryz.ntmps119
    go_wp2
    go_end0
    exact ⟨rfl, HS.out⟩
set_option maxRecDepth 100000 in
set_option maxHeartbeats 2000000 in
theorem cTkFind0 (h : Sts W (regP tq 0 (trk0V now) :: l) w) (s num : Int) : Calls Tryz.prog 120 #[.pointer (some ⟨tq, 0, none⟩), .int .i64 s, .int .i64 num] w fun e w' => e = .returned (.pointer none) ∧ w = w' := by
  have KV := hid (cTkValid0 tq now h)
  have c3 := (trkE_c tq now h).2.2.2
  clear h
  go_enter Tryz.func120, Tryz.ntmps120
  go_wp2_with (go_at_call 118; refine KV.out.mono ?_; rintro e w1 ⟨rfl, rfl⟩)
  go_loopw [16] (fun i wr => i = .int .i64 0 ∧ wr = w) (fun _ _ => 0)
  case atStart => exact ⟨rfl, rfl⟩
  case round =>
    obtain ⟨rfl, rfl⟩ := hrel
    go_wp2_with fail
    go_ret
    exact ⟨rfl, rfl⟩
end
end Go.Proofs.YtnklmadmenkdoaaGreat
namespace Go.Proofs.YtnklmadmenkdoaaGreat
open Go.RowKit Go.Proofs.Num
theorem eff_appK {W w : World} {l : List HProp} {L : Prop} {S T : TypeId} {s by' : Nat} {z : Value} {o : Oper} {a : Act} {D : WP} {K : Act → WP → WP → Prop} (hu : Tryz.prog.underlying S = some (.slice T)) (hinfo : (Tryz.prog.info? T).map (fun i => (i.zero, i.size, i.bytes)) = some (some z, s, by')) (hzs : z.cells.size = s) (hs0 : 0 < s) (hby : by' ≤ 100) (sx x : Operand)
    (ho : o.op = .call { callee := .builtin .append, args := #[sx, x], argTypes := #[S, S] }) {v : Value} {n : Nat} {xs : List Value} {g : Nat} {c : Array Value} (hc : c.size = s) (hS : Sts W (rowP T s v n xs :: blkP g (.cells c T (0, 0)) :: l) w) (hL : ∀ B ∈ l, Stable B)
    (hs : a.eval sx = v) (hx : a.eval x = .slice (some ⟨g, 0, none⟩) 1 1) (h1 : ∀ u ∈ c.toList, u.oneCell' = true) (hn : n < 1000000)
    (hD : ∀ z v', Sts W (rowP T s v' (n + 1) (xs ++ c.toList) :: l) z → D z)
    (h : ∀ v', K (a.put o.dst v') D (fun z => Sts W (rowP T s v' (n + 1) (xs ++ c.toList) :: l) z)) : effUpon Tryz.prog L o.dst a D K ((execOp a.eval o).run Tryz.prog w) := by
  obtain ⟨i0, hi, hz0, hz1, hz2⟩ := info_parts hinfo
  have hb : w.heap[g]? = some (.cells c T (0, 0)) := by obtain ⟨F, hF⟩ := hS.swap.head; exact hF.1
  have hb2 : (n + 1) * by' ≤ (n + 1) * 100 := Nat.mul_le_mul_left _ hby
  obtain ⟨v', w', hrun, hown, hgr, _, hbl⟩ := run_append_own_at (P := Tryz.prog) w 0 S o.type T i0 z s by' hu hi hz0 hz1 hz2 hzs hs0 v n xs (Sts.rowOwnS' hS) ⟨g, 0, none⟩ 1 1 c.toList (by simp [hc]) (news_blk hb rfl) h1 (by unfold maxLen; omega) (by omega) (Nat.zero_le _)
  have hS2 := Sts.grownS' (stabC (blkP_stable _ _) hL) hS hgr hown (by
    intro k hk
    rcases hbl with h | h
    · exact Or.inl (h ▸ hk)
    · rw [h] at hk; injection hk with hk; exact Or.inr (by omega))
  have hr2 : (execOp a.eval o).run Tryz.prog w = .ok (.value v') w' := by
    simp [execOp, ho, resolve, invoke, builtin, hs, hx, hrun, Result.andThen]
  exact eff_value D _ hr2 hS2.swap.tail (fun z hz => hD z v' hz) (fun _ h => h) (h v')
set_option maxRecDepth 100000 in
theorem exec_bldI {o : Oper} {a : Act} {w : World} (x : Operand) (ho : o.op = .buildSlice 209 1 #[(0, x)]) (i1 i2 i3 i4 i5 : Int) (hx : a.eval x = .agg #[.int .i64 i1, .int .i64 i2, .int .i64 i3, .int .i64 i4, .int .i64 i5]) :
    (execOp a.eval o).run Tryz.prog w = .ok (.value (.slice (some ⟨w.heap.size, 0, none⟩) 1 1)) (w.alloc (.cells #[.int .i64 i1, .int .i64 i2, .int .i64 i3, .int .i64 i4, .int .i64 i5] 231)) := by
  have key : ∀ u, u = Value.agg #[.int .i64 i1, .int .i64 i2, .int .i64 i3, .int .i64 i4, .int .i64 i5] → (Instr.buildSlice 209 1 #[(0, u)]).run Tryz.prog w = .ok (.slice (some ⟨w.heap.size, 0, none⟩) 1 1) (w.alloc (.cells #[.int .i64 i1, .int .i64 i2, .int .i64 i3, .int .i64 i4, .int .i64 i5] 231)) := by
    rintro u rfl
    kernel_rfl
  unfold execOp
  simp only [ho]
  rw [show Array.map (fun x => (x.fst, a.eval x.snd)) #[((0 : Nat), x)] = #[(0, a.eval x)] by simp]
  simp only [Sem.run_bind, key _ hx, Result.andThen]
  rfl
theorem infoIss : (Tryz.prog.info? 231).map (fun i => (i.zero, i.size, i.bytes)) = some (some (.agg #[.int .i64 0, .int .i64 0, .int .i64 0, .int .i64 0, .int .i64 0]), 5, 40) := by kernel_rfl
set_option maxRecDepth 100000 in
theorem szSlIs : ∀ w, (Go.sizeOf 209).run Tryz.prog w = .ok 1 w := fun w => by first | rfl | simp [go_sem] | kernel_rfl
abbrev tkB (tq : Nat) (sl : Value) : HProp := blkP tq (.cells #[.bool true, .int .i64 0, .int .i64 220, sl] 211 (0, 0))
/-- The cells of k commands of the time 0. -/
def tkR (k : Nat) : List Value := Trk.cells 0 (List.replicate k (0, 0))
theorem Trk.cells_app : ∀ (l m : List (Int × Int)) (i : Nat), Trk.cells i (l ++ m) = Trk.cells i l ++ Trk.cells (i + l.length) m
  | [], m, i => by simp [Trk.cells]
  | x :: l, m, i => by
    simp only [List.cons_append, Trk.cells, Trk.cells_app l m (i + 1), List.length_cons, List.append_assoc]
    rw [show i + 1 + l.length = i + (l.length + 1) by omega]
theorem tkR_succ (k : Nat) : tkR (k + 1) = tkR k ++ [.int .i64 1, .int .i64 ((k + 1 : Nat) : Int), .int .i64 0, .int .i64 0, .int .i64 0] := by
  unfold tkR
  rw [List.replicate_succ', Trk.cells_app, List.length_replicate, Nat.zero_add]
  rfl
/-- The tracker at block tq after k commands. -/
def trkP (tq k : Nat) : HProp := fun w F => ∃ sl, star (tkB tq sl) (rowP 231 5 sl k (tkR k)) w F ∧ (k = 0 → sl = .slice none 0 0)
theorem trkP_stable (tq k : Nat) : Stable (trkP tq k) where
  dom := by rintro w F ⟨v, h, _⟩; exact (star_stable (blkP_stable _ _) (rowP_stable _ _ _ _ _)).dom h
  keep := by rintro w w' F S ⟨v, h, e⟩ hk hS; exact ⟨v, (star_stable (blkP_stable _ _) (rowP_stable _ _ _ _ _)).keep h hk hS, e⟩
theorem Sts.rowNilT {W w : World} {l : List HProp} (e : TypeId) (s : Nat) (h : Sts W l w) : Sts W (rowP e s (.slice none 0 0) 0 [] :: l) w := by
  obtain ⟨F, a, b, c⟩ := h
  exact ⟨F, ⟨fun _ => False, F, ⟨⟨by simp, Or.inl ⟨rfl, rfl⟩⟩, fun k => by simp [Value.ownBlock]⟩, a, fun _ h => h.elim, fun k => by simp⟩, b, c⟩
section
variable {W w : World} {l : List HProp}
theorem Sts.openK {tq k : Nat} (h : Sts W (trkP tq k :: l) w) : ∃ sl, (k = 0 → sl = .slice none 0 0) ∧ Sts W (tkB tq sl :: rowP 231 5 sl k (tkR k) :: l) w := by
  obtain ⟨F, ⟨F1, F2, ⟨v, a, e⟩, r⟩, hb, hn⟩ := h
  exact ⟨v, e, Sts.split ⟨F, ⟨F1, F2, a, r⟩, hb, hn⟩⟩
theorem Sts.closeK {tq k : Nat} {sl : Value} (e : k = 0 → sl = .slice none 0 0) (h : Sts W (tkB tq sl :: rowP 231 5 sl k (tkR k) :: l) w) : Sts W (trkP tq k :: l) w := Sts.join h (fun F hF => ⟨sl, hF, e⟩)
theorem trk_new {tq : Nat} (h : Sts W (tkB tq (.slice none 0 0) :: l) w) : Sts W (trkP tq 0 :: l) w := Sts.closeK (fun _ => rfl) (Sts.rowNilT 231 5 h).swap
theorem blkP.reg {b : Nat} {cs : Array Value} {e : TypeId} {F : Nat → Prop} (h : blkP b (.cells cs e (0, 0)) w F) : regP b 0 cs.toList w F :=
  ⟨⟨cs, e, (0, 0), h.1, Or.inl rfl, fun i hi => by simp⟩, h.2⟩
theorem rowP.reg {g n c s : Nat} {xs : List Value} {e : TypeId} {F : Nat → Prop} (h : rowP e s (.slice (some ⟨g, 0, none⟩) n c) n xs w F) : regP g 0 xs w F := by
  obtain ⟨⟨hlen, hor⟩, hF⟩ := h
  rcases hor with ⟨hv, _⟩ | ⟨g', cap', cur, hv, hb, hg, hnc, hcm, hsize, htake⟩
  · cases hv
  injection hv with i1 i2 i3
  injection i1 with i1
  injection i1 with i1
  subst i1
  refine ⟨⟨cur, e, _, hg, Or.inl rfl, fun i hi => ?_⟩, fun k => by rw [hF k]; simp [Value.ownBlock]; exact eq_comm⟩
  rw [Nat.zero_add, ← htake, ← Array.getElem?_toList, List.getElem?_take_of_lt (by rw [← hlen]; exact hi)]
/-- The tracker of k commands, as cells. -/
theorem trk_open (tq k : Nat) (h1 : 1 ≤ k) (h : Sts W (trkP tq k :: l) w) : ∃ g c, Sts W (trkL tq g 0 c 0 (List.replicate k (0, 0)) l) w := by
  obtain ⟨sl, _, h2⟩ := Sts.openK h
  have hown := Sts.rowOwnS' h2.tail
  rcases hown.2 with ⟨hv, h0⟩ | ⟨g, c, cur, hv, _⟩
  · exact absurd h0 (by omega)
  subst hv
  refine ⟨g, c, ?_⟩
  unfold trkL
  rw [List.length_replicate]
  exact (((h2.weaken (fun F hF => blkP.reg hF)).swap).weaken (fun F hF => rowP.reg hF)).swap
set_option maxRecDepth 100000 in
theorem cTkFindB {tq k : Nat} (hk : k < 1000) (h : Sts W (trkP tq k :: l) w) : Calls Tryz.prog 120 #[.pointer (some ⟨tq, 0, none⟩), .int .i64 1, .int .i64 ((k + 1 : Nat) : Int)] w fun e w' => e = .returned (.pointer none) ∧ w = w' := by
  rcases Nat.eq_zero_or_pos k with rfl | hp
  · obtain ⟨sl, e, h2⟩ := Sts.openK h
    obtain rfl := e rfl
    exact cTkFind0 tq 0 (h2.weaken (fun F hF => blkP.reg hF)) 1 _
  · obtain ⟨g, c, h2⟩ := trk_open tq k hp h
    exact cTkFindNo tq g 0 c 0 _ h2 1 _ (by rw [List.length_replicate]; omega) (by rw [List.length_replicate]; omega)
set_option maxRecDepth 100000 in
theorem cTkValidB {tq : Nat} {sl : Value} (h : Sts W (tkB tq sl :: l) w) : Calls Tryz.prog 118 #[.pointer (some ⟨tq, 0, none⟩)] w fun e w' => e = .returned (.bool true) ∧ w = w' := by
  have c0 : w.cell? ⟨tq, 0, none⟩ = some (.bool true) := (Sts.boxCell h 0 _ rfl).1
  clear h
  go_enter Tryz.func118, Tryz.ntmps118
  go_wp2
  go_ret
  exact ⟨rfl, rfl⟩
set_option maxRecDepth 100000 in
theorem cTkAdvB {tq : Nat} {sl : Value} (h : Sts W (tkB tq sl :: l) w) : Calls Tryz.prog 119 #[.pointer (some ⟨tq, 0, none⟩), .int .i64 0] w fun e w' => e = .returned (.tuple #[]) ∧ w = w' := by
  have c1 : w.cell? ⟨tq, 1, none⟩ = some (.int .i64 0) := (Sts.boxCell h 1 _ rfl).1
  clear h
  go_enter Tryz.func119, Tryz.ntmps119
  go_wp2
  go_end0
  exact ⟨rfl, rfl⟩
set_option maxRecDepth 100000 in
set_option maxHeartbeats 4000000 in
theorem cIssue (hl : ∀ B ∈ l, Stable B) (tq k : Nat) (hk : k < 12) (hs : Sts W (trkP tq k :: l) w) :
    Calls Tryz.prog 45 #[.pointer (some ⟨tq, 0, none⟩), .int .i64 1, .int .i64 ((k + 1 : Nat) : Int), .int .i64 0] w fun e w' => e = .returned (.int .i64 0) ∧ Sts W (trkP tq (k + 1) :: l) w' := by
  have KF := hid (cTkFindB (by omega) hs)
  obtain ⟨sl, _, h2⟩ := Sts.openK hs
  have KV := hid (cTkValidB h2)
  have KA := hid (cTkAdvB h2)
  obtain ⟨sa, sc, rfl⟩ : ∃ sa sc, sl = .slice sa k sc := by
    have hown := Sts.rowOwnS' h2.tail
    rcases hown.2 with ⟨hv, h0⟩ | ⟨g, c, cur, hv, _⟩
    · exact ⟨none, 0, by rw [hv, h0]⟩
    · exact ⟨_, c, hv⟩
  have HS := hid h2
  have HL := hid hl
  have HK := hid hk
  have HR := hid (tkR_succ k)
  obtain ⟨n, hn⟩ : ∃ n : Int, n = ((k + 1 : Nat) : Int) := ⟨_, rfl⟩
  rw [← hn] at KF ⊢
  have HR2 : Hid (tkR (k + 1) = tkR k ++ [.int .i64 1, .int .i64 n, .int .i64 0, .int .i64 0, .int .i64 0]) := hid (by rw [HR.out, hn])
  have b1 : decide (n < 0) = false := decide_eq_false (by omega)
  have b2 : decide (65535 < n) = false := decide_eq_false (by omega)
  clear h2 hs hl hk hn HR
  go_enter Tryz.func45, Tryz.ntmps45
  go_wp2_with (first
    | (go_at_call 118; refine KV.out.mono ?_; rintro e w1 ⟨rfl, rfl⟩)
    | (go_at_call 119; refine KA.out.mono ?_; rintro e w1 ⟨rfl, rfl⟩)
    | (go_at_call 120; refine KF.out.mono ?_; rintro e w1 ⟨rfl, rfl⟩))
  refine wp_region_ordQS (fun i => i == 16) (.pure 0 (.pure 1 (.pure 2 (.pure 3 (.pure 4 (.pure 5 (.pure 6 (.pure 7 (.pure 8 (.pure 9 (.pure 10 (.pure 11 (.eff 12 (.eff 13 (.pure 14 (.pure 15 (.eff 16 .nil))))))))))))))))) (fun y => y.cell? ⟨tq, 3, none⟩ = some (.slice sa k sc) ∧ y.cell? ⟨tq, 1, none⟩ = some (.int .i64 0)) (fun y => Sts W (tkB tq (.slice sa k sc) :: rowP 231 5 (.slice sa k sc) k (tkR k) :: l) y) (by kernel_rfl) (by kernel_rfl) (HS.out.drew (stabC (blkP_stable _ _) (stabC (rowP_stable _ _ _ _ _) (HL.out)))) (fun y hy => ⟨(Sts.boxCell hy 3 _ rfl).1, (Sts.boxCell hy 1 _ rfl).1⟩) ?_
  iterate 12
    (apply ordq_pure (ho := rfl)
     · go_simp
     · intro x hx; obtain ⟨k0, k1⟩ := hx; go_simp; rfl
     apply ordq_norm
     · go_simp; rfl)
  apply ordq_eff (ho := rfl)
  · go_simp
  intro y hy
  have hy2 := Sts.alloc (stabC (blkP_stable _ _) (stabC (rowP_stable _ _ _ _ _) (HL.out))) hy (.cells #[.int .i64 1, .int .i64 n, .int .i64 0, .int .i64 0, .int .i64 0] 231)
  refine eff_value (fun y => y.cell? ⟨tq, 3, none⟩ = some (.slice sa k sc) ∧ y.cell? ⟨tq, 1, none⟩ = some (.int .i64 0)) (fun y' => Sts W (blkP y.heap.size (.cells #[.int .i64 1, .int .i64 n, .int .i64 0, .int .i64 0, .int .i64 0] 231 (0, 0)) :: tkB tq (.slice sa k sc) :: rowP 231 5 (.slice sa k sc) k (tkR k) :: l) y') (exec_bldI (.tmp 45) rfl 1 n 0 0 0 ?_) hy2 (fun y hy => ⟨(Sts.boxCell hy.tail 3 _ rfl).1, (Sts.boxCell hy.tail 1 _ rfl).1⟩) (fun _ h => h) ?_
  · go_simp
  apply ordq_norm
  · go_simp; rfl
  clear hy hy2
  generalize y.heap.size = gx at *
  clear y
  apply ordq_eff (ho := rfl)
  · go_simp
  intro y hy
  refine eff_appK Tryz.underlying209 infoIss rfl (by decide) (by decide) (.tmp 38) (.tmp 46) rfl (c := #[.int .i64 1, .int .i64 n, .int .i64 0, .int .i64 0, .int .i64 0]) rfl ((hy).perm (List.perm_middle (l₁ := [_, _]))) (stabC (blkP_stable _ _) HL.out) ?_ ?_ (by simp [Value.oneCell']) (by have := HK.out; omega) (fun y v' hy => ⟨(Sts.boxCell hy.tail 3 _ rfl).1, (Sts.boxCell hy.tail 1 _ rfl).1⟩) ?_
  · go_simp
  · go_simp
  intro v1
  apply ordq_norm
  · go_simp; rfl
  clear hy y
  iterate 2
    (apply ordq_pure (ho := rfl)
     · go_simp
     · intro x hx; obtain ⟨k0, k1⟩ := hx; go_simp; rfl
     apply ordq_norm
     · go_simp; rfl)
  apply ordq_eff (ho := rfl)
  · go_simp
  intro y hy
  obtain ⟨a1, c1, rfl⟩ : ∃ a1 c1, v1 = .slice a1 (k + 1) c1 := by
    have hown := Sts.rowOwnS' hy
    rcases hown.2 with ⟨hv, h0⟩ | ⟨g, c, cur, hv, _⟩
    · exact absurd h0 (by omega)
    · exact ⟨_, c, hv⟩
  refine effS_cellS rfl hy.swap (stabC (rowP_stable _ _ _ _ _) HL.out) (.tmp 49) (.tmp 47) 209 rfl 3 (.slice a1 (k + 1) c1) ?_ ?_ szSlIs (show 3 < 4 by decide) rfl (fun y' => Sts W (trkP tq (k + 1) :: l) y') ?_ ?_
  · go_simp
  · go_simp
  · intro w' h7
    refine Sts.closeK (sl := .slice a1 (k + 1) c1) (by intro h; omega) ?_
    rw [HR2.out]
    exact h7
  apply ordq_norm
  · go_simp; rfl
  refine ordq_nil fun z hz => ?_
  have HZ := hid hz
  clear hz hy y
  go_wp2_with fail
  go_ret
  exact ⟨rfl, HZ.out⟩
end
end Go.Proofs.YtnklmadmenkdoaaGreat
