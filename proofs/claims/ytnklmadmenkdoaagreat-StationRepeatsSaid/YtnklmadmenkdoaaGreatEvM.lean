/- An evaluator of the model's code, thirteenth part: append. -/
import Derived.Test.YtnklmadmenkdoaaGreatEvL
set_option linter.unusedVariables false
set_option linter.unusedSimpArgs false
namespace Go.Ev
variable {D : List Deferred}
variable {P : Program} {pr : Prims} {ih : Rn} {e : Env} {t : T V} {h : H} {s : Nat} {w : World} {a : Act} {r : RO} {k : K} {o : Oper}
/-- A block under a new number. -/
theorem alias_post (hs : Sim e h w) (hf : Free e s) (hh : h.has s = true) {b : Nat} (hl : live h b) {x : Loc} (hx : e b = some x) {blk : B} (hg : blk ≠ .gone) {ob : Obj} {sh : Nat}
    (hb : ∀ e', e.le e' → BR e' ⟨x.n, sh, x.sz⟩ blk ob) :
    ∃ e', e' s = some ⟨x.n, sh, x.sz⟩ ∧ Post e s h w e' (s + 1) ((h.set b .gone).set s blk) { w with heap := w.heap.setIfInBounds x.n ob } := by
  have hdead : ¬ live h s := fun hl => by
    obtain ⟨x, o, h1, _⟩ := hs.blk s hl
    rw [hf s (Nat.le_refl _)] at h1; cases h1
  have hbs : b ≠ s := fun hb => hdead (hb ▸ hl)
  have hle : e.le (fun b => if b = s then some ⟨x.n, sh, x.sz⟩ else e b) := by
    intro b x hx
    by_cases hb : b = s
    · subst hb; rw [hf b (Nat.le_refl _)] at hx; cases hx
    · simp only [hb, if_false]; exact hx
  have hhb := live_has hl
  have hh' : (h.set b .gone).has s = true := by rw [T.has_set]; exact hh
  have hget : ∀ b', ((h.set b .gone).set s blk).get .gone b' = if b' = s then blk else if b' = b then .gone else h.get .gone b' := fun b' => by
    rw [T.get_set .gone _ s b' blk hh', T.get_set .gone h b b' _ hhb]
  have hlv : ∀ b', b' ≠ s → live ((h.set b .gone).set s blk) b' → b' ≠ b ∧ live h b' := fun b' h1 h2 => by
    unfold live at h2 ⊢
    rw [hget, if_neg h1] at h2
    by_cases h3 : b' = b
    · rw [if_pos h3] at h2; exact absurd rfl h2
    · rw [if_neg h3] at h2; exact ⟨h3, h2⟩
  obtain ⟨x0, o0, g1, g2, _⟩ := hs.blk b hl
  rw [hx] at g1; injection g1 with g1; subst g1
  have hlt := (Array.getElem?_eq_some_iff.1 g2).1
  refine ⟨_, by simp, hle, fun b hb => by simp [Nat.ne_of_lt hb], Nat.le_succ s, fun b hb => ?_, ⟨fun b' hl' => ?_, fun b1 b2 x1 x2 l1 l2 e1 e2 hn => ?_⟩, fun b' x' hl' hx' => ?_, fun n hn hk => ?_, by simp, rfl, rfl, rfl⟩
  · simp only [show b ≠ s by omega, if_false]; exact hf b (by omega)
  · by_cases h1 : b' = s
    · subst h1
      exact ⟨⟨x.n, sh, x.sz⟩, ob, by simp, by simp [hlt], by rw [hget, if_pos rfl]; exact hb _ hle⟩
    · obtain ⟨h2, h3⟩ := hlv b' h1 hl'
      obtain ⟨x1, o1, k1, k2, k3⟩ := hs.blk b' h3
      refine ⟨x1, o1, by simp [h1, k1], ?_, by rw [hget, if_neg h1, if_neg h2]; exact k3.mono hle⟩
      have hne : x.n ≠ x1.n := fun hn => h2 (hs.inj b b' x x1 hl h3 hx k1 hn).symm
      show (w.heap.setIfInBounds x.n ob)[x1.n]? = _
      rw [Array.getElem?_setIfInBounds_ne hne]; exact k2
  · by_cases h1 : b1 = s <;> by_cases h2 : b2 = s
    · rw [h1, h2]
    · exfalso
      subst h1
      simp at e1; subst e1
      simp only [h2, if_false] at e2
      obtain ⟨h3, h4⟩ := hlv b2 h2 l2
      exact h3 (hs.inj b b2 x x2 hl h4 hx e2 hn).symm
    · exfalso
      subst h2
      simp at e2; subst e2
      simp only [h1, if_false] at e1
      obtain ⟨h3, h4⟩ := hlv b1 h1 l1
      exact h3 (hs.inj b1 b x1 x h4 hl e1 hx hn)
    · simp only [h1, h2, if_false] at e1 e2
      exact hs.inj b1 b2 x1 x2 (hlv b1 h1 l1).2 (hlv b2 h2 l2).2 e1 e2 hn
  · by_cases h1 : b' = s
    · subst h1; simp at hx'; subst hx'; exact .inl ⟨b, x, hl, hx, rfl⟩
    · simp only [h1, if_false] at hx'
      exact .inl ⟨b', x', (hlv b' h1 hl').2, hx', rfl⟩
  · show (w.heap.setIfInBounds x.n ob)[n]? = _
    rw [Array.getElem?_setIfInBounds_ne (hk b x hl hx)]
variable {el : TypeId} {z : Nat}
section
variable {at_ : Array TypeId} {tt u ty : TypeId} {d : TypeDesc} {i : TypeInfo} {yv : Value} {n l c : Nat} {xs os : List Value} {w' : World}
theorem noInt_ok (h : noInt P u = true) : ∃ d, P.underlying u = some d ∧ ∀ k, d ≠ .int k := by
  unfold noInt at h
  split at h
  · cases h
  · rename_i d hd hu; exact ⟨d, hu, fun k hk => hd k hk⟩
  · cases h
theorem run_append_here (h0 : at_[0]? = some tt) (h1 : at_[1]? = some u) (ht : P.underlying tt = some (.slice el)) (hu : P.underlying u = some d) (hd : ∀ k, d ≠ .int k) (hi : P.info? el = some i)
    (hl : (Builtin.lenOf yv).run P w = .ok n w) (hf : (Builtin.firstCells (P.cellsOf el) n yv).run P w = .ok ⟨xs⟩ w) {b : Option Addr} (hroom : l + n ≤ c)
    (hst : (match b with | some b => storeCells (b.add (l * P.cellsOf el)) xs | none => pure () : Sem Unit).run P w = .ok () w') :
    (Builtin.append_ at_ ty #[.slice b l c, yv]).run P w = .ok (.slice b (l + n) c) w' := by
  have hm : ∀ (y z : Bool), (match d with | .int _ => y | _ => z) = z := fun y z => by
    cases d <;> first | rfl | exact absurd rfl (hd _)
  cases b with
  | none =>
    have hw : w' = w := by simp only [Sem.run_pure] at hst; injection hst with _ h2; exact h2.symm
    subst hw
    simp [Builtin.append_, h0, h1, run_under ht, run_under hu, hm, run_sizeOf' hi, Result.andThen, hl, hroom, hf]
  | some b =>
    simp only at hst
    simp [Builtin.append_, h0, h1, run_under ht, run_under hu, hm, run_sizeOf' hi, Result.andThen, hl, hroom, hf, hst]
theorem run_append_new (h0 : at_[0]? = some tt) (h1 : at_[1]? = some u) (ht : P.underlying tt = some (.slice el)) (hu : P.underlying u = some d) (hd : ∀ k, d ≠ .int k) (hi : P.info? el = some i) {zv : Value} (hz : i.zero = some zv)
    (hl : (Builtin.lenOf yv).run P w = .ok n w) (hf : (Builtin.firstCells (P.cellsOf el) n yv).run P w.drew = .ok ⟨xs⟩ w.drew) {b : Option Addr} (hfo : (Builtin.firstCells (P.cellsOf el) l (.slice b l c)).run P w.drew = .ok ⟨os⟩ w.drew)
    (hg : c < l + n) (hb : (l + n) * (i.bytes + 1) ≤ 1000000000) :
    (Builtin.append_ at_ ty #[.slice b l c, yv]).run P w = .ok (.slice (some ⟨w.heap.size, 0, none⟩) (l + n) (grownCap w (l + n) c el))
      (w.drew.alloc (.cells ((⟨os⟩ ++ ⟨xs⟩ : Array Value) ++ Builtin.zeroCells zv.cells (grownCap w (l + n) c el - (l + n))) el (0, 0))) := by
  have hm : ∀ (y z : Bool), (match d with | .int _ => y | _ => z) = z := fun y z => by
    cases d <;> first | rfl | exact absurd rfl (hd _)
  have hn : ¬ (l + n ≤ c) := by omega
  have hsum : l + n ≤ 1000000000 := by
    have : (l + n) * 1 ≤ (l + n) * (i.bytes + 1) := Nat.mul_le_mul_left _ (by omega)
    omega
  have h63' : ¬ (9223372036854775807 < ((l : Int) + (n : Int))) := by omega
  have hbb : (l + n) * i.bytes ≤ 1000000000 := by rw [Nat.mul_add] at hb; omega
  have h48' : ¬ (281474976710656 < Builtin.nextslicecap (l + n) c * i.bytes) := by
    have := growslice_fits (need := l + n) (old := c) (bytes := i.bytes) hg (by omega)
    omega
  simp [Builtin.append_, h0, h1, run_under ht, run_under hu, hm, run_sizeOf' hi, run_typeInfo' hi, zeroValue, hz, hl, hn, h63', h48', Question.forced, hf, hfo, newRow, grownCap, Result.andThen]
  generalize Builtin.zeroCells _ _ = Z
  have hassoc : ((⟨os⟩ : Array Value) ++ ((⟨xs⟩ : Array Value) ++ Z)) = (os ++ xs).toArray ++ Z := by apply Array.ext'; simp
  rw [hassoc]; rfl
end
theorem run_append_zeros {at_ : Array TypeId} {tt u ty : TypeId} {kd : IntKind} {i : TypeInfo} {n : Nat} {zv : Value} (h0 : at_[0]? = some tt) (h1 : at_[1]? = some u) (ht : P.underlying tt = some (.slice el)) (hu : P.underlying u = some (.int kd)) (hi : P.info? el = some i) (hz : i.zero = some zv)
    (hn : 1 ≤ n) (hc : P.cellsOf el ≠ 0) (hb : n * (i.bytes + 1) ≤ 1000000000) :
    (Builtin.append_ at_ ty #[.slice none 0 0, .int .i64 (n : Int)]).run P w = .ok (.slice (some ⟨w.heap.size, 0, none⟩) n (grownCap w n 0 el))
      (w.drew.alloc (.cells (Builtin.zeroCells zv.cells n ++ Builtin.zeroCells zv.cells (grownCap w n 0 el - n)) el (0, 0))) := by
  have hsum : n ≤ 1000000000 := by
    have : n * 1 ≤ n * (i.bytes + 1) := Nat.mul_le_mul_left _ (by omega)
    omega
  have hbb : n * i.bytes ≤ 1000000000 := by rw [Nat.mul_add] at hb; omega
  have hwrap : IntKind.wrap .i64 (n : Int) = (n : Int) := by
    unfold IntKind.wrap; simp [IntKind.signed, IntKind.bits, Int.bmod]; omega
  have h0' : ¬ ((n : Int) < 0) := by omega
  have h1' : ¬ (281474976710656 < (n : Int) * (i.bytes : Int)) := by
    have : (n : Int) * (i.bytes : Int) = ((n * i.bytes : Nat) : Int) := by simp
    omega
  have h63' : ¬ (9223372036854775807 < (n : Int)) := by omega
  have h48' : ¬ (281474976710656 < Builtin.nextslicecap n 0 * i.bytes) := by
    have := growslice_fits (need := n) (old := 0) (bytes := i.bytes) hn (by omega)
    omega
  have hnc : ¬ (n * P.cellsOf el = 0) := by
    intro h
    rcases Nat.mul_eq_zero.1 h with h | h
    · omega
    · exact hc h
  have hn0 : ¬ n = 0 := by omega
  have hmx : IntKind.i64.max = 9223372036854775807 := by decide
  simp [Builtin.append_, h0, h1, run_under ht, run_under hu, run_sizeOf' hi, run_typeInfo' hi, zeroValue, hz, asInt, asIntOf, hwrap, h0', h1', h63', h48', hn0, hnc, hc, hmx, Question.forced, Builtin.firstCells, newRow, grownCap, Result.andThen]
  rfl
theorem growOk_ok (h : growOk P el = true) : ∃ i zv, P.info? el = some i ∧ i.zero = some zv ∧ zv.cells.size = P.cellsOf el ∧ 1 ≤ P.cellsOf el := by
  unfold growOk at h
  split at h
  · rename_i z i hz hi
    obtain ⟨i', zv, hi', hz2, hv, _⟩ := zeroV_ok (e := fun _ => none) hz
    obtain ⟨g1, g2⟩ := and2 h
    have g1 := Nat.eq_of_beq_eq_true g1
    rw [len_eq, hv.cells.length] at g1
    exact ⟨i', zv, hi', hz2, by rw [← g1]; simp, Nat.le_of_ble_eq_true g2⟩
  · cases h
/-- A new block for what is grown, as the model makes it. -/
theorem grow_ok {n c : Nat} {cs : List V} (hk : grow P el h s z n cs k = r) (hz : z = P.cellsOf el) (hr : r.good) (hs : Sim e h w) (hf : Free e s) {ys : List Value} (hcs : VRs e cs ys) (hlen : cs.length = n * z) (hc : n ≤ c) :
    ∃ i zv h' e' v, P.info? el = some i ∧ i.zero = some zv ∧ n * (i.bytes + 1) ≤ 1000000000 ∧ k v h' (s + 1) = r ∧
      (VR e' v (.slice (some ⟨w.heap.size, 0, none⟩) n c) ∧ Post e s h w e' (s + 1) h' (w.drew.alloc (.cells ((⟨ys⟩ : Array Value) ++ Builtin.zeroCells zv.cells (c - n)) el (0, 0)))) := by
  subst hz
  unfold grow at hk
  obtain ⟨hg, hk⟩ := bif_ok hk (by simp [RO.good]) hr
  obtain ⟨g1, g2⟩ := and2 hg
  obtain ⟨i, zv, hi, hzv, hsz, hpos⟩ := growOk_ok g1
  have g2 : n * (P.bytesOf el + 1) ≤ 1000000000 := Nat.le_of_ble_eq_true g2
  have hbytes : i.bytes = P.bytesOf el := by simp [Program.bytesOf, hi]
  have hl := hcs.length
  have hsize : ((⟨ys⟩ : Array Value) ++ Builtin.zeroCells zv.cells (c - n)).size = c * P.cellsOf el := by
    rw [Array.size_append, size_zeroCells, hsz]
    have h1 : (⟨ys⟩ : Array Value).size = n * P.cellsOf el := by rw [← hlen, hl]; simp
    rw [h1, ← Nat.add_mul]; congr 1; omega
  obtain ⟨h', e', k1, k2, k3⟩ := newB_ok (w := w.drew) (sz := c * P.cellsOf el) (ob := .cells ((⟨ys⟩ : Array Value) ++ Builtin.zeroCells zv.cells (c - n)) el (0, 0)) hk hr (hs.drew _ rfl) hf (by simp) (fun e' hle => by
    have := tree_BR (rest := []) (n := w.drew.heap.size) (sh := 0) (el := el) (fr := (0, 0)) (hcs.mono hle) (c := (⟨ys⟩ : Array Value) ++ Builtin.zeroCells zv.cells (c - n)) (fun i hi => by
      rw [Nat.zero_add, Array.getElem?_append_left (by simp; omega)]; simp) (by rw [Array.size_append]; simp; omega) (by simp)
    rw [hsize] at this
    exact this)
  refine ⟨i, zv, h', e', _, hi, hzv, by rw [hbytes]; exact g2, k1, ?_, Post.drew (w₁ := w.drew) rfl rfl rfl rfl k3⟩
  have := VR.slu (e := e') (b := s) (o := 0) (l := n) (z := P.cellsOf el) (c := c) (n := w.heap.size) (sh := 0) (sz := c * P.cellsOf el) k2 hc (by omega)
  simpa using this
end Go.Ev
