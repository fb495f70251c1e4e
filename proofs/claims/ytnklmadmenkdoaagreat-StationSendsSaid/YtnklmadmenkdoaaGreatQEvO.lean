/- An evaluator of the model's code, thirteenth part: append. An evaluator of the model's code, fourteenth part: append, whole. An evaluator of the model's code, fifteenth part: the built-in functions, and what is called. -/
import Derived.Test.YtnklmadmenkdoaaGreatQEvL
set_option linter.unusedVariables false
set_option linter.unusedSimpArgs false
namespace Go.Ev
variable {D : List Deferred}
variable {P : Program} {pr : Prims} {ih : Rn} {e : Env} {t : T V} {h : H} {s : Nat} {w : World} {a : Act} {r : RO} {k : K} {o : Oper}
/-- A block under a new number. -/
theorem alias_post (hs : Sim e h w) (hf : Free e s) (hh : h.has s = true) {b : Nat} (hl : live h b) {x : Loc} (hx : e b = some x) {blk : B} (hg : blk ≠ .gone) {ob : Obj} {sh : Nat}
    (hb : ∀ e', e.le e' → BR e' ⟨x.n, sh, x.sz⟩ blk ob) :
    ∃ e', e' s = some ⟨x.n, sh, x.sz⟩ ∧ Post e s h w e' (s + 1) ((h.set b .gone).set s blk) { w with heap := w.heap.setIfInBounds x.n ob } := by
  have hdead : ¬ live h s := fun hl => by
    obtain ⟨x, o, h1, _⟩ := hs.blk s hl
    rw [hf s (Nat.le_refl _)] at h1; cases h1
  have hbs : b ≠ s := fun hb => hdead (hb ▸ hl)
  have hle : e.le ⟨fun b => if b = s then some ⟨x.n, sh, x.sz⟩ else e b, e.base⟩ := by
    refine ⟨fun b x' hx => ?_, rfl⟩
    show (if b = s then some ⟨x.n, sh, x.sz⟩ else e b) = some x'
    by_cases hb : b = s
    · subst hb; rw [hf b (Nat.le_refl _)] at hx; cases hx
    · simp only [hb, if_false]; exact hx
  have hhb := live_has hl
  have hh' : (h.set b .gone).has s = true := by rw [T.has_set]; exact hh
  have hget : ∀ b', ((h.set b .gone).set s blk).get .gone b' = if b' = s then blk else if b' = b then .gone else h.get .gone b' := fun b' => by
    rw [T.get_set .gone _ s b' blk hh', T.get_set .gone h b b' _ hhb]
  have hlv : ∀ b', b' ≠ s → live ((h.set b .gone).set s blk) b' → b' ≠ b ∧ live h b' := fun b' h1 h2 => by
    unfold live at h2 ⊢
    rw [hget, if_neg h1] at h2
    by_cases h3 : b' = b
    · rw [if_pos h3] at h2; exact absurd rfl h2
    · rw [if_neg h3] at h2; exact ⟨h3, h2⟩
  obtain ⟨x0, o0, g1, g2, _⟩ := hs.blk b hl
  rw [hx] at g1; injection g1 with g1; subst g1
  have hlt := (Array.getElem?_eq_some_iff.1 g2).1
  refine ⟨_, by simp, hle, fun b hb => by simp [Nat.ne_of_lt hb], Nat.le_succ s, fun b hb => ?_, ⟨fun b' hl' => ?_, fun b1 b2 x1 x2 l1 l2 e1 e2 hn => ?_, by simpa using hs.big, fun n (hn : e.base.prot n) => (show (w.heap.setIfInBounds x.n ob)[n]? = _ by rw [Array.getElem?_setIfInBounds_ne (by intro hq; subst hq; exact hs.above b x hl hx hn)]; exact hs.old n hn), fun b' x' hl' hx' => ?_⟩, fun b' x' hl' hx' => ?_, fun n hn hk => ?_, by simp, rfl, rfl, rfl⟩
  · simp only [show b ≠ s by omega, if_false]; exact hf b (by omega)
  · by_cases h1 : b' = s
    · subst h1
      exact ⟨⟨x.n, sh, x.sz⟩, ob, by simp, by simp [hlt], by rw [hget, if_pos rfl]; exact hb _ hle⟩
    · obtain ⟨h2, h3⟩ := hlv b' h1 hl'
      obtain ⟨x1, o1, k1, k2, k3⟩ := hs.blk b' h3
      refine ⟨x1, o1, by simp [h1, k1], ?_, by rw [hget, if_neg h1, if_neg h2]; exact k3.mono hle⟩
      have hne : x.n ≠ x1.n := fun hn => h2 (hs.inj b b' x x1 hl h3 hx k1 hn).symm
      show (w.heap.setIfInBounds x.n ob)[x1.n]? = _
      rw [Array.getElem?_setIfInBounds_ne hne]; exact k2
  · by_cases h1 : b1 = s <;> by_cases h2 : b2 = s
    · rw [h1, h2]
    · exfalso
      subst h1
      simp at e1; subst e1
      simp only [h2, if_false] at e2
      obtain ⟨h3, h4⟩ := hlv b2 h2 l2
      exact h3 (hs.inj b b2 x x2 hl h4 hx e2 hn).symm
    · exfalso
      subst h2
      simp at e2; subst e2
      simp only [h1, if_false] at e1
      obtain ⟨h3, h4⟩ := hlv b1 h1 l1
      exact h3 (hs.inj b1 b x1 x h4 hl e1 hx hn)
    · simp only [h1, h2, if_false] at e1 e2
      exact hs.inj b1 b2 x1 x2 (hlv b1 h1 l1).2 (hlv b2 h2 l2).2 e1 e2 hn
  · by_cases h1 : b' = s
    · subst h1; simp at hx'; subst hx'; exact hs.above b x hl hx
    · simp only [h1, if_false] at hx'
      exact hs.above b' x' (hlv b' h1 hl').2 hx'
  · by_cases h1 : b' = s
    · subst h1; simp at hx'; subst hx'; exact .inl ⟨b, x, hl, hx, rfl⟩
    · simp only [h1, if_false] at hx'
      exact .inl ⟨b', x', (hlv b' h1 hl').2, hx', rfl⟩
  · show (w.heap.setIfInBounds x.n ob)[n]? = _
    rw [Array.getElem?_setIfInBounds_ne (hk b x hl hx)]
variable {el : TypeId} {z : Nat}
section
variable {at_ : Array TypeId} {tt u ty : TypeId} {d : TypeDesc} {i : TypeInfo} {yv : Value} {n l c : Nat} {xs os : List Value} {w' : World}
theorem noInt_ok (h : noInt P u = true) : ∃ d, P.underlying u = some d ∧ ∀ k, d ≠ .int k := by
  unfold noInt at h
  split at h
  · cases h
  · rename_i d hd hu; exact ⟨d, hu, fun k hk => hd k hk⟩
  · cases h
theorem run_append_here (h0 : at_[0]? = some tt) (h1 : at_[1]? = some u) (ht : P.underlying tt = some (.slice el)) (hu : P.underlying u = some d) (hd : ∀ k, d ≠ .int k) (hi : P.info? el = some i)
    (hl : (Builtin.lenOf yv).run P w = .ok n w) (hf : (Builtin.firstCells (P.cellsOf el) n yv).run P w = .ok ⟨xs⟩ w) {b : Option Addr} (hroom : l + n ≤ c)
    (hst : (match b with | some b => storeCells (b.add (l * P.cellsOf el)) xs | none => pure () : Sem Unit).run P w = .ok () w') :
    (Builtin.append_ at_ ty #[.slice b l c, yv]).run P w = .ok (.slice b (l + n) c) w' := by
  have hm : ∀ (y z : Bool), (match d with | .int _ => y | _ => z) = z := fun y z => by
    cases d <;> first | rfl | exact absurd rfl (hd _)
  cases b with
  | none =>
    have hw : w' = w := by simp only [Sem.run_pure] at hst; injection hst with _ h2; exact h2.symm
    subst hw
    simp [Builtin.append_, h0, h1, run_under ht, run_under hu, hm, run_sizeOf' hi, Result.andThen, hl, hroom, hf]
  | some b =>
    simp only at hst
    simp [Builtin.append_, h0, h1, run_under ht, run_under hu, hm, run_sizeOf' hi, Result.andThen, hl, hroom, hf, hst]
theorem run_append_new (h0 : at_[0]? = some tt) (h1 : at_[1]? = some u) (ht : P.underlying tt = some (.slice el)) (hu : P.underlying u = some d) (hd : ∀ k, d ≠ .int k) (hi : P.info? el = some i) {zv : Value} (hz : i.zero = some zv)
    (hl : (Builtin.lenOf yv).run P w = .ok n w) (hf : (Builtin.firstCells (P.cellsOf el) n yv).run P w.drew = .ok ⟨xs⟩ w.drew) {b : Option Addr} (hfo : (Builtin.firstCells (P.cellsOf el) l (.slice b l c)).run P w.drew = .ok ⟨os⟩ w.drew)
    (hg : c < l + n) (hb : (l + n) * (i.bytes + 1) ≤ 1000000000) :
    (Builtin.append_ at_ ty #[.slice b l c, yv]).run P w = .ok (.slice (some ⟨w.heap.size, 0, none⟩) (l + n) (grownCap w (l + n) c el))
      (w.drew.alloc (.cells ((⟨os⟩ ++ ⟨xs⟩ : Array Value) ++ Builtin.zeroCells zv.cells (grownCap w (l + n) c el - (l + n))) el (0, 0))) := by
  have hm : ∀ (y z : Bool), (match d with | .int _ => y | _ => z) = z := fun y z => by
    cases d <;> first | rfl | exact absurd rfl (hd _)
  have hn : ¬ (l + n ≤ c) := by omega
  have hsum : l + n ≤ 1000000000 := by
    have : (l + n) * 1 ≤ (l + n) * (i.bytes + 1) := Nat.mul_le_mul_left _ (by omega)
    omega
  have h63' : ¬ (9223372036854775807 < ((l : Int) + (n : Int))) := by omega
  have hbb : (l + n) * i.bytes ≤ 1000000000 := by rw [Nat.mul_add] at hb; omega
  have h48' : ¬ (281474976710656 < Builtin.nextslicecap (l + n) c * i.bytes) := by
    have := growslice_fits (need := l + n) (old := c) (bytes := i.bytes) hg (by omega)
    omega
  simp [Builtin.append_, h0, h1, run_under ht, run_under hu, hm, run_sizeOf' hi, run_typeInfo' hi, zeroValue, hz, hl, hn, h63', h48', Question.forced, hf, hfo, newRow, grownCap, Result.andThen]
  generalize Builtin.zeroCells _ _ = Z
  have hassoc : ((⟨os⟩ : Array Value) ++ ((⟨xs⟩ : Array Value) ++ Z)) = (os ++ xs).toArray ++ Z := by apply Array.ext'; simp
  rw [hassoc]; rfl
end
theorem run_append_hereZ {at_ : Array TypeId} {tt u ty : TypeId} {kd : IntKind} {i : TypeInfo} {n l c : Nat} {zv : Value} {w' : World} {b : Option Addr} (h0 : at_[0]? = some tt) (h1 : at_[1]? = some u) (ht : P.underlying tt = some (.slice el)) (hu : P.underlying u = some (.int kd)) (hi : P.info? el = some i) (hz : i.zero = some zv)
    (hn : 1 ≤ n) (hc : P.cellsOf el ≠ 0) (hb : n * (i.bytes + 1) ≤ 1000000000) (hroom : l + n ≤ c)
    (hst : (match b with | some b => storeCells (b.add (l * P.cellsOf el)) (Builtin.zeroCells zv.cells n).toList | none => pure () : Sem Unit).run P w = .ok () w') :
    (Builtin.append_ at_ ty #[.slice b l c, .int .i64 (n : Int)]).run P w = .ok (.slice b (l + n) c) w' := by
  have hsum : n ≤ 1000000000 := by
    have : n * 1 ≤ n * (i.bytes + 1) := Nat.mul_le_mul_left _ (by omega)
    omega
  have hbb : n * i.bytes ≤ 1000000000 := by rw [Nat.mul_add] at hb; omega
  have hwrap : IntKind.wrap .i64 (n : Int) = (n : Int) := by
    unfold IntKind.wrap; simp [IntKind.signed, IntKind.bits, Int.bmod]; omega
  have h0' : ¬ ((n : Int) < 0) := by omega
  have h1' : ¬ (281474976710656 < (n : Int) * (i.bytes : Int)) := by
    have : (n : Int) * (i.bytes : Int) = ((n * i.bytes : Nat) : Int) := by simp
    omega
  have hnc : ¬ (n * P.cellsOf el = 0) := by
    intro h
    rcases Nat.mul_eq_zero.1 h with h | h
    · omega
    · exact hc h
  have hn0 : ¬ n = 0 := by omega
  cases b with
  | none =>
    have hw : w' = w := by simp only [Sem.run_pure] at hst; injection hst with _ h2; exact h2.symm
    subst hw
    simp [Builtin.append_, h0, h1, run_under ht, run_under hu, run_sizeOf' hi, run_typeInfo' hi, zeroValue, hz, asInt, asIntOf, hwrap, h0', h1', hn0, hnc, hc, hroom, Result.andThen]
  | some b =>
    simp only at hst
    simp [Builtin.append_, h0, h1, run_under ht, run_under hu, run_sizeOf' hi, run_typeInfo' hi, zeroValue, hz, asInt, asIntOf, hwrap, h0', h1', hn0, hnc, hc, hroom, hst, Result.andThen]
theorem run_append_newZ {at_ : Array TypeId} {tt u ty : TypeId} {kd : IntKind} {i : TypeInfo} {n l c : Nat} {os : List Value} {zv : Value} {b : Option Addr} (h0 : at_[0]? = some tt) (h1 : at_[1]? = some u) (ht : P.underlying tt = some (.slice el)) (hu : P.underlying u = some (.int kd)) (hi : P.info? el = some i) (hz : i.zero = some zv)
    (hn : 1 ≤ n) (hc : P.cellsOf el ≠ 0) (hb0 : n * (i.bytes + 1) ≤ 1000000000) (hfo : (Builtin.firstCells (P.cellsOf el) l (.slice b l c)).run P w.drew = .ok ⟨os⟩ w.drew) (hg : c < l + n) (hb : (l + n) * (i.bytes + 1) ≤ 1000000000) :
    (Builtin.append_ at_ ty #[.slice b l c, .int .i64 (n : Int)]).run P w = .ok (.slice (some ⟨w.heap.size, 0, none⟩) (l + n) (grownCap w (l + n) c el))
      (w.drew.alloc (.cells ((⟨os⟩ ++ ⟨(Builtin.zeroCells zv.cells n).toList⟩ : Array Value) ++ Builtin.zeroCells zv.cells (grownCap w (l + n) c el - (l + n))) el (0, 0))) := by
  have hsum : l + n ≤ 1000000000 := by
    have : (l + n) * 1 ≤ (l + n) * (i.bytes + 1) := Nat.mul_le_mul_left _ (by omega)
    omega
  have hbb : (l + n) * i.bytes ≤ 1000000000 := by rw [Nat.mul_add] at hb; omega
  have hnb : n * i.bytes ≤ 1000000000 := by rw [Nat.mul_add] at hb0; omega
  have hwrap : IntKind.wrap .i64 (n : Int) = (n : Int) := by
    unfold IntKind.wrap; simp [IntKind.signed, IntKind.bits, Int.bmod]; omega
  have h0' : ¬ ((n : Int) < 0) := by omega
  have h1' : ¬ (281474976710656 < (n : Int) * (i.bytes : Int)) := by
    have : (n : Int) * (i.bytes : Int) = ((n * i.bytes : Nat) : Int) := by simp
    omega
  have hle : ¬ (l + n ≤ c) := by omega
  have h63' : ¬ (9223372036854775807 < ((l : Int) + (n : Int))) := by omega
  have h48' : ¬ (281474976710656 < Builtin.nextslicecap (l + n) c * i.bytes) := by
    have := growslice_fits (need := l + n) (old := c) (bytes := i.bytes) hg (by omega)
    omega
  have hnc : ¬ (n * P.cellsOf el = 0) := by
    intro h
    rcases Nat.mul_eq_zero.1 h with h | h
    · omega
    · exact hc h
  have hn0 : ¬ n = 0 := by omega
  have hmx : IntKind.i64.max = 9223372036854775807 := by decide
  simp [Builtin.append_, h0, h1, run_under ht, run_under hu, run_sizeOf' hi, run_typeInfo' hi, zeroValue, hz, asInt, asIntOf, hwrap, h0', h1', h63', h48', hn0, hnc, hc, hmx, hle, Question.forced, hfo, newRow, grownCap, Result.andThen]
  generalize Builtin.zeroCells zv.cells n = Y
  generalize Builtin.zeroCells _ _ = Z
  have hassoc : ((⟨os⟩ : Array Value) ++ (Y ++ Z)) = (os ++ Y.toList).toArray ++ Z := by apply Array.ext'; simp
  rw [hassoc]; rfl
theorem growOk_ok (h : growOk P el = true) : ∃ i zv, P.info? el = some i ∧ i.zero = some zv ∧ zv.cells.size = P.cellsOf el ∧ 1 ≤ P.cellsOf el := by
  unfold growOk at h
  split at h
  · rename_i z i hz hi
    obtain ⟨i', zv, hi', hz2, hv, _⟩ := zeroV_ok (e := noEnv) hz
    obtain ⟨g1, g2⟩ := and2 h
    have g1 := Nat.eq_of_beq_eq_true g1
    rw [len_eq, hv.cells.length] at g1
    exact ⟨i', zv, hi', hz2, by rw [← g1]; simp, Nat.le_of_ble_eq_true g2⟩
  · cases h
/-- A new block for what is grown, as the model makes it. -/
theorem grow_ok {n c : Nat} {cs : List V} (hk : grow P el h s z n cs k = r) (hz : z = P.cellsOf el) (hr : r.good) (hs : Sim e h w) (hf : Free e s) {ys : List Value} (hcs : VRs e cs ys) (hlen : cs.length = n * z) (hc : n ≤ c) :
    ∃ i zv h' e' v, P.info? el = some i ∧ i.zero = some zv ∧ n * (i.bytes + 1) ≤ 1000000000 ∧ k v h' (s + 1) = r ∧
      (VR e' v (.slice (some ⟨w.heap.size, 0, none⟩) n c) ∧ Post e s h w e' (s + 1) h' (w.drew.alloc (.cells ((⟨ys⟩ : Array Value) ++ Builtin.zeroCells zv.cells (c - n)) el (0, 0)))) := by
  subst hz
  unfold grow at hk
  obtain ⟨hg, hk⟩ := bif_ok hk (by simp [RO.good]) hr
  obtain ⟨g1, g2⟩ := and2 hg
  obtain ⟨i, zv, hi, hzv, hsz, hpos⟩ := growOk_ok g1
  have g2 : n * (P.bytesOf el + 1) ≤ 1000000000 := Nat.le_of_ble_eq_true g2
  have hbytes : i.bytes = P.bytesOf el := by simp [Program.bytesOf, hi]
  have hl := hcs.length
  have hsize : ((⟨ys⟩ : Array Value) ++ Builtin.zeroCells zv.cells (c - n)).size = c * P.cellsOf el := by
    rw [Array.size_append, size_zeroCells, hsz]
    have h1 : (⟨ys⟩ : Array Value).size = n * P.cellsOf el := by rw [← hlen, hl]; simp
    rw [h1, ← Nat.add_mul]; congr 1; omega
  obtain ⟨h', e', k1, k2, k3⟩ := newB_ok (w := w.drew) (sz := c * P.cellsOf el) (ob := .cells ((⟨ys⟩ : Array Value) ++ Builtin.zeroCells zv.cells (c - n)) el (0, 0)) hk hr (hs.drew _ rfl) hf (by simp) (fun e' hle => by
    have := tree_BR (rest := []) (n := w.drew.heap.size) (sh := 0) (el := el) (fr := (0, 0)) (hcs.mono hle) (c := (⟨ys⟩ : Array Value) ++ Builtin.zeroCells zv.cells (c - n)) (fun i hi => by
      rw [Nat.zero_add, Array.getElem?_append_left (by simp; omega)]; simp) (by rw [Array.size_append]; simp; omega) (by simp)
    rw [hsize] at this
    exact this)
  refine ⟨i, zv, h', e', _, hi, hzv, by rw [hbytes]; exact g2, k1, ?_, Post.drew (w₁ := w.drew) rfl rfl rfl rfl k3⟩
  have := VR.slu (e := e') (b := s) (o := 0) (l := n) (z := P.cellsOf el) (c := c) (n := w.heap.size) (sh := 0) (sz := c * P.cellsOf el) k2 hc (by omega)
  simpa using this
end Go.Ev
namespace Go.Ev
variable {D : List Deferred}
variable {P : Program} {pr : Prims} {ih : Rn} {e : Env} {t : T V} {h : H} {s : Nat} {w : World} {a : Act} {r : RO} {k : K} {o : Oper}
variable {at_ : Array TypeId} {tt u ty el : TypeId} {d : TypeDesc} {i : TypeInfo} {x y : V} {xv yv : Value}
theorem isSl_ok (h : isSl x = true) (hx : VR e x xv) : ∃ b l c, xv = .slice b l c ∧ l ≤ c ∧ (b = none → l = 0 ∧ c = 0) := by
  cases hx <;> first | (cases h; done) | skip
  · exact ⟨none, 0, 0, rfl, Nat.le_refl _, fun _ => ⟨rfl, rfl⟩⟩
  · rename_i hl; exact ⟨_, _, _, rfl, hl, fun h0 => by cases h0⟩
  · exact ⟨_, _, _, rfl, Nat.le_refl _, fun h0 => by cases h0⟩
  · rename_i hl _; exact ⟨_, _, _, rfl, hl, fun h0 => by cases h0⟩
  · exact ⟨_, _, _, rfl, Nat.le_refl _, fun h0 => by cases h0⟩
theorem appendC_ok {n : Nat} {cs : List V} {xs : List Value} (hk : appendC P el x n cs h s k = r) (hr : r.good) (hs : Sim e h w) (hf : Free e s) (hx : VR e x xv) (hcs : VRs e cs xs) (hxl : xs.length = n * P.cellsOf el) (hi : P.info? el = some i)
    (HERE : ∀ (b : Option Addr) (l c : Nat) (w' : World), l + n ≤ c → (match b with | some b => storeCells (b.add (l * P.cellsOf el)) xs | none => pure () : Sem Unit).run P w = .ok () w' → (Builtin.append_ at_ ty #[.slice b l c, yv]).run P w = .ok (.slice b (l + n) c) w')
    (NEW : ∀ (b : Option Addr) (l c : Nat) (os : List Value) (zv : Value), i.zero = some zv → (Builtin.firstCells (P.cellsOf el) l (.slice b l c)).run P w.drew = .ok ⟨os⟩ w.drew → c < l + n → (l + n) * (i.bytes + 1) ≤ 1000000000 →
      (Builtin.append_ at_ ty #[.slice b l c, yv]).run P w = .ok (.slice (some ⟨w.heap.size, 0, none⟩) (l + n) (grownCap w (l + n) c el)) (w.drew.alloc (.cells ((⟨os⟩ ++ ⟨xs⟩ : Array Value) ++ Builtin.zeroCells zv.cells (grownCap w (l + n) c el - (l + n))) el (0, 0)))) :
    ∃ v h' s', k v h' s' = r ∧ ∃ z w', (Builtin.append_ at_ ty #[xv, yv]).run P w = .ok z w' ∧ Good e s h w v h' s' z w' := by
  unfold appendC at hk
  have hcl := hcs.length
  cases hn : Nat.beq n 0 with
  | true =>
    rw [hn] at hk
    have hn := Nat.eq_of_beq_eq_true hn
    subst hn
    have hxs : xs = [] := by
      have : xs.length = 0 := by rw [hxl, Nat.zero_mul]
      exact List.length_eq_zero_iff.1 this
    subst hxs
    simp only [cond_true] at hk
    obtain ⟨hsl, hk⟩ := bif_ok hk (by simp [RO.good]) hr
    obtain ⟨b, l, c, rfl, hlc, _⟩ := isSl_ok hsl hx
    refine ⟨x, h, s, hk, .slice b l c, w, ?_, e, hx, Post.refl hs hf⟩
    have := HERE b l c w (by omega) (by cases b <;> rfl)
    simpa using this
  | false =>
    rw [hn] at hk
    have hn := Nat.ne_of_beq_eq_false hn
    simp only [cond_false] at hk
    split at hk
    · cases hx
      obtain ⟨i', zv, h', e', v, g1, g2, g3, g4, g5⟩ := grow_ok (c := grownCap w (0 + n) 0 el) hk rfl hr hs hf hcs (by rw [hcl, hxl]) (by have := grownCap_ge w (0 + n) 0 el; omega)
      rw [hi] at g1; injection g1 with g1; subst g1
      refine ⟨v, h', s + 1, g4, _, _, ?_, e', g5⟩
      have := NEW (none) 0 0 [] _ g2 (by simp [Builtin.firstCells]) (by omega) (by rw [Nat.zero_add]; exact g3)
      simpa using this
    · rename_i b off l c
      cases hroom : Nat.ble (l + n) c with
      | true =>
        simp only [Nat.add_eq] at hk
        rw [hroom] at hk
        have hroom := Nat.le_of_ble_eq_true hroom
        simp only [cond_true] at hk
        have hk' := hk
        cases hx with
        | @sl _ _ _ _ nb sh sz hb hlc =>
          obtain ⟨h', w', k1, k2, k3⟩ := storeV_ok (P := P) hk' hr hs hf hb hcs
          refine ⟨_, h', s, k1, .slice (some ⟨nb, sh + off, none⟩) (l + n) c, w', ?_, e, .sl hb hroom, k3⟩
          exact HERE _ _ _ w' hroom (by simp only [addr_add]; rw [Nat.add_assoc]; exact k2)
        | sl0 hb => omega
      | false =>
        simp only [Nat.add_eq] at hk
        rw [hroom] at hk
        have hroom : ¬ (l + n ≤ c) := by
          intro h0
          rw [ble_eq] at hroom
          simp [h0] at hroom
        simp only [cond_false] at hk
        obtain ⟨l', old, os, hk2, hos, hlen2, hol, hfo⟩ := srcCells_ok (P := P) hk hr hs hx
        have hll : l' = l := by
          have : (Builtin.lenOf xv).run P w = .ok l w := by cases hx <;> rfl
          rw [this] at hlen2
          injection hlen2 with h2 h3
          exact h2.symm
        subst hll
        have hfo' := hfo w.drew rfl l' (Nat.le_refl _)
        rw [List.take_of_length_le (by omega)] at hfo'
        have hool := hos.length
        obtain ⟨i', zv, h', e', v, g1, g2, g3, g4, g5⟩ := grow_ok (c := grownCap w (l' + n) c el) hk2 rfl hr hs hf (hos.append hcs) (by rw [List.length_append, hool, hcl, hxl, hol, ← Nat.add_mul]) (grownCap_ge w (l' + n) c el)
        rw [hi] at g1; injection g1 with g1; subst g1
        refine ⟨v, h', s + 1, g4, _, _, ?_, e', g5⟩
        have hxv : ∃ b, xv = .slice b l' c := by cases hx <;> exact ⟨_, rfl⟩
        obtain ⟨b0, rfl⟩ := hxv
        have := NEW b0 l' c os _ g2 hfo' (by omega) g3
        simpa using this
    · rename_i b off l z
      obtain ⟨hz, hk⟩ := bif_ok hk (by simp [RO.good]) hr
      have hz := Nat.eq_of_beq_eq_true hz
      subst hz
      split at hk
      · rename_i t' m hbl
        cases hroom : Nat.ble (off + (l + n) * P.cellsOf el) m with
        | true =>
          simp only [Nat.add_eq, Nat.mul_eq] at hk
          rw [hroom] at hk
          have hroom := Nat.le_of_ble_eq_true hroom
          simp only [cond_true] at hk
          obtain ⟨hz1, hk⟩ := bif_ok hk (by simp [RO.good]) hr
          have hz1 : 1 ≤ P.cellsOf el := Nat.le_of_ble_eq_true hz1
          have hk' := hk
          cases hx with
          | @slu _ _ _ _ c nb sh sz hb hlc hcz =>
            obtain ⟨hl, cc, elc, fr, hw, c1, c2, c3, c4, c5⟩ := cells_at hs hbl hb
            simp only at c2
            have hfit : l + n ≤ c := by
              have : (l + n) * P.cellsOf el ≤ c * P.cellsOf el := by omega
              exact Nat.le_of_mul_le_mul_right this hz1
            obtain ⟨h', w', k1, k2, k3⟩ := storeV_ok (P := P) hk' hr hs hf hb hcs
            refine ⟨_, h', s, k1, .slice (some ⟨nb, sh + off, none⟩) (l + n) c, w', ?_, e, .slu hb hfit hcz, k3⟩
            exact HERE _ _ _ _ hfit (by simp only [addr_add]; rw [Nat.add_assoc]; exact k2)
          | @slu0 _ _ _ x0 nb sh sz hb hx0 =>
            exfalso
            obtain ⟨hl, cc, elc, fr, hw, c1, c2, c3, c4, c5⟩ := cells_at hs hbl hb
            simp only at c2
            have : 1 ≤ (0 + n) * P.cellsOf el := Nat.mul_le_mul (by omega : 1 ≤ 0 + n) hz1
            omega
        | false =>
          simp only [Nat.add_eq, Nat.mul_eq] at hk
          rw [hroom] at hk
          simp only [cond_false] at hk
          obtain ⟨hc2, hk⟩ := bif_ok hk (by simp [RO.good]) hr
          obtain ⟨d1, d2⟩ := and2 hc2
          have d1 : off + l * P.cellsOf el ≤ m := Nat.le_of_ble_eq_true d1
          have hk' := hk
          cases hx with
          | @slu _ _ _ _ c nb sh sz hb hlc hcz =>
            obtain ⟨hl, cc, elc, fr, hw, c1, c2, c3, c4, c5⟩ := cells_at hs hbl hb
            simp only at c1 c2 c3 hw
            obtain ⟨os, hol, hos, hget⟩ := rd_ok (x := ⟨nb, sh, sz⟩) c3 d1
            simp only at hget
            have hool := hos.length
            by_cases hfit : l + n ≤ c
            · have hmul : (l + n) * P.cellsOf el ≤ c * P.cellsOf el := Nat.mul_le_mul_right _ hfit
              have hadd : (l + n) * P.cellsOf el = l * P.cellsOf el + n * P.cellsOf el := Nat.add_mul _ _ _
              unfold grow newB at hk'
              obtain ⟨hgo, hk2⟩ := bif_ok hk' (by simp [RO.good]) hr
              obtain ⟨hhas, hk3⟩ := bif_ok hk2 (by simp [RO.good]) hr
              rw [T.has_set] at hhas
              have hrl := rdCells_len t' (l * P.cellsOf el) off
              have hcsz : cc.size = sz := c1
              obtain ⟨e', k2, k3⟩ := alias_post (sh := sh + off) (blk := .cells (tree (rdCells t' (l * P.cellsOf el) off ++ cs)) (len (rdCells t' (l * P.cellsOf el) off ++ cs)))
                (ob := .cells (putArr cc (sh + off + l * P.cellsOf el) xs) elc fr) hs hf hhas hl hb (by simp) (fun e' hle => by
                  have := tree_BR (rest := []) (n := nb) (sh := sh + off) (el := elc) (fr := fr) ((hos.append hcs).mono hle) (c := putArr cc (sh + off + l * P.cellsOf el) xs) (fun i hi => by
                    rw [putArr_get xs cc _ _ (by omega)]
                    rw [List.length_append] at hi
                    by_cases hil : i < l * P.cellsOf el
                    · rw [if_neg (by omega), List.getElem?_append_left (by omega)]
                      have := hget i (os[i]'(by omega)) (by simp [List.getElem?_eq_getElem (show i < os.length by omega)])
                      rw [this, List.getElem?_eq_getElem (show i < os.length by omega)]
                    · rw [if_pos (by omega), List.getElem?_append_right (by omega)]
                      congr 1; omega) (by rw [putArr_size, List.length_append]; omega) (by rw [putArr_size, hcsz]; exact c5)
                  rw [putArr_size, hcsz] at this
                  exact this)
              refine ⟨_, _, s + 1, hk3, .slice (some ⟨nb, sh + off, none⟩) (l + n) c, _, ?_, e', ?_, k3⟩
              · exact HERE _ _ _ _ hfit (by
                  simp only [addr_add]
                  have := run_storeCells (P := P) (n := nb) (el := elc) (fr := fr) (x := sh + off + l * P.cellsOf el) xs 0 cc w hw (by omega) (by rw [hcsz]; exact c5) (hcs.one d2)
                  simpa using this)
              · have := VR.slu (e := e') (b := s) (o := 0) (l := l + n) (z := P.cellsOf el) (c := c) k2 hfit (by simp only; omega)
                simpa using this
            · have hfo : (Builtin.firstCells (P.cellsOf el) l (.slice (some ⟨nb, sh + off, none⟩) l c)).run P w.drew = .ok ⟨os⟩ w.drew :=
                run_firstCells_some (P := P) (w := w.drew) (P.cellsOf el) l ⟨nb, sh + off, none⟩ l c os hol (fun j v hv => by
                  rw [addr_add, cell_at (w := w.drew) (by exact hw)]; exact hget j v hv)
              have hgp := gone_post (b := b) hs hf
              obtain ⟨i', zv, h', e', v, g1, g2, g3, g4, g5, g6⟩ := grow_ok (c := grownCap w (l + n) c el) hk' rfl hr hgp.sim hf (hos.append hcs) (by rw [List.length_append, hool, hcl, hxl, hol, ← Nat.add_mul]) (grownCap_ge w (l + n) c el)
              rw [hi] at g1; injection g1 with g1; subst g1
              refine ⟨v, h', s + 1, g4, _, _, ?_, e', g5, hgp.trans g6⟩
              have := NEW (some ⟨nb, sh + off, none⟩) l c os _ g2 hfo (by omega) g3
              simpa using this
          | @slu0 _ _ _ x0 nb sh sz hb hx0 =>
            have hfo : (Builtin.firstCells (P.cellsOf el) 0 (.slice (some ⟨nb, x0, none⟩) 0 0)).run P w.drew = .ok ⟨[]⟩ w.drew :=
              run_firstCells_some (P := P) (w := w.drew) (P.cellsOf el) 0 ⟨nb, x0, none⟩ 0 0 [] (by simp) (fun j v hv => by simp at hv)
            have hgp := gone_post (b := b) hs hf
            have hnil : rdCells t' (Nat.mul 0 (P.cellsOf el)) off = [] := by rw [show Nat.mul 0 (P.cellsOf el) = 0 from Nat.zero_mul _]; rfl
            have hnil2 : rdCells t' (0 * P.cellsOf el) off = [] := hnil
            have hk2 : grow P el (h.set b .gone) s (P.cellsOf el) (0 + n) cs k = r := by
              rw [← hk', hnil2]; rfl
            obtain ⟨i', zv, h', e', v, g1, g2, g3, g4, g5, g6⟩ := grow_ok (c := grownCap w (0 + n) 0 el) hk2 rfl hr hgp.sim hf hcs (by rw [hcl, hxl, Nat.zero_add]) (grownCap_ge w (0 + n) 0 el)
            rw [hi] at g1; injection g1 with g1; subst g1
            refine ⟨v, h', s + 1, g4, _, _, ?_, e', g5, hgp.trans g6⟩
            have := NEW (some ⟨nb, x0, none⟩) 0 0 [] _ g2 hfo (by omega) g3
            simpa using this
      · subst hk; cases hr
    · subst hk; cases hr
theorem appendV_ok (hk : appendV P el x y h s k = r) (hr : r.good) (hs : Sim e h w) (hf : Free e s) (hx : VR e x xv) (hy : VR e y yv) (h0 : at_[0]? = some tt) (h1 : at_[1]? = some u)
    (ht : P.underlying tt = some (.slice el)) (hu : P.underlying u = some d) (hd : ∀ k, d ≠ .int k) (hi : P.info? el = some i) :
    ∃ v h' s', k v h' s' = r ∧ ∃ z w', (Builtin.append_ at_ ty #[xv, yv]).run P w = .ok z w' ∧ Good e s h w v h' s' z w' := by
  unfold appendV at hk
  obtain ⟨n, cs, xs, hk, hcs, hlen, hxl, hfc⟩ := srcCells_ok (P := P) hk hr hs hy
  have hfc' := hfc w.drew rfl n (Nat.le_refl _)
  rw [List.take_of_length_le (by omega)] at hfc'
  have hfn := hfc w rfl n (Nat.le_refl _)
  rw [List.take_of_length_le (by omega)] at hfn
  exact appendC_ok hk hr hs hf hx hcs hxl hi (fun b l c w' hroom hst => run_append_here (P := P) (w := w) (w' := w') (ty := ty) h0 h1 ht hu hd hi hlen hfn hroom hst)
    (fun b l c os zv hz hfo hg hb => run_append_new (P := P) (w := w) (ty := ty) h0 h1 ht hu hd hi hz hlen hfc' hfo hg hb)
theorem appendZ_ok {u : TypeId} {n : Nat} {kd : IntKind} (hk : appendZ P el x n h s k = r) (hr : r.good) (hs : Sim e h w) (hf : Free e s) (hx : VR e x xv) (h0 : at_[0]? = some tt) (h1 : at_[1]? = some u)
    (ht : P.underlying tt = some (.slice el)) (hu : P.underlying u = some (.int kd)) (hi : P.info? el = some i) :
    ∃ v h' s', k v h' s' = r ∧ ∃ z w', (Builtin.append_ at_ ty #[xv, .int .i64 (n : Int)]).run P w = .ok z w' ∧ Good e s h w v h' s' z w' := by
  unfold appendZ at hk
  split at hk
  · rename_i z hz
    obtain ⟨hc, hk⟩ := bif_ok hk (by simp [RO.good]) hr
    obtain ⟨hc, c4⟩ := and2 hc
    obtain ⟨hc, c3⟩ := and2 hc
    obtain ⟨c1, c2⟩ := and2 hc
    have c1 := Nat.eq_of_beq_eq_true c1
    have c2 : 1 ≤ n := Nat.le_of_ble_eq_true c2
    have c3 : n * (P.bytesOf el + 1) ≤ 1000000000 := Nat.le_of_ble_eq_true c3
    have c4 := Nat.le_of_ble_eq_true c4
    rw [len_eq] at c1
    obtain ⟨i', zv, hi', hz2, hv, _⟩ := zeroV_ok (e := e) hz
    rw [hi] at hi'; injection hi' with hi'; subst hi'
    have hbo : P.bytesOf el = i.bytes := by simp [Program.bytesOf, hi]
    rw [hbo] at c3
    have hsz : zv.cells.size = P.cellsOf el := by rw [← c1]; have := hv.cells.length; simpa using this.symm
    have hzl : 0 < z.cells.length := by omega
    have hcs : VRs e (reps z.cells n) (Builtin.zeroCells zv.cells n).toList := by
      have := reps_VRs (n := n * zv.cells.size) (c := n) hv.cells hzl (by rw [hsz, c1])
      exact this
    have hlen : (reps z.cells n).length = n * P.cellsOf el := by rw [reps_len, c1]
    exact appendC_ok hk hr hs hf hx hcs (by rw [← hcs.length, hlen]) hi
      (fun b l c w' hroom hst => run_append_hereZ h0 h1 ht hu hi hz2 c2 (by omega) c3 hroom hst)
      (fun b l c os zv' hz' hfo hg hb => by
        rw [hz2] at hz'; injection hz' with hz'; subst hz'
        exact run_append_newZ h0 h1 ht hu hi hz2 c2 (by omega) c3 hfo hg hb)
  · subst hk; cases hr
end Go.Ev
namespace Go.Ev
variable {D : List Deferred}
variable {P : Program} {pr : Prims} {ih : Rn} {e : Env} {t : T V} {h : H} {s : Nat} {w : World} {a : Act} {r : RO} {k : K} {o : Oper}
theorem ER.length : ∀ {l ms}, ER e l ms → l.length = ms.length
  | _, _, .nil => rfl
  | _, _, .cons _ _ t => by simp [ER.length t]
theorem lenV_ok {t : TypeId} {x : V} {f : Nat → RO} {at_ : Array TypeId} {ty : TypeId} (hk : lenV h x f = r) (hr : r.good) (hs : Sim e h w) {xv : Value} (hx : VR e x xv) (h0 : at_[0]? = some t) (hl : lenOk P t x = true) :
    ∃ n, f n = r ∧ (Builtin.len_ at_ ty #[xv]).run P w = .ok (goInt n) w := by
  unfold lenOk at hl
  split at hl
  · rename_i hu; cases hx; exact ⟨_, hk, by simp [Builtin.len_, h0, run_under hu, Result.andThen]⟩
  · rename_i hu; cases hx; exact ⟨_, hk, by simp [Builtin.len_, h0, run_under hu, Result.andThen]⟩
  · rename_i hu; cases hx <;> exact ⟨_, hk, by simp [Builtin.len_, h0, run_under hu, Result.andThen]⟩
  · rename_i hu; cases hx <;> exact ⟨_, hk, by simp [Builtin.len_, h0, run_under hu, Result.andThen]⟩
  · rename_i hu; cases hx; exact ⟨_, hk, by simp [Builtin.len_, h0, run_under hu, Result.andThen]⟩
  · rename_i hu; cases hx; exact ⟨_, hk, by simp [Builtin.len_, h0, run_under hu, Result.andThen]⟩
  · rename_i hu
    cases hx with
    | map hb =>
      simp only [lenV] at hk
      split at hk
      · rename_i es c hbl
        obtain ⟨hl, _, ms, hw, hes⟩ := map_at hs hbl hb
        have hg := MapKept.run_getObj_map (P := P) hw
        exact ⟨_, hk, by simp [Builtin.len_, h0, run_under hu, Result.andThen, hg, hes.length]⟩
      · subst hk; cases hr
  · cases hl
theorem ext_max : ∀ {l : List V} {kd : IntKind} {x : Int} {f : V → RO} (hk : ext ilt kd l x f = r) (hr : r.good) {xs : List Value} (hl : VRs e l xs), ∃ v z, f v = r ∧ VR e v z ∧ (xs.foldlM Builtin.max2 (.int kd x)).run P w = .ok z w
  | [], kd, x, f, hk, hr, _, .nil => ⟨_, _, hk, .int _ _, rfl⟩
  | v :: l, kd, x, f, hk, hr, _, .cons (x := y) hv ht => by
    by_cases hint : ∃ kb b, v = .int kb b
    · obtain ⟨kb, b, rfl⟩ := hint
      cases hv
      change ext ilt kd l (bif ilt x b then b else x) f = r at hk
      obtain ⟨u, z, h1, h2, h3⟩ := ext_max hk hr ht
      refine ⟨u, z, h1, h2, ?_⟩
      have hc : (bif ilt x b then b else x) = if b > x then b else x := by rw [ilt_eq]; by_cases hxb : x < b <;> simp [hxb]
      rw [hc] at h3
      simpa [List.foldlM_cons, Builtin.max2, Result.andThen] using h3
    · cases v <;> first | exact absurd ⟨_, _, rfl⟩ hint | (change RO.err 110 = r at hk; subst hk; cases hr)
theorem ext_min : ∀ {l : List V} {kd : IntKind} {x : Int} {f : V → RO} (hk : ext (fun a b => ilt b a) kd l x f = r) (hr : r.good) {xs : List Value} (hl : VRs e l xs), ∃ v z, f v = r ∧ VR e v z ∧ (xs.foldlM Builtin.min2 (.int kd x)).run P w = .ok z w
  | [], kd, x, f, hk, hr, _, .nil => ⟨_, _, hk, .int _ _, rfl⟩
  | v :: l, kd, x, f, hk, hr, _, .cons (x := y) hv ht => by
    by_cases hint : ∃ kb b, v = .int kb b
    · obtain ⟨kb, b, rfl⟩ := hint
      cases hv
      change ext (fun a b => ilt b a) kd l (bif ilt b x then b else x) f = r at hk
      obtain ⟨u, z, h1, h2, h3⟩ := ext_min hk hr ht
      refine ⟨u, z, h1, h2, ?_⟩
      have hc : (bif ilt b x then b else x) = if b < x then b else x := by rw [ilt_eq]; by_cases hxb : b < x <;> simp [hxb]
      rw [hc] at h3
      simpa [List.foldlM_cons, Builtin.min2, Result.andThen] using h3
    · cases v <;> first | exact absurd ⟨_, _, rfl⟩ hint | (change RO.err 110 = r at hk; subst hk; cases hr)
theorem sxOf_val {x : V} {k : IntKind} {a : SX} (h : sxOf x = some (k, a)) {xv : Value} (hx : VR e x xv) : xv = .int k (a.den e.base.ρ) := by
  unfold sxOf at h
  split at h
  · injection h with h; injection h with h1 h2; subst h1 h2
    cases hx with
    | sx h1 _ => rw [h1]
  · injection h with h; injection h with h1 h2; subst h1 h2
    cases hx; rfl
  · cases h
theorem lext_max {x y : V} {f : V → RO} (hk : lext .leq .geq x y f = r) (hr : r.good) {xv yv : Value} (hx : VR e x xv) (hy : VR e y yv) : ∃ v z, f v = r ∧ VR e v z ∧ ([yv].foldlM Builtin.max2 xv).run P w = .ok z w := by
  unfold lext at hk
  split at hk
  · rename_i k a k' b h1 h2
    obtain ⟨hkk, hk2⟩ := bif_ok hk (by simp [RO.good]) hr
    clear hk
    have := keq_eq hkk
    subst this
    have e1 := sxOf_val h1 hx
    have e2 := sxOf_val h2 hy
    split at hk2
    · rename_i hl
      obtain ⟨_, g2⟩ := lcmp_ok (show Smalls e.base.ρ from e.base.sm) hl
      have g2 : a.den e.base.ρ ≤ b.den e.base.ρ := by simpa [cmpB] using g2
      refine ⟨_, _, hk2, hy, ?_⟩
      subst e1 e2
      by_cases hlt : a.den e.base.ρ < b.den e.base.ρ
      · simp [List.foldlM_cons, Builtin.max2, Result.andThen, hlt]
      · have : a.den e.base.ρ = b.den e.base.ρ := by omega
        simp [List.foldlM_cons, Builtin.max2, Result.andThen, this]
    · rename_i hl
      obtain ⟨_, g2⟩ := lcmp_ok (show Smalls e.base.ρ from e.base.sm) hl
      have g2 : ¬ (a.den e.base.ρ ≤ b.den e.base.ρ) := by simpa [cmpB] using g2
      refine ⟨_, _, hk2, hx, ?_⟩
      subst e1 e2
      have hlt : ¬ (a.den e.base.ρ < b.den e.base.ρ) := by omega
      simp [List.foldlM_cons, Builtin.max2, Result.andThen, hlt]
    · split at hk2
      · rename_i hl
        obtain ⟨_, g2⟩ := lcmp_ok (show Smalls e.base.ρ from e.base.sm) hl
        have g2 : b.den e.base.ρ ≤ a.den e.base.ρ := by simpa [cmpB] using g2
        refine ⟨_, _, hk2, hx, ?_⟩
        subst e1 e2
        have hlt : ¬ (a.den e.base.ρ < b.den e.base.ρ) := by omega
        simp [List.foldlM_cons, Builtin.max2, Result.andThen, hlt]
      · subst hk2; cases hr
  · subst hk; cases hr
theorem lext_min {x y : V} {f : V → RO} (hk : lext .geq .leq x y f = r) (hr : r.good) {xv yv : Value} (hx : VR e x xv) (hy : VR e y yv) : ∃ v z, f v = r ∧ VR e v z ∧ ([yv].foldlM Builtin.min2 xv).run P w = .ok z w := by
  unfold lext at hk
  split at hk
  · rename_i k a k' b h1 h2
    obtain ⟨hkk, hk2⟩ := bif_ok hk (by simp [RO.good]) hr
    clear hk
    have := keq_eq hkk
    subst this
    have e1 := sxOf_val h1 hx
    have e2 := sxOf_val h2 hy
    split at hk2
    · rename_i hl
      obtain ⟨_, g2⟩ := lcmp_ok (show Smalls e.base.ρ from e.base.sm) hl
      have g2 : b.den e.base.ρ ≤ a.den e.base.ρ := by simpa [cmpB] using g2
      refine ⟨_, _, hk2, hy, ?_⟩
      subst e1 e2
      by_cases hlt : b.den e.base.ρ < a.den e.base.ρ
      · simp [List.foldlM_cons, Builtin.min2, Result.andThen, hlt]
      · have : a.den e.base.ρ = b.den e.base.ρ := by omega
        simp [List.foldlM_cons, Builtin.min2, Result.andThen, this]
    · rename_i hl
      obtain ⟨_, g2⟩ := lcmp_ok (show Smalls e.base.ρ from e.base.sm) hl
      have g2 : ¬ (b.den e.base.ρ ≤ a.den e.base.ρ) := by simpa [cmpB] using g2
      refine ⟨_, _, hk2, hx, ?_⟩
      subst e1 e2
      have hlt : ¬ (b.den e.base.ρ < a.den e.base.ρ) := by omega
      simp [List.foldlM_cons, Builtin.min2, Result.andThen, hlt]
    · split at hk2
      · rename_i hl
        obtain ⟨_, g2⟩ := lcmp_ok (show Smalls e.base.ρ from e.base.sm) hl
        have g2 : a.den e.base.ρ ≤ b.den e.base.ρ := by simpa [cmpB] using g2
        refine ⟨_, _, hk2, hx, ?_⟩
        subst e1 e2
        have hlt : ¬ (b.den e.base.ρ < a.den e.base.ρ) := by omega
        simp [List.foldlM_cons, Builtin.min2, Result.andThen, hlt]
      · subst hk2; cases hr
  · subst hk; cases hr
theorem copyTo_ok {x y : V} {n z : Nat} {cs : List V} (hk : copyTo h x n cs z s k = r) (hr : r.good) (hs : Sim e h w) (hf : Free e s) {xv yv : Value} {xs : List Value} {at_ : Array TypeId} {t el ty : TypeId} {i : TypeInfo} (hx : VR e x xv)
    (hcs : VRs e cs xs) (hl : xs.length = n * z) (h0 : at_[0]? = some t) (hu : P.underlying t = some (.slice el)) (hi : P.info? el = some i) (hz : z = P.cellsOf el) (hlen : (Builtin.lenOf yv).run P w = .ok n w)
    (hfc : ∀ m, m ≤ n → (Builtin.firstCells z m yv).run P w = .ok ⟨xs.take (m * z)⟩ w) :
    ∃ v h' s', k v h' s' = r ∧ ∃ u w', (Builtin.copy_ at_ ty #[xv, yv]).run P w = .ok u w' ∧ Good e s h w v h' s' u w' := by
  subst hz
  have gen : ∀ (b : Option Addr) (l c : Nat) (w' : World), (match b with | some a => storeCells a (xs.take (min n l * P.cellsOf el)) | none => pure () : Sem Unit).run P w = .ok () w' → (Builtin.copy_ at_ ty #[.slice b l c, yv]).run P w = .ok (.int .i64 (min n l : Nat)) w' := by
    intro b l c w' hw'
    have hm := hfc (min n l) (Nat.min_le_left _ _)
    cases b with
    | none =>
      have : w' = w := by simp only [Sem.run_pure] at hw'; injection hw' with _ h2; exact h2.symm
      subst this
      simp [Builtin.copy_, h0, run_under hu, Result.andThen, hlen, run_sizeOf' hi, hm, goInt]
    | some b =>
      simp only at hw'
      simp [Builtin.copy_, h0, run_under hu, Result.andThen, hlen, run_sizeOf' hi, hm, hw', goInt]
  unfold copyTo at hk
  split at hk
  · cases hx
    refine ⟨_, h, s, hk, _, w, gen none 0 0 w rfl, e, ?_, Post.refl hs hf⟩
    rw [Nat.min_zero]; exact .int _ _
  · rename_i b off l c
    rw [imin_eq] at hk
    cases hz : Nat.beq (min n l) 0 with
    | true =>
      rw [hz] at hk
      have hz := Nat.eq_of_beq_eq_true hz
      obtain ⟨bv, cv, rfl⟩ : ∃ bv cv, xv = .slice bv l cv := by cases hx <;> exact ⟨_, _, rfl⟩
      refine ⟨_, h, s, hk, _, w, gen bv l cv w (by rw [hz]; cases bv <;> simp [storeCells]), e, ?_, Post.refl hs hf⟩
      rw [hz]; exact .int _ _
    | false =>
      rw [hz] at hk
      have hz := Nat.ne_of_beq_eq_false hz
      simp only [cond_false] at hk
      have hk' := hk
      cases hx with
      | @sl _ _ _ _ nb sh sz hb hlc =>
        obtain ⟨h', w', k1, k2, k3⟩ := storeV_ok (P := P) hk' hr hs hf hb (hcs.take _)
        exact ⟨_, h', s, k1, _, w', gen (some ⟨nb, sh + off, none⟩) l c w' k2, e, .int _ _, k3⟩
      | sl0 hb => simp at hz
  · rename_i b off l z0
    rw [imin_eq] at hk
    cases hz : Nat.beq (min n l) 0 with
    | true =>
      rw [hz] at hk
      have hz := Nat.eq_of_beq_eq_true hz
      obtain ⟨bv, cv, rfl⟩ : ∃ bv cv, xv = .slice bv l cv := by cases hx <;> exact ⟨_, _, rfl⟩
      refine ⟨_, h, s, hk, _, w, gen bv l cv w (by rw [hz]; cases bv <;> simp [storeCells]), e, ?_, Post.refl hs hf⟩
      rw [hz]; exact .int _ _
    | false =>
      rw [hz] at hk
      have hz := Nat.ne_of_beq_eq_false hz
      simp only [cond_false] at hk
      have hk' := hk
      cases hx with
      | @slu _ _ _ _ c nb sh sz hb hlc hcz =>
        obtain ⟨h', w', k1, k2, k3⟩ := storeV_ok (P := P) hk' hr hs hf hb (hcs.take _)
        exact ⟨_, h', s, k1, _, w', gen (some ⟨nb, sh + off, none⟩) l c w' k2, e, .int _ _, k3⟩
      | slu0 hb hx0 => simp at hz
  · subst hk; cases hr
end Go.Ev
