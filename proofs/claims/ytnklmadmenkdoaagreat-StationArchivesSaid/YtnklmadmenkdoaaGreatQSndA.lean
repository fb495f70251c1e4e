/- Bytes in walks: the append of bytes to a row; the writer of bytes. Integers in a variable number of bytes, first the least; bytes of arguments. No program in sight. -/
import Derived.Test.YtnklmadmenkdoaaGreatQKeep
import Derived.Test.YtnklmadmenkdoaaGreatQSepc
import Derived.Test.YtnklmadmenkdoaaGreatQStr
import Derived.Test.YtnklmadmenkdoaaGreatQStnA
import Derived.Maps.AppendAt
import Derived.Laws.AppendOwnNone
import Derived.Outline
import Derived.WalkSpells
import Derived.Calls
set_option linter.unusedVariables false
set_option linter.unusedSimpArgs false
namespace Go.Proofs.Num
open Go.RowKit
theorem news_blk {w : World} {b : Nat} {cs : Array Value} {t : TypeId} {news : List Value} (h : w.heap[b]? = some (.cells cs t (0, 0))) (hn : cs.toList = news) : ∀ j u, news[j]? = some u → w.cell? ((⟨b, 0, none⟩ : Addr).add j) = some u := by
  intro j u hu
  subst hn
  have e : ((⟨b, 0, none⟩ : Addr).add j) = ⟨b, j, none⟩ := by
    cases j with
    | zero => rfl
    | succ j => simp [Addr.add]
  rw [e]
  exact cell_blk h (by simpa using hu)
theorem u8s_one (l : List Nat) : ∀ u ∈ u8s l, u.oneCell' = true := by
  intro u hu; simp only [u8s, List.mem_map] at hu; obtain ⟨x, _, rfl⟩ := hu; rfl
theorem own_nil (w : World) (b e s : Nat) : w.ownsRow b e s (.slice none 0 0) 0 [] := ⟨by simp, Or.inl ⟨rfl, rfl⟩⟩
theorem u8s_app (a b : List Nat) : u8s (a ++ b) = u8s a ++ u8s b := by simp [u8s]
theorem Sts.rdRow {W w : World} {l : List HProp} {e : TypeId} {v : Value} {n : Nat} {xs : List Value} (h : Sts W (rowP e 1 v n xs :: l) w) (hn : xs.length = n) : Rd w v xs := Rd.of_own (Sts.rowOwn h) hn
theorem plain_add (b o n : Nat) : (⟨b, o, none⟩ : Addr).add n = ⟨b, o + n, none⟩ := by
  cases n with
  | zero => rfl
  | succ n => simp [Addr.add]
end Go.Proofs.Num
namespace Go.Proofs.YtnklmadmenkdoaaGreat
open Go.RowKit Go.Proofs.Num
theorem info8 : (Tryz.prog.info? 5).map (fun i => (i.zero, i.size, i.bytes)) = some (some (.int .u8 0), 1, 1) := by kernel_rfl
set_option maxRecDepth 100000 in
/-- An append of bytes to the row at the head. -/
theorem app8_run {W w : World} {L : List HProp} {v src : Value} {l m : List Nat} (ty : TypeId) (hS : Sts W (rowP 5 1 v l.length (u8s l) :: L) w) (hL : ∀ B ∈ L, Stable B) (hrd : Rd w src (u8s m)) (hne : ∀ c, src = .slice none 0 c → c = 0) (hlen : l.length + m.length < 1000000000) :
    ∃ v' w', (Builtin.append_ #[35, 35] ty #[v, src]).run Tryz.prog w = .ok v' w' ∧ Sts W (rowP 5 1 v' (l.length + m.length) (u8s (l ++ m)) :: L) w' := by
  obtain ⟨i0, hi, hz0, hz1, hz2⟩ := info_parts info8
  obtain ⟨a, c, rfl, hc, hx⟩ := hrd
  cases a with
  | none =>
    have hm : m = [] := by
      rcases m with _ | ⟨x, m⟩
      · rfl
      · obtain ⟨b, off, e, _⟩ := hx 0 (by simp [u8s]); cases e
    subst hm
    have hc0 := hne c rfl
    subst hc0
    exact ⟨v, w, run_append_owned_none (P := Tryz.prog) (w := w) 0 35 ty 5 i0 1 Tryz.underlying35 hi v l.length (u8s l) (Sts.rowOwn hS), by rw [List.append_nil]; exact hS⟩
  | some ad =>
    have hnews : ∀ j u, (u8s m)[j]? = some u → w.cell? (ad.add j) = some u := by
      intro j u hj
      obtain ⟨hlt, hju⟩ := List.getElem?_eq_some_iff.1 hj
      obtain ⟨b, off, g1, g2, g3⟩ := hx j hlt
      injection g1 with g1
      subst g1
      rw [plain_add, g3, hju]
    obtain ⟨v', w', hrun, hown, hgr, _, hbl⟩ := run_append_own_at (P := Tryz.prog) w 0 35 ty 5 i0 (.int .u8 0) 1 1 Tryz.underlying35 hi hz0 hz1 hz2 rfl (by decide) v l.length (u8s l) (Sts.rowOwn hS) ad m.length c (u8s m) (by rw [u8s_len, Nat.mul_one]) hnews (u8s_one m) (by unfold maxLen; omega) (by omega) (Nat.zero_le _)
    have hS2 := Sts.grown hL hS hgr hown (by
      intro k hk
      rcases hbl with h | h
      · exact Or.inl (h ▸ hk)
      · rw [h] at hk; injection hk with hk; exact Or.inr (by omega))
    rw [show u8s l ++ u8s m = u8s (l ++ m) by simp [u8s]] at hS2
    rw [u8s_len]
    exact ⟨v', w', hrun, hS2⟩
theorem wpList_app8 {ops : Array Oper} {rest : List Oper} {o : Oper} {a : Act} {Q : Exit → Act → World → Prop} {W w : World} {L : List HProp} {v src : Value} {l m : List Nat} (hgd : o.guard = none) (s x : Operand)
    (ho : o.op = .call { callee := .builtin .append, args := #[s, x], argTypes := #[35, 35] }) (hS : Sts W (rowP 5 1 v l.length (u8s l) :: L) w) (hL : ∀ B ∈ L, Stable B)
    (hs : a.eval s = v) (hx : a.eval x = src) (hrd : Rd w src (u8s m)) (hne : ∀ c, src = .slice none 0 c → c = 0) (hlen : l.length + m.length < 1000000000)
    (h : ∀ v' w', Sts W (rowP 5 1 v' (l.length + m.length) (u8s (l ++ m)) :: L) w' → wpList Tryz.prog ops Q rest (a.put o.dst v') w') : wpList Tryz.prog ops Q (o :: rest) a w := by
  refine wpList_plain hgd fun K hK => ?_
  obtain ⟨v', w', hrun, hS2⟩ := app8_run o.type hS hL hrd hne hlen
  unfold Oper.wp
  simp [execOp, ho, resolve, invoke, builtin, hs, hx, hrun, Result.andThen]
  exact hK _ _ (h v' w' hS2)
theorem eff_app8 {W w : World} {o : Oper} {a : Act} {D : WP} {K : Act → WP → WP → Prop} {v src : Value} {l m : List Nat} {L : List HProp} {X : Prop} (hL : ∀ B ∈ L, Stable B) (hS : Sts W (rowP 5 1 v l.length (u8s l) :: L) w)
    (s x : Operand) (ho : o.op = .call { callee := .builtin .append, args := #[s, x], argTypes := #[35, 35] }) (hs : a.eval s = v) (hx : a.eval x = src) (hR : Rd w src (u8s m)) (hne : ∀ c, src = .slice none 0 c → c = 0) (hlen : l.length + m.length < 1000000000) (hD : ∀ y v', Sts W (rowP 5 1 v' (l.length + m.length) (u8s (l ++ m)) :: L) y → D y)
    (hk : ∀ v', K (a.put o.dst v') D (fun y => Sts W (rowP 5 1 v' (l.length + m.length) (u8s (l ++ m)) :: L) y)) : effUpon Tryz.prog X o.dst a D K ((execOp a.eval o).run Tryz.prog w) := by
  obtain ⟨v', w', hrun, hS2⟩ := app8_run o.type hS hL hR hne hlen
  have hr : (execOp a.eval o).run Tryz.prog w = .ok (.value v') w' := by
    simp [execOp, ho, resolve, invoke, builtin, hs, hx, hrun, Result.andThen]
  exact eff_value D (fun y => Sts W (rowP 5 1 v' (l.length + m.length) (u8s (l ++ m)) :: L) y) hr hS2 (fun y hy => hD y v' hy) (fun _ h => h) (hk v')
/-- A writer at block p with the bytes bs, whose slice is v. -/
def writerO (p : Nat) (v : Value) (bs : List Nat) : List HProp := [blkP p (.cells #[.bool true, v] 304 (0, 0)), rowP 5 1 v bs.length (u8s bs)]
def writerP (p : Nat) (bs : List Nat) : HProp := fun w F => ∃ v, star (blkP p (.cells #[.bool true, v] 304 (0, 0))) (rowP 5 1 v bs.length (u8s bs)) w F
theorem writerP_stable (p : Nat) (bs : List Nat) : Stable (writerP p bs) where
  dom := by rintro w F ⟨v, h⟩; exact (star_stable (blkP_stable _ _) (rowP_stable _ _ _ _ _)).dom h
  keep := by rintro w w' F S ⟨v, h⟩ hk hS; exact ⟨v, (star_stable (blkP_stable _ _) (rowP_stable _ _ _ _ _)).keep h hk hS⟩
theorem Sts.openW {W w : World} {p : Nat} {bs : List Nat} {l : List HProp} (h : Sts W (writerP p bs :: l) w) : ∃ v, Sts W (writerO p v bs ++ l) w := by
  obtain ⟨F, ⟨F1, F2, ⟨v, a⟩, r⟩, hb, hn⟩ := h
  exact ⟨v, Sts.split ⟨F, ⟨F1, F2, a, r⟩, hb, hn⟩⟩
theorem Sts.closeW {W w : World} {p : Nat} {v : Value} {bs : List Nat} {l : List HProp} (h : Sts W (writerO p v bs ++ l) w) : Sts W (writerP p bs :: l) w :=
  Sts.join h (fun F hF => ⟨v, hF⟩)
theorem cWOk (w : World) (p : Nat) (h : w.cell? ⟨p, 0, none⟩ = some (.bool true)) : Calls Tryz.prog 195 #[.pointer (some ⟨p, 0, none⟩)] w fun e w' => e = .returned (.bool true) ∧ w = w' := by
  go_enter Tryz.func195, Tryz.ntmps195
  go_wp2
  go_ret
  exact ⟨rfl, rfl⟩
theorem wNewWriter {W w : World} {l : List HProp} (hl : ∀ B ∈ l, Stable B) (hs : Sts W l w) : Calls Tryz.prog 110 #[] w fun e w' => ∃ p : Nat, e = .returned (.pointer (some ⟨p, 0, none⟩)) ∧ Sts W (writerP p [] :: l) w' := by
  have h1 := hid ((hs.rowNil 5).alloc (stabC (rowP_stable _ _ _ _ _) hl) (.cells #[.bool true, .slice none 0 0] 304))
  clear hs
  go_enter Tryz.func110, Tryz.ntmps110
  go_wp2_with fail
  go_ret
  exact ⟨_, rfl, Sts.closeW (v := .slice none 0 0) (bs := []) h1.out⟩
def Any : World → Prop := fun _ => True
theorem own_pos {w : World} {b : Nat} {e : TypeId} {v : Value} {n : Nat} {xs : List Value} (h : w.ownsRow b e 1 v n xs) (hn : 1 ≤ n) : ∃ g cap, v = .slice (some ⟨g, 0, none⟩) n cap := by
  rcases h.2 with ⟨_, h2⟩ | ⟨g, cap, cur, hv, _⟩
  · omega
  · exact ⟨g, cap, hv⟩
theorem blk_rd {w : World} {g n : Nat} {cs : Array Value} {t : TypeId} {xs : List Value} (h : w.heap[g]? = some (.cells cs t (0, 0))) (hc : cs.toList = xs) (hn : xs.length = n) (hm : n ≤ 1000000) : Rd w (.slice (some ⟨g, 0, none⟩) n n) xs := by
  subst hc; subst hn
  refine ⟨_, _, rfl, ⟨Nat.le_refl _, by unfold maxLen; omega⟩, fun j hj => ⟨g, 0, rfl, lt_of_heap h, ?_⟩⟩
  rw [Nat.zero_add]
  exact cell_blk h (by simp)
set_option maxRecDepth 100000 in
/-- An append of bytes to the row at the head, in a region that draws its order. -/
theorem ord_app8 {W w : World} {o : Oper} {a : Act} {K : Act → WP → WP → Prop} {v src : Value} {k : Nat} {ys zs : List Nat} {L : List HProp} {X : Prop} (hL : ∀ B ∈ L, Stable B) (hS : Sts W (rowP 5 1 v k (u8s ys) :: L) w)
    (s x : Operand) (ho : o.op = .call { callee := .builtin .append, args := #[s, x], argTypes := #[35, 35] }) (hs : a.eval s = v) (hx : a.eval x = src) (hR : Rd w src (u8s zs)) (hne : ∃ ad m c, src = .slice (some ad) m c) (hlen : k + zs.length ≤ 2000000000)
    (hk : ∀ v', K (a.put o.dst v') Any (fun y => Sts W (rowP 5 1 v' (k + zs.length) (u8s (ys ++ zs)) :: L) y)) : effUpon Tryz.prog X o.dst a Any K ((execOp a.eval o).run Tryz.prog w) := by
  have hown := hS.rowOwn
  obtain ⟨ad, m, c, rfl⟩ := hne
  obtain ⟨a1, c1, e, _, hc⟩ := hR
  injection e with e1 e2 e3
  rw [u8s_len] at e2
  subst e1; subst e2; subst e3
  obtain ⟨i0, hi, hz0, hz1, hz2⟩ := info_parts info8
  have hnews : ∀ j u, (u8s zs)[j]? = some u → w.cell? (ad.add j) = some u := by
    intro j u hj
    have hjl : j < (u8s zs).length := by
      rcases Nat.lt_or_ge j (u8s zs).length with h | h
      · exact h
      · rw [List.getElem?_eq_none h] at hj; cases hj
    obtain ⟨b, off, h1, h2, h3⟩ := hc j hjl
    injection h1 with h1
    subst h1
    rw [plain_add, h3]
    rw [List.getElem?_eq_getElem hjl] at hj; exact hj
  obtain ⟨v', w', hrun, hown', hgr, _, hblk⟩ := run_append_own_at (P := Tryz.prog) w 0 35 o.type 5 i0 (.int .u8 0) 1 1 Tryz.underlying35 hi hz0 hz1 hz2 rfl (by decide) v k (u8s ys) hown ad zs.length c (u8s zs) (by simp [u8s_len]) hnews (u8s_one zs) (by unfold maxLen; omega) (by omega) (Nat.zero_le _)
  have hg := hS.grown hL hgr hown' (by
    intro q hq
    rcases hblk with h | h
    · exact Or.inl (h ▸ hq)
    · rw [h] at hq; injection hq with hq; exact Or.inr (by omega))
  have hr : (execOp a.eval o).run Tryz.prog w = .ok (.value v') w' := by
    simp [execOp, ho, resolve, invoke, builtin, hs, hx, hrun, Result.andThen]
  exact eff_value Any (fun y => Sts W (rowP 5 1 v' (k + zs.length) (u8s (ys ++ zs)) :: L) y) hr (by show Sts _ _ _; rw [u8s_app]; exact hg) (fun _ _ => trivial) (fun _ h => h) (hk v')
section
variable {W w : World} {p : Nat} {bs : List Nat} {l : List HProp}
theorem wcells {v : Value} (h : Sts W (writerO p v bs ++ l) w) : w.cell? ⟨p, 0, none⟩ = some (.bool true) ∧ w.cell? ⟨p, 1, none⟩ = some v ∧ w.frozen? ⟨p, 1, none⟩ = false :=
  ⟨(Sts.boxCell h 0 _ rfl).1, (Sts.boxCell h 1 _ rfl).1, (Sts.boxCell h 1 _ rfl).2⟩
set_option maxRecDepth 100000 in
set_option maxHeartbeats 1000000 in
theorem wUint (hl : ∀ B ∈ l, Stable B) (hs : Sts W (writerP p bs :: l) w) (x n : Nat) (hx : x < 18446744073709551616) (h1 : 1 ≤ n) (h8 : n ≤ 8) (hbs : bs.length < 1000000000) :
    Calls Tryz.prog 111 #[.pointer (some ⟨p, 0, none⟩), .int .u64 x, .int .i64 n] w fun e w' => e = .returned (.pointer (some ⟨p, 0, none⟩)) ∧ Sts W (writerP p (bs ++ Oct.be n x) :: l) w' := by
  obtain ⟨v, h0⟩ := Sts.openW hs
  obtain ⟨c0, c1, f1⟩ := wcells h0
  have H0 := hid h0
  clear h0 hs
  go_enter Tryz.func111, Tryz.ntmps111
  go_wp2_with (go_at_call 195; refine (cWOk _ _ (by assumption)).mono ?_; rintro e w' ⟨rfl, rfl⟩)
  go_loopw [7] (fun i wr => ∃ j : Nat, j ≤ n ∧ i = .int .i64 ((j : Int) - 1) ∧ ∃ v ys, ys ++ Oct.be j x = bs ++ Oct.be n x ∧ Sts W (writerO p v ys ++ l) wr) (fun i _ => ((intOf i) + 1).toNat)
  case atStart => exact ⟨n, Nat.le_refl _, by simp, v, bs, rfl, H0.out⟩
  case round =>
    obtain ⟨j, hj, rfl, v, ys, hys, hs⟩ := hrel
    clear H0 c0 c1 f1
    obtain ⟨c0, c1, f1⟩ := wcells hs
    have HS := hid hs
    have HY := hid hys
    have hyl : ys.length < 1000000010 := by have := congrArg List.length hys; simp [Oct.be_len] at this; omega
    clear hs hys
    by_cases hlt : 0 < j
    · obtain ⟨k, rfl⟩ : ∃ k, j = k + 1 := ⟨j - 1, by omega⟩
      have e1 : ((k + 1 : Nat) : Int) - 1 = (k : Int) := by omega
      rw [e1]
      have e2 : IntKind.i64.wrap (8 * (k : Int)) = 8 * (k : Int) := by rw [IntKind.wrap_i64]; omega
      have e3 : (8 * (k : Int)).toNat = 8 * k := by omega
      have e4 : (0 : Int) ≤ 8 * (k : Int) := by omega
      clear e1
      go_wp2_with fail
      refine wp_region_ord (.pure 0 (.pure 1 (.pure 2 (.pure 3 (.pure 5 (.pure 6 (.pure 7 (.pure 8 (.pure 9 (.eff2 4 10 (.eff 10 (.eff 11 (.pure 12 (.pure 13 (.eff 14 .nil))))) (.eff 4 (.eff 11 (.pure 12 (.pure 13 (.eff 14 .nil))))))))))))))) Any (fun y => Sts W (writerO p v ys ++ l) y) (by kernel_rfl) (by kernel_rfl) (HS.out.drew (stabC (blkP_stable _ _) (stabC (rowP_stable _ _ _ _ _) hl))) (fun _ _ => trivial) ?_
      iterate 9
        (apply ord_pure (ho := rfl)
         · go_simp
         · intro x hx; go_simp; rfl
         apply ord_norm
         · go_simp; rfl)
      have hby : IntKind.u8.wrap ((x : Int) / 2 ^ (8 * k)) = ((x / 2 ^ (8 * k) % 256 : Nat) : Int) := by rw [IntKind.wrap_u8]; simp
      rw [hby]
      clear hby
      obtain ⟨z, hz⟩ : ∃ z, z = x / 2 ^ (8 * k) % 256 := ⟨_, rfl⟩
      rw [← hz]
      have HZ := hid hz
      clear hz
      refine ord_eff2 ?_ ?_
      · apply ord_eff (ho := rfl)
        · go_simp
        intro y hy
        obtain ⟨d0, d1, d2⟩ := wcells (l := l) (v := v) (bs := ys) (W := W) (p := p) (w := y) hy
        refine eff_value Any (fun y => Sts W (writerO p v ys ++ l) y) (v := v) (w := y) ?_ hy (fun _ _ => trivial) (fun _ h => h) ?_
        · go_simp
        apply ord_norm
        · go_simp; rfl
        clear d0 d1 d2 hy
        apply ord_eff (ho := rfl)
        · go_simp
        intro y hy
        have hst := stabC (blkP_stable p (.cells #[.bool true, v] 304 (0, 0))) (stabC (rowP_stable 5 1 v ys.length (u8s ys)) hl)
        have hy2 := Sts.alloc hst hy (.cells #[.int .u8 (z : Nat)] 5)
        refine eff_value Any (fun y' => Sts W (blkP y.heap.size (.cells #[.int .u8 (z : Nat)] 5 (0, 0)) :: (writerO p v ys ++ l)) y') (v := .slice (some ⟨y.heap.size, 0, none⟩) 1 1) (w := y.alloc (.cells #[.int .u8 (z : Nat)] 5)) ?_ hy2 (fun _ _ => trivial) (fun _ h => h) ?_
        · go_simp
        apply ord_norm
        · go_simp; rfl
        clear hy hy2 hst
        generalize y.heap.size = gx at *
        apply ord_eff (ho := rfl)
        · go_simp
        intro y hy
        have hy3 : Sts W (rowP 5 1 v ys.length (u8s ys) :: blkP gx (.cells #[.int .u8 (z : Nat)] 5 (0, 0)) :: blkP p (.cells #[.bool true, v] 304 (0, 0)) :: l) y := Sts.third hy
        have hR : Rd y (.slice (some ⟨gx, 0, none⟩) 1 1) (u8s [z]) := by
          obtain ⟨F, q⟩ := Sts.head hy
          exact blk_rd q.1 rfl rfl (by decide)
        refine ord_app8 (stabC (blkP_stable _ _) (stabC (blkP_stable _ _) hl)) hy3 (.tmp 28) (.tmp 34) rfl ?_ ?_ hR ⟨_, _, _, rfl⟩ (by simp; omega) ?_
        · go_simp
        · go_simp
        intro v1
        apply ord_norm
        · go_simp; rfl
        clear hy hy3 hR
        iterate 2
          (apply ord_pure (ho := rfl)
           · go_simp
           · intro y hy; go_simp; rfl
           apply ord_norm
           · go_simp; rfl)
        apply ord_eff (ho := rfl)
        · go_simp
        intro y hy
        obtain ⟨g1, cap1, rfl⟩ := own_pos hy.rowOwn (by simp)
        have hy4 := Sts.third hy
        obtain ⟨d1, d2⟩ := hy4.boxCell 1 _ rfl
        have hy5 := hy4.store (stabC (rowP_stable _ _ _ _ _) (stabC (blkP_stable _ _) hl)) (j := 1) (.slice (some ⟨g1, 0, none⟩) (ys.length + [z].length) cap1)
        have hy6 : Sts W (writerO p (.slice (some ⟨g1, 0, none⟩) (ys.length + [z].length) cap1) (ys ++ [z]) ++ l) (y.setCell ⟨p, 1, none⟩ (.slice (some ⟨g1, 0, none⟩) (ys.length + [z].length) cap1)) := by
          have h := (Sts.third hy5).tail
          unfold writerO
          rw [show (ys ++ [z]).length = ys.length + [z].length by simp]
          exact h
        refine eff_skip Any (fun y' => Sts W (writerO p (.slice (some ⟨g1, 0, none⟩) (ys.length + [z].length) cap1) (ys ++ [z]) ++ l) y') (w := y.setCell ⟨p, 1, none⟩ (.slice (some ⟨g1, 0, none⟩) (ys.length + [z].length) cap1)) ?_ hy6 (fun _ _ => trivial) (fun _ h => h) ?_
        · go_simp
        apply ord_norm
        · go_simp; rfl
        clear hy hy4 hy5 hy6 d1 d2
        refine ord_nil fun y hy => ?_
        have HF := hid hy
        clear hy
        go_wp2_with fail
        go_roundw
        case rel => exact ⟨k, by omega, by first | rfl | go_num, _, ys ++ [z], by rw [HZ.out]; have := HY.out; simpa [Oct.be] using this, HF.out⟩
        case measure => simp [intOf]
      · apply ord_eff (ho := rfl)
        · go_simp
        intro y hy
        have hst := stabC (blkP_stable p (.cells #[.bool true, v] 304 (0, 0))) (stabC (rowP_stable 5 1 v ys.length (u8s ys)) hl)
        have hy2 := Sts.alloc hst hy (.cells #[.int .u8 (z : Nat)] 5)
        refine eff_value Any (fun y' => Sts W (blkP y.heap.size (.cells #[.int .u8 (z : Nat)] 5 (0, 0)) :: (writerO p v ys ++ l)) y') (v := .slice (some ⟨y.heap.size, 0, none⟩) 1 1) (w := y.alloc (.cells #[.int .u8 (z : Nat)] 5)) ?_ hy2 (fun _ _ => trivial) (fun _ h => h) ?_
        · go_simp
        apply ord_norm
        · go_simp; rfl
        clear hy hy2 hst
        generalize y.heap.size = gx at *
        apply ord_eff (ho := rfl)
        · go_simp
        intro y hy
        obtain ⟨d0, d1, d2⟩ := wcells (l := l) (v := v) (bs := ys) (W := W) (p := p) (w := y) hy.tail
        refine eff_value Any (fun y => Sts W (blkP gx (.cells #[.int .u8 (z : Nat)] 5 (0, 0)) :: (writerO p v ys ++ l)) y) (v := v) (w := y) ?_ hy (fun _ _ => trivial) (fun _ h => h) ?_
        · go_simp
        apply ord_norm
        · go_simp; rfl
        clear d0 d1 d2 hy
        apply ord_eff (ho := rfl)
        · go_simp
        intro y hy
        have hy3 : Sts W (rowP 5 1 v ys.length (u8s ys) :: blkP gx (.cells #[.int .u8 (z : Nat)] 5 (0, 0)) :: blkP p (.cells #[.bool true, v] 304 (0, 0)) :: l) y := Sts.third hy
        have hR : Rd y (.slice (some ⟨gx, 0, none⟩) 1 1) (u8s [z]) := by
          obtain ⟨F, q⟩ := Sts.head hy
          exact blk_rd q.1 rfl rfl (by decide)
        refine ord_app8 (stabC (blkP_stable _ _) (stabC (blkP_stable _ _) hl)) hy3 (.tmp 28) (.tmp 34) rfl ?_ ?_ hR ⟨_, _, _, rfl⟩ (by simp; omega) ?_
        · go_simp
        · go_simp
        intro v1
        apply ord_norm
        · go_simp; rfl
        clear hy hy3 hR
        iterate 2
          (apply ord_pure (ho := rfl)
           · go_simp
           · intro y hy; go_simp; rfl
           apply ord_norm
           · go_simp; rfl)
        apply ord_eff (ho := rfl)
        · go_simp
        intro y hy
        obtain ⟨g1, cap1, rfl⟩ := own_pos hy.rowOwn (by simp)
        have hy4 := Sts.third hy
        obtain ⟨d1, d2⟩ := hy4.boxCell 1 _ rfl
        have hy5 := hy4.store (stabC (rowP_stable _ _ _ _ _) (stabC (blkP_stable _ _) hl)) (j := 1) (.slice (some ⟨g1, 0, none⟩) (ys.length + [z].length) cap1)
        have hy6 : Sts W (writerO p (.slice (some ⟨g1, 0, none⟩) (ys.length + [z].length) cap1) (ys ++ [z]) ++ l) (y.setCell ⟨p, 1, none⟩ (.slice (some ⟨g1, 0, none⟩) (ys.length + [z].length) cap1)) := by
          have h := (Sts.third hy5).tail
          unfold writerO
          rw [show (ys ++ [z]).length = ys.length + [z].length by simp]
          exact h
        refine eff_skip Any (fun y' => Sts W (writerO p (.slice (some ⟨g1, 0, none⟩) (ys.length + [z].length) cap1) (ys ++ [z]) ++ l) y') (w := y.setCell ⟨p, 1, none⟩ (.slice (some ⟨g1, 0, none⟩) (ys.length + [z].length) cap1)) ?_ hy6 (fun _ _ => trivial) (fun _ h => h) ?_
        · go_simp
        apply ord_norm
        · go_simp; rfl
        clear hy hy4 hy5 hy6 d1 d2
        refine ord_nil fun y hy => ?_
        have HF := hid hy
        clear hy
        go_wp2_with fail
        go_roundw
        case rel => exact ⟨k, by omega, by first | rfl | go_num, _, ys ++ [z], by rw [HZ.out]; have := HY.out; simpa [Oct.be] using this, HF.out⟩
        case measure => simp [intOf]
    · have : j = 0 := by omega
      subst this
      have hE : ys = bs ++ Oct.be n x := by have := HY.out; simpa [Oct.be] using this
      subst hE
      have e1 : ((0 : Nat) : Int) - 1 = -1 := by omega
      rw [e1]
      go_wp2_with fail
      go_ret
      exact ⟨rfl, Sts.closeW HS.out⟩
set_option maxRecDepth 100000 in
/-- What Bytes returns: a copy in new memory. -/
theorem wBytes (hl : ∀ B ∈ l, Stable B) (hs : Sts W (writerP p bs :: l) w) (hbs : bs.length < 1000000000) :
    Calls Tryz.prog 115 #[.pointer (some ⟨p, 0, none⟩)] w fun e w' => ∃ r, e = .returned r ∧ Sts W (rowP 5 1 r bs.length (u8s bs) :: writerP p bs :: l) w' := by
  obtain ⟨v, h0⟩ := Sts.openW hs
  obtain ⟨c0, c1, f1⟩ := wcells h0
  have hl2 : ∀ B ∈ writerO p v bs ++ l, Stable B := stabC (blkP_stable _ _) (stabC (rowP_stable _ _ _ _ _) hl)
  obtain ⟨i0, hi, hz0, hz1, hz2⟩ := info_parts info8
  have hN := World.ownsRow_lit (base := w.heap.size) (e := 5) (size := 1) w #[] 0 (Nat.le_refl _) (by unfold maxLen; omega) rfl
  have hNew : New w (w.alloc (.cells #[] 5)) 5 (.slice (some ⟨w.heap.size, 0, none⟩) 0 0) (u8s []) := ⟨hN, (Below.refl _ _).alloc (Nat.le_refl _) _⟩
  have H1 : Hid (Sts W (rowP 5 1 (.slice (some ⟨w.heap.size, 0, none⟩) 0 0) 0 (u8s []) :: (writerO p v bs ++ l)) (w.alloc (.cells #[] 5))) := Sts.new hl2 h0 hNew
  obtain ⟨d0, d1, d2⟩ := wcells (v := v) (bs := bs) (l := l) (p := p) (W := W) H1.out.tail
  have hv : v = .slice none 0 0 ∧ bs = [] ∨ ∃ g cap, v = .slice (some ⟨g, 0, none⟩) bs.length cap := by
    have hr := (Sts.swap h0).rowOwn
    rcases hr.2 with ⟨h1, h2⟩ | ⟨g, cap, cur, hv, _⟩
    · exact Or.inl ⟨h1, List.eq_nil_of_length_eq_zero h2⟩
    · exact Or.inr ⟨g, cap, hv⟩
  have hHR : Hid (Rd w v (u8s bs)) := hid (Rd.of_own (Sts.swap h0).rowOwn (u8s_len bs))
  have HL2 := hid hl2
  clear h0 hs hN hNew hl2
  rcases hv with ⟨rfl, rfl⟩ | ⟨g, cap, rfl⟩
  · go_enter Tryz.func115, Tryz.ntmps115
    go_wp2_with fail
    refine (cWOk _ _ (by assumption)).mono ?_; rintro e w' ⟨rfl, rfl⟩
    go_wp2_with (at_builtin; refine wpList_append_own_none rfl (.tmp 6) (.tmp 10) 35 rfl 0 5 i0 1 Tryz.underlying35 hi (.slice (some ⟨w.heap.size, 0, none⟩) 0 0) 0 (u8s []) rfl H1.out.rowOwn rfl ?_)
    go_ret
    exact ⟨_, rfl, (Sts.closeW (v := .slice none 0 0) (bs := []) H1.out.third').swap⟩
  · have hcl : ∀ j u, (u8s bs)[j]? = some u → (w.alloc (.cells #[] 5)).cell? ((⟨g, 0, none⟩ : Addr).add j) = some u := by
      intro j u hj
      have hrow : (w.alloc (.cells #[] 5)).ownsRow 0 5 1 (.slice (some ⟨g, 0, none⟩) bs.length cap) bs.length (u8s bs) := (Sts.third H1.out).rowOwn
      exact hrow.cells rfl j u hj
    have HCL := hid hcl
    clear hcl
    go_enter Tryz.func115, Tryz.ntmps115
    go_wp2_with fail
    refine (cWOk _ _ (by assumption)).mono ?_; rintro e w' ⟨rfl, rfl⟩
    go_wp2_with (at_builtin; go_loud (refine wpList_append_own_at _ rfl (.tmp 6) (.tmp 10) 35 rfl 0 5 i0 (.int .u8 0) 1 1 Tryz.underlying35 hi hz0 hz1 hz2 rfl (by decide) (.slice (some ⟨w.heap.size, 0, none⟩) 0 0) 0 (u8s []) rfl H1.out.rowOwn ⟨g, 0, none⟩ bs.length cap (u8s bs) rfl (by simp [u8s]) HCL.out (u8s_one bs) (by unfold maxLen; omega) (by omega) (Nat.zero_le _) ?_; intro v1 w1 hown hgr _ hblk))
    have H2 := hid (H1.out.grown HL2.out hgr hown (by
      intro q hq
      rcases hblk with h | h
      · exact Or.inl (h ▸ hq)
      · rw [h] at hq; injection hq with hq; exact Or.inr (by omega)))
    clear hown hgr hblk
    go_ret
    refine ⟨v1, rfl, ?_⟩
    have h := H2.out
    rw [Nat.zero_add, show u8s [] ++ u8s bs = u8s bs from rfl] at h
    exact (Sts.closeW (v := .slice (some ⟨g, 0, none⟩) bs.length cap) (bs := bs) h.third').swap
end
end Go.Proofs.YtnklmadmenkdoaaGreat
namespace Cmd
/-- The unsigned number of a signed one. -/
def zig (n : Int) : Nat := if n < 0 then (-n - 1).toNat * 2 + 1 else n.toNat * 2
def vint (z : Nat) : List Nat := if h : z < 128 then [z] else (z % 128 + 128) :: vint (z / 128)
termination_by z
decreasing_by omega
theorem vint_lo {z : Nat} (h : z < 128) : vint z = [z] := by rw [vint]; simp [h]
theorem vint_hi {z : Nat} (h : ¬ z < 128) : vint z = (z % 128 + 128) :: vint (z / 128) := by rw [vint]; simp [h]
theorem vint_len (k : Nat) : ∀ z, z < 128 ^ (k + 1) → (vint z).length ≤ k + 1 := by
  induction k with
  | zero => intro z hz; rw [vint_lo (by simpa using hz)]; simp
  | succ k ih =>
    intro z hz
    by_cases h : z < 128
    · rw [vint_lo h]; simp
    · rw [vint_hi h]
      have h2 : z / 128 < 128 ^ (k + 1) := by rw [Nat.div_lt_iff_lt_mul (by decide)]; rw [Nat.pow_succ] at hz; exact hz
      have := ih _ h2
      simp; omega
theorem zig_lt (n : Int) (h1 : -1099511627776 ≤ n) (h2 : n ≤ 1099511627776) : zig n < 4398046511104 := by
  unfold zig; split <;> omega
/-- The bytes of arguments. -/
def argsB : List Int → List Nat
  | [] => []
  | a :: l => vint (zig a) ++ argsB l
theorem argsB_app (l m : List Int) : argsB (l ++ m) = argsB l ++ argsB m := by
  induction l with
  | nil => rfl
  | cons a l ih => simp [argsB, ih]
def blobB (d : List Nat) : List Nat := vint (zig (d.length : Nat)) ++ d
end Cmd
