/- Laws on lists of ranges for the specification's own ways. No program in sight. The specification's insert; append of ranges in one step. The specification's Of, Add and Remove. -/
import Derived.Test.YtfjadhkhmhnccaaRngMath
import Derived.Test.YtfjadhkhmhnccaaRngF
set_option linter.unusedVariables false
set_option linter.unusedSimpArgs false
namespace Rng
theorem ins_skip (x : R) (l : List R) (r : R) (h : x.2 < r.1) : ins (x :: l) r = x :: ins l r := by
  show (if x.2 < r.1 then _ else _) = _
  rw [if_pos h]
theorem ins_join (x : R) (l : List R) (r : R) (h1 : ¬ x.2 < r.1) (h2 : x.1 ≤ r.2) : ins (x :: l) r = ins l (min r.1 x.1, max r.2 x.2) := by
  show (if x.2 < r.1 then _ else _) = _
  rw [if_neg h1, if_pos h2]
theorem ins_stop (x : R) (l : List R) (r : R) (h1 : ¬ x.2 < r.1) (h2 : ¬ x.1 ≤ r.2) : ins (x :: l) r = r :: x :: l := by
  show (if x.2 < r.1 then _ else _) = _
  rw [if_neg h1, if_neg h2]
/-- Those before a place are passed over. -/
theorem ins_past (l : List R) (r : R) (k : Nat) (hk : k ≤ l.length) (h : ∀ x ∈ l.take k, x.2 < r.1) : ins l r = l.take k ++ ins (l.drop k) r := by
  induction k generalizing l with
  | zero => simp
  | succ k ih =>
    cases l with
    | nil => simp at hk
    | cons x l =>
      rw [ins_skip x l r (h x (by simp)), ih l (by simpa using hk) (fun y hy => h y (by simp [hy]))]
      simp
theorem drop_at {l : List R} {k : Nat} (h : k < l.length) : l.drop k = l[k] :: l.drop (k + 1) := List.drop_eq_getElem_cons h
theorem mem_at {l : List R} {k : Nat} (h : k < l.length) : l[k] ∈ l.drop k := by rw [drop_at h]; exact List.mem_cons_self
theorem mem_next {l : List R} {k : Nat} (h : k < l.length) {x : R} (hx : x ∈ l.drop (k + 1)) : x ∈ l.drop k := by rw [drop_at h]; exact List.mem_cons_of_mem _ hx
theorem valid_gt {l : List R} (hv : Valid l) {i j : Nat} (hij : i < j) (hj : j < l.length) : (l[i]'(by omega)).2 < l[j].1 := by
  have h := List.pairwise_iff_getElem.1 hv.2 i j (by omega) hj hij
  exact h
theorem valid_lt {l : List R} (hv : Valid l) {i : Nat} (hi : i < l.length) : l[i].1 < l[i].2 := hv.1 _ (List.getElem_mem hi)
/-- What is left of the ranges without the empty ones. -/
def cutN (r x : R) : List R := (cut r x).filter fun y => decide (y.1 < y.2)
theorem cutN_eq (r x : R) : cutN r x = (if x.1 < min x.2 r.1 then [(x.1, min x.2 r.1)] else []) ++ (if max x.1 r.2 < x.2 then [(max x.1 r.2, x.2)] else []) := by
  unfold cutN cut
  by_cases h1 : x.1 < min x.2 r.1 <;> by_cases h2 : max x.1 r.2 < x.2 <;> simp [List.filter, h1, h2]
theorem cutN_mem {r x y : R} (h : y ∈ cutN r x) : x.1 ≤ y.1 ∧ y.2 ≤ x.2 ∧ y.1 < y.2 := by
  unfold cutN cut at h
  simp only [List.mem_filter, List.mem_cons, List.not_mem_nil, or_false, decide_eq_true_eq] at h
  rcases h with ⟨rfl | rfl, h⟩
  · exact ⟨by simp, by simp only []; omega, h⟩
  · exact ⟨by simp only []; omega, by simp, h⟩
theorem cuts_valid (r : R) (hr : r.1 < r.2) : ∀ (l : List R), Valid l → Valid (l.flatMap (cutN r)) ∧ ∀ b : Int, (∀ x ∈ l, b < x.1) → ∀ y ∈ l.flatMap (cutN r), b < y.1
  | [], _ => ⟨Valid.nil, fun b _ y hy => by simp at hy⟩
  | x :: l, hv => by
    obtain ⟨h1, h2, h3⟩ := valid_cons.1 hv
    obtain ⟨i1, i2⟩ := cuts_valid r hr l h3
    rw [List.flatMap_cons]
    refine ⟨valid_app.2 ⟨?_, i1, fun y hy z hz => ?_⟩, fun b hb y hy => ?_⟩
    · rw [cutN_eq]
      by_cases c1 : x.1 < min x.2 r.1 <;> by_cases c2 : max x.1 r.2 < x.2
      · rw [if_pos c1, if_pos c2]
        exact valid_cons.2 ⟨c1, by simp; omega, valid_cons.2 ⟨c2, by simp, Valid.nil⟩⟩
      · rw [if_pos c1, if_neg c2]
        exact valid_cons.2 ⟨c1, by simp, Valid.nil⟩
      · rw [if_neg c1, if_pos c2]
        exact valid_cons.2 ⟨c2, by simp, Valid.nil⟩
      · rw [if_neg c1, if_neg c2]
        exact Valid.nil
    · have a := cutN_mem hy
      have b := i2 x.2 h2 z hz
      omega
    · rcases List.mem_append.1 hy with hy | hy
      · have a := cutN_mem hy
        have := hb x (by simp)
        omega
      · exact i2 b (fun z hz => hb z (by simp [hz])) y hy
theorem cutN_in (r x : R) (m : Int) : Mem m (cutN r x) ↔ Mem m (cut r x) := by
  unfold Mem cutN
  constructor
  · rintro ⟨y, hy, h⟩
    exact ⟨y, (List.mem_filter.1 hy).1, h⟩
  · rintro ⟨y, hy, h⟩
    exact ⟨y, List.mem_filter.2 ⟨hy, by simp; omega⟩, h⟩
theorem flat_mem (f : R → List R) (l : List R) (m : Int) : Mem m (l.flatMap f) ↔ ∃ x ∈ l, Mem m (f x) := by
  unfold Mem
  constructor
  · rintro ⟨y, hy, h⟩
    obtain ⟨x, hx, hyx⟩ := List.mem_flatMap.1 hy
    exact ⟨x, hx, y, hyx, h⟩
  · rintro ⟨x, hx, y, hy, h⟩
    exact ⟨y, List.mem_flatMap.2 ⟨x, hx, hy⟩, h⟩
theorem remV_cutN (l : List R) (r : R) (hr : r.1 < r.2) : (ofV l).flatMap (cutN r) = remV l r := by
  unfold remV
  rw [if_neg (by omega)]
  refine ofV_eq (cuts_valid r hr _ (ofV_spec l).1).1 fun m => ?_
  rw [flat_mem, flat_mem]
  constructor
  · rintro ⟨x, hx, h⟩; exact ⟨x, hx, (cutN_in r x m).1 h⟩
  · rintro ⟨x, hx, h⟩; exact ⟨x, hx, (cutN_in r x m).2 h⟩
theorem cutN_len (r x : R) : (cutN r x).length ≤ 2 := by
  rw [cutN_eq]
  by_cases h1 : x.1 < min x.2 r.1 <;> by_cases h2 : max x.1 r.2 < x.2 <;> simp [h1, h2]
theorem cutsN_len (r : R) (l : List R) : (l.flatMap (cutN r)).length ≤ l.length * 2 := by
  induction l with
  | nil => simp
  | cons x l ih => rw [List.flatMap_cons, List.length_append, List.length_cons]; have := cutN_len r x; omega
end Rng
namespace Go.Proofs.Ytfjadhkhmhnccaa
open Go.RowKit Go.Proofs.Num
theorem run_append_none_any {P : Program} {w : World} (base : Nat) (t ty e : TypeId) (i : TypeInfo) (size : Nat) (ht : P.underlying t = some (.slice e)) (hi : P.info? e = some i)
    (v : Value) (n : Nat) (xs : List Value) (hown : w.ownsRow base e size v n xs) (c : Nat) :
    (Builtin.append_ #[t, t] ty #[v, .slice none 0 c]).run P w = .ok v w := by
  rcases hown.2 with ⟨rfl, rfl⟩ | ⟨g, cap, cur, rfl, _, _, hnc, _⟩
  · simp [Builtin.append_, run_underlying ht, sizeOf, typeInfo, hi, Builtin.lenOf, Builtin.firstCells]
  · simp [Builtin.append_, run_underlying ht, sizeOf, typeInfo, hi, Builtin.lenOf, Builtin.firstCells, hnc, storeCells]
theorem rd_news {w : World} {a : Addr} {m : List Rng.R} {cap : Nat} (hx : RdR w (.slice (some a) m.length cap) m) : ∀ j u, (Fil.rcells m)[j]? = some u → w.cell? (a.add j) = some u := by
  intro j u hj
  obtain ⟨a', c', e', _, hx⟩ := hx
  injection e' with e1 e2 e3
  subst e1
  have hlt : j < m.length * 2 := by
    rcases Nat.lt_or_ge j (Fil.rcells m).length with h | h
    · rw [rcells_len] at h; exact h
    · rw [List.getElem?_eq_none h] at hj; cases hj
  obtain ⟨ba, oa, ea, hba, hca, hcb⟩ := hx (j / 2) (by omega)
  injection ea with ea
  subst ea
  have hg := rcells_get m (j / 2) (by omega)
  rw [plain_add]
  rcases (by omega : j / 2 * 2 = j ∨ j / 2 * 2 + 1 = j) with e | e
  · rw [e] at hca hg; rw [hca, ← hg.1, hj]
  · rw [Nat.add_assoc, e] at hcb; rw [e] at hg; rw [hcb, ← hg.2, hj]
theorem RdR.nil_of {w : World} {c n : Nat} {m : List Rng.R} (hx : RdR w (.slice none n c) m) : m = [] := by
  obtain ⟨a', c', e', _, hx⟩ := hx
  injection e' with e1 e2 e3
  rcases m with _ | ⟨x, m⟩
  · rfl
  · obtain ⟨b, off, e, _⟩ := hx 0 (by simp); rw [← e1] at e; cases e
theorem run_appendR (w : World) (ty : TypeId) (v xv : Value) (l m : List Rng.R) (hown : w.ownsRow 0 81 2 v l.length (Fil.rcells l)) (hx : RdR w xv m) (hlen : l.length + m.length < 1000000) :
    ∃ v' w', (Builtin.append_ #[36, 36] ty #[v, xv]).run Try.prog w = .ok v' w' ∧ w'.ownsRow 0 81 2 v' (l ++ m).length (Fil.rcells (l ++ m)) ∧ w.grownBy w' v.ownBlock ∧ (v'.ownBlock = v.ownBlock ∨ v'.ownBlock = some w.heap.size) := by
  obtain ⟨i0, hi, hz0, hz1, hz2⟩ := info_parts infoR
  obtain ⟨a, c, rfl⟩ := hx.eq
  rw [List.length_append, rcells_app]
  cases a with
  | none =>
    have hm := hx.nil_of
    subst hm
    refine ⟨v, w, run_append_none_any 0 36 ty 81 i0 2 Try.underlying36 hi v l.length (Fil.rcells l) hown c, ?_, ⟨rfl, rfl, rfl, Nat.le_refl _, fun _ _ _ => rfl⟩, Or.inl rfl⟩
    simpa [Fil.rcells] using hown
  | some ad =>
    obtain ⟨v', w', hrun, hown', hgr, _, hbl⟩ := run_append_own_at (P := Try.prog) w 0 36 ty 81 i0 (.agg #[.int .i64 0, .int .i64 0]) 2 16 Try.underlying36 hi hz0 hz1 hz2 rfl (by decide) v l.length (Fil.rcells l) hown ad m.length c (Fil.rcells m) (rcells_len m) (rd_news hx) (rcells_one m) (by unfold maxLen; omega) (by omega) (Nat.zero_le _)
    exact ⟨v', w', hrun, hown', hgr, hbl⟩
theorem wpList_appendR {ops : Array Oper} {rest : List Oper} {o : Oper} {a : Act} {Q : Exit → Act → World → Prop} {W w : World} {L : List HProp} {v : Value} {l m : List Rng.R} (hgd : o.guard = none) (s x : Operand)
    (ho : o.op = .call { callee := .builtin .append, args := #[s, x], argTypes := #[36, 36] }) (hS : Sts W (rowP 81 2 v l.length (Fil.rcells l) :: L) w) (hL : ∀ B ∈ L, Stable B)
    (hs : a.eval s = v) (xv : Value) (hx : a.eval x = xv) (hrd : RdR w xv m) (hlen : l.length + m.length < 1000000)
    (h : ∀ v' w', Sts W (rowP 81 2 v' (l ++ m).length (Fil.rcells (l ++ m)) :: L) w' → wpList Try.prog ops Q rest (a.put o.dst v') w') : wpList Try.prog ops Q (o :: rest) a w := by
  refine wpList_plain hgd fun K hK => ?_
  obtain ⟨v', w', hrun, hown, hgr, hbl⟩ := run_appendR w o.type v xv l m (Sts.rowOwnK hS) hrd hlen
  have hS2 := Sts.grownK hL hS hgr hown (own_or hbl)
  unfold Oper.wp
  simp [execOp, ho, resolve, invoke, builtin, hs, hx, hrun, Result.andThen]
  exact hK _ _ (h v' w' hS2)
/-- The slice of one range just made. -/
theorem rdR_one (w : World) (f t : Int) : RdR (w.alloc (.cells #[.int .i64 f, .int .i64 t] 81)) (.slice (some ⟨w.heap.size, 0, none⟩) 1 1) [(f, t)] := by
  have hc := cell_two_new w (.int .i64 f) (.int .i64 t) 81
  refine ⟨_, 1, rfl, ⟨by simp, by unfold maxLen; omega⟩, fun j hj => ⟨w.heap.size, 0, rfl, ?_, ?_, ?_⟩⟩
  · show _ < (w.heap.push _).size; simp
  · have h0 : j = 0 := by simp at hj; omega
    subst h0
    have := hc 0 _ rfl
    rwa [plain_add] at this
  · have h0 : j = 0 := by simp at hj; omega
    subst h0
    have := hc 1 _ rfl
    rwa [plain_add] at this
theorem run_slice_fromR (x : World) (a : Option Addr) (n cap k : Nat) (hk : k ≤ n) : (Instr.slice 36 (.slice a n cap) (some (.int .i64 (k : Int))) none none).run Try.prog x = .ok (sliced a k n cap 2) x := by
  have ht' : Try.prog.underlying 36 = some (.slice (Try.prog.elem 36)) := by simp [Program.elem, Try.underlying36]
  have he : Try.prog.elem 36 = 81 := by simp [Program.elem, Try.underlying36]
  rw [run_slice_l x _ _ _ _ ht' .i64 _ (by omega) (by omega), he, sizeR]
  simp [Result.andThen]
/-- The slice behind a place. -/
theorem RdR.from {w : World} {a : Option Addr} {l : List Rng.R} {cap : Nat} (h : RdR w (.slice a l.length cap) l) (k : Nat) (hk : k ≤ l.length) :
    RdR w (sliced a k l.length cap 2) (l.drop k) := by
  obtain ⟨a', c', e', ⟨h1, h2⟩, hx⟩ := h
  injection e' with e1 e2 e3
  subst e1
  subst e3
  refine ⟨if cap = k then a else a.map (·.add (k * 2)), cap - k, by unfold sliced; rw [List.length_drop], ⟨by rw [List.length_drop]; omega, by omega⟩, fun j hj => ?_⟩
  rw [List.length_drop] at hj
  obtain ⟨b, off, g1, g2, g3, g4⟩ := hx (k + j) (by omega)
  have hne : ¬ cap = k := by omega
  refine ⟨b, off + k * 2, by rw [if_neg hne, g1]; simp [plain_add], g2, ?_, ?_⟩
  · rw [show off + k * 2 + j * 2 = off + (k + j) * 2 by omega, g3]; simp
  · rw [show off + k * 2 + j * 2 + 1 = off + (k + j) * 2 + 1 by omega, g4]; simp
set_option maxRecDepth 100000 in
theorem cInsertNo (w : World) (v : Value) (f t : Int) (hft : t ≤ f) :
    Calls Try.prog 93 #[v, .agg #[.int .i64 f, .int .i64 t]] w fun e w' => e = .returned v ∧ Below w.heap.size w w' := by
  have HB := hid ((Below.refl w.heap.size w).alloc (Nat.le_refl _) (.cells #[.int .i64 f, .int .i64 t] 81))
  have hge : decide (f ≥ t) = true := decide_eq_true (by omega)
  clear hft
  go_enter Try.func93, Try.ntmps93
  go_wp2_with fail
  go_ret
  exact ⟨rfl, HB.out⟩
set_option maxRecDepth 100000 in
set_option maxHeartbeats 4000000 in
theorem cInsertYes (w : World) (a : Option Addr) (cap : Nat) (l : List Rng.R) (f t : Int) (h : RdR w (.slice a l.length cap) l) (hv : Rng.Valid l) (hn : l.length < 400000) (hft : f < t) :
    Calls Try.prog 93 #[.slice a l.length cap, .agg #[.int .i64 f, .int .i64 t]] w fun e w' => ∃ r, e = .returned r ∧ NewR w w' r (Rng.ins l (f, t)) := by
  have HR := hid h
  have HX := hid (show ∀ j, (h : j < l.length) → ∃ b off, a = some ⟨b, off, none⟩ ∧ b < w.heap.size ∧ w.cell? ⟨b, off + j * 2, none⟩ = some (.int .i64 l[j].1) ∧ w.cell? ⟨b, off + j * 2 + 1, none⟩ = some (.int .i64 l[j].2) by
    obtain ⟨a', c', e', _, hx⟩ := h
    injection e' with e1 e2 e3
    subst e1
    exact hx)
  have HCAP := hid (show l.length ≤ cap by obtain ⟨a', c', e', ⟨h1, _⟩, _⟩ := h; injection e' with e1 e2 e3; omega)
  have HV := hid hv
  have HB := hid ((Sts.nil w).alloc stab0 (.cells #[.int .i64 f, .int .i64 t] 81))
  have hge : decide (f ≥ t) = false := decide_eq_false (by omega)
  clear h hv hft
  go_enter Try.func93, Try.ntmps93
  go_wp2_with fail
  go_loopw [5, 6] (fun vo i wr => ∃ k : Nat, k ≤ l.length ∧ i = .int .i64 k ∧ (∀ x ∈ l.take k, x.2 < f) ∧ Sts w [rowP 81 2 vo (l.take k).length (Fil.rcells (l.take k)), blkP w.heap.size (.cells #[.int .i64 f, .int .i64 t] 81 (0, 0))] wr) (fun _ i _ => l.length - (intOf i).toNat)
  case atStart => exact ⟨0, by omega, rfl, by simp, Sts.rowNilK _ _ HB.out⟩
  case round =>
    obtain ⟨k, hk, rfl, hpre, hS⟩ := hrel
    have HS := hid hS
    have HPRE := hid hpre
    have HL : Hid (∀ B ∈ [rowP 81 2 u5 (l.take k).length (Fil.rcells (l.take k)), blkP w.heap.size (.cells #[.int .i64 f, .int .i64 t] 81 (0, 0))], Stable B) := hid (stabC (rowP_stable _ _ _ _ _) (stab1 (blkP_stable _ _)))
    have HLG : ∀ f2 t2 : Int, Hid (∀ B ∈ [rowP 81 2 u5 (l.take k).length (Fil.rcells (l.take k)), blkP w.heap.size (.cells #[.int .i64 f2, .int .i64 t2] 81 (0, 0))], Stable B) := fun _ _ => hid (stabC (rowP_stable _ _ _ _ _) (stab1 (blkP_stable _ _)))
    have b0 : wr.cell? ⟨w.heap.size, 0, none⟩ = some (.int .i64 f) := (Sts.boxCell hS.tail 0 _ rfl).1
    clear hS HB hpre
    have hc : (k = l.length ∨ ∃ h : k < l.length, f ≤ l[k].2) ∨ ∃ h : k < l.length, l[k].2 < f := by
      rcases Nat.lt_or_ge k l.length with h | h
      · rcases Int.lt_or_le l[k].2 f with q | q
        · exact Or.inr ⟨h, q⟩
        · exact Or.inl (Or.inr ⟨h, q⟩)
      · exact Or.inl (Or.inl (by omega))
    rcases hc with hc | ⟨hlt, hq⟩
    · have HX2 : Hid (∀ x ∈ l.drop k, f ≤ x.2) := hid (by
        rcases hc with rfl | ⟨h, q⟩
        · rw [List.drop_length]; simp
        · intro x hx
          obtain ⟨j, hj, rfl⟩ := List.getElem_of_mem hx
          rw [List.length_drop] at hj
          rw [List.getElem_drop]
          rcases Nat.eq_zero_or_pos j with rfl | hj0
          · exact q
          · have h1 := Rng.valid_gt HV.out (i := k) (j := k + j) (by omega) (by omega)
            have h2 := Rng.valid_lt HV.out (i := k + j) (by omega)
            omega)
      have HPAST : Hid (Rng.ins l (f, t) = l.take k ++ Rng.ins (l.drop k) (f, t)) := hid (Rng.ins_past l (f, t) k hk HPRE.out)
      clear HPRE
      rcases hc with rfl | ⟨h, q⟩
      · skip
        go_wp2_with fail
        go_quiet (fail)
        go_wp2_with fail
        go_loopw [6] (fun i wr2 => ∃ (k2 : Nat) (f2 t2 : Int), k2 ≤ l.length ∧ i = .int .i64 k2 ∧ (∀ x ∈ l.drop k2, f2 ≤ x.2) ∧ Rng.ins l (f, t) = l.take l.length ++ Rng.ins (l.drop k2) (f2, t2) ∧ Sts w [rowP 81 2 u5 (l.take l.length).length (Fil.rcells (l.take l.length)), blkP w.heap.size (.cells #[.int .i64 f2, .int .i64 t2] 81 (0, 0))] wr2) (fun i _ => l.length - (intOf i).toNat)
        case atStart => exact ⟨l.length, f, t, Nat.le_refl _, rfl, HX2.out, HPAST.out, (HS.out.quiet HL.out (below_drewN (Below.refl _ _) _))⟩
        case round =>
          obtain ⟨k2, f2, t2, hk2, rfl, hf2, hins, hS2⟩ := hrel
          have HF2 := hid hf2
          have HI2 := hid hins
          have HS2 := hid hS2
          have b0 : wr.cell? ⟨w.heap.size, 0, none⟩ = some (.int .i64 f2) := (Sts.boxCell hS2.tail 0 _ rfl).1
          have b1 : wr.cell? ⟨w.heap.size, 1, none⟩ = some (.int .i64 t2) := (Sts.boxCell hS2.tail 1 _ rfl).1
          clear hf2 hins hS2 HS HPAST HX2
          have hc2 : (k2 = l.length ∨ ∃ h : k2 < l.length, t2 < l[k2].1) ∨ ∃ h : k2 < l.length, l[k2].1 ≤ t2 := by
            rcases Nat.lt_or_ge k2 l.length with h | h
            · rcases Int.lt_or_le t2 l[k2].1 with q | q
              · exact Or.inl (Or.inr ⟨h, q⟩)
              · exact Or.inr ⟨h, q⟩
            · exact Or.inl (Or.inl (by omega))
          rcases hc2 with hc2 | ⟨hlt2, hle2⟩
          · have HSTOP : Hid (Rng.ins (l.drop k2) (f2, t2) = (f2, t2) :: l.drop k2) := hid (by
              rcases hc2 with rfl | ⟨h, q⟩
              · rw [List.drop_length]; rfl
              · have h1 := HF2.out l[k2] (Rng.mem_at h)
                rw [Rng.drop_at h, Rng.ins_stop _ _ _ (by simp only []; omega) (by simp only []; omega)])
            have HAL := hid (fun n => Sts.box (HLG f2 t2).out (HS2.out.quiet (HLG f2 t2).out (below_drewN (Below.refl _ _) n)) (.cells #[.int .i64 f2, .int .i64 t2] 81))
            have htl := RdR.from (HR.out) k2 hk2
            have hsl := fun x => run_slice_fromR x a l.length cap k2 hk2
            generalize sliced a k2 l.length cap 2 = sv at htl hsl
            have HTL := hid htl
            clear htl
            have hlen2 : (l.take l.length).length + 1 < 1000000 := by rw [List.length_take]; omega
            have hlen3 : (l.take l.length ++ [(f2, t2)]).length + (l.drop k2).length < 1000000 := by rw [List.length_append, List.length_take, List.length_drop]; simp only [List.length_cons, List.length_nil]; omega
            have HFIN : Hid (Rng.ins l (f, t) = l.take l.length ++ [(f2, t2)] ++ l.drop k2) := hid (by rw [HI2.out, HSTOP.out]; simp)
            rcases hc2 with rfl | ⟨h, q⟩
            · clear HF2 HI2 HSTOP
              go_wp2_with fail
              go_quiet (fail)
              go_wp2_with (at_builtin; (first | (refine wpList_appendR rfl (.tmp 70) (.tmp 72) rfl (HAL.out _) (stab1 (blkP_stable _ _)) rfl _ rfl (rdR_one _ f2 t2) hlen2 ?_; intro v1 w5 hz; have HZ := hid hz; clear hz) | (refine wpList_appendR rfl (.tmp 74) (.tmp 77) rfl HZ.out (stab1 (blkP_stable _ _)) rfl _ rfl (HTL.out.below HZ.out.below) hlen3 ?_; intro v2 w6 hz; have HZ2 := hid hz; clear hz)))
              go_ret
              rw [HFIN.out]
              exact ⟨_, rfl, Sts.isNewR HZ2.out rfl⟩
            · obtain ⟨b, off, hab, hb, c0, c1⟩ := HX.out k2 h
              subst hab
              have hbl := HS2.out.below.cell (p := ⟨b, off + k2 * 2, none⟩) hb
              rw [c0] at hbl
              have d0 : decide (l[k2].1 ≤ t2) = false := decide_eq_false (by omega)
              generalize l[k2] = x at *
              obtain ⟨x1, x2⟩ := x
              simp only [] at hbl d0
              clear HF2 HI2 HSTOP q c0 c1
              go_wp2_with fail
              go_quiet (fail)
              go_wp2_with (at_builtin; (first | (refine wpList_appendR rfl (.tmp 70) (.tmp 72) rfl (HAL.out _) (stab1 (blkP_stable _ _)) rfl _ rfl (rdR_one _ f2 t2) hlen2 ?_; intro v1 w5 hz; have HZ := hid hz; clear hz) | (refine wpList_appendR rfl (.tmp 74) (.tmp 77) rfl HZ.out (stab1 (blkP_stable _ _)) rfl _ rfl (HTL.out.below HZ.out.below) hlen3 ?_; intro v2 w6 hz; have HZ2 := hid hz; clear hz)))
              go_ret
              rw [HFIN.out]
              exact ⟨_, rfl, Sts.isNewR HZ2.out rfl⟩
          · obtain ⟨b, off, hab, hb, c0, c1⟩ := HX.out k2 hlt2
            subst hab
            have HC0 : Hid (∀ y, Below w.heap.size w y → y.cell? ⟨b, off + k2 * 2, none⟩ = some (.int .i64 l[k2].1) ∧ y.cell? ⟨b, off + k2 * 2 + 1, none⟩ = some (.int .i64 l[k2].2)) := hid fun y hy => ⟨by rw [hy.cell hb]; exact c0, by rw [hy.cell hb]; exact c1⟩
            obtain ⟨e0, e1⟩ := HC0.out wr HS2.out.below
            have d0 : decide (l[k2].1 ≤ t2) = true := decide_eq_true hle2
            have HN : Hid (Rng.ins l (f, t) = l.take l.length ++ Rng.ins (l.drop (k2 + 1)) (min f2 l[k2].1, max t2 l[k2].2)) := hid (by
              have h1 := HF2.out l[k2] (Rng.mem_at hlt2)
              rw [HI2.out, Rng.drop_at hlt2, Rng.ins_join _ _ _ (by simp only []; omega) (by simp only []; omega)])
            have HF3 : Hid (∀ x ∈ l.drop (k2 + 1), min f2 l[k2].1 ≤ x.2) := hid (fun x hx => by have := HF2.out x (Rng.mem_next hlt2 hx); omega)
            generalize l[k2] = x at *
            obtain ⟨x1, x2⟩ := x
            simp only [] at e0 e1 d0 hle2
            have HC1 : Hid (∀ y, Below w.heap.size w y → y.cell? ⟨b, off + k2 * 2, none⟩ = some (.int .i64 x1) ∧ y.cell? ⟨b, off + k2 * 2 + 1, none⟩ = some (.int .i64 x2)) := HC0
            have HN1 : Hid (Rng.ins l (f, t) = l.take l.length ++ Rng.ins (l.drop (k2 + 1)) (min f2 x1, max t2 x2)) := HN
            have HF4 : Hid (∀ x ∈ l.drop (k2 + 1), min f2 x1 ≤ x.2) := HF3
            clear HC0 HN HF3 c0 c1 HF2 HI2 hle2
            go_wp2_with fail
            go_quiet (fail)
            go_wp2_with fail
            refine wp_region_ordS (fun i => i == 9) (.pure 0 (.pure 1 (.pure 2 (.pure 3 (.pure 4 (.pure 5 (.pure 6 (.pure 7 (.pure 8 (.eff 9 .nil)))))))))) (fun y => y.cell? ⟨w.heap.size, 0, none⟩ = some (.int .i64 f2) ∧ y.cell? ⟨b, off + k2 * 2, none⟩ = some (.int .i64 x1)) (fun y => Sts w [rowP 81 2 u5 (l.take l.length).length (Fil.rcells (l.take l.length)), blkP w.heap.size (.cells #[.int .i64 f2, .int .i64 t2] 81 (0, 0))] y) (by kernel_rfl) (by kernel_rfl) ((HS2.out.quiet (HLG f2 t2).out (below_drewN (Below.refl _ _) _)).drew (HLG _ _).out) (fun y hy => ⟨(Sts.boxCell hy.tail 0 _ rfl).1, (HC1.out y hy.below).1⟩) ?_
            iterate 7
              (apply ord_pure (ho := rfl)
               · go_simp
               · intro x hx; obtain ⟨q1, q2⟩ := hx; go_simp; rfl
               apply ord_norm
               · go_simp; rfl)
            (refine ord_pure _ (.int .i64 (min f2 x1)) rfl ?_ ?_ ?_
             · go_simp
             · intro x hx; obtain ⟨q1, q2⟩ := hx; go_simp; first | done | omega | (split <;> omega)
             apply ord_norm
             · go_simp; rfl)
            iterate 1
              (apply ord_pure (ho := rfl)
               · go_simp
               · intro x hx; obtain ⟨q1, q2⟩ := hx; go_simp; rfl
               apply ord_norm
               · go_simp; rfl)
            apply ord_eff (ho := rfl)
            · go_simp
            intro y hy
            have q1 : y.cell? ⟨w.heap.size, 0, none⟩ = some (.int .i64 f2) := (Sts.boxCell hy.tail 0 _ rfl).1
            have q2 : y.frozen? ⟨w.heap.size, 0, none⟩ = false := (Sts.boxCell hy.tail 0 _ rfl).2
            have hy2 := (Sts.store (stab1 (rowP_stable _ _ _ _ _)) hy.swap (j := 0) (.int .i64 (min f2 x1))).swap
            refine effS_skip (fun _ => True) (fun y => Sts w [rowP 81 2 u5 (l.take l.length).length (Fil.rcells (l.take l.length)), blkP w.heap.size (.cells #[.int .i64 (min f2 x1), .int .i64 t2] 81 (0, 0))] y) (w := y.setCell ⟨w.heap.size, 0, none⟩ (.int .i64 (min f2 x1))) rfl ?_ hy2 (fun _ _ => trivial) ?_
            · clear hy hy2
              go_simp
            clear hy hy2 q1 q2 y
            apply ord_norm
            · go_simp; rfl
            refine ord_nil fun z hz => ?_
            have HW := hid hz
            clear hz
            go_wp2_with fail
            refine wp_region_ordS (fun i => i == 9) (.pure 0 (.pure 1 (.pure 2 (.pure 3 (.pure 4 (.pure 5 (.pure 6 (.pure 7 (.pure 8 (.eff 9 .nil)))))))))) (fun y => y.cell? ⟨w.heap.size, 1, none⟩ = some (.int .i64 t2) ∧ y.cell? ⟨b, off + k2 * 2 + 1, none⟩ = some (.int .i64 x2)) (fun y => Sts w [rowP 81 2 u5 (l.take l.length).length (Fil.rcells (l.take l.length)), blkP w.heap.size (.cells #[.int .i64 (min f2 x1), .int .i64 t2] 81 (0, 0))] y) (by kernel_rfl) (by kernel_rfl) (HW.out.drew (HLG _ _).out) (fun y hy => ⟨(Sts.boxCell hy.tail 1 _ rfl).1, (HC1.out y hy.below).2⟩) ?_
            iterate 7
              (apply ord_pure (ho := rfl)
               · go_simp
               · intro x hx; obtain ⟨q1, q2⟩ := hx; go_simp; rfl
               apply ord_norm
               · go_simp; rfl)
            (refine ord_pure _ (.int .i64 (max t2 x2)) rfl ?_ ?_ ?_
             · go_simp
             · intro x hx; obtain ⟨q1, q2⟩ := hx; go_simp; first | done | omega | (split <;> omega)
             apply ord_norm
             · go_simp; rfl)
            iterate 1
              (apply ord_pure (ho := rfl)
               · go_simp
               · intro x hx; obtain ⟨q1, q2⟩ := hx; go_simp; rfl
               apply ord_norm
               · go_simp; rfl)
            apply ord_eff (ho := rfl)
            · go_simp
            intro y hy
            have q1 : y.cell? ⟨w.heap.size, 1, none⟩ = some (.int .i64 t2) := (Sts.boxCell hy.tail 1 _ rfl).1
            have q2 : y.frozen? ⟨w.heap.size, 1, none⟩ = false := (Sts.boxCell hy.tail 1 _ rfl).2
            have hy2 := (Sts.store (stab1 (rowP_stable _ _ _ _ _)) hy.swap (j := 1) (.int .i64 (max t2 x2))).swap
            refine effS_skip (fun _ => True) (fun y => Sts w [rowP 81 2 u5 (l.take l.length).length (Fil.rcells (l.take l.length)), blkP w.heap.size (.cells #[.int .i64 (min f2 x1), .int .i64 (max t2 x2)] 81 (0, 0))] y) (w := y.setCell ⟨w.heap.size, 1, none⟩ (.int .i64 (max t2 x2))) rfl ?_ hy2 (fun _ _ => trivial) ?_
            · clear hy hy2
              go_simp
            clear hy hy2 q1 q2 y
            apply ord_norm
            · go_simp; rfl
            refine ord_nil fun z hz => ?_
            have HW2 := hid hz
            clear hz
            go_wp2_with fail
            go_roundw
            case rel => exact ⟨k2 + 1, min f2 x1, max t2 x2, by omega, by go_num, HF4.out, HN1.out, HW2.out⟩
            case measure => simp [intOf]; omega

      · obtain ⟨bb, ofo, hab, hb, c0, c1⟩ := HX.out k h
        have hbl := HS.out.below.cell (p := ⟨bb, ofo + k * 2 + 1, none⟩) hb
        rw [c1] at hbl
        have d0 : decide (l[k].2 < f) = false := decide_eq_false (by omega)
        generalize l[k] = x at *
        obtain ⟨x1, x2⟩ := x
        simp only [] at hbl d0
        subst hab
        clear q c0 c1
        go_wp2_with fail
        go_quiet (fail)
        go_wp2_with fail
        go_loopw [6] (fun i wr2 => ∃ (k2 : Nat) (f2 t2 : Int), k2 ≤ l.length ∧ i = .int .i64 k2 ∧ (∀ x ∈ l.drop k2, f2 ≤ x.2) ∧ Rng.ins l (f, t) = l.take k ++ Rng.ins (l.drop k2) (f2, t2) ∧ Sts w [rowP 81 2 u5 (l.take k).length (Fil.rcells (l.take k)), blkP w.heap.size (.cells #[.int .i64 f2, .int .i64 t2] 81 (0, 0))] wr2) (fun i _ => l.length - (intOf i).toNat)
        case atStart => exact ⟨k, f, t, hk, rfl, HX2.out, HPAST.out, (HS.out.quiet HL.out (below_drewN (Below.refl _ _) _))⟩
        case round =>
          obtain ⟨k2, f2, t2, hk2, rfl, hf2, hins, hS2⟩ := hrel
          have HF2 := hid hf2
          have HI2 := hid hins
          have HS2 := hid hS2
          have b0 : wr.cell? ⟨w.heap.size, 0, none⟩ = some (.int .i64 f2) := (Sts.boxCell hS2.tail 0 _ rfl).1
          have b1 : wr.cell? ⟨w.heap.size, 1, none⟩ = some (.int .i64 t2) := (Sts.boxCell hS2.tail 1 _ rfl).1
          clear hf2 hins hS2 HS HPAST HX2
          have hc2 : (k2 = l.length ∨ ∃ h : k2 < l.length, t2 < l[k2].1) ∨ ∃ h : k2 < l.length, l[k2].1 ≤ t2 := by
            rcases Nat.lt_or_ge k2 l.length with h | h
            · rcases Int.lt_or_le t2 l[k2].1 with q | q
              · exact Or.inl (Or.inr ⟨h, q⟩)
              · exact Or.inr ⟨h, q⟩
            · exact Or.inl (Or.inl (by omega))
          rcases hc2 with hc2 | ⟨hlt2, hle2⟩
          · have HSTOP : Hid (Rng.ins (l.drop k2) (f2, t2) = (f2, t2) :: l.drop k2) := hid (by
              rcases hc2 with rfl | ⟨h, q⟩
              · rw [List.drop_length]; rfl
              · have h1 := HF2.out l[k2] (Rng.mem_at h)
                rw [Rng.drop_at h, Rng.ins_stop _ _ _ (by simp only []; omega) (by simp only []; omega)])
            have HAL := hid (fun n => Sts.box (HLG f2 t2).out (HS2.out.quiet (HLG f2 t2).out (below_drewN (Below.refl _ _) n)) (.cells #[.int .i64 f2, .int .i64 t2] 81))
            have htl := RdR.from (HR.out) k2 hk2
            have hsl := fun x => run_slice_fromR x (some ⟨bb, ofo, none⟩) l.length cap k2 hk2
            generalize sliced (some ⟨bb, ofo, none⟩) k2 l.length cap 2 = sv at htl hsl
            have HTL := hid htl
            clear htl
            have hlen2 : (l.take k).length + 1 < 1000000 := by rw [List.length_take]; omega
            have hlen3 : (l.take k ++ [(f2, t2)]).length + (l.drop k2).length < 1000000 := by rw [List.length_append, List.length_take, List.length_drop]; simp only [List.length_cons, List.length_nil]; omega
            have HFIN : Hid (Rng.ins l (f, t) = l.take k ++ [(f2, t2)] ++ l.drop k2) := hid (by rw [HI2.out, HSTOP.out]; simp)
            rcases hc2 with rfl | ⟨h, q⟩
            · clear HF2 HI2 HSTOP
              go_wp2_with fail
              go_quiet (fail)
              go_wp2_with (at_builtin; (first | (refine wpList_appendR rfl (.tmp 70) (.tmp 72) rfl (HAL.out _) (stab1 (blkP_stable _ _)) rfl _ rfl (rdR_one _ f2 t2) hlen2 ?_; intro v1 w5 hz; have HZ := hid hz; clear hz) | (refine wpList_appendR rfl (.tmp 74) (.tmp 77) rfl HZ.out (stab1 (blkP_stable _ _)) rfl _ rfl (HTL.out.below HZ.out.below) hlen3 ?_; intro v2 w6 hz; have HZ2 := hid hz; clear hz)))
              go_ret
              rw [HFIN.out]
              exact ⟨_, rfl, Sts.isNewR HZ2.out rfl⟩
            · obtain ⟨b2, off2, hab, hb, c0, c1⟩ := HX.out k2 h
              injection hab with hab; injection hab with hab1 hab2; cases hab1; cases hab2
              have hbl := HS2.out.below.cell (p := ⟨bb, ofo + k2 * 2, none⟩) hb
              rw [c0] at hbl
              have d0 : decide (l[k2].1 ≤ t2) = false := decide_eq_false (by omega)
              generalize l[k2] = x at *
              obtain ⟨x1, x2⟩ := x
              simp only [] at hbl d0
              clear HF2 HI2 HSTOP q c0 c1
              go_wp2_with fail
              go_quiet (fail)
              go_wp2_with (at_builtin; (first | (refine wpList_appendR rfl (.tmp 70) (.tmp 72) rfl (HAL.out _) (stab1 (blkP_stable _ _)) rfl _ rfl (rdR_one _ f2 t2) hlen2 ?_; intro v1 w5 hz; have HZ := hid hz; clear hz) | (refine wpList_appendR rfl (.tmp 74) (.tmp 77) rfl HZ.out (stab1 (blkP_stable _ _)) rfl _ rfl (HTL.out.below HZ.out.below) hlen3 ?_; intro v2 w6 hz; have HZ2 := hid hz; clear hz)))
              go_ret
              rw [HFIN.out]
              exact ⟨_, rfl, Sts.isNewR HZ2.out rfl⟩
          · obtain ⟨b2, off2, hab, hb, c0, c1⟩ := HX.out k2 hlt2
            injection hab with hab; injection hab with hab1 hab2; cases hab1; cases hab2
            have HC0 : Hid (∀ y, Below w.heap.size w y → y.cell? ⟨bb, ofo + k2 * 2, none⟩ = some (.int .i64 l[k2].1) ∧ y.cell? ⟨bb, ofo + k2 * 2 + 1, none⟩ = some (.int .i64 l[k2].2)) := hid fun y hy => ⟨by rw [hy.cell hb]; exact c0, by rw [hy.cell hb]; exact c1⟩
            obtain ⟨e0, e1⟩ := HC0.out wr HS2.out.below
            have d0 : decide (l[k2].1 ≤ t2) = true := decide_eq_true hle2
            have HN : Hid (Rng.ins l (f, t) = l.take k ++ Rng.ins (l.drop (k2 + 1)) (min f2 l[k2].1, max t2 l[k2].2)) := hid (by
              have h1 := HF2.out l[k2] (Rng.mem_at hlt2)
              rw [HI2.out, Rng.drop_at hlt2, Rng.ins_join _ _ _ (by simp only []; omega) (by simp only []; omega)])
            have HF3 : Hid (∀ x ∈ l.drop (k2 + 1), min f2 l[k2].1 ≤ x.2) := hid (fun x hx => by have := HF2.out x (Rng.mem_next hlt2 hx); omega)
            generalize l[k2] = x at *
            obtain ⟨x1, x2⟩ := x
            simp only [] at e0 e1 d0 hle2
            have HC1 : Hid (∀ y, Below w.heap.size w y → y.cell? ⟨bb, ofo + k2 * 2, none⟩ = some (.int .i64 x1) ∧ y.cell? ⟨bb, ofo + k2 * 2 + 1, none⟩ = some (.int .i64 x2)) := HC0
            have HN1 : Hid (Rng.ins l (f, t) = l.take k ++ Rng.ins (l.drop (k2 + 1)) (min f2 x1, max t2 x2)) := HN
            have HF4 : Hid (∀ x ∈ l.drop (k2 + 1), min f2 x1 ≤ x.2) := HF3
            clear HC0 HN HF3 c0 c1 HF2 HI2 hle2
            go_wp2_with fail
            go_quiet (fail)
            go_wp2_with fail
            refine wp_region_ordS (fun i => i == 9) (.pure 0 (.pure 1 (.pure 2 (.pure 3 (.pure 4 (.pure 5 (.pure 6 (.pure 7 (.pure 8 (.eff 9 .nil)))))))))) (fun y => y.cell? ⟨w.heap.size, 0, none⟩ = some (.int .i64 f2) ∧ y.cell? ⟨bb, ofo + k2 * 2, none⟩ = some (.int .i64 x1)) (fun y => Sts w [rowP 81 2 u5 (l.take k).length (Fil.rcells (l.take k)), blkP w.heap.size (.cells #[.int .i64 f2, .int .i64 t2] 81 (0, 0))] y) (by kernel_rfl) (by kernel_rfl) ((HS2.out.quiet (HLG f2 t2).out (below_drewN (Below.refl _ _) _)).drew (HLG _ _).out) (fun y hy => ⟨(Sts.boxCell hy.tail 0 _ rfl).1, (HC1.out y hy.below).1⟩) ?_
            iterate 7
              (apply ord_pure (ho := rfl)
               · go_simp
               · intro x hx; obtain ⟨q1, q2⟩ := hx; go_simp; rfl
               apply ord_norm
               · go_simp; rfl)
            (refine ord_pure _ (.int .i64 (min f2 x1)) rfl ?_ ?_ ?_
             · go_simp
             · intro x hx; obtain ⟨q1, q2⟩ := hx; go_simp; first | done | omega | (split <;> omega)
             apply ord_norm
             · go_simp; rfl)
            iterate 1
              (apply ord_pure (ho := rfl)
               · go_simp
               · intro x hx; obtain ⟨q1, q2⟩ := hx; go_simp; rfl
               apply ord_norm
               · go_simp; rfl)
            apply ord_eff (ho := rfl)
            · go_simp
            intro y hy
            have q1 : y.cell? ⟨w.heap.size, 0, none⟩ = some (.int .i64 f2) := (Sts.boxCell hy.tail 0 _ rfl).1
            have q2 : y.frozen? ⟨w.heap.size, 0, none⟩ = false := (Sts.boxCell hy.tail 0 _ rfl).2
            have hy2 := (Sts.store (stab1 (rowP_stable _ _ _ _ _)) hy.swap (j := 0) (.int .i64 (min f2 x1))).swap
            refine effS_skip (fun _ => True) (fun y => Sts w [rowP 81 2 u5 (l.take k).length (Fil.rcells (l.take k)), blkP w.heap.size (.cells #[.int .i64 (min f2 x1), .int .i64 t2] 81 (0, 0))] y) (w := y.setCell ⟨w.heap.size, 0, none⟩ (.int .i64 (min f2 x1))) rfl ?_ hy2 (fun _ _ => trivial) ?_
            · clear hy hy2
              go_simp
            clear hy hy2 q1 q2 y
            apply ord_norm
            · go_simp; rfl
            refine ord_nil fun z hz => ?_
            have HW := hid hz
            clear hz
            go_wp2_with fail
            refine wp_region_ordS (fun i => i == 9) (.pure 0 (.pure 1 (.pure 2 (.pure 3 (.pure 4 (.pure 5 (.pure 6 (.pure 7 (.pure 8 (.eff 9 .nil)))))))))) (fun y => y.cell? ⟨w.heap.size, 1, none⟩ = some (.int .i64 t2) ∧ y.cell? ⟨bb, ofo + k2 * 2 + 1, none⟩ = some (.int .i64 x2)) (fun y => Sts w [rowP 81 2 u5 (l.take k).length (Fil.rcells (l.take k)), blkP w.heap.size (.cells #[.int .i64 (min f2 x1), .int .i64 t2] 81 (0, 0))] y) (by kernel_rfl) (by kernel_rfl) (HW.out.drew (HLG _ _).out) (fun y hy => ⟨(Sts.boxCell hy.tail 1 _ rfl).1, (HC1.out y hy.below).2⟩) ?_
            iterate 7
              (apply ord_pure (ho := rfl)
               · go_simp
               · intro x hx; obtain ⟨q1, q2⟩ := hx; go_simp; rfl
               apply ord_norm
               · go_simp; rfl)
            (refine ord_pure _ (.int .i64 (max t2 x2)) rfl ?_ ?_ ?_
             · go_simp
             · intro x hx; obtain ⟨q1, q2⟩ := hx; go_simp; first | done | omega | (split <;> omega)
             apply ord_norm
             · go_simp; rfl)
            iterate 1
              (apply ord_pure (ho := rfl)
               · go_simp
               · intro x hx; obtain ⟨q1, q2⟩ := hx; go_simp; rfl
               apply ord_norm
               · go_simp; rfl)
            apply ord_eff (ho := rfl)
            · go_simp
            intro y hy
            have q1 : y.cell? ⟨w.heap.size, 1, none⟩ = some (.int .i64 t2) := (Sts.boxCell hy.tail 1 _ rfl).1
            have q2 : y.frozen? ⟨w.heap.size, 1, none⟩ = false := (Sts.boxCell hy.tail 1 _ rfl).2
            have hy2 := (Sts.store (stab1 (rowP_stable _ _ _ _ _)) hy.swap (j := 1) (.int .i64 (max t2 x2))).swap
            refine effS_skip (fun _ => True) (fun y => Sts w [rowP 81 2 u5 (l.take k).length (Fil.rcells (l.take k)), blkP w.heap.size (.cells #[.int .i64 (min f2 x1), .int .i64 (max t2 x2)] 81 (0, 0))] y) (w := y.setCell ⟨w.heap.size, 1, none⟩ (.int .i64 (max t2 x2))) rfl ?_ hy2 (fun _ _ => trivial) ?_
            · clear hy hy2
              go_simp
            clear hy hy2 q1 q2 y
            apply ord_norm
            · go_simp; rfl
            refine ord_nil fun z hz => ?_
            have HW2 := hid hz
            clear hz
            go_wp2_with fail
            go_roundw
            case rel => exact ⟨k2 + 1, min f2 x1, max t2 x2, by omega, by go_num, HF4.out, HN1.out, HW2.out⟩
            case measure => simp [intOf]; omega

    · obtain ⟨b, off, hab, hb, c0, c1⟩ := HX.out k hlt
      have hbl1 := HS.out.below.cell (p := ⟨b, off + k * 2, none⟩) hb
      have hbl2 := HS.out.below.cell (p := ⟨b, off + k * 2 + 1, none⟩) hb
      rw [c0] at hbl1
      rw [c1] at hbl2
      have d0 : decide (l[k].2 < f) = true := decide_eq_true hq
      have HT : Hid (l.take (k + 1) = l.take k ++ [l[k]]) := hid (by rw [List.take_add_one, List.getElem?_eq_getElem hlt]; rfl)
      generalize l[k] = x at *
      obtain ⟨x1, x2⟩ := x
      simp only [] at hbl1 hbl2 d0 hq
      subst hab
      have HAL := hid (fun n => Sts.box HL.out (HS.out.quiet HL.out (below_drewN (Below.refl _ _) n)) (.cells #[.int .i64 x1, .int .i64 x2] 81))
      have hlen2 : (l.take k).length + 1 < 1000000 := by rw [List.length_take]; omega
      clear c0 c1
      go_wp2_with fail
      go_quiet (fail)
      go_wp2_with (at_builtin; refine wpList_appendR rfl (.tmp 27) (.tmp 32) rfl (HAL.out _) (stab1 (blkP_stable _ _)) rfl _ rfl (rdR_one _ x1 x2) hlen2 ?_; intro v1 w5 hz; have HZ := hid hz; clear hz)
      go_roundw
      case rel =>
        refine ⟨k + 1, by omega, by go_num, ?_, ?_⟩
        · intro x hx
          rw [HT.out, List.mem_append] at hx
          rcases hx with hx | hx
          · exact HPRE.out x hx
          · simp at hx; subst hx; exact hq
        · rw [HT.out]; exact HZ.out
      case measure => simp [intOf]; omega
end Go.Proofs.Ytfjadhkhmhnccaa
namespace Rng
theorem put_len (l : List R) (r : R) : (put l r).length ≤ l.length + 1 := by
  unfold put
  split
  · omega
  · exact ins_len l r
theorem ofV_take (l : List R) (k : Nat) (h : k < l.length) : ofV (l.take (k + 1)) = put (ofV (l.take k)) l[k] := by
  rw [List.take_add_one, List.getElem?_eq_getElem h]
  exact ofV_snoc _ _
end Rng
namespace Go.Proofs.Ytfjadhkhmhnccaa
open Go.RowKit Go.Proofs.Num
theorem cInsertS {W w : World} {L : List HProp} (hL : ∀ B ∈ L, Stable B) (v : Value) (l : List Rng.R) (f t : Int) (hs : Sts W (rowP 81 2 v l.length (Fil.rcells l) :: L) w) (hv : Rng.Valid l) (hn : l.length < 400000) :
    Calls Try.prog 93 #[v, .agg #[.int .i64 f, .int .i64 t]] w fun e w' => ∃ r, e = .returned r ∧ Sts W (rowP 81 2 r (Rng.put l (f, t)).length (Fil.rcells (Rng.put l (f, t))) :: L) w' := by
  have hL2 : ∀ B ∈ rowP 81 2 v l.length (Fil.rcells l) :: L, Stable B := stabC (rowP_stable _ _ _ _ _) hL
  rcases Int.lt_or_le f t with h | h
  · have e : Rng.put l (f, t) = Rng.ins l (f, t) := by unfold Rng.put; rw [if_neg (by simp only []; omega)]
    rw [e]
    have hr := RdR.of_own (Sts.rowOwnK hs) rfl
    obtain ⟨a, c, rfl⟩ := hr.eq
    refine (cInsertYes w a c l f t hr hv hn h).mono ?_
    rintro e w' ⟨r, rfl, hN⟩
    exact ⟨r, rfl, (Sts.newR hL2 hs hN).swap.tail⟩
  · have e : Rng.put l (f, t) = l := by unfold Rng.put; rw [if_pos (by simp only []; omega)]
    rw [e]
    refine (cInsertNo w v f t h).mono ?_
    rintro e w' ⟨rfl, hb⟩
    exact ⟨v, rfl, hs.quiet hL2 hb⟩
set_option maxRecDepth 100000 in
theorem cOf (w : World) (v : Value) (l : List Rng.R) (h : RdR w v l) (hn : l.length < 400000) :
    Calls Try.prog 94 #[v] w fun e w' => ∃ r, e = .returned r ∧ NewR w w' r (Rng.ofV l) := by
  obtain ⟨a, cap, rfl, hcap, hx⟩ := h
  have HX := hid hx
  clear hx hcap
  go_enter Try.func94, Try.ntmps94
  go_wp2_with fail
  go_loopw [3, 4] (fun vo i wr => ∃ k : Nat, k ≤ l.length ∧ i = .int .i64 k ∧ Sts w [rowP 81 2 vo (Rng.ofV (l.take k)).length (Fil.rcells (Rng.ofV (l.take k)))] wr) (fun _ i _ => l.length - (intOf i).toNat)
  case atStart => exact ⟨0, by omega, rfl, Sts.rowNilK _ _ (Sts.nil w)⟩
  case round =>
    obtain ⟨k, hk, rfl, hS⟩ := hrel
    have HS := hid hS
    clear hS
    by_cases hlt : k < l.length
    · obtain ⟨b, off, rfl, hb, c0, c1⟩ := HX.out k hlt
      rw [← HS.out.below.cell hb] at c0 c1
      have HT := hid (Rng.ofV_take l k hlt)
      have HV := hid (Rng.ofV_spec (l.take k)).1
      have hln := Rng.ofV_len (l.take k)
      rw [List.length_take] at hln
      have HLN : Hid ((Rng.ofV (l.take k)).length < 400000) := hid (by omega)
      clear hln
      generalize Rng.ofV (l.take k) = o at *
      generalize l[k] = x at *
      obtain ⟨f, t⟩ := x
      simp only [] at c0 c1
      go_wp2_with (first | (go_at_call 93; refine (cInsertS stab0 _ o f t HS.out HV.out HLN.out).mono ?_; rintro e w2 ⟨r, rfl, hz⟩; have HZ := hid hz; clear hz))
      go_roundw
      case rel => exact ⟨k + 1, by omega, by go_num, by rw [HT.out]; exact HZ.out⟩
      case measure => simp [intOf]; omega
    · obtain rfl : k = l.length := by omega
      rw [List.take_length] at HS
      go_wp2_with fail
      go_ret
      exact ⟨_, rfl, Sts.isNewR HS.out rfl⟩
set_option maxRecDepth 100000 in
theorem cRefAdd (w : World) (v : Value) (l : List Rng.R) (f t : Int) (h : RdR w v l) (hn : l.length < 390000) :
    Calls Try.prog 45 #[v, .agg #[.int .i64 f, .int .i64 t]] w fun e w' => ∃ r, e = .returned r ∧ NewR w w' r (Rng.ofV (l ++ [(f, t)])) := by
  rw [Rng.ofV_snoc]
  have HR := hid h
  have HB := hid ((Sts.nil w).alloc stab0 (.cells #[.int .i64 f, .int .i64 t] 81))
  have HV := hid (Rng.ofV_spec l).1
  have hln := Rng.ofV_len l
  clear h
  go_enter Try.func45, Try.ntmps45
  go_wp2_with fail
  refine wp_region_ord (.pure 0 (.pure 2 (.eff 1 (.eff 3 (.pure 4 .nil))))) (fun y => y.cell? ⟨w.heap.size, 0, none⟩ = some (.int .i64 f) ∧ y.cell? ⟨w.heap.size, 1, none⟩ = some (.int .i64 t)) (fun y => Sts w [blkP w.heap.size (.cells #[.int .i64 f, .int .i64 t] 81 (0, 0))] y) (by kernel_rfl) (by kernel_rfl) (HB.out.drew (stabC (blkP_stable _ _) stab0)) (fun z hz => ⟨(Sts.boxCell hz 0 _ rfl).1, (Sts.boxCell hz 1 _ rfl).1⟩) ?_
  iterate 2
    (apply ord_pure (ho := rfl)
     · go_simp
     · intro x hx; obtain ⟨q0, q1⟩ := hx; go_simp; rfl
     apply ord_norm
     · go_simp; rfl)
  apply ord_eff (ho := rfl)
  · go_simp
  intro y hy
  refine eff_call (f := 94) (by go_simp) (cOf y v l (HR.out.below hy.below) (by omega)) ?_
  rintro e w2 ⟨r, rfl, hN⟩
  have hs2 := Sts.newR (stab1 (blkP_stable _ _)) hy hN
  refine ⟨_, rfl, (fun y => y.cell? ⟨w.heap.size, 0, none⟩ = some (.int .i64 f) ∧ y.cell? ⟨w.heap.size, 1, none⟩ = some (.int .i64 t)), (fun y => Sts w [rowP 81 2 r (Rng.ofV l).length (Fil.rcells (Rng.ofV l)), blkP w.heap.size (.cells #[.int .i64 f, .int .i64 t] 81 (0, 0))] y), hs2, (fun z hz => ⟨(Sts.boxCell hz.tail 0 _ rfl).1, (Sts.boxCell hz.tail 1 _ rfl).1⟩), (fun _ h => h), ?_⟩
  clear hs2 hN hy y
  apply ord_norm
  · go_simp; rfl
  apply ord_eff (ho := rfl)
  · go_simp
  intro y hy
  refine eff_call (f := 93) (by go_simp) (cInsertS (stab1 (blkP_stable _ _)) r (Rng.ofV l) f t hy HV.out (by omega)) ?_
  rintro e w3 ⟨r2, rfl, hz⟩
  refine ⟨_, rfl, (fun y => y.cell? ⟨w.heap.size, 0, none⟩ = some (.int .i64 f) ∧ y.cell? ⟨w.heap.size, 1, none⟩ = some (.int .i64 t)), (fun y => Sts w [rowP 81 2 r2 (Rng.put (Rng.ofV l) (f, t)).length (Fil.rcells (Rng.put (Rng.ofV l) (f, t))), blkP w.heap.size (.cells #[.int .i64 f, .int .i64 t] 81 (0, 0))] y), hz, (fun z hz => ⟨(Sts.boxCell hz.tail 0 _ rfl).1, (Sts.boxCell hz.tail 1 _ rfl).1⟩), (fun _ h => h), ?_⟩
  clear hz hy y
  apply ord_norm
  · go_simp; rfl
  apply ord_pure (ho := rfl)
  · go_simp
  · intro x hx; go_simp; rfl
  apply ord_norm
  · go_simp; rfl
  refine ord_nil fun z hz => ?_
  have HZ := hid hz
  clear hz
  go_wp2_with fail
  go_ret
  exact ⟨_, rfl, Sts.isNewR HZ.out rfl⟩
set_option maxRecDepth 100000 in
set_option maxHeartbeats 4000000 in
theorem cRefRemove (w : World) (v : Value) (l : List Rng.R) (f t : Int) (h : RdR w v l) (hn : l.length < 200000) :
    Calls Try.prog 95 #[v, .agg #[.int .i64 f, .int .i64 t]] w fun e w' => ∃ r, e = .returned r ∧ NewR w w' r (Rng.remV l (f, t)) := by
  have hB0 := (Sts.nil w).alloc stab0 (.cells #[.int .i64 f, .int .i64 t] 81)
  have HN := hid (cOf (w.alloc (.cells #[.int .i64 f, .int .i64 t] 81)) v l (h.below hB0.below) (by omega))
  have HB := hid hB0
  have hol := Rng.ofV_len l
  clear h hB0
  cases hd : decide (f ≥ t) with
  | true =>
    have HR : Hid (Rng.remV l (f, t) = Rng.ofV l) := hid (by unfold Rng.remV; rw [if_pos (by simpa using hd)])
    rw [HR.out]
    clear HR
    go_enter Try.func95, Try.ntmps95
    go_wp2_with (first | (go_at_call 94; refine HN.out.mono ?_; rintro e w1 ⟨r1, rfl, hN⟩; have H1 := hid (Sts.newR (stab1 (blkP_stable _ _)) HB.out hN); have b0 := (Sts.boxCell H1.out.tail 0 _ rfl).1; have b1 := (Sts.boxCell H1.out.tail 1 _ rfl).1; clear hN HN))
    go_ret
    exact ⟨_, rfl, Sts.isNewR H1.out rfl⟩
  | false =>
    have HR : Hid (Rng.remV l (f, t) = (Rng.ofV l).flatMap (Rng.cutN (f, t))) := hid (Rng.remV_cutN l (f, t) (by simpa using hd)).symm
    rw [HR.out]
    clear HR
    generalize Rng.ofV l = d at *
    have hdl : d.length < 200000 := by omega
    clear hol hn
    go_enter Try.func95, Try.ntmps95
    go_wp2_with (first | (go_at_call 94; refine HN.out.mono ?_; rintro e w1 ⟨r1, rfl, hN⟩; have H1 := hid (Sts.newR (stab1 (blkP_stable _ _)) HB.out hN); have b0 := (Sts.boxCell H1.out.tail 0 _ rfl).1; have b1 := (Sts.boxCell H1.out.tail 1 _ rfl).1; obtain ⟨a2, c2, rfl⟩ := (RdR.of_own hN.own rfl).eq; clear hN HN))
    clear b0 b1
    go_loopw [6, 7] (fun vo i wr => ∃ k : Nat, k ≤ d.length ∧ i = .int .i64 k ∧ Sts w [rowP 81 2 vo ((d.take k).flatMap (Rng.cutN (f, t))).length (Fil.rcells ((d.take k).flatMap (Rng.cutN (f, t)))), rowP 81 2 (.slice a2 d.length c2) d.length (Fil.rcells d), blkP w.heap.size (.cells #[.int .i64 f, .int .i64 t] 81 (0, 0))] wr) (fun _ i _ => d.length - (intOf i).toNat)
    case atStart => exact ⟨0, by omega, rfl, Sts.rowNilK _ _ H1.out⟩
    case round =>
      obtain ⟨k, hk, rfl, hS⟩ := hrel
      have HS := hid hS
      have hml := Rng.cutsN_len (f, t) (d.take k)
      rw [List.length_take] at hml
      clear hS H1
      by_cases hlt : k < d.length
      · obtain ⟨g, rfl⟩ : ∃ g, a2 = some ⟨g, 0, none⟩ := by
          rcases (Sts.rowOwnK HS.out.tail).2 with ⟨h2, h3⟩ | ⟨g, cap, cur, hv, _⟩
          · omega
          · injection hv with h1 h2 h3; exact ⟨g, h1⟩
        have HC0 := hid (rcells_get d k hlt).1
        have HC1 := hid (rcells_get d k hlt).2
        have HT : Hid ((d.take (k + 1)).flatMap (Rng.cutN (f, t)) = (d.take k).flatMap (Rng.cutN (f, t)) ++ Rng.cutN (f, t) d[k]) := hid (by rw [List.take_add_one, List.getElem?_eq_getElem hlt, List.flatMap_append]; simp)
        generalize d[k] = x at *
        generalize (d.take k).flatMap (Rng.cutN (f, t)) = o at *
        obtain ⟨x1, x2⟩ := x
        have HCN := hid (Rng.cutN_eq (f, t) (x1, x2))
        have HL : Hid (∀ B ∈ [rowP 81 2 u6 (o).length (Fil.rcells (o)), rowP 81 2 (.slice (some ⟨g, 0, none⟩) d.length c2) d.length (Fil.rcells d), blkP w.heap.size (.cells #[.int .i64 f, .int .i64 t] 81 (0, 0))], Stable B) := hid (stabC (rowP_stable _ _ _ _ _) (stabC (rowP_stable _ _ _ _ _) (stab1 (blkP_stable _ _))))
        have HL2 : ∀ {g8 : Nat}, Hid (∀ B ∈ [blkP g8 (.cells #[.int .i64 x1, .int .i64 (min x2 f)] 81 (0, 0)), rowP 81 2 u6 (o).length (Fil.rcells (o)), rowP 81 2 (.slice (some ⟨g, 0, none⟩) d.length c2) d.length (Fil.rcells d), blkP w.heap.size (.cells #[.int .i64 f, .int .i64 t] 81 (0, 0))], Stable B) := fun {_} => hid (stabC (blkP_stable _ _) HL.out)
        go_wp2_with fail
        refine wp_region_ord (.pure 0 (.pure 1 (.pure 2 (.pure 3 (.pure 4 (.pure 5 (.pure 6 (.pure 7 (.pure 8 (.pure 9 (.pure 10 (.pure 11 (.pure 12 (.pure 13 (.eff 14 (.eff 15 .nil)))))))))))))))) (fun y => y.cell? ⟨g, k * 2, none⟩ = some (.int .i64 x1) ∧ y.cell? ⟨g, k * 2 + 1, none⟩ = some (.int .i64 x2) ∧ y.cell? ⟨w.heap.size, 0, none⟩ = some (.int .i64 f)) (fun y => Sts w [rowP 81 2 u6 (o).length (Fil.rcells (o)), rowP 81 2 (.slice (some ⟨g, 0, none⟩) d.length c2) d.length (Fil.rcells d), blkP w.heap.size (.cells #[.int .i64 f, .int .i64 t] 81 (0, 0))] y) (by kernel_rfl) (by kernel_rfl) (HS.out.drew HL.out) (fun y hy => ⟨Sts.rowCellK hy.tail (k * 2) (by omega) _ HC0.out, Sts.rowCellK hy.tail (k * 2 + 1) (by omega) _ HC1.out, (Sts.boxCell hy.tail.tail 0 _ rfl).1⟩) ?_
        iterate 12
          (apply ord_pure (ho := rfl)
           · go_simp
           · intro x hx; obtain ⟨q1, q2, q3⟩ := hx; go_simp; rfl
           apply ord_norm
           · go_simp; rfl)
        (refine ord_pure _ (.int .i64 (min x2 f)) rfl ?_ ?_ ?_
         · go_simp
         · intro x hx; obtain ⟨q1, q2, q3⟩ := hx; go_simp; first | done | omega | (split <;> omega)
         apply ord_norm
         · go_simp; rfl)
        iterate 1
          (apply ord_pure (ho := rfl)
           · go_simp
           · intro x hx; obtain ⟨q1, q2, q3⟩ := hx; go_simp; rfl
           apply ord_norm
           · go_simp; rfl)
        apply ord_eff (ho := rfl)
        · go_simp
        intro y hy
        have hs2 := hy.alloc HL.out (.cells #[.int .i64 0, .int .i64 0] 81)
        generalize hgb : y.heap.size = g8 at hs2
        refine eff_value (fun y => y.cell? ⟨g, k * 2, none⟩ = some (.int .i64 x1) ∧ y.cell? ⟨g, k * 2 + 1, none⟩ = some (.int .i64 x2) ∧ y.cell? ⟨w.heap.size, 0, none⟩ = some (.int .i64 f)) (fun y => Sts w (blkP g8 (.cells #[.int .i64 0, .int .i64 0] 81 (0, 0)) :: [rowP 81 2 u6 (o).length (Fil.rcells (o)), rowP 81 2 (.slice (some ⟨g, 0, none⟩) d.length c2) d.length (Fil.rcells d), blkP w.heap.size (.cells #[.int .i64 f, .int .i64 t] 81 (0, 0))]) y) (w := y.alloc (.cells #[.int .i64 0, .int .i64 0] 81)) (v := .pointer (some ⟨g8, 0, none⟩)) ?_ hs2 (fun y hy => ⟨Sts.rowCellK hy.tail.tail (k * 2) (by omega) _ HC0.out, Sts.rowCellK hy.tail.tail (k * 2 + 1) (by omega) _ HC1.out, (Sts.boxCell hy.tail.tail.tail 0 _ rfl).1⟩) (fun _ h => h) ?_
        · clear hs2 hy; subst hgb; go_simp
        clear hs2 hy hgb y
        apply ord_norm
        · go_simp; rfl
        apply ord_eff (ho := rfl)
        · go_simp
        intro y hy
        have z0 := (Sts.boxCell hy 0 _ rfl).1
        have z1 := (Sts.boxCell hy 1 _ rfl).1
        have fz : ∀ j, y.frozen? ⟨g8, j, none⟩ = false := fun j => by obtain ⟨F, hF⟩ := hy.head; exact free_blk hF.1
        have hy2 := Sts.store HL.out (Sts.store HL.out hy (j := 0) (.int .i64 x1)) (j := 1) (.int .i64 (min x2 f))
        refine eff_skip (fun y => y.cell? ⟨g, k * 2, none⟩ = some (.int .i64 x1) ∧ y.cell? ⟨g, k * 2 + 1, none⟩ = some (.int .i64 x2) ∧ y.cell? ⟨w.heap.size, 0, none⟩ = some (.int .i64 f)) (fun y => Sts w (blkP g8 (.cells #[.int .i64 x1, .int .i64 (min x2 f)] 81 (0, 0)) :: [rowP 81 2 u6 (o).length (Fil.rcells (o)), rowP 81 2 (.slice (some ⟨g, 0, none⟩) d.length c2) d.length (Fil.rcells d), blkP w.heap.size (.cells #[.int .i64 f, .int .i64 t] 81 (0, 0))]) y) (w := (y.setCell ⟨g8, 0, none⟩ (.int .i64 x1)).setCell ⟨g8, 1, none⟩ (.int .i64 (min x2 f))) ?_ hy2 (fun y hy => ⟨Sts.rowCellK hy.tail.tail (k * 2) (by omega) _ HC0.out, Sts.rowCellK hy.tail.tail (k * 2 + 1) (by omega) _ HC1.out, (Sts.boxCell hy.tail.tail.tail 0 _ rfl).1⟩) (fun _ h => h) ?_
        · clear hy hy2; go_simp
        clear hy hy2 z0 z1 fz y
        apply ord_norm
        · go_simp; rfl
        refine ord_nil fun z hz => ?_
        have HW8 := hid hz
        clear hz
        go_wp2_with fail
        refine wp_region_ord (.pure 0 (.pure 1 (.pure 2 (.pure 3 (.pure 4 (.pure 5 (.pure 6 (.pure 7 (.pure 8 (.pure 9 (.pure 10 (.pure 11 (.pure 12 (.pure 13 (.eff 14 (.eff 15 .nil)))))))))))))))) (fun y => y.cell? ⟨g, k * 2, none⟩ = some (.int .i64 x1) ∧ y.cell? ⟨g, k * 2 + 1, none⟩ = some (.int .i64 x2) ∧ y.cell? ⟨w.heap.size, 1, none⟩ = some (.int .i64 t)) (fun y => Sts w [blkP g8 (.cells #[.int .i64 x1, .int .i64 (min x2 f)] 81 (0, 0)), rowP 81 2 u6 (o).length (Fil.rcells (o)), rowP 81 2 (.slice (some ⟨g, 0, none⟩) d.length c2) d.length (Fil.rcells d), blkP w.heap.size (.cells #[.int .i64 f, .int .i64 t] 81 (0, 0))] y) (by kernel_rfl) (by kernel_rfl) (HW8.out.drew HL2.out) (fun y hy => ⟨Sts.rowCellK hy.tail.tail (k * 2) (by omega) _ HC0.out, Sts.rowCellK hy.tail.tail (k * 2 + 1) (by omega) _ HC1.out, (Sts.boxCell hy.tail.tail.tail 1 _ rfl).1⟩) ?_
        iterate 7
          (apply ord_pure (ho := rfl)
           · go_simp
           · intro x hx; obtain ⟨q1, q2, q3⟩ := hx; go_simp; rfl
           apply ord_norm
           · go_simp; rfl)
        (refine ord_pure _ (.int .i64 (max x1 t)) rfl ?_ ?_ ?_
         · go_simp
         · intro x hx; obtain ⟨q1, q2, q3⟩ := hx; go_simp; first | done | omega | (split <;> omega)
         apply ord_norm
         · go_simp; rfl)
        iterate 6
          (apply ord_pure (ho := rfl)
           · go_simp
           · intro x hx; obtain ⟨q1, q2, q3⟩ := hx; go_simp; rfl
           apply ord_norm
           · go_simp; rfl)
        apply ord_eff (ho := rfl)
        · go_simp
        intro y hy
        have hs2 := hy.alloc HL2.out (.cells #[.int .i64 0, .int .i64 0] 81)
        generalize hgb : y.heap.size = g9 at hs2
        refine eff_value (fun y => y.cell? ⟨g, k * 2, none⟩ = some (.int .i64 x1) ∧ y.cell? ⟨g, k * 2 + 1, none⟩ = some (.int .i64 x2) ∧ y.cell? ⟨w.heap.size, 1, none⟩ = some (.int .i64 t)) (fun y => Sts w (blkP g9 (.cells #[.int .i64 0, .int .i64 0] 81 (0, 0)) :: [blkP g8 (.cells #[.int .i64 x1, .int .i64 (min x2 f)] 81 (0, 0)), rowP 81 2 u6 (o).length (Fil.rcells (o)), rowP 81 2 (.slice (some ⟨g, 0, none⟩) d.length c2) d.length (Fil.rcells d), blkP w.heap.size (.cells #[.int .i64 f, .int .i64 t] 81 (0, 0))]) y) (w := y.alloc (.cells #[.int .i64 0, .int .i64 0] 81)) (v := .pointer (some ⟨g9, 0, none⟩)) ?_ hs2 (fun y hy => ⟨Sts.rowCellK hy.tail.tail.tail (k * 2) (by omega) _ HC0.out, Sts.rowCellK hy.tail.tail.tail (k * 2 + 1) (by omega) _ HC1.out, (Sts.boxCell hy.tail.tail.tail.tail 1 _ rfl).1⟩) (fun _ h => h) ?_
        · clear hs2 hy; subst hgb; go_simp
        clear hs2 hy hgb y
        apply ord_norm
        · go_simp; rfl
        apply ord_eff (ho := rfl)
        · go_simp
        intro y hy
        have z0 := (Sts.boxCell hy 0 _ rfl).1
        have z1 := (Sts.boxCell hy 1 _ rfl).1
        have fz : ∀ j, y.frozen? ⟨g9, j, none⟩ = false := fun j => by obtain ⟨F, hF⟩ := hy.head; exact free_blk hF.1
        have hy2 := Sts.store HL2.out (Sts.store HL2.out hy (j := 0) (.int .i64 (max x1 t))) (j := 1) (.int .i64 x2)
        refine eff_skip (fun y => y.cell? ⟨g, k * 2, none⟩ = some (.int .i64 x1) ∧ y.cell? ⟨g, k * 2 + 1, none⟩ = some (.int .i64 x2) ∧ y.cell? ⟨w.heap.size, 1, none⟩ = some (.int .i64 t)) (fun y => Sts w (blkP g9 (.cells #[.int .i64 (max x1 t), .int .i64 x2] 81 (0, 0)) :: [blkP g8 (.cells #[.int .i64 x1, .int .i64 (min x2 f)] 81 (0, 0)), rowP 81 2 u6 (o).length (Fil.rcells (o)), rowP 81 2 (.slice (some ⟨g, 0, none⟩) d.length c2) d.length (Fil.rcells d), blkP w.heap.size (.cells #[.int .i64 f, .int .i64 t] 81 (0, 0))]) y) (w := (y.setCell ⟨g9, 0, none⟩ (.int .i64 (max x1 t))).setCell ⟨g9, 1, none⟩ (.int .i64 x2)) ?_ hy2 (fun y hy => ⟨Sts.rowCellK hy.tail.tail.tail (k * 2) (by omega) _ HC0.out, Sts.rowCellK hy.tail.tail.tail (k * 2 + 1) (by omega) _ HC1.out, (Sts.boxCell hy.tail.tail.tail.tail 1 _ rfl).1⟩) (fun _ h => h) ?_
        · clear hy hy2; go_simp
        clear hy hy2 z0 z1 fz y
        apply ord_norm
        · go_simp; rfl
        refine ord_nil fun z hz => ?_
        have HW9 := hid hz
        clear hz
        have e0 := (Sts.boxCell HW9.out.tail 0 _ rfl).1
        have e1 := (Sts.boxCell HW9.out.tail 1 _ rfl).1
        have e2 := (Sts.boxCell HW9.out 0 _ rfl).1
        have e3 := (Sts.boxCell HW9.out 1 _ rfl).1
        have HR0 := hid ((HW9.out.tail.tail))
        have HLL : Hid (∀ B ∈ [rowP 81 2 (.slice (some ⟨g, 0, none⟩) d.length c2) d.length (Fil.rcells d), blkP w.heap.size (.cells #[.int .i64 f, .int .i64 t] 81 (0, 0)), blkP g9 (.cells #[.int .i64 (max x1 t), .int .i64 x2] 81 (0, 0))], Stable B) := hid (stabC (rowP_stable _ _ _ _ _) (stabC (blkP_stable _ _) (stab1 (blkP_stable _ _))))
        have HR1 : Hid (Sts w [rowP 81 2 u6 (o).length (Fil.rcells (o)), rowP 81 2 (.slice (some ⟨g, 0, none⟩) d.length c2) d.length (Fil.rcells d), blkP w.heap.size (.cells #[.int .i64 f, .int .i64 t] 81 (0, 0)), blkP g9 (.cells #[.int .i64 (max x1 t), .int .i64 x2] 81 (0, 0))] z) := hid ((HW9.out.swap.tail).perm ((List.perm_append_comm (l₁ := [_]) (l₂ := [_, _, _]))))
        have hol : o.length + 4 < 1000000 := by omega
        clear HS HW8 HR0
        generalize min x2 f = m8 at *
        generalize max x1 t = m9 at *
        cases d8 : decide (x1 < m8) <;> cases d9 : decide (m9 < x2)
        · go_wp2_with fail
          go_roundw
          case rel =>
            refine ⟨k + 1, by omega, by go_num, ?_⟩
            have hcn : Rng.cutN (f, t) (x1, x2) = [] ++ [] := HCN.out.trans (by rw [if_neg (by simpa using d8), if_neg (by simpa using d9)])
            rw [HT.out, hcn]
            rw [List.append_nil, List.append_nil]
            exact (HR1.out.perm ((List.perm_append_comm (l₁ := [_, _, _]) (l₂ := [_])))).tail
          case measure => simp [intOf]; omega
        · have HA2 := hid (Sts.box (stabC (rowP_stable _ _ _ _ _) HLL.out) HR1.out (.cells #[.int .i64 m9, .int .i64 x2] 81))
          go_wp2_with (at_builtin; (refine wpList_appendR rfl (.tmp 66) (.tmp 68) rfl HA2.out HLL.out rfl _ rfl (rdR_one _ m9 x2) (by simp; omega) ?_; intro v2 w6 hz; have HY := hid hz; clear hz))
          go_roundw
          case rel =>
            refine ⟨k + 1, by omega, by go_num, ?_⟩
            have hcn : Rng.cutN (f, t) (x1, x2) = [] ++ [(m9, x2)] := HCN.out.trans (by rw [if_neg (by simpa using d8), if_pos (by simpa using d9)])
            rw [HT.out, hcn]
            rw [List.nil_append]
            exact (HY.out.perm ((List.perm_append_comm (l₁ := [_, _, _]) (l₂ := [_])))).tail
          case measure => simp [intOf]; omega
        · have HA1 := hid (Sts.box (stabC (rowP_stable _ _ _ _ _) HLL.out) HR1.out (.cells #[.int .i64 x1, .int .i64 m8] 81))
          go_wp2_with (at_builtin; (refine wpList_appendR rfl (.tmp 57) (.tmp 59) rfl HA1.out HLL.out rfl _ rfl (rdR_one _ x1 m8) (by simp; omega) ?_; intro v1 w5 hz; have HZ := hid hz; clear hz; have e2 := (Sts.boxCell HZ.out.tail.tail.tail 0 _ rfl).1; have e3 := (Sts.boxCell HZ.out.tail.tail.tail 1 _ rfl).1))
          go_roundw
          case rel =>
            refine ⟨k + 1, by omega, by go_num, ?_⟩
            have hcn : Rng.cutN (f, t) (x1, x2) = [(x1, m8)] ++ [] := HCN.out.trans (by rw [if_pos (by simpa using d8), if_neg (by simpa using d9)])
            rw [HT.out, hcn]
            rw [List.append_nil]
            exact (HZ.out.perm ((List.perm_append_comm (l₁ := [_, _, _]) (l₂ := [_])))).tail
          case measure => simp [intOf]; omega
        · have HA1 := hid (Sts.box (stabC (rowP_stable _ _ _ _ _) HLL.out) HR1.out (.cells #[.int .i64 x1, .int .i64 m8] 81))
          go_wp2_with (at_builtin; first | (refine wpList_appendR rfl (.tmp 57) (.tmp 59) rfl HA1.out HLL.out rfl _ rfl (rdR_one _ x1 m8) (by simp; omega) ?_; intro v1 w5 hz; have HZ := hid hz; have HA2 := hid (Sts.box (stabC (rowP_stable _ _ _ _ _) HLL.out) hz (.cells #[.int .i64 m9, .int .i64 x2] 81)); clear hz; have e2 := (Sts.boxCell HZ.out.tail.tail.tail 0 _ rfl).1; have e3 := (Sts.boxCell HZ.out.tail.tail.tail 1 _ rfl).1) | (refine wpList_appendR rfl (.tmp 66) (.tmp 68) rfl HA2.out HLL.out rfl _ rfl (rdR_one _ m9 x2) (by simp; omega) ?_; intro v2 w6 hz; have HY := hid hz; clear hz))
          go_roundw
          case rel =>
            refine ⟨k + 1, by omega, by go_num, ?_⟩
            have hcn : Rng.cutN (f, t) (x1, x2) = [(x1, m8)] ++ [(m9, x2)] := HCN.out.trans (by rw [if_pos (by simpa using d8), if_pos (by simpa using d9)])
            rw [HT.out, hcn]
            rw [← List.append_assoc]
            exact (HY.out.perm ((List.perm_append_comm (l₁ := [_, _, _]) (l₂ := [_])))).tail
          case measure => simp [intOf]; omega
      · obtain rfl : k = d.length := by omega
        rw [List.take_length] at HS
        go_wp2_with fail
        go_ret
        exact ⟨_, rfl, Sts.isNewR HS.out rfl⟩
end Go.Proofs.Ytfjadhkhmhnccaa
