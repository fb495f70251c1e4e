/- SortFunc over a row of ranges. ranges.normal. -/
import Derived.Test.YtfjadhkhmhnccaaRngB
import Derived.Test.YtfjadhkhmhnccaaShelf
import Derived.Lib.RowBridge
import Derived.Shelf.SlSortCmp.NoneTotal
set_option linter.unusedVariables false
set_option linter.unusedSimpArgs false
namespace Go.Proofs.Ytfjadhkhmhnccaa
open Go.RowKit Go.Proofs.Num Go.Shelf Go.Lib
open Go.Sort (grow alloc_eq_grow grow_grow Holds HoldsK putRow putRowK putCells mapBlock flatK SWO SortedIn PermIn)
/-- A range's two cells. -/
def encR (x : Int × Int) : List Value := [.int .i64 x.1, .int .i64 x.2]
abbrev cfR : Int × Int → Int × Int → Int := fun x y => Lib.compareInt x.1 y.1
theorem ltR (x y : Int × Int) : ltOf cfR x y = decide (x.1 < y.1) := by
  unfold ltOf cfR Lib.compareInt
  by_cases h1 : x.1 < y.1
  · simp [h1]
  · by_cases h2 : y.1 < x.1 <;> simp [h1, h2]
theorem swoR : SWO (ltOf cfR) where
  irrefl x := by rw [ltR]; simp
  trans x y z h1 h2 := by rw [ltR] at *; simp at *; omega
  ntrans x y z h1 h2 := by rw [ltR] at *; simp at *; omega
set_option maxHeartbeats 1000000 in
theorem cCmpR (x y : Int × Int) (W : World) : Calls Try.prog 125 #[.agg #[.int .i64 x.1, .int .i64 x.2], .agg #[.int .i64 y.1, .int .i64 y.2]] W fun e w' => e = .returned (.int .i64 (Lib.compareInt x.1 y.1)) ∧ ∃ q os', w' = grow (W.drewN q) os' := by
  have hcon := fun W' => AnyG.cmp_Compare_int Try.cmpInt x.1 y.1 W'
  change ∀ W', Calls Try.prog 126 _ _ _ at hcon
  generalize Lib.compareInt x.1 y.1 = r at hcon ⊢
  go_enter Try.func125, Try.ntmps125
  go_wp2_with (go_at_call 126; refine (hcon _).mono ?_; rintro e w' ⟨rfl, rfl⟩)
  go_ret
  exact ⟨rfl, 0, _, by rw [alloc_eq_grow, alloc_eq_grow, grow_grow]; rfl⟩
theorem cmpLaysR (blk off size : Nat) (w : World) : CmpLays Try.prog 125 #[] encR 2 cfR blk off size w :=
  fun _ _ _ _ x y => cCmpR x y _
theorem flat_get (d : Array (Int × Int)) (i : Nat) (h : i < d.size * 2) : (flatK encR 2 d)[i]? = (Fil.rcells d.toList)[i]? := by
  have hj : i / 2 < d.size := by omega
  have hg := rcells_get d.toList (i / 2) (by simpa using hj)
  have e0 : (flatK encR 2 d)[i]? = some (encR d[i / 2]!)[i % 2]! := by
    rw [Array.getElem?_eq_getElem (by simpa using h), ← getElem!_pos _ i (by simpa using h), Sort.get_flatK _ _ _ _ h]
  rw [e0, getElem!_pos d _ hj]
  rcases (by omega : i / 2 * 2 = i ∨ i / 2 * 2 + 1 = i) with e | e
  · rw [e] at hg; rw [hg.1, show i % 2 = 0 by omega]; rfl
  · rw [e] at hg; rw [hg.2, show i % 2 = 1 by omega]; rfl
theorem flat_toList (d : Array (Int × Int)) : (flatK encR 2 d).toList = Fil.rcells d.toList := by
  apply List.ext_getElem?
  intro i
  rw [Array.getElem?_toList]
  rcases Nat.lt_or_ge i (d.size * 2) with h | h
  · exact flat_get d i h
  · rw [Array.getElem?_eq_none (by simpa using h), List.getElem?_eq_none (by rw [rcells_len]; simpa using h)]
/-- The row at the head is the sort's. -/
theorem Sts.holdsR {W w : World} {L : List HProp} {g cap n : Nat} {l : List Rng.R} (h : Sts W (rowP 81 2 (.slice (some ⟨g, 0, none⟩) n cap) n (Fil.rcells l) :: L) w) (hn : l.length = n) : HoldsK encR 2 w g 0 l.toArray := by
  intro j hj
  have hj' : j < l.length * 2 := by simpa using hj
  refine ⟨?_, by rw [Nat.zero_add]; exact Sts.rowFreeK h j⟩
  rw [Nat.zero_add]
  refine Sts.rowCellK h j (by omega) _ ?_
  have e := flat_get l.toArray j (by simpa using hj')
  rw [← e, Array.getElem?_eq_getElem hj, getElem!_pos _ j hj]
  rfl
theorem Sts.rowStoresAll {W : World} {e : TypeId} {g cap n s : Nat} {L : List HProp} (hL : ∀ A ∈ L, Stable A) : ∀ (zs pre xs : List Value) (w : World), Sts W (rowP e s (.slice (some ⟨g, 0, none⟩) n cap) n (pre ++ xs) :: L) w → xs.length = zs.length →
    Sts W (rowP e s (.slice (some ⟨g, 0, none⟩) n cap) n (pre ++ zs) :: L) (w.setCells g pre.length zs)
  | [], pre, xs, w, h, hx => by have : xs = [] := List.eq_nil_of_length_eq_zero (by simpa using hx); subst this; exact h
  | z :: zs, pre, [], w, h, hx => by simp at hx
  | z :: zs, pre, x :: xs, w, h, hx => by
    have h1 := Sts.rowStoreK hL h pre.length z
    rw [List.set_append_right _ _ (Nat.le_refl _), Nat.sub_self, List.set_cons_zero] at h1
    have h2 := Sts.rowStoresAll hL zs (pre ++ [z]) xs _ (by rw [List.append_assoc]; exact h1) (by simpa using hx)
    rw [List.append_assoc, List.length_append] at h2
    exact h2
theorem below_grow (w : World) (os : Array Obj) : Below w.heap.size w (grow w os) :=
  ⟨rfl, rfl, rfl, by simp [grow], fun i hi => Sort.heap_grow_old w os hi⟩
/-- The row as the sort leaves it. -/
theorem Sts.sorted {W w : World} {L : List HProp} {g cap n : Nat} {l : List Rng.R} (hL : ∀ A ∈ L, Stable A) (h : Sts W (rowP 81 2 (.slice (some ⟨g, 0, none⟩) n cap) n (Fil.rcells l) :: L) w) (hn : l.length = n) (d : Array (Int × Int)) (hd : d.size = n) (q : Nat) (os : Array Obj) :
    Sts W (rowP 81 2 (.slice (some ⟨g, 0, none⟩) n cap) n (Fil.rcells d.toList) :: L) (sortWorldK encR 2 w g 0 q d os) := by
  have hL2 : ∀ A ∈ rowP 81 2 (.slice (some ⟨g, 0, none⟩) n cap) n (Fil.rcells l) :: L, Stable A := stabC (rowP_stable _ _ _ _ _) hL
  have h1 : Sts W (rowP 81 2 (.slice (some ⟨g, 0, none⟩) n cap) n (Fil.rcells l) :: L) (w.drewN q) := h.quiet hL2 (below_drewN (Below.refl _ _) q)
  have h2 := Sts.rowStoresAll hL (Fil.rcells d.toList) [] (Fil.rcells l) _ h1 (by rw [rcells_len, rcells_len]; simp [hn, hd])
  have hK := Sts.holdsR h hn
  have e : sortWorldK encR 2 w g 0 q d os = grow ((w.drewN q).setCells g 0 (Fil.rcells d.toList)) os := by
    unfold sortWorldK putRowK
    rw [← flat_toList d]
    have := putRow_eq_setCells id w g 0 (flatK encR 2 l.toArray) (flatK encR 2 d).toList q hK (by simp [hn, hd])
    simp only [List.map_id, Array.toArray_toList] at this
    rw [this]
  rw [e]
  exact h2.quiet (stabC (rowP_stable _ _ _ _ _) hL) (below_grow _ _)
set_option maxRecDepth 100000 in
theorem aggR : ∀ w, (isAgg 81).run Try.prog w = .ok true w := fun w => by first | rfl | simp [go_sem] | kernel_rfl
theorem cSortSome {W w : World} {L : List HProp} (hL : ∀ A ∈ L, Stable A) (g cap : Nat) (l : List Rng.R) (hs : Sts W (rowP 81 2 (.slice (some ⟨g, 0, none⟩) l.length cap) l.length (Fil.rcells l) :: L) w) (hn : l.length < 1000000) :
    Calls Try.prog 124 #[.slice (some ⟨g, 0, none⟩) l.length cap, .func (.func 125) #[] #[]] w fun e w' => e = .returned (.tuple #[]) ∧ ∃ d : List Rng.R, d.Perm l ∧ d.Pairwise (fun a b => a.1 ≤ b.1) ∧ Sts W (rowP 81 2 (.slice (some ⟨g, 0, none⟩) l.length cap) l.length (Fil.rcells d) :: L) w' := by
  have eg : ∀ args w, (callFunc 125 args).run Try.prog w = .ok (.enter 125 args) w := enters_of Try.func125 (by kernel_rfl) rfl
  have hblk : g < w.heap.size := (Sts.rowOwnK hs).lt g rfl |>.2
  have hcon := AnyQ.slices_SortFunc Try.sortRng 2 aggR sizeR encR (fun _ => rfl) (fun x v hv => by simp [encR] at hv; rcases hv with rfl | rfl <;> rfl) cfR swoR 125 #[] g 0 cap l.toArray w eg (cmpLaysR g 0 l.toArray.size w) (Sts.holdsR hs rfl) hblk (by simp; omega)
  change Calls Try.prog 124 _ _ _ at hcon
  rw [List.size_toArray] at hcon
  refine hcon.mono ?_
  rintro e w' ⟨rfl, d, n, os, ⟨hsz, -, hp⟩, hso, rfl⟩
  have hd : d.size = l.length := by rw [hsz]; simp
  refine ⟨rfl, d.toList, ?_, ?_, Sts.sorted hL hs rfl d hd n os⟩
  · rw [show d.extract 0 l.length = d by rw [← hd]; simp, show l.toArray.extract 0 l.length = l.toArray by simp] at hp
    exact hp
  · rw [List.pairwise_iff_getElem]
    intro i j hi hj hij
    have h := hso i j (Nat.zero_le _) hij (by rw [← hd]; simpa using hj)
    rw [ltR, getElem!_pos d i (by simpa using hi), getElem!_pos d j (by simpa using hj)] at h
    simpa using h
end Go.Proofs.Ytfjadhkhmhnccaa
namespace Go.Proofs.Ytfjadhkhmhnccaa
open Go.RowKit Go.Proofs.Num
theorem cell_two_new (w : World) (x y : Value) (t : TypeId) : ∀ j u, [x, y][j]? = some u → (w.alloc (.cells #[x, y] t)).cell? ((⟨w.heap.size, 0, none⟩ : Addr).add j) = some u := by
  intro j u hj
  rw [plain_add, Nat.zero_add]
  have hh : (w.alloc (.cells #[x, y] t)).heap[w.heap.size]? = some (.cells #[x, y] t (0, 0)) := by
    show (w.heap.push (.cells #[x, y] t (0, 0)))[w.heap.size]? = _
    simp
  exact cell_blk hh (by simpa using hj)
theorem cSortR {W w : World} {L : List HProp} (hL : ∀ A ∈ L, Stable A) (v : Value) (l : List Rng.R) (hs : Sts W (rowP 81 2 v l.length (Fil.rcells l) :: L) w) (hn : l.length < 1000000) :
    Calls Try.prog 124 #[v, .func (.func 125) #[] #[]] w fun e w' => e = .returned (.tuple #[]) ∧ ∃ d : List Rng.R, d.Perm l ∧ d.Pairwise (fun a b => a.1 ≤ b.1) ∧ Sts W (rowP 81 2 v d.length (Fil.rcells d) :: L) w' := by
  rcases (Sts.rowOwnK hs).2 with ⟨h2, h3⟩ | ⟨g, cap, cur, hv, hg, hh, hc1, _⟩
  · subst h2
    have := List.eq_nil_of_length_eq_zero h3
    subst this
    have h := AnyF.slices_SortFunc_none Try.sortRng none 0 (.func (.func 125) #[] #[]) w
    refine Calls.mono (show Calls Try.prog 124 _ _ _ from h) ?_
    rintro e w' ⟨rfl, rfl⟩
    exact ⟨rfl, [], List.Perm.refl _, List.Pairwise.nil, hs⟩
  · subst hv
    refine (cSortSome hL g cap l hs hn).mono ?_
    rintro e w' ⟨rfl, d, hp, hpw, h⟩
    exact ⟨rfl, d, hp, hpw, by rw [hp.length_eq]; exact h⟩
theorem mstep_len (o : List Rng.R) (r : Rng.R) : (Rng.mstep o r).length ≤ o.length + 1 := by
  rcases List.eq_nil_or_concat o with rfl | ⟨p, y, rfl⟩
  · simp [Rng.mstep]
  · rw [List.concat_eq_append, Rng.mstep_snoc]
    split <;> simp
theorem mrg_len (l : List Rng.R) : (Rng.mrg l).length ≤ l.length := by
  have h : ∀ (l : List Rng.R) (o : List Rng.R), (l.foldl Rng.mstep o).length ≤ o.length + l.length := by
    intro l
    induction l with
    | nil => intro o; simp
    | cons r l ih => intro o; have h1 := ih (Rng.mstep o r); have h2 := mstep_len o r; simp only [List.foldl_cons, List.length_cons]; omega
  have := h l []
  simpa [Rng.mrg] using this
set_option maxRecDepth 100000 in
set_option maxHeartbeats 1000000 in
theorem cNormal (w : World) (v : Value) (l : List Rng.R) (h : RdR w v l) (hn : l.length < 1000000) :
    Calls Try.prog 118 #[v] w fun e w' => ∃ r, e = .returned r ∧ NewR w w' r (Rng.ofV l) := by
  have HC := hid (cCloneR w v l h hn)
  have hfl : (Fil.full l).length < 1000000 := Nat.lt_of_le_of_lt (List.length_filter_le _ _) hn
  have hMO := Rng.mrg_ofV l
  obtain ⟨i0, hi0, hz0, hz1, hz2⟩ := info_parts infoR
  have HMO := hid hMO
  clear h hMO
  go_enter Try.func118, Try.ntmps118
  go_wp2_with (first | (go_at_call 79; refine HC.out.mono ?_; rintro e w1 ⟨r, rfl, hN⟩; have H1 := hid (Sts.newR stab0 (Sts.nil w) hN); clear hN HC) | (go_at_call 122; refine (cDeleteR stab0 _ l H1.out hn).mono ?_; rintro e w2 ⟨v2, rfl, h2⟩; have H2 := hid h2; clear H1 h2) | (go_at_call 124; refine (cSortR stab0 _ (Fil.full l) H2.out hfl).mono ?_; rintro e w3 ⟨rfl, d, hp, hpw, h3⟩; have H3 := hid h3; have HP := hid hp; have HPW := hid hpw; obtain ⟨a2, c2, rfl⟩ := (RdR.of_own (Sts.rowOwnK h3) rfl).eq; have hdl : d.length < 1000000 := (by rw [hp.length_eq]; exact hfl); clear H2 h3 hp hpw hfl))
  go_loopw [4, 15] (fun vo i wr => ∃ k : Nat, k ≤ d.length ∧ i = .int .i64 k ∧ Sts w [rowP 81 2 vo (Rng.mrg (d.take k)).length (Fil.rcells (Rng.mrg (d.take k))), rowP 81 2 (.slice a2 d.length c2) d.length (Fil.rcells d)] wr) (fun _ i _ => d.length - (intOf i).toNat)
  case atStart => exact ⟨0, by omega, rfl, Sts.rowNilK _ _ H3.out⟩
  case round =>
    obtain ⟨k, hk, rfl, hS⟩ := hrel
    have HS := hid hS
    clear hS H3
    have hml := mrg_len (d.take k)
    rw [List.length_take] at hml
    by_cases hlt : k < d.length
    · obtain ⟨g, rfl⟩ : ∃ g, a2 = some ⟨g, 0, none⟩ := by
        rcases (Sts.rowOwnK HS.out.swap).2 with ⟨h2, h3⟩ | ⟨g, cap, cur, hv, _⟩
        · omega
        · injection hv with h1 h2 h3; exact ⟨g, h1⟩
      have c0 := Sts.rowCellK HS.out.swap (k * 2) (by omega) _ (rcells_get d k hlt).1
      have c1 := Sts.rowCellK HS.out.swap (k * 2 + 1) (by omega) _ (rcells_get d k hlt).2
      have HT : Hid (Rng.mrg (d.take (k + 1)) = Rng.mstep (Rng.mrg (d.take k)) d[k]) := hid (by rw [List.take_add_one, List.getElem?_eq_getElem hlt]; exact Rng.mrg_snoc _ _)
      generalize d[k] = x at *
      generalize Rng.mrg (d.take k) = o at *
      obtain ⟨f, t⟩ := x
      simp only [] at c0 c1
      obtain ⟨oa, oc, rfl⟩ := (RdR.of_own (Sts.rowOwnK HS.out) rfl).eq
      have hLr : ∀ B ∈ [rowP 81 2 (.slice oa o.length oc) o.length (Fil.rcells o), rowP 81 2 (.slice (some ⟨g, 0, none⟩) d.length c2) d.length (Fil.rcells d)], Stable B := stabC (rowP_stable _ _ _ _ _) (stab1 (rowP_stable _ _ _ _ _))
      have HL := hid hLr
      have hB0 := HS.out.alloc hLr (.cells #[.int .i64 f, .int .i64 t] 81)
      have HQ : Hid (∀ n, Sts w [rowP 81 2 (.slice oa o.length oc) o.length (Fil.rcells o), rowP 81 2 (.slice (some ⟨g, 0, none⟩) d.length c2) d.length (Fil.rcells d)] (((wr.alloc (.cells #[.int .i64 f, .int .i64 t] 81)).drewN n).alloc (.cells #[.int .i64 f, .int .i64 t] 81))) :=
        hid fun n => Sts.box hLr (Sts.quiet hLr hB0.tail (below_drewN (Below.refl _ _) n)) _
      have HB := hid hB0
      have HAP : Hid (∀ v1 w5 q, w5.ownsRow 0 81 2 v1 (o.length + 1) (Fil.rcells o ++ [.int .i64 f, .int .i64 t]) → World.grownBy (((wr.alloc (.cells #[.int .i64 f, .int .i64 t] 81)).drewN q).alloc (.cells #[.int .i64 f, .int .i64 t] 81)) w5 (Value.ownBlock (.slice oa o.length oc)) →
          (v1.ownBlock = Value.ownBlock (.slice oa o.length oc) ∨ v1.ownBlock = some (((wr.alloc (.cells #[.int .i64 f, .int .i64 t] 81)).drewN q).alloc (.cells #[.int .i64 f, .int .i64 t] 81)).heap.size) →
          Sts w [rowP 81 2 v1 (o ++ [(f, t)]).length (Fil.rcells (o ++ [(f, t)])), rowP 81 2 (.slice (some ⟨g, 0, none⟩) d.length c2) d.length (Fil.rcells d)] w5) := hid fun v1 w5 q hown hgr hblk => by
        have h := Sts.grownK (stab1 (rowP_stable _ _ _ _ _)) (HQ.out q) hgr hown (by
          intro q' hq
          rcases hblk with h | h
          · exact Or.inl (h ▸ hq)
          · rw [h] at hq; injection hq with hq; exact Or.inr (by omega))
        rw [rcells_app, List.length_append]
        exact h
      have HOWN : Hid (∀ q, World.ownsRow (((wr.alloc (.cells #[.int .i64 f, .int .i64 t] 81)).drewN q).alloc (.cells #[.int .i64 f, .int .i64 t] 81)) 0 81 2 (.slice oa o.length oc) o.length (Fil.rcells o)) := hid fun q => Sts.rowOwnK (HQ.out q)
      have HCT : Hid (∀ q j u, [Value.int .i64 f, Value.int .i64 t][j]? = some u → (((wr.alloc (.cells #[.int .i64 f, .int .i64 t] 81)).drewN q).alloc (.cells #[.int .i64 f, .int .i64 t] 81)).cell? ((⟨wr.heap.size + 1, 0, none⟩ : Addr).add j) = some u) := hid fun q j u hj => by
        have h := cell_two_new ((wr.alloc (.cells #[.int .i64 f, .int .i64 t] 81)).drewN q) (.int .i64 f) (.int .i64 t) 81 j u hj
        have e : ((wr.alloc (.cells #[.int .i64 f, .int .i64 t] 81)).drewN q).heap.size = wr.heap.size + 1 := by
          show (wr.heap.push _).size = _
          simp
        rwa [e] at h
      clear hLr hB0 HQ
      rcases List.eq_nil_or_concat o with rfl | ⟨p, y, rfl⟩
      · go_wp2_with fail
        go_quiet (fail)
        go_wp2_with (at_builtin; refine wpList_append_own_at _ rfl (.tmp 48) (.tmp 50) 36 rfl 0 81 i0 (.agg #[.int .i64 0, .int .i64 0]) 2 16 Try.underlying36 hi0 hz0 hz1 hz2 rfl (by decide) (.slice oa 0 oc) 0 (Fil.rcells []) rfl (HOWN.out _) ⟨wr.heap.size + 1, 0, none⟩ 1 1 [.int .i64 f, .int .i64 t] rfl rfl (HCT.out _) (by intro u hu; simp at hu; rcases hu with rfl | rfl <;> rfl) (by unfold maxLen; omega) (by omega) (Nat.zero_le _) ?_; intro v1 w5 hown hgr _ hblk; have HN := hid (HAP.out v1 w5 _ hown hgr hblk); clear hown hgr hblk)
        go_roundw
        case rel => exact ⟨k + 1, by omega, by go_num, by rw [HT.out]; exact HN.out⟩
        case measure => simp [intOf]; omega
      · simp only [List.concat_eq_append] at *
        obtain ⟨m, hm⟩ : ∃ m, m = p.length := ⟨_, rfl⟩
        have hlen : (p ++ [y]).length = m + 1 := by simp [hm]
        have HE : Hid ((Fil.rcells (p ++ [y]))[m * 2 + 1]? = some (.int .i64 y.2)) := hid (by
          have h := (rcells_get (p ++ [y]) m (by omega)).2
          rw [h]; subst hm; simp)
        have HMS : Hid (Rng.mstep (p ++ [y]) (f, t) = if f ≤ y.2 then p ++ [(y.1, max y.2 t)] else (p ++ [y]) ++ [(f, t)]) := hid (by rw [Rng.mstep_snoc]; simp)
        have HSET : Hid ((Fil.rcells (p ++ [y])).set (m * 2 + 1) (.int .i64 (max y.2 t)) = Fil.rcells (p ++ [(y.1, max y.2 t)])) := hid (by
          rw [rcells_app, rcells_app, List.set_append_right _ _ (by rw [rcells_len]; omega), rcells_len, hm, show p.length * 2 + 1 - p.length * 2 = 1 by omega]
          rfl)
        have HLN : Hid ((p ++ [(y.1, max y.2 t)]).length = m + 1) := hid (by simp [hm])
        rw [hlen] at HS HB HAP HOWN HL hml ⊢
        have hwm : IntKind.i64.wrap (m : Int) = m := i64w m (by omega)
        obtain ⟨h, rfl⟩ : ∃ h, oa = some ⟨h, 0, none⟩ := by
          rcases (Sts.rowOwnK HS.out).2 with ⟨h2, h3⟩ | ⟨h, cap, cur, hv, _⟩
          · omega
          · injection hv with h1 h2 h3; exact ⟨h, h1⟩
        have e1 := Sts.rowCellK HB.out.tail (m * 2 + 1) (by omega) _ HE.out
        have hm2 : m < 1000000 := by omega
        clear hm hlen
        obtain ⟨y1, y2⟩ := y
        simp only [] at e1
        have hmm : (m : Int) < (m : Int) + 1 := by omega
        have hpos : decide (((m + 1 : Nat) : Int) > 0) = true := by simp
        have hLB := hid (stabC (blkP_stable wr.heap.size (.cells #[.int .i64 f, .int .i64 t] 81 (0, 0))) HL.out)
        cases hd : decide (y2 ≥ f) with
        | true =>
          go_wp2_with fail
          go_quiet (fail)
          go_wp2_with fail
          refine wp_region_ordS (fun i => i == 14) (.pure 0 (.pure 1 (.pure 2 (.pure 3 (.pure 4 (.pure 5 (.pure 6 (.pure 7 (.pure 8 (.pure 9 (.pure 10 (.pure 11 (.pure 12 (.pure 13 (.eff 14 .nil))))))))))))))) (fun y => y.cell? ⟨h, m * 2 + 1, none⟩ = some (.int .i64 y2) ∧ y.cell? ⟨wr.heap.size, 1, none⟩ = some (.int .i64 t)) (fun y => Sts w [blkP wr.heap.size (.cells #[.int .i64 f, .int .i64 t] 81 (0, 0)), rowP 81 2 (.slice (some ⟨h, 0, none⟩) (m + 1) oc) (m + 1) (Fil.rcells (p ++ [(y1, y2)])), rowP 81 2 (.slice (some ⟨g, 0, none⟩) d.length c2) d.length (Fil.rcells d)] y) (by kernel_rfl) (by kernel_rfl) ((HB.out.quiet hLB.out (below_drewN (Below.refl _ _) _)).drew hLB.out) (fun y hy => ⟨Sts.rowCellK hy.tail (m * 2 + 1) (by omega) _ HE.out, (Sts.boxCell hy 1 _ rfl).1⟩) ?_
          iterate 14
            (apply ord_pure (ho := rfl)
             · go_simp
             · intro x hx; obtain ⟨q1, q2⟩ := hx; go_simp; rfl
             apply ord_norm
             · go_simp; rfl)
          apply ord_eff (ho := rfl)
          · go_simp
          intro y hy
          have q1 := Sts.rowCellK hy.tail (m * 2 + 1) (by omega) _ HE.out
          have q2 := Sts.rowFreeK hy.tail (m * 2 + 1)
          have hy2 := Sts.rowStoreK (stab1 (rowP_stable _ _ _ _ _)) hy.tail (m * 2 + 1) (.int .i64 (max y2 t))
          rw [HSET.out] at hy2
          refine effS_skip (fun _ => True) (fun y => Sts w [rowP 81 2 (.slice (some ⟨h, 0, none⟩) (m + 1) oc) (m + 1) (Fil.rcells (p ++ [(y1, max y2 t)])), rowP 81 2 (.slice (some ⟨g, 0, none⟩) d.length c2) d.length (Fil.rcells d)] y) (w := y.setCell ⟨h, m * 2 + 1, none⟩ (.int .i64 (max y2 t))) rfl ?_ hy2 (fun _ _ => trivial) ?_
          · clear hy hy2
            go_simp
          clear hy hy2 q1 q2 y
          apply ord_norm
          · go_simp; rfl
          refine ord_nil fun z hz => ?_
          have HZ := hid hz
          clear hz
          go_wp2_with fail
          go_roundw
          case rel =>
            refine ⟨k + 1, by omega, by go_num, ?_⟩
            have h1 := HMS.out
            rw [if_pos (by simpa using hd)] at h1
            rw [HT.out, h1, HLN.out]
            exact HZ.out
          case measure => simp [intOf]; omega
        | false =>
          go_wp2_with fail
          go_quiet (fail)
          go_wp2_with (at_builtin; refine wpList_append_own_at _ rfl (.tmp 48) (.tmp 50) 36 rfl 0 81 i0 (.agg #[.int .i64 0, .int .i64 0]) 2 16 Try.underlying36 hi0 hz0 hz1 hz2 rfl (by decide) (.slice (some ⟨h, 0, none⟩) (m + 1) oc) (m + 1) (Fil.rcells (p ++ [(y1, y2)])) rfl (HOWN.out _) ⟨wr.heap.size + 1, 0, none⟩ 1 1 [.int .i64 f, .int .i64 t] rfl rfl (HCT.out _) (by intro u hu; simp at hu; rcases hu with rfl | rfl <;> rfl) (by unfold maxLen; omega) (by omega) (Nat.zero_le _) ?_; intro v1 w5 hown hgr _ hblk; have HN := hid (HAP.out v1 w5 _ hown hgr hblk); clear hown hgr hblk)
          go_roundw
          case rel =>
            refine ⟨k + 1, by omega, by go_num, ?_⟩
            have h1 := HMS.out
            rw [if_neg (by simpa using hd)] at h1
            rw [HT.out, h1]
            exact HN.out
          case measure => simp [intOf]; omega
    · obtain rfl : k = d.length := by omega
      have HR : Hid (Rng.mrg (d.take d.length) = Rng.ofV l) := hid (by rw [List.take_length]; exact HMO.out d HP.out HPW.out)
      rw [HR.out] at HS
      clear hml HR
      go_wp2_with fail
      go_ret
      exact ⟨_, rfl, Sts.isNewR HS.out rfl⟩
end Go.Proofs.Ytfjadhkhmhnccaa
