/- Rows of structs, flattened: lengths, cells, parts, insertions. The archive as one list of predicates. Archive.Add upon the archive's predicate. Archive.Add of a known process upon the archive's predicate. Archive.Add, whole, upon the archive's predicate. A tracker without commands takes a report; trackers, finders and archives as single predicates. -/
import Derived.Test.YtnklmadmenkdoaaGreatQArcS
import Derived.Test.YtnklmadmenkdoaaGreatQArcE
import Derived.Test.YtnklmadmenkdoaaGreatQSdpTk
import Derived.Test.YtnklmadmenkdoaaGreatQSnrK
set_option linter.unusedVariables false
set_option linter.unusedSimpArgs false
namespace Arc
variable {α β : Type} (f : α → List β) (s : Nat)
theorem flat_get (hf : ∀ x, (f x).length = s) : ∀ (l : List α) (i : Nat) (hi : i < l.length) (j : Nat) (hj : j < s), (l.flatMap f)[i * s + j]? = (f l[i])[j]?
  | x :: l, 0, hi, j, hj => by rw [List.flatMap_cons, Nat.zero_mul, Nat.zero_add, List.getElem?_append_left (by rw [hf]; exact hj)]; rfl
  | x :: l, i + 1, hi, j, hj => by
    have h := flat_get hf l i (by simpa using hi) j hj
    rw [List.flatMap_cons, List.getElem?_append_right (by rw [hf, Nat.add_mul, Nat.one_mul]; omega), hf, show (i + 1) * s + j - s = i * s + j by rw [Nat.add_mul, Nat.one_mul]; omega, h]
    rfl
theorem flat_take (hf : ∀ x, (f x).length = s) : ∀ (l : List α) (k : Nat), k ≤ l.length → (l.flatMap f).take (k * s) = (l.take k).flatMap f
  | l, 0, _ => by simp
  | [], k + 1, h => by simp at h
  | x :: l, k + 1, h => by
    rw [List.flatMap_cons, List.take_succ_cons, List.flatMap_cons, show (k + 1) * s = (f x).length + k * s by rw [hf, Nat.add_mul, Nat.one_mul, Nat.add_comm], List.take_length_add_append, flat_take hf l k (by simpa using h)]
theorem flat_drop (hf : ∀ x, (f x).length = s) : ∀ (l : List α) (k : Nat), k ≤ l.length → (l.flatMap f).drop (k * s) = (l.drop k).flatMap f
  | l, 0, _ => by simp
  | [], k + 1, h => by simp at h
  | x :: l, k + 1, h => by
    rw [List.flatMap_cons, List.drop_succ_cons, show (k + 1) * s = (f x).length + k * s by rw [hf, Nat.add_mul, Nat.one_mul, Nat.add_comm], List.drop_length_add_append, flat_drop hf l k (by simpa using h)]
theorem flat_ins (hf : ∀ x, (f x).length = s) (l : List α) (k : Nat) (hk : k ≤ l.length) (x : α) : (l.flatMap f).take (k * s) ++ f x ++ (l.flatMap f).drop (k * s) = (ins l k x).flatMap f := by
  rw [flat_take f s hf l k hk, flat_drop f s hf l k hk]
  unfold ins
  rw [List.flatMap_append, List.flatMap_cons, List.append_assoc]
theorem flat_set (hf : ∀ x, (f x).length = s) : ∀ (l : List α) (i : Nat) (hi : i < l.length) (j : Nat) (hj : j < s) (v : β) (y : α), f y = (f l[i]).set j v → (l.flatMap f).set (i * s + j) v = (l.set i y).flatMap f
  | x :: l, 0, hi, j, hj, v, y, h => by
    rw [List.flatMap_cons, Nat.zero_mul, Nat.zero_add, List.set_append_left _ _ (by rw [hf]; exact hj), List.set_cons_zero, List.flatMap_cons, h]
    rfl
  | x :: l, i + 1, hi, j, hj, v, y, h => by
    have h2 := flat_set hf l i (by simpa using hi) j hj v y h
    rw [List.flatMap_cons, List.set_append_right _ _ (by rw [hf, Nat.add_mul, Nat.one_mul]; omega), hf, show (i + 1) * s + j - s = i * s + j by rw [Nat.add_mul, Nat.one_mul]; omega, h2, List.set_cons_succ, List.flatMap_cons]
end Arc
namespace Go.Proofs.YtnklmadmenkdoaaGreat
open Go.RowKit Go.Proofs.Num
abbrev EntV := Arc.Ent × Value
abbrev PrcV := Nat × Value × List EntV
def ecl (p : EntV) : List Value := [.int .i64 p.1.c, .int .i64 (p.1.a : Int), .int .i64 (p.1.n : Int), .int .i64 (p.1.t : Int), p.2]
def pcl (p : PrcV) : List Value := [.int .i64 (p.1 : Int), p.2.1]
theorem ecl_len (p : EntV) : (ecl p).length = 5 := rfl
theorem pcl_len (p : PrcV) : (pcl p).length = 2 := rfl
def datL (es : List EntV) : List HProp := es.map fun p => rowP 5 1 p.2 p.1.d.length (u8s p.1.d)
def prcL (p : PrcV) : List HProp := rowP 192 5 p.2.1 p.2.2.length (p.2.2.flatMap ecl) :: datL p.2.2
/-- An archive: its block, the row of processes, the rows of entries and of data. -/
def arcL (q : Nat) (v : Value) (M : List PrcV) (l : List HProp) : List HProp :=
  blkP q (.cells #[.bool true, v] 185 (0, 0)) :: rowP 188 2 v M.length (M.flatMap pcl) :: (M.flatMap prcL ++ l)
def absA (M : List PrcV) : Arc.Arch := M.map fun p => (p.1, p.2.2.map (·.1))
theorem prcL_stable (M : List PrcV) : ∀ B ∈ M.flatMap prcL, Stable B := by
  intro B hB
  obtain ⟨p, _, hB⟩ := List.mem_flatMap.1 hB
  rcases List.mem_cons.1 hB with rfl | hB
  · exact rowP_stable _ _ _ _ _
  · obtain ⟨e, _, rfl⟩ := List.mem_map.1 hB
    exact rowP_stable _ _ _ _ _
theorem arcL_stable (q : Nat) (v : Value) (M : List PrcV) {l : List HProp} (hl : ∀ B ∈ l, Stable B) : ∀ B ∈ arcL q v M l, Stable B :=
  stabC (blkP_stable _ _) (stabC (rowP_stable _ _ _ _ _) (fun B hB => (List.mem_append.1 hB).elim (prcL_stable M B) (hl B)))
theorem RdsB.app {W : World} {l m : List HProp} {v : Value} {d : List Nat} (h : RdsB W l v d) : RdsB W (m ++ l) v d :=
  ⟨fun A w hs => h.1 A w (Sts.sub hs (.cons_cons _ (List.sublist_append_right _ _))), h.2⟩
theorem perm_ins {α β : Type} (f : α → List β) (l : List α) (k : Nat) (x : α) : ((Arc.ins l k x).flatMap f).Perm (f x ++ l.flatMap f) := by
  have h : (Arc.ins l k x).Perm (x :: l) := by
    unfold Arc.ins
    exact List.perm_middle.trans (by rw [List.take_append_drop])
  exact (h.flatMap_right f).trans (by rw [List.flatMap_cons])
theorem perm_at {α β : Type} (f : α → List β) (l : List α) (i : Nat) (hi : i < l.length) : (l.flatMap f).Perm (f l[i] ++ (l.eraseIdx i).flatMap f) := by
  have e : l = l.take i ++ l[i] :: l.drop (i + 1) := by rw [List.getElem_cons_drop, List.take_append_drop]
  have h : l.Perm (l[i] :: l.eraseIdx i) := by
    rw [List.eraseIdx_eq_take_drop_succ]
    exact (List.Perm.of_eq e).trans List.perm_middle
  exact (h.flatMap_right f).trans (by rw [List.flatMap_cons])
theorem absA_len (M : List PrcV) : (absA M).length = M.length := by simp [absA]
theorem absA_get (M : List PrcV) (k : Nat) (hk : k < (absA M).length) : (absA M)[k] = ((M[k]'(by rw [absA_len] at hk; exact hk)).1, ((M[k]'(by rw [absA_len] at hk; exact hk)).2.2.map (·.1))) := by simp [absA]
theorem pcs_get (M : List PrcV) (k : Nat) (hk : k < (absA M).length) : (M.flatMap pcl)[k * 2]? = some (.int .i64 ((absA M)[k].1 : Int)) := by
  have h := Arc.flat_get pcl 2 pcl_len M k (by rw [absA_len] at hk; exact hk) 0 (by decide)
  rw [Nat.add_zero] at h
  rw [h, absA_get]
  rfl
end Go.Proofs.YtnklmadmenkdoaaGreat
namespace Go.Proofs.YtnklmadmenkdoaaGreat
open Go.RowKit Go.Proofs.Num
section
variable {W w : World} {l : List HProp}
/-- The values of lists are slices. -/
def slV (v : Value) : Prop := ∃ a n c, v = .slice a n c
theorem pcl_one {M : List PrcV} (h : ∀ p ∈ M, slV p.2.1) : ∀ u ∈ M.flatMap pcl, u.oneCell' = true := by
  intro u hu
  obtain ⟨p, hp, hu⟩ := List.mem_flatMap.1 hu
  obtain ⟨a, n, c, e⟩ := h p hp
  unfold pcl at hu
  rw [e] at hu
  simp only [List.mem_cons, List.not_mem_nil, or_false] at hu
  rcases hu with rfl | rfl <;> rfl
theorem ecl_one {es : List EntV} (h : ∀ p ∈ es, slV p.2) : ∀ u ∈ es.flatMap ecl, u.oneCell' = true := by
  intro u hu
  obtain ⟨p, hp, hu⟩ := List.mem_flatMap.1 hu
  obtain ⟨a, n, c, e⟩ := h p hp
  unfold ecl at hu
  rw [e] at hu
  simp only [List.mem_cons, List.not_mem_nil, or_false] at hu
  rcases hu with rfl | rfl | rfl | rfl | rfl <;> rfl
theorem mem_sl {L : List HProp} {e : TypeId} {s : Nat} {v : Value} {n : Nat} {xs : List Value} (hs : Sts W L w) (h : rowP e s v n xs ∈ L) : slV v := by
  obtain ⟨F, hF⟩ := hs.mem h
  obtain ⟨a, c, e⟩ := own_slice hF.1
  exact ⟨a, _, c, e⟩
theorem arcL_slP {q : Nat} {v : Value} {M : List PrcV} (hs : Sts W (arcL q v M l) w) : ∀ p ∈ M, slV p.2.1 := fun p hp =>
  mem_sl hs (List.mem_cons_of_mem _ (List.mem_cons_of_mem _ (List.mem_append_left _ (List.mem_flatMap.2 ⟨p, hp, List.mem_cons_self ..⟩))))
theorem arcL_slE {q : Nat} {v : Value} {M : List PrcV} (hs : Sts W (arcL q v M l) w) : ∀ p ∈ M, ∀ e ∈ p.2.2, slV e.2 := fun p hp e he =>
  mem_sl hs (List.mem_cons_of_mem _ (List.mem_cons_of_mem _ (List.mem_append_left _ (List.mem_flatMap.2 ⟨p, hp, List.mem_cons_of_mem _ (List.mem_map.2 ⟨e, he, rfl⟩)⟩))))
theorem cAddN (hl : ∀ B ∈ l, Stable B) (q : Nat) (v : Value) (M : List PrcV) (hn : M.length < 1000) (a n t : Nat) (da : Option Addr) (dc : Nat) (d : List Nat)
    (hno : Arc.isA a (absA M) (Arc.find a (absA M)) = false) (ha : a ≤ 2046) (hnn : n < 16384) (ht : t ≤ 1099511627776) (hd : d.length ≤ 4096) (hR : RdsB W l (.slice da d.length dc) d) (hv : NilOk (.slice da d.length dc)) (hs : Sts W (arcL q v M l) w) :
    Calls Tryz.prog 36 #[.pointer (some ⟨q, 0, none⟩), .agg (itmV a n t (.slice da d.length dc))] w fun e w' => (∃ er, e = .returned (.int .i64 er)) ∧ ∃ v' M', absA M' = Arc.add (absA M) a n t d ∧ Sts W (arcL q v' M' l) w' := by
  have hfl : Arc.find a (absA M) ≤ M.length := by rw [← absA_len]; exact Arc.find_le _ _
  have h := cAddNew (W := W) (w := w) (rest := M.flatMap prcL ++ l) (fun B hB => (List.mem_append.1 hB).elim (prcL_stable M B) (hl B)) q v (M.flatMap pcl) (absA M) (pcs_get M) (pcl_one (arcL_slP hs)) (by rw [absA_len]; exact hn) a n t da dc d hno ha hnn ht hd (RdsB.app hR).1 hv (by rw [absA_len]; exact hs)
  refine h.mono ?_
  rintro e w' ⟨rfl, v', ev, dv', h9⟩
  refine ⟨⟨_, rfl⟩, v', Arc.ins M (Arc.find a (absA M)) (a, ev, [(⟨n, a, n, t, d⟩, dv')]), ?_, ?_⟩
  · unfold Arc.add
    rw [if_neg (by rw [hno]; decide)]
    simp [absA, Arc.ins]
  · have e1 := Arc.flat_ins pcl 2 pcl_len M (Arc.find a (absA M)) hfl (a, ev, [(⟨n, a, n, t, d⟩, dv')])
    have e2 : (M.flatMap pcl).take (Arc.find a (absA M) * 2) ++ [.int .i64 (a : Int), ev] ++ (M.flatMap pcl).drop (Arc.find a (absA M) * 2) = (Arc.ins M (Arc.find a (absA M)) (a, ev, [(⟨n, a, n, t, d⟩, dv')])).flatMap pcl := e1
    rw [e2, absA_len, ← Arc.ins_len M (Arc.find a (absA M)) (a, ev, [(⟨n, a, n, t, d⟩, dv')])] at h9
    refine h9.perm (.cons _ (.cons _ ?_))
    exact ((perm_ins prcL M (Arc.find a (absA M)) (a, ev, [(⟨n, a, n, t, d⟩, dv')])).append_right l).symm
end
end Go.Proofs.YtnklmadmenkdoaaGreat
namespace Go.Proofs.YtnklmadmenkdoaaGreat
open Go.RowKit Go.Proofs.Num
section
variable {W w : World} {l : List HProp}
/-- The rows behind one process's row of entries. -/
def restL (M : List PrcV) (i : Nat) (es : List EntV) (l : List HProp) : List HProp := datL es ++ ((M.eraseIdx i).flatMap prcL ++ l)
theorem restL_stable (M : List PrcV) (i : Nat) (es : List EntV) (hl : ∀ B ∈ l, Stable B) : ∀ B ∈ restL M i es l, Stable B := by
  intro B hB
  rcases List.mem_append.1 hB with hB | hB
  · obtain ⟨e, _, rfl⟩ := List.mem_map.1 hB
    exact rowP_stable _ _ _ _ _
  · exact (List.mem_append.1 hB).elim (prcL_stable _ B) (hl B)
theorem arcL_at {q : Nat} {v : Value} {M : List PrcV} (i : Nat) (hi : i < M.length) (hs : Sts W (arcL q v M l) w) :
    Sts W (blkP q (.cells #[.bool true, v] 185 (0, 0)) :: rowP 188 2 v M.length (M.flatMap pcl) :: rowP 192 5 M[i].2.1 M[i].2.2.length (M[i].2.2.flatMap ecl) :: restL M i M[i].2.2 l) w := by
  refine hs.perm (.cons _ (.cons _ ?_))
  have h := (perm_at prcL M i hi).append_right l
  rw [List.append_assoc] at h
  exact h
end
end Go.Proofs.YtnklmadmenkdoaaGreat
namespace Arc
theorem isA_get {a : Nat} {m : Arch} {k : Nat} (h : isA a m k = true) : ∃ hk : k < m.length, m[k].1 = a := by
  unfold isA at h
  cases hq : m[k]? with
  | none => rw [hq] at h; cases h
  | some q =>
    rw [hq] at h
    obtain ⟨hk, e⟩ := List.getElem?_eq_some_iff.1 hq
    exact ⟨hk, by rw [e]; simpa using h⟩
theorem ins_perm {α : Type} (l : List α) (k : Nat) (x : α) : (ins l k x).Perm (x :: l) := by
  unfold ins
  exact List.perm_middle.trans (by rw [List.take_append_drop])
theorem ins_map {α β : Type} (f : α → β) (l : List α) (k : Nat) (x : α) : (ins l k x).map f = ins (l.map f) k (f x) := by
  simp [ins, List.map_take, List.map_drop]
end Arc
namespace Go.Proofs.YtnklmadmenkdoaaGreat
open Go.RowKit Go.Proofs.Num
section
variable {W w : World} {l : List HProp}
theorem cAdd (hl : ∀ B ∈ l, Stable B) (q : Nat) (v : Value) (M : List PrcV) (N : Nat) (hok : Arc.ok N (absA M)) (hN : N ≤ 900) (a n t : Nat) (da : Option Addr) (dc : Nat) (d : List Nat)
    (ha : a ≤ 2046) (hnn : n < 16384) (ht : t ≤ 1099511627776) (hd : d.length ≤ 4096) (hR : RdsB W l (.slice da d.length dc) d) (hv : NilOk (.slice da d.length dc)) (hs : Sts W (arcL q v M l) w) :
    Calls Tryz.prog 36 #[.pointer (some ⟨q, 0, none⟩), .agg (itmV a n t (.slice da d.length dc))] w fun e w' => (∃ er, e = .returned (.int .i64 er)) ∧ ∃ v' M', absA M' = Arc.add (absA M) a n t d ∧ Sts W (arcL q v' M' l) w' := by
  have hML : M.length ≤ N := by rw [← absA_len]; exact hok.1
  cases hi : Arc.isA a (absA M) (Arc.find a (absA M)) with
  | false => exact cAddN hl q v M (by omega) a n t da dc d hi ha hnn ht hd hR hv hs
  | true =>
    obtain ⟨f, hf⟩ : ∃ f, f = Arc.find a (absA M) := ⟨_, rfl⟩
    obtain ⟨hfl, hfa⟩ := Arc.isA_get hi
    have hfM : f < M.length := by rw [hf, ← absA_len]; exact hfl
    have hfa2 : M[f].1 = a := by
      have h := absA_get M (Arc.find a (absA M)) hfl
      rw [h] at hfa
      simpa [hf] using hfa
    have h1 := arcL_at f hfM hs
    obtain ⟨es, hes⟩ : ∃ es, es = M[f].2.2 := ⟨_, rfl⟩
    have hmem : (M[f].1, M[f].2.2.map (·.1)) ∈ absA M := List.mem_map.2 ⟨M[f], List.getElem_mem _, rfl⟩
    have hokL := (hok.2 _ hmem).2
    rw [← hes] at hokL h1
    have hne : 1 ≤ es.length := by have := hokL.ne; simp at this; omega
    have hle : es.length ≤ N := by have := hokL.le; simp at this; omega
    obtain ⟨g, vc, _, rfl, _, _, _, _⟩ := own_ge (Sts.rowOwnS' h1.tail) (by omega)
    obtain ⟨h, kc, _, hv2, _, _, _, _⟩ := own_ge (Sts.rowOwnS' h1.tail.tail) hne
    rw [hv2] at h1
    have hget : ∀ i (hi : i < es.length) j (hj : j < 5), (es.flatMap ecl)[i * 5 + j]? = (ecl es[i])[j]? := fun i hi j hj => Arc.flat_get ecl 5 ecl_len es i hi j hj
    have hxf : (M.flatMap pcl)[f * 2 + 1]? = some (.slice (some ⟨h, 0, none⟩) es.length kc) := by
      rw [Arc.flat_get pcl 2 pcl_len M f hfM 1 (by decide)]
      show some M[f].2.1 = _
      rw [hv2]
    have hE0 : ∀ i (hi : i < (List.map (fun p : EntV => p.1) es).length), (es.flatMap ecl)[i * 5]? = some (.int .i64 (List.map (fun p : EntV => p.1) es)[i].c) := by
      intro i hi
      have e := hget i (by simpa using hi) 0 (by decide)
      rw [Nat.add_zero] at e
      rw [e, List.getElem_map]
      rfl
    have hone : ∀ u ∈ es.flatMap ecl, u.oneCell' = true := ecl_one (by rw [hes]; exact arcL_slE hs _ (List.getElem_mem _))
    have htop := hokL.top0
    have htop2 : Arc.top (List.map (fun p : EntV => p.1) es) < 100000000 := by
      obtain ⟨e0, he0, hte⟩ := Arc.top_mem hokL.ne
      have := (hokL.all e0 he0).2.1
      rw [hte]; omega
    have hstab := restL_stable M f es hl
    have hRr : RdsB W (restL M f es l) (.slice da d.length dc) d := RdsB.app (RdsB.app hR)
    obtain ⟨X, hX⟩ : ∃ X, X = Arc.ext (Arc.top (List.map (fun p : EntV => p.1) es)).toNat n := ⟨_, rfl⟩
    obtain ⟨k, hk⟩ : ∃ k, k = Arc.pos (List.map (fun p : EntV => p.1) es) X es.length := ⟨_, rfl⟩
    have hkl : k ≤ es.length := by rw [hk]; exact Arc.pos_le _ _ _
    have hgD : ((absA M).getD f (0, [])).2 = List.map (fun p : EntV => p.1) es := by
      rw [List.getD_eq_getElem?_getD, List.getElem?_eq_getElem (by rw [absA_len]; exact hfM), absA_get]
      show M[f].2.2.map (·.1) = _
      rw [← hes]
    have hadd : Arc.add (absA M) a n t d = (absA M).set f (a, Arc.addL (List.map (fun p : EntV => p.1) es) a n t d) := by
      unfold Arc.add
      rw [if_pos hi, ← hf, hgD]
    cases hh : Arc.has (List.map (fun p : EntV => p.1) es) k X with
    | true =>
      have hdv : ∀ i (hi : i < (List.map (fun p : EntV => p.1) es).length), ∃ a2 c2, (es.flatMap ecl)[i * 5 + 3]? = some (.int .i64 (((List.map (fun p : EntV => p.1) es)[i]).t : Int)) ∧ (es.flatMap ecl)[i * 5 + 4]? = some (.slice a2 (List.map (fun p : EntV => p.1) es)[i].d.length c2) ∧ RdsB W (restL M f es l) (.slice a2 (List.map (fun p : EntV => p.1) es)[i].d.length c2) (List.map (fun p : EntV => p.1) es)[i].d := by
        intro i hi
        have hi2 : i < es.length := by simpa using hi
        have hm : rowP 5 1 es[i].2 es[i].1.d.length (u8s es[i].1.d) ∈ restL M f es l := List.mem_append_left _ (List.mem_map.2 ⟨es[i], List.getElem_mem _, rfl⟩)
        obtain ⟨F, hF⟩ := h1.tail.tail.tail.mem hm
        obtain ⟨a2, c2, e2⟩ := own_slice hF.1
        refine ⟨a2, c2, ?_, ?_, ?_⟩
        · rw [hget i hi2 3 (by decide), List.getElem_map]; rfl
        · rw [hget i hi2 4 (by decide), List.getElem_map]; show some es[i].2 = _; rw [e2]
        · rw [List.getElem_map]
          refine ⟨?_, ?_⟩
          · rw [← e2]; exact Rds.row (u8s_len _) hm
          · have := (hokL.all es[i].1 (List.mem_map.2 ⟨es[i], List.getElem_mem _, rfl⟩)).2.2.2.2.2.1
            exact this
      refine (cAddDup hstab q g h M.length vc es.length kc f (M.flatMap pcl) (es.flatMap ecl) (absA M) (pcs_get M) (absA_len M).symm (by omega) (List.map (fun p : EntV => p.1) es) (by simp) hne (by omega) hE0 hone htop htop2 a n t da dc d hf hi hxf ha hnn ht hd hRr hv X hX k hk hh hdv h1).mono ?_
      rintro e w' ⟨he, h9⟩
      refine ⟨he, .slice (some ⟨g, 0, none⟩) M.length vc, M, ?_, ?_⟩
      · rw [hadd]
        unfold Arc.addL
        rw [← hX, show (List.map (fun p : EntV => p.1) es).length = es.length by simp, ← hk, if_pos hh]
        have e3 : (a, List.map (fun p : EntV => p.1) es) = (absA M)[f]'(by rw [absA_len]; exact hfM) := by rw [absA_get, hfa2, hes]
        rw [e3, List.set_getElem_self]
      · refine h9.perm (.cons _ (.cons _ ?_))
        have hp := ((perm_at prcL M f hfM).append_right l).symm
        rw [List.append_assoc] at hp
        have e4 : prcL M[f] = rowP 192 5 (.slice (some ⟨h, 0, none⟩) es.length kc) es.length (es.flatMap ecl) :: datL es := by
          unfold prcL
          rw [← hes, hv2]
        rw [e4] at hp
        exact hp
    | false =>
      refine (cAddOld hstab q g h M.length vc es.length kc f (M.flatMap pcl) (es.flatMap ecl) (absA M) (pcs_get M) (absA_len M).symm (by omega) (List.map (fun p : EntV => p.1) es) (by simp) hne (by omega) hE0 hone htop htop2 a n t da dc d hf hi hxf ha hnn ht hd hRr.1 hv X hX k hk hh h1).mono ?_
      rintro e w' ⟨he, v', dv', h9⟩
      refine ⟨⟨_, he⟩, .slice (some ⟨g, 0, none⟩) M.length vc, M.set f (a, v', Arc.ins es k (⟨X, a, n, t, d⟩, dv')), ?_, ?_⟩
      · rw [hadd]
        unfold Arc.addL absA
        rw [← hX, show (List.map (fun p : EntV => p.1) es).length = es.length by simp, ← hk, if_neg (by rw [hh]; decide), List.map_set, Arc.ins_map]
      · have e1 := Arc.flat_ins ecl 5 ecl_len es k hkl (⟨X, a, n, t, d⟩, dv')
        have e2 := Arc.flat_set pcl 2 pcl_len M f hfM 1 (by decide) v' (a, v', Arc.ins es k (⟨X, a, n, t, d⟩, dv')) (by unfold pcl; rw [hfa2]; rfl)
        rw [e2] at h9
        have e3 : (es.flatMap ecl).take (k * 5) ++ [.int .i64 X, .int .i64 (a : Int), .int .i64 (n : Int), .int .i64 (t : Int), dv'] ++ (es.flatMap ecl).drop (k * 5) = (Arc.ins es k (⟨X, a, n, t, d⟩, dv')).flatMap ecl := e1
        rw [e3, ← Arc.ins_len es k (⟨X, a, n, t, d⟩, dv')] at h9
        obtain ⟨M2, hM2⟩ : ∃ M2, M2 = M.set f (a, v', Arc.ins es k ((⟨X, a, n, t, d⟩ : Arc.Ent), dv')) := ⟨_, rfl⟩
        have hlen : M.length = M2.length := by rw [hM2, List.length_set]
        rw [← hM2, hlen] at h9
        rw [← hM2]
        have hgd : ∃ hf2 : f < M2.length, M2[f] = (a, v', Arc.ins es k ((⟨X, a, n, t, d⟩ : Arc.Ent), dv')) := ⟨by rw [← hlen]; exact hfM, by simp [hM2]⟩
        obtain ⟨hf2, hgd⟩ := hgd
        have her : M2.eraseIdx f = M.eraseIdx f := by rw [hM2, List.eraseIdx_set_eq]
        have hp := ((perm_at prcL M2 f hf2).append_right l).symm
        rw [hgd, her, List.append_assoc] at hp
        unfold arcL
        rw [show M.length = M2.length from hlen]
        refine h9.perm (.cons _ (.cons _ (List.Perm.trans (.cons _ ?_) hp)))
        have hpd : (rowP 5 1 dv' d.length (u8s d) :: datL es).Perm (datL (Arc.ins es k ((⟨X, a, n, t, d⟩ : Arc.Ent), dv'))) := by
          have hp0 := (Arc.ins_perm es k ((⟨X, a, n, t, d⟩ : Arc.Ent), dv')).map (fun p : EntV => rowP 5 1 p.2 p.1.d.length (u8s p.1.d))
          exact hp0.symm
        exact hpd.append_right ((M.eraseIdx f).flatMap prcL ++ l)
end
end Go.Proofs.YtnklmadmenkdoaaGreat
namespace Go.Proofs.YtnklmadmenkdoaaGreat
open Go.RowKit Go.Proofs.Num
section
variable {W w : World} {l : List HProp} (tq now : Nat)
set_option maxRecDepth 100000 in
set_option maxHeartbeats 4000000 in
theorem cTkTake0 (hl : ∀ B ∈ l, Stable B) (h : Sts W (regP tq 0 (trk0V now) :: l) w) (s num st co : Int) (hok : Ver.ok s num st co = true) (n : Nat) (h1 : now ≤ n) (h2 : n ≤ 1000000) :
    Calls Tryz.prog 216 #[.pointer (some ⟨tq, 0, none⟩), .agg (ackV s num st co), .int .i64 (n : Int)] w fun e w' => ∃ er, e = .returned (.int .i64 er) ∧ Sts W (regP tq 0 (trk0V n) :: l) w' := by
  have hB : Sts W (regP tq 0 (trk0V now) :: (blkP w.heap.size (.cells (ackV s num st co) 61 (0, 0)) :: l)) (w.alloc (.cells (ackV s num st co) 61)) := (Sts.alloc (stabC (regP_stable _ _ _) hl) h (.cells (ackV s num st co) 61)).swap
  have KV := hid (cTkValid0 tq now hB)
  have KA := hid (cTkAdvance0 tq now (stabC (blkP_stable _ _) hl) hB n h1 h2)
  have KO := hid (show ∀ y : World, Calls Tryz.prog 67 #[.agg (ackV s num st co)] y fun e w' => e = .returned (.bool true) ∧ Below y.heap.size y w' from fun y => by
    have h := cVerValid y s num st co
    rw [hok] at h; exact h)
  have HL := hid hl
  have HLS := hid (show ∀ B ∈ regP tq 0 (trk0V n) :: (blkP w.heap.size (.cells (ackV s num st co) 61 (0, 0)) :: l), Stable B from stabC (regP_stable _ _ _) (stabC (blkP_stable _ _) hl))
  clear h hB hok h1 h2 hl
  have KF := hid (show ∀ y : World, Sts W (regP tq 0 (trk0V n) :: (blkP w.heap.size (.cells (ackV s num st co) 61 (0, 0)) :: l)) y → _ from fun y hy => cTkFind0 tq n hy s num)
  go_enter Tryz.func216, Tryz.ntmps216
  go_wp2_with fail
  refine KV.out.mono ?_
  rintro e w1 ⟨rfl, rfl⟩
  go_wp2_with fail
  refine KA.out.mono ?_
  rintro e w2 ⟨rfl, h2⟩
  have HLD := hid (ldAck rfl h2.swap)
  have H2 := hid h2
  clear h2 KV KA
  go_wp2_with (first
    | (refine wpList_ldS rfl (.tmp 4) 61 rfl rfl (.agg (ackV s num st co)) HLD.out ?_)
    | (go_at_call 67; refine (KO.out _).mono ?_; rintro e w3 ⟨rfl, h3⟩
       have h4 := H2.out.quiet HLS.out h3
       have p0 : w3.cell? ⟨w.heap.size, 0, none⟩ = some (.int .i64 s) := (Sts.boxCell h4.swap 0 _ rfl).1
       have p1 : w3.cell? ⟨w.heap.size, 1, none⟩ = some (.int .i64 num) := (Sts.boxCell h4.swap 1 _ rfl).1
       have H3 := hid h4
       clear h3 h4)
    | (go_at_call 120; refine (KF.out _ H3.out).mono ?_; rintro e w4 ⟨rfl, rfl⟩))
  go_ret
  exact ⟨_, rfl, (Sts.sub H3.out (.cons_cons _ (.cons _ (List.Sublist.refl _))))⟩
end
/-- A tracker at a time not above n. -/
def tkP (tq n : Nat) (ts : List (Int × Int)) : HProp := fun w F => ∃ now, now ≤ n ∧ ((ts = [] ∧ regP tq 0 (trk0V now) w F) ∨ ∃ g off c, star (regP tq 0 (trkV now g off ts.length c)) (regP g off (Trk.cells 0 ts)) w F)
theorem tkP_stable (tq n : Nat) (ts : List (Int × Int)) : Stable (tkP tq n ts) where
  dom := by
    rintro w F ⟨now, _, ⟨_, h⟩ | ⟨g, off, c, h⟩⟩
    · exact (regP_stable _ _ _).dom h
    · exact (star_stable (regP_stable _ _ _) (regP_stable _ _ _)).dom h
  keep := by
    rintro w w' F S ⟨now, hn, ⟨e, h⟩ | ⟨g, off, c, h⟩⟩ hk hS
    · exact ⟨now, hn, .inl ⟨e, (regP_stable _ _ _).keep h hk hS⟩⟩
    · exact ⟨now, hn, .inr ⟨g, off, c, (star_stable (regP_stable _ _ _) (regP_stable _ _ _)).keep h hk hS⟩⟩
section
variable {W w : World} {l : List HProp}
theorem Sts.openT {tq n : Nat} {ts : List (Int × Int)} (h : Sts W (tkP tq n ts :: l) w) : ∃ now, now ≤ n ∧ ((ts = [] ∧ Sts W (regP tq 0 (trk0V now) :: l) w) ∨ ∃ g off c, Sts W (trkL tq g off c now ts l) w) := by
  obtain ⟨F, ⟨F1, F2, ⟨now, hn, ⟨e, a⟩ | ⟨g, off, c, a⟩⟩, r⟩, hb, hnn⟩ := h
  · exact ⟨now, hn, .inl ⟨e, F, ⟨F1, F2, a, r⟩, hb, hnn⟩⟩
  · exact ⟨now, hn, .inr ⟨g, off, c, Sts.split ⟨F, ⟨F1, F2, a, r⟩, hb, hnn⟩⟩⟩
theorem Sts.closeT0 {tq n now : Nat} (hn : now ≤ n) (h : Sts W (regP tq 0 (trk0V now) :: l) w) : Sts W (tkP tq n [] :: l) w := h.weaken (fun F hF => ⟨now, hn, .inl ⟨rfl, hF⟩⟩)
theorem Sts.closeT {tq g off c n now : Nat} {ts : List (Int × Int)} (hn : now ≤ n) (h : Sts W (trkL tq g off c now ts l) w) : Sts W (tkP tq n ts :: l) w := Sts.join h (fun F hF => ⟨now, hn, .inr ⟨g, off, c, hF⟩⟩)
theorem Sts.moreT {tq n m : Nat} {ts : List (Int × Int)} (hn : n ≤ m) (h : Sts W (tkP tq n ts :: l) w) : Sts W (tkP tq m ts :: l) w := h.weaken (fun F ⟨now, h1, h2⟩ => ⟨now, Nat.le_trans h1 hn, h2⟩)
theorem cTkTakeP (hl : ∀ B ∈ l, Stable B) {tq n : Nat} {ts : List (Int × Int)} (h : Sts W (tkP tq n ts :: l) w) (s num st co : Int) (hok : Ver.ok s num st co = true) (m : Nat) (h1 : n ≤ m) (h2 : m ≤ 1000000) (hn : ts.length < 1000) :
    Calls Tryz.prog 216 #[.pointer (some ⟨tq, 0, none⟩), .agg (ackV s num st co), .int .i64 (m : Int)] w fun e w' => ∃ er, e = .returned (.int .i64 er) ∧ Sts W (tkP tq m (Trk.take ts s num st co) :: l) w' := by
  obtain ⟨now, hnow, ⟨hts0, hh⟩ | ⟨g, off, c, hh⟩⟩ := Sts.openT h
  · subst hts0
    refine (cTkTake0 tq now hl hh s num st co hok m (by omega) h2).mono ?_
    rintro e w' ⟨er, rfl, h9⟩
    refine ⟨er, rfl, ?_⟩
    have e0 : Trk.take [] s num st co = [] := by
      unfold Trk.take
      rw [if_neg]
      simp
      omega
    rw [e0]
    exact Sts.closeT0 (Nat.le_refl _) h9
  · refine (cTkTake tq g off c now ts hl hh s num st co hok m (by omega) h2 hn).mono ?_
    rintro e w' ⟨er, rfl, h9⟩
    refine ⟨er, rfl, ?_⟩
    have e0 := Trk.take_len ts s num st co
    have h9' : Sts W (trkL tq g off c m (Trk.take ts s num st co) l) w' := h9
    exact Sts.closeT (Nat.le_refl _) h9'
theorem cTkStageP {tq n : Nat} {ts : List (Int × Int)} (h : Sts W (tkP tq n ts :: l) w) (j : Nat) (hj : j < ts.length) (hn : ts.length < 1000) : Calls Tryz.prog 72 #[.pointer (some ⟨tq, 0, none⟩), .int .i64 1, .int .i64 ((j + 1 : Nat) : Int)] w fun e w' => e = .returned (.int .i64 ts[j].1) ∧ w = w' := by
  obtain ⟨now, hnow, ⟨hts0, hh⟩ | ⟨g, off, c, hh⟩⟩ := Sts.openT h
  · subst hts0; simp at hj
  · exact cTkStage tq g off c now ts hh j hj hn
/-- A finder between frames. -/
def finP (q : Nat) : HProp := fun w F => ∃ v, star (blkP q (finO v)) (rowP 5 1 v 0 []) w F
theorem finP_stable (q : Nat) : Stable (finP q) where
  dom := by rintro w F ⟨v, h⟩; exact (star_stable (blkP_stable _ _) (rowP_stable _ _ _ _ _)).dom h
  keep := by rintro w w' F S ⟨v, h⟩ hk hS; exact ⟨v, (star_stable (blkP_stable _ _) (rowP_stable _ _ _ _ _)).keep h hk hS⟩
theorem Sts.openFi {q : Nat} (h : Sts W (finP q :: l) w) : ∃ v, Sts W (blkP q (finO v) :: rowP 5 1 v 0 [] :: l) w := by
  obtain ⟨F, ⟨F1, F2, ⟨v, a⟩, r⟩, hb, hn⟩ := h
  exact ⟨v, Sts.split ⟨F, ⟨F1, F2, a, r⟩, hb, hn⟩⟩
theorem Sts.closeFi {q : Nat} {v : Value} (h : Sts W (blkP q (finO v) :: rowP 5 1 v 0 [] :: l) w) : Sts W (finP q :: l) w := Sts.join h (fun F hF => ⟨v, hF⟩)
theorem cFeedP (hl : ∀ B ∈ l, Stable B) (q : Nat) (bv : Value) (xs : List Nat) (hs : Sts W (finP q :: l) w) (hb : RdB w bv (Scr.mark ++ Scr.mix xs xs.length)) (hx : xs.length = 256) (hx8 : ∀ x ∈ xs, x < 256) :
    Calls Tryz.prog 47 #[.pointer (some ⟨q, 0, none⟩), bv] w fun e w' => ∃ oa oc xa xc, e = .returned (.slice oa 1 oc) ∧ Sts W (finP q :: rowP 35 1 (.slice oa 1 oc) 1 [.slice xa 256 xc] :: rowP 5 1 (.slice xa 256 xc) 256 (u8s xs) :: l) w' := by
  obtain ⟨v, h⟩ := Sts.openFi hs
  refine (cFeed hl q v bv xs h hb hx hx8).mono ?_
  rintro e w' ⟨oa, oc, xa, xc, v', rfl, h9⟩
  exact ⟨oa, oc, xa, xc, rfl, Sts.closeFi h9⟩
/-- An archive that holds A. -/
def arcP (q : Nat) (A : Arc.Arch) : HProp := fun w F => ∃ v M, absA M = A ∧ stars (arcL q v M []) w F
theorem arcP_stable (q : Nat) (A : Arc.Arch) : Stable (arcP q A) where
  dom := by rintro w F ⟨v, M, _, h⟩; exact (stars_stable (arcL_stable q v M stab0)).dom h
  keep := by rintro w w' F S ⟨v, M, e, h⟩ hk hS; exact ⟨v, M, e, (stars_stable (arcL_stable q v M stab0)).keep h hk hS⟩
theorem arcL_app (q : Nat) (v : Value) (M : List PrcV) (l : List HProp) : arcL q v M l = arcL q v M [] ++ l := by simp [arcL]
theorem Sts.openA {q : Nat} {A : Arc.Arch} (h : Sts W (arcP q A :: l) w) : ∃ v M, absA M = A ∧ Sts W (arcL q v M l) w := by
  obtain ⟨F, ⟨F1, F2, ⟨v, M, hA, a⟩, r⟩, hb, hn⟩ := h
  refine ⟨v, M, hA, ?_⟩
  rw [arcL_app]
  exact ⟨F, stars_app.2 ⟨F1, F2, a, r⟩, hb, hn⟩
theorem Sts.closeA {q : Nat} {v : Value} {M : List PrcV} (h : Sts W (arcL q v M l) w) : Sts W (arcP q (absA M) :: l) w := by
  rw [arcL_app] at h
  obtain ⟨F, a, hb, hn⟩ := h
  obtain ⟨F1, F2, a1, r⟩ := stars_app.1 a
  exact ⟨F, ⟨F1, F2, ⟨v, M, rfl, a1⟩, r⟩, hb, hn⟩
theorem cAddP (hl : ∀ B ∈ l, Stable B) (q N : Nat) (A : Arc.Arch) (hok : Arc.ok N A) (hN : N ≤ 900) (a n t : Nat) (da : Option Addr) (dc : Nat) (d : List Nat)
    (ha : a ≤ 2046) (hnn : n < 16384) (ht : t ≤ 1099511627776) (hd : d.length ≤ 4096) (hR : RdsB W l (.slice da d.length dc) d) (hv : NilOk (.slice da d.length dc)) (hs : Sts W (arcP q A :: l) w) :
    Calls Tryz.prog 36 #[.pointer (some ⟨q, 0, none⟩), .agg (itmV a n t (.slice da d.length dc))] w fun e w' => (∃ er, e = .returned (.int .i64 er)) ∧ Sts W (arcP q (Arc.add A a n t d) :: l) w' := by
  obtain ⟨v, M, rfl, h⟩ := Sts.openA hs
  refine (cAdd hl q v M N hok hN a n t da dc d ha hnn ht hd hR hv h).mono ?_
  rintro e w' ⟨he, v', M', e2, h9⟩
  refine ⟨he, ?_⟩
  rw [← e2]
  exact Sts.closeA h9
end
end Go.Proofs.YtnklmadmenkdoaaGreat
