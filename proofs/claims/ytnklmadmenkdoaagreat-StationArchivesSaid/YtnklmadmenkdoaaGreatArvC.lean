/- What an archive holds of a process. -/
import Derived.Test.YtnklmadmenkdoaaGreatArvB
set_option linter.unusedVariables false
set_option linter.unusedSimpArgs false
namespace Arc
/-- What an archive holds of a process. -/
def itms (m : Arch) (a : Nat) : List Ent := if isA a m (find a m) = true then (m.getD (find a m) (0, [])).2 else []
theorem flat_len {α β : Type} (f : α → List β) (s : Nat) (hf : ∀ x, (f x).length = s) : ∀ l : List α, (l.flatMap f).length = l.length * s
  | [] => by simp
  | x :: l => by rw [List.flatMap_cons, List.length_append, hf, flat_len f s hf l, List.length_cons, Nat.succ_mul]; omega
end Arc
namespace Go.Proofs.YtnklmadmenkdoaaGreat
open Go.RowKit Go.Proofs.Num
section
variable {W w : World} {l : List HProp}
theorem mem_own {L : List HProp} {e : TypeId} {s : Nat} {v : Value} {n : Nat} {xs : List Value} (hs : Sts W L w) (h : rowP e s v n xs ∈ L) : w.ownsRow 0 e s v n xs := by
  obtain ⟨F, hF⟩ := hs
  obtain ⟨G, hG⟩ := stars_mem hF.1 h
  exact hG.1
theorem mem_cell {L : List HProp} {e : TypeId} {s g n c : Nat} {xs : List Value} (hs : Sts W L w) (h : rowP e s (.slice (some ⟨g, 0, none⟩) n c) n xs ∈ L) (i : Nat) (v : Value) (hv : xs[i]? = some v) : w.cell? ⟨g, i, none⟩ = some v := by
  have ho := mem_own hs h
  rw [ho.cellAt i (by have := ho.1; have := (List.getElem?_eq_some_iff.1 hv).1; omega), hv]
theorem arc_memE {q : Nat} {v : Value} {M : List PrcV} {p : PrcV} (hp : p ∈ M) : rowP 192 5 p.2.1 p.2.2.length (p.2.2.flatMap ecl) ∈ arcL q v M l :=
  List.mem_cons_of_mem _ (List.mem_cons_of_mem _ (List.mem_append_left _ (List.mem_flatMap.2 ⟨p, hp, List.mem_cons_self ..⟩)))
theorem arc_memD {q : Nat} {v : Value} {M : List PrcV} {p : PrcV} (hp : p ∈ M) {x : EntV} (hx : x ∈ p.2.2) : rowP 5 1 x.2 x.1.d.length (u8s x.1.d) ∈ arcL q v M l :=
  List.mem_cons_of_mem _ (List.mem_cons_of_mem _ (List.mem_append_left _ (List.mem_flatMap.2 ⟨p, hp, List.mem_cons_of_mem _ (List.mem_map.2 ⟨x, hx, rfl⟩)⟩)))
theorem ecl_get (es : List EntV) (k : Nat) (hk : k < es.length) (j : Nat) (hj : j < 5) : (es.flatMap ecl)[k * 5 + j]? = (ecl es[k])[j]? :=
  Arc.flat_get ecl 5 ecl_len es k hk j hj
theorem arcFind {q : Nat} {v : Value} {M : List PrcV} (hM : M.length < 1000) (hs : Sts W (arcL q v M l) w) (a : Nat) :
    Calls Tryz.prog 98 #[.pointer (some ⟨q, 0, none⟩), .int .i64 (a : Int)] w fun e w' => e = .returned (.tuple #[.int .i64 (Arc.find a (absA M) : Int), .bool (Arc.isA a (absA M) (Arc.find a (absA M)))]) ∧ ∃ j, w' = w.drewN j :=
  cArcFind q v (M.flatMap pcl) (absA M) (pcs_get M) (by rw [absA_len]; exact hM) (by rw [absA_len]; exact hs) a
set_option maxRecDepth 100000 in
theorem cEntN (q : Nat) (v : Value) (M : List PrcV) (hM : M.length < 1000) (a : Nat) (hno : Arc.isA a (absA M) (Arc.find a (absA M)) = false) (hs : Sts W (arcL q v M l) w) :
    Calls Tryz.prog 93 #[.pointer (some ⟨q, 0, none⟩), .int .i64 (a : Int)] w fun e w' => e = .returned (.slice none 0 0) ∧ ∃ j, w' = w.drewN j := by
  have KV := hid (cArcValid q v hs)
  have KF := hid (arcFind hM hs a)
  rw [hno] at KF
  generalize Arc.find a (absA M) = f at KF hno
  clear hs hno hM
  go_enter Tryz.func93, Tryz.ntmps93
  go_wp2_with (go_at_call 91; refine KV.out.mono ?_; rintro e w1 ⟨rfl, rfl⟩)
  refine KF.out.mono ?_
  rintro e w1 ⟨rfl, j, rfl⟩
  go_wp2_with fail
  go_ret
  exact ⟨rfl, j, rfl⟩
set_option maxRecDepth 100000 in
theorem cEntY (q : Nat) (v : Value) (M : List PrcV) (hM : M.length < 1000) (a f : Nat) (hf : f = Arc.find a (absA M)) (hi : Arc.isA a (absA M) f = true) (hfM : f < M.length) (hs : Sts W (arcL q v M l) w) :
    Calls Tryz.prog 93 #[.pointer (some ⟨q, 0, none⟩), .int .i64 (a : Int)] w fun e w' => e = .returned M[f].2.1 ∧ ∃ j, w' = w.drewN j := by
  have KV := hid (cArcValid q v hs)
  have KF := hid (arcFind hM hs a)
  rw [← hf, hi] at KF
  obtain ⟨g, c, cur, rfl, _⟩ := own_ge (Sts.rowOwnS' hs.tail) (by omega)
  obtain ⟨ea, en, ec, hev⟩ := arcL_slP hs M[f] (List.getElem_mem hfM)
  have hg := (pcl_get M f hfM).2
  rw [hev] at hg ⊢
  have c1 : ∀ j, (w.drewN j).cell? ⟨q, 1, none⟩ = some (.slice (some ⟨g, 0, none⟩) M.length c) := fun j => by simpa using (Sts.boxCell hs 1 _ rfl).1
  have c2 : ∀ j, (w.drewN j).cell? ⟨g, f * 2 + 1, none⟩ = some (.slice ea en ec) := fun j => by simpa using rowCellC hs.tail (f * 2 + 1) _ hg
  obtain ⟨N, hN⟩ : ∃ N, N = M.length := ⟨_, rfl⟩
  rw [← hN] at c1
  have f0 : (0 : Int) ≤ (f : Int) := Int.natCast_nonneg _
  have f1 : (f : Int) < (N : Int) := by omega
  clear hs hi hM hev hg hf hfM hN
  go_enter Tryz.func93, Tryz.ntmps93
  go_wp2_with (go_at_call 91; refine KV.out.mono ?_; rintro e w1 ⟨rfl, rfl⟩)
  refine KF.out.mono ?_
  rintro e w1 ⟨rfl, j, rfl⟩
  have d1 := c1 j
  have d2 := c2 j
  clear c1 c2
  go_wp2_with fail
  go_ret
  exact ⟨rfl, j, rfl⟩
end
end Go.Proofs.YtnklmadmenkdoaaGreat
