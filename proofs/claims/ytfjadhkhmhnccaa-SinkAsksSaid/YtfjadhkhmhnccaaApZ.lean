/- append(x, make([]byte, n)...): zeros behind a row of bytes. -/
import Derived.Test.YtfjadhkhmhnccaaWalkS
import Derived.Lib.AppendZeros
import Derived.Lib.AppendZerosOnto
set_option linter.unusedVariables false
set_option linter.unusedSimpArgs false
namespace Go.Proofs.Ytfjadhkhmhnccaa
open Go.RowKit Go.Proofs.Num
theorem zcells (k : Nat) : (Builtin.zeroCells (Value.int .u8 0).cells k).toList = u8s (List.replicate k 0) := by
  apply List.ext_getElem
  · simp [Builtin.zeroCells, u8s, Value.cells]
  · intro n h1 h2
    simp [Builtin.zeroCells, u8s, Value.cells]
    try (rw [Nat.mod_one]; rfl)
theorem run_append_room_zeros {P : Program} (w : World) (t tn ty e : TypeId) (i : TypeInfo) (kn kq : IntKind) (ht : P.underlying t = some (.slice e)) (htn : P.underlying tn = some (.int kn)) (hi : P.info? e = some i) (hz : i.zero = some (.int .u8 0)) (hs1 : i.size = 1) (hby : i.bytes = 1)
    (g sLen sCap : Nat) (cur : Array Value) (hg : w.heap[g]? = some (.cells cur e (0, 0))) (k : Nat) (hk : 0 < k) (h63 : k ≤ 1000000000)
    (hroom : sLen + k ≤ sCap) (hfit : sLen + k ≤ cur.size) :
    (Builtin.append_ #[t, tn] ty #[.slice (some ⟨g, 0, none⟩) sLen sCap, .int kq k]).run P w =
      .ok (.slice (some ⟨g, 0, none⟩) (sLen + k) sCap) (w.setRow g (cur.toList.take sLen ++ u8s (List.replicate k 0) ++ cur.toList.drop (sLen + k)).toArray) := by
  have hlz : (u8s (List.replicate k 0)).length = k := by simp [u8s]
  have hst := run_storeCells_at P g sLen e (u8s (List.replicate k 0)) 0 cur w hg (by rw [hlz]; simpa using hfit) (by intro u hu; simp [u8s] at hu; obtain ⟨_, rfl⟩ := hu; rfl)
  simp only [Nat.add_zero, hlz] at hst
  have hk0 : k ≠ 0 := by omega
  have hw : IntKind.i64.wrap (k : Int) = k := by rw [IntKind.wrap_i64]; omega
  have h48i : ¬ (281474976710656 < (k : Int)) := by omega
  have hneg : ¬ ((k : Int) < 0) := by omega
  have hzl := zcells k
  simp [Builtin.append_, run_underlying ht, run_underlying htn, sizeOf, typeInfo, zeroValue, hi, hz, hs1, hby, asInt, asIntOf, hw, hk0, hneg, h48i, hroom, Addr.add_lit, hzl, hst]
theorem run_append_own_zeros {P : Program} (w : World) (t tn ty e : TypeId) (i : TypeInfo) (kn kq : IntKind) (ht : P.underlying t = some (.slice e)) (htn : P.underlying tn = some (.int kn)) (hi : P.info? e = some i) (hz : i.zero = some (.int .u8 0)) (hs1 : i.size = 1) (hby : i.bytes = 1)
    (v : Value) (n : Nat) (xs : List Value) (hown : w.ownsRow 0 e 1 v n xs) (k : Nat) (hk : 0 < k) (h63 : n + k ≤ 1000000000) :
    ∃ v' w', (Builtin.append_ #[t, tn] ty #[v, .int kq k]).run P w = .ok v' w' ∧ w'.ownsRow 0 e 1 v' (n + k) (xs ++ u8s (List.replicate k 0)) ∧ w.grownBy w' v.ownBlock ∧ (v'.ownBlock = v.ownBlock ∨ v'.ownBlock = some w.heap.size) := by
  have hxl : xs.length = n := by simpa using hown.1
  have hzl : (u8s (List.replicate k 0)).length = k := by simp [u8s]
  have hlen : (xs ++ u8s (List.replicate k 0)).length = (n + k) * 1 := by rw [List.length_append, hxl, hzl, Nat.mul_one]
  have hmx : n + k ≤ maxLen := by unfold maxLen; omega
  have grown : ∀ (old : Nat), old < n + k → ∀ (row : Option Nat),
      (w.drew.alloc (.cells (xs.toArray ++ Builtin.zeroCells (Value.int .u8 0).cells k ++ Builtin.zeroCells (Value.int .u8 0).cells (grownCap w (n + k) old e - (n + k))) e)).ownsRow 0 e 1
        (.slice (some ⟨w.heap.size, 0, none⟩) (n + k) (grownCap w (n + k) old e)) (n + k) (xs ++ u8s (List.replicate k 0)) ∧
      w.grownBy (w.drew.alloc (.cells (xs.toArray ++ Builtin.zeroCells (Value.int .u8 0).cells k ++ Builtin.zeroCells (Value.int .u8 0).cells (grownCap w (n + k) old e - (n + k))) e)) row := by
    intro old ho row
    have hge := grownCap_ge w (n + k) old e
    have hcm : grownCap w (n + k) old e ≤ maxLen := grownCap_le_maxLen w (n + k) old e hmx
    refine ⟨⟨hlen, .inr ⟨w.heap.size, _, _, rfl, Nat.zero_le _, heap_alloc_new w.drew _, hge, hcm, ?_, ?_⟩⟩, ⟨rfl, rfl, rfl, by simp, fun j hj _ => heap_alloc_old w.drew _ hj⟩⟩
    · have hz1 : (Value.int IntKind.u8 0).cells.size = 1 := rfl
      simp only [Array.size_append, List.size_toArray, size_zeroCells, hz1, hxl]
      omega
    · simp only [Array.toList_append, List.append_assoc, zcells]
      rw [← List.append_assoc, ← hlen]
      exact List.take_left
  rcases hown.2 with ⟨rfl, rfl⟩ | ⟨g, cap, cur, rfl, hbg, hg, hnc, hcm, hcs, htake⟩
  · have hx : xs = [] := List.eq_nil_of_length_eq_zero hxl
    subst hx
    have hr := Lib.run_append_nil_zeros (P := P) w t tn ty e i (.int .u8 0) kq kn ht htn hi hz k hk (by omega) (by omega) (by rw [hby]; omega)
    have hgr := grown 0 (by omega) (Value.ownBlock (.slice none 0 0))
    simp only [Nat.zero_add, List.nil_append, Array.empty_append] at hgr ⊢
    exact ⟨_, _, hr, hgr.1, hgr.2, Or.inr rfl⟩
  · by_cases hroom : n + k ≤ cap
    · have hcs' : cur.size = cap := by simpa using hcs
      have hr := run_append_room_zeros (P := P) w t tn ty e i kn kq ht htn hi hz hs1 hby g n cap cur hg k hk (by omega) hroom (by omega)
      refine ⟨_, _, hr, ⟨hlen, .inr ⟨g, cap, _, rfl, hbg, setRow_heap w g cur _ e _ hg, hroom, hcm, ?_, ?_⟩⟩, ⟨rfl, rfl, rfl, by simp, fun k _ hk => setRow_other w g k _ (fun e => hk (by simp [Value.ownBlock, e]))⟩, Or.inl rfl⟩
      · simp only [List.size_toArray, List.length_append, List.length_take, List.length_drop, Array.length_toList, hzl]
        omega
      · have ht' : cur.toList.take n = xs := by simpa using htake
        rw [ht', ← hlen]
        exact List.take_left
    · have holds : ∀ j u, xs[j]? = some u → w.cell? ((⟨g, 0, none⟩ : Addr).add j) = some u := hown.cells (g := g) rfl
      have hfo := run_firstCells_some (P := P) w.drew i.size n ⟨g, 0, none⟩ n cap xs (by rw [hs1]; simpa using hxl) (by simpa using holds)
      have hr := Lib.run_append_grow_zeros (P := P) w t tn ty e i (.int .u8 0) kq kn ht htn hi hz (some ⟨g, 0, none⟩) n cap xs hfo k hk (by omega) (by omega) (by omega) (by rw [hby]; omega) (by rw [hby]; exact growslice_fits (by omega) (by omega))
      have hgr := grown cap (by omega) (Value.ownBlock (.slice (some ⟨g, 0, none⟩) n cap))
      exact ⟨_, _, hr, hgr.1, hgr.2, Or.inr rfl⟩
set_option maxRecDepth 100000 in
/-- append of zeros to a row, in a drawn region. -/
theorem effZ_append {L : Prop} {W0 y : World} {o : Oper} {a : Act} {K : Act → WP → WP → Prop} {v : Value} {l : List Nat} {k : Nat} {M : List HProp}
    (hS : Sts W0 (rowP 5 1 v l.length (u8s l) :: M) y) (hM : ∀ A ∈ M, Stable A)
    (s x : Operand) (ho : o.op = .call { callee := .builtin .append, args := #[s, x], argTypes := #[24, 3] })
    (hs : a.eval s = v) (hx : a.eval x = .int .i64 (k : Int)) (hk0 : 0 < k) (hlen : l.length + k ≤ 1000000000) (D : WP)
    (hD : ∀ v' z, Sts W0 (rowP 5 1 v' (l ++ List.replicate k 0).length (u8s (l ++ List.replicate k 0)) :: M) z → D z)
    (hk : ∀ v', K (a.put o.dst v') D (fun z => Sts W0 (rowP 5 1 v' (l ++ List.replicate k 0).length (u8s (l ++ List.replicate k 0)) :: M) z)) :
    effUpon Try.prog L o.dst a D K ((execOp a.eval o).run Try.prog y) := by
  obtain ⟨i0, hi, hz0, hz1, hz2⟩ := info_parts info8
  obtain ⟨v', w', hrun, hown', hgr, hbl⟩ := run_append_own_zeros (P := Try.prog) y 24 3 o.type 5 i0 .i64 .i64 Try.underlying24 (by kernel_rfl) hi hz0 hz1 hz2 v l.length (u8s l) (Sts.rowOwn hS) k hk0 hlen
  have h := Sts.grown hM hS hgr hown' (by
    intro q' hq
    rcases hbl with h | h
    · exact Or.inl (h ▸ hq)
    · rw [h] at hq; injection hq with hq; exact Or.inr (by omega))
  rw [show l.length + k = (l ++ List.replicate k 0).length by simp, show u8s l ++ u8s (List.replicate k 0) = u8s (l ++ List.replicate k 0) by simp [u8s]] at h
  have hr : (execOp a.eval o).run Try.prog y = .ok (.value v') w' := by
    simp [execOp, ho, resolve, invoke, builtin, hs, hx, hrun, Result.andThen]
  exact eff_value D _ hr h (hD v') (fun _ h => h) (hk v')
end Go.Proofs.Ytfjadhkhmhnccaa
