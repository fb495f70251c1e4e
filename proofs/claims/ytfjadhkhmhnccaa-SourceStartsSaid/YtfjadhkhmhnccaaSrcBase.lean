/- The check sum of a file; copies of byte slices. -/
import Derived.Test.YtfjadhkhmhnccaaPduValid
import Derived.Test.YtfjadhkhmhnccaaSepc
import Derived.Test.YtfjadhkhmhnccaaOrdR
import Derived.Maps.AppendAt
import Derived.WalkSpells
import Derived.Lib.LazyBuf
import Derived.WideShapes
set_option linter.unusedVariables false
set_option linter.unusedSimpArgs false
namespace Fil
def sumGo (l : List Nat) : Nat → Nat
  | 0 => 0
  | k + 1 => (sumGo l k + l.getD k 0 * 2 ^ (8 * (3 - k % 4))) % 4294967296
def sumV (l : List Nat) : Nat := sumGo l l.length
theorem sumGo_lt (l : List Nat) (k : Nat) : sumGo l k < 4294967296 := by
  cases k with
  | zero => exact (by decide : 0 < 4294967296)
  | succ k => unfold sumGo; exact Nat.mod_lt _ (by decide)
end Fil
namespace Go.Proofs.Ytfjadhkhmhnccaa
open Go.RowKit Go.Proofs.Num
theorem info8 : (Try.prog.info? 5).map (fun i => (i.zero, i.size, i.bytes)) = some (some (.int .u8 0), 1, 1) := by kernel_rfl
theorem u32_step (a x p : Nat) (h : x * p < 4294967296) : IntKind.u32.wrap ((a : Int) + ((x * p : Nat) : Int)) = (((a + x * p) % 4294967296 : Nat) : Int) := by
  generalize x * p = y at *
  rw [IntKind.wrap_u32]; omega
set_option maxRecDepth 100000 in
theorem cPiece (w : World) (v : Value) (l : List Nat) (h : RdB w v l) (hn : l.length < 100000000) : Calls Try.prog 67 #[.int .i64 0, v] w fun e w' => e = .returned (.int .u32 (Fil.sumV l : Nat)) ∧ w = w' := by
  obtain ⟨a, cap, rfl, hx⟩ := h.open
  have HX := hid hx
  have HB := hid h.2
  clear h hx
  go_enter Try.func67, Try.ntmps67
  go_wp2_with fail
  go_loop [5, 13] (fun z i => ∃ k : Nat, k ≤ l.length ∧ i = .int .i64 k ∧ z = .int .u32 (Fil.sumGo l k : Nat)) (fun _ i => l.length - (intOf i).toNat)
  case atStart => exact ⟨0, by omega, rfl, rfl⟩
  case round =>
    obtain ⟨k, hk, rfl, rfl⟩ := hrel
    by_cases hlt : k < l.length
    · obtain ⟨b, off, rfl, hb, c0⟩ := HX.out k hlt
      have hxb := HB.out _ (List.getElem_mem hlt)
      have hst : Fil.sumGo l (k + 1) = (Fil.sumGo l k + l[k] * 2 ^ (8 * (3 - k % 4))) % 4294967296 := by
        show (Fil.sumGo l k + l.getD k 0 * _) % _ = _
        rw [List.getD_eq_getElem?_getD, List.getElem?_eq_getElem hlt]; rfl
      have hacc := Fil.sumGo_lt l k
      have HST := hid hst
      clear hst
      generalize Fil.sumGo l k = acc at *
      generalize l[k] = x at *
      have hr4 : (k % 4 = 0 ∧ (k : Int) % 4 = 0) ∨ (k % 4 = 1 ∧ (k : Int) % 4 = 1) ∨ (k % 4 = 2 ∧ (k : Int) % 4 = 2) ∨ (k % 4 = 3 ∧ (k : Int) % 4 = 3) := by omega
      rcases hr4 with ⟨h1, h2⟩ | ⟨h1, h2⟩ | ⟨h1, h2⟩ | ⟨h1, h2⟩
      · rw [h1, show 2 ^ (8 * (3 - 0)) = 16777216 from rfl] at HST
        clear h1
        go_wp2_with fail
        go_round
        case rel => exact ⟨k + 1, by omega, by go_num, by rw [HST.out]; exact val_int (by omega)⟩
        case measure => simp [intOf]; omega
      · rw [h1, show 2 ^ (8 * (3 - 1)) = 65536 from rfl] at HST
        clear h1
        go_wp2_with fail
        go_round
        case rel => exact ⟨k + 1, by omega, by go_num, by rw [HST.out]; exact val_int (by omega)⟩
        case measure => simp [intOf]; omega
      · rw [h1, show 2 ^ (8 * (3 - 2)) = 256 from rfl] at HST
        clear h1
        go_wp2_with fail
        go_round
        case rel => exact ⟨k + 1, by omega, by go_num, by rw [HST.out]; exact val_int (by omega)⟩
        case measure => simp [intOf]; omega
      · rw [h1, show 2 ^ (8 * (3 - 3)) = 1 from rfl] at HST
        clear h1
        go_wp2_with fail
        go_round
        case rel => exact ⟨k + 1, by omega, by go_num, by rw [HST.out]; exact val_int (by omega)⟩
        case measure => simp [intOf]; omega
    · obtain rfl : k = l.length := by omega
      go_wp2_with fail
      go_ret
      exact ⟨rfl, rfl⟩
theorem cSum (w : World) (v : Value) (l : List Nat) (h : RdB w v l) (hn : l.length < 100000000) : Calls Try.prog 21 #[v] w fun e w' => e = .returned (.int .u32 (Fil.sumV l : Nat)) ∧ w = w' := by
  have HP := hid (cPiece w v l h hn)
  generalize Fil.sumV l = z at *
  go_enter Try.func21, Try.ntmps21
  go_wp2_with fail
  refine HP.out.mono ?_
  rintro e w' ⟨rfl, rfl⟩
  go_wp2_with fail
  go_ret
  exact ⟨rfl, rfl⟩
theorem u8s_one (l : List Nat) : ∀ u ∈ u8s l, u.oneCell' = true := by
  intro u hu; simp [u8s] at hu; obtain ⟨x, _, rfl⟩ := hu; rfl
theorem own_at {w : World} {e : TypeId} {g n cap B : Nat} {xs : List Value} (h : w.ownsRow 0 e 1 (.slice (some ⟨g, 0, none⟩) n cap) n xs) (hB : B ≤ g) : w.ownsRow B e 1 (.slice (some ⟨g, 0, none⟩) n cap) n xs := by
  obtain ⟨h1, h2⟩ := h
  refine ⟨h1, ?_⟩
  rcases h2 with ⟨h2, _⟩ | ⟨g', cap', cur, hv, _, r⟩
  · cases h2
  · have hg : g = g' := by injection hv with hv; injection hv with hv; injection hv
    exact Or.inr ⟨g', cap', cur, hv, by omega, r⟩
/-- What lies at the head of a state is new. -/
theorem Sts.isNew {W w : World} {l : List HProp} {e : TypeId} {v : Value} {n : Nat} {ys : List Value} (h : Sts W (rowP e 1 v n ys :: l) w) (hn : ys.length = n) : New W w e v ys := by
  subst hn
  obtain ⟨F, ⟨F1, F2, ⟨⟨h1, h2⟩, hf⟩, _, _, hu⟩, hb, hlow⟩ := h
  refine ⟨⟨h1, ?_⟩, hb⟩
  rcases h2 with h2 | ⟨g, cap, cur, hv, hg, r⟩
  · exact Or.inl h2
  · refine Or.inr ⟨g, cap, cur, hv, ?_, r⟩
    have : v.ownBlock = some g := by rw [hv]; rfl
    exact hlow g ((hu g).2 (Or.inl ((hf g).2 this)))
/-- A block just made is a row. -/
theorem blkP.row {b : Nat} {cs : Array Value} {e : TypeId} {w : World} {F : Nat → Prop} (h : blkP b (.cells cs e (0, 0)) w F) (hm : cs.size ≤ 1000000) : rowP e 1 (.slice (some ⟨b, 0, none⟩) cs.size cs.size) cs.size cs.toList w F :=
  ⟨⟨by simp, Or.inr ⟨b, cs.size, cs, rfl, Nat.zero_le _, h.1, Nat.le_refl _, by unfold maxLen; omega, by omega, List.take_of_length_le (by simp)⟩⟩, fun k => by rw [h.2 k]; simp [Value.ownBlock]; exact eq_comm⟩
theorem new_nil {w w' : World} {e : TypeId} (h : Below w.heap.size w w') : New w w' e (.slice none 0 0) [] := ⟨⟨rfl, Or.inl ⟨rfl, rfl⟩⟩, h⟩
theorem plain_add (b o n : Nat) : (⟨b, o, none⟩ : Addr).add n = ⟨b, o + n, none⟩ := WideShapes.add_plain b o n
set_option maxRecDepth 100000 in
theorem cCloneB (w : World) (v : Value) (l : List Nat) (h : RdB w v l) (hn : l.length < 100000000) :
    Calls Try.prog 56 #[v] w fun e w' => ∃ r, e = .returned r ∧ New w w' 5 r (u8s l) := by
  obtain ⟨a, cap, rfl, hx⟩ := h.open
  obtain ⟨hq0, hcap1, hcap2⟩ := h.1.cap
  rw [u8s_len] at hq0
  clear hq0
  unfold maxLen at hcap2
  obtain ⟨i0, hi0, hz0, hz1, hz2⟩ := info_parts info8
  cases a with
  | none =>
    have hl : l = [] := by
      rcases l with _ | ⟨x, l⟩
      · rfl
      · obtain ⟨b, off, e, _⟩ := hx 0 (by simp); cases e
    subst hl
    have HX := hid hx
    clear hx h
    have hq := Lib.run_eql_slice_nil (P := Try.prog) w 24 5 none 0 cap 0 0 Try.underlying24
    go_enter Try.func56, Try.ntmps56
    go_wp2_with fail
    go_ret
    exact ⟨_, rfl, new_nil (Below.refl _ _)⟩
  | some ad =>
    have hq := Lib.run_eql_slice_nil (P := Try.prog) w 24 5 (some ad) l.length cap 0 0 Try.underlying24
    have HCN : Hid (∀ j u, (u8s l)[j]? = some u → (w.alloc (.cells #[] 5)).cell? (ad.add j) = some u) := by
      refine hid (fun j u hj => ?_)
      have hbel := (Below.refl w.heap.size w).alloc (Nat.le_refl _) (.cells #[] 5)
      have hlt : j < l.length := by
        rcases Nat.lt_or_ge j (u8s l).length with h | h
        · rw [u8s_len] at h; exact h
        · rw [List.getElem?_eq_none h] at hj; cases hj
      obtain ⟨ba, oa, ea, hba, hca⟩ := hx j hlt
      injection ea with ea
      subst ea
      rw [plain_add, hbel.cell hba, hca]
      simp only [u8s, List.getElem?_map, List.getElem?_eq_getElem hlt] at hj
      simpa using hj
    have hso : Sts w [rowP 5 1 (.slice (some ⟨w.heap.size, 0, none⟩) 0 0) 0 []] (w.alloc (.cells #[] 5)) :=
      ((Sts.nil w).alloc stab0 (.cells #[] 5)).weaken (fun F h => blkP.row h (by simp))
    have HSO0 := hid hso
    have HNU : Hid ((u8s l).length = l.length * 1) := hid (by rw [u8s_len, Nat.mul_one])
    have HCAP : Hid (l.length ≤ cap) := hid hcap1
    clear hso hx h
    generalize hm : l.length = m at *
    have HM := hid hm
    clear hm
    go_enter Try.func56, Try.ntmps56
    go_wp2_with (at_builtin; refine wpList_append_own_at _ rfl (.tmp 5) (.tmp 6) 24 rfl 0 5 i0 (.int .u8 0) 1 1 Try.underlying24 hi0 hz0 hz1 hz2 rfl (by decide) (.slice (some ⟨w.heap.size, 0, none⟩) 0 0) 0 [] rfl (Sts.rowOwn HSO0.out) ad m cap (u8s l) rfl HNU.out HCN.out (u8s_one l) (by unfold maxLen; omega) (by omega) (Nat.zero_le _) ?_; intro v1 w5 hown hgr _ hblk)
    have hso := Sts.grown stab0 HSO0.out hgr hown (by
      intro q' hq
      rcases hblk with h | h
      · exact Or.inl (h ▸ hq)
      · rw [h] at hq; injection hq with hq; exact Or.inr (by omega))
    rw [Nat.zero_add, List.nil_append] at hso
    have HSO := hid hso
    clear hso hown hgr hblk HCN HSO0
    go_ret
    exact ⟨_, rfl, Sts.isNew HSO.out (by rw [u8s_len]; exact HM.out)⟩
end Go.Proofs.Ytfjadhkhmhnccaa
