/- Appending ranges that a slice reads; the receiver's answer. -/
import Derived.Test.YtfjadhkhmhnccaaRngB
import Derived.Test.YtfjadhkhmhnccaaWalkS
import Derived.Test.YtfjadhkhmhnccaaCmpD
import Derived.Maps.AppendAt
set_option linter.unusedVariables false
set_option linter.unusedSimpArgs false
namespace Go.Proofs.Ytfjadhkhmhnccaa
open Go.RowKit Go.Proofs.Num
theorem cell_two_newC (w : World) (x y : Value) (t : TypeId) : ∀ j u, [x, y][j]? = some u → (w.alloc (.cells #[x, y] t)).cell? ((⟨w.heap.size, 0, none⟩ : Addr).add j) = some u := by
  intro j u hj
  rw [plain_add, Nat.zero_add]
  have hh : (w.alloc (.cells #[x, y] t)).heap[w.heap.size]? = some (.cells #[x, y] t (0, 0)) := by
    show (w.heap.push (.cells #[x, y] t (0, 0)))[w.heap.size]? = _
    simp
  exact cell_blk hh (by simpa using hj)
theorem own_orC {v1 v : Value} {n : Nat} (h : v1.ownBlock = v.ownBlock ∨ v1.ownBlock = some n) : ∀ k, v1.ownBlock = some k → v.ownBlock = some k ∨ n ≤ k := by
  intro k hk
  rcases h with h | h
  · exact Or.inl (h ▸ hk)
  · rw [h] at hk; injection hk with hk; exact Or.inr (by omega)
theorem run_append_none_anyC {P : Program} {w : World} (base : Nat) (t ty e : TypeId) (i : TypeInfo) (size : Nat) (ht : P.underlying t = some (.slice e)) (hi : P.info? e = some i)
    (v : Value) (n : Nat) (xs : List Value) (hown : w.ownsRow base e size v n xs) (c : Nat) :
    (Builtin.append_ #[t, t] ty #[v, .slice none 0 c]).run P w = .ok v w := by
  rcases hown.2 with ⟨rfl, rfl⟩ | ⟨g, cap, cur, rfl, _, _, hnc, _⟩
  · simp [Builtin.append_, run_underlying ht, sizeOf, typeInfo, hi, Builtin.lenOf, Builtin.firstCells]
  · simp [Builtin.append_, run_underlying ht, sizeOf, typeInfo, hi, Builtin.lenOf, Builtin.firstCells, hnc, storeCells]
theorem rd_newsC {w : World} {a : Addr} {m : List Rng.R} {cap : Nat} (hx : RdR w (.slice (some a) m.length cap) m) : ∀ j u, (Fil.rcells m)[j]? = some u → w.cell? (a.add j) = some u := by
  intro j u hj
  obtain ⟨a', c', e', _, hx⟩ := hx
  injection e' with e1 e2 e3
  subst e1
  have hlt : j < m.length * 2 := by
    rcases Nat.lt_or_ge j (Fil.rcells m).length with h | h
    · rw [rcells_len] at h; exact h
    · rw [List.getElem?_eq_none h] at hj; cases hj
  obtain ⟨ba, oa, ea, hba, hca, hcb⟩ := hx (j / 2) (by omega)
  injection ea with ea
  subst ea
  have hg := rcells_get m (j / 2) (by omega)
  rw [plain_add]
  rcases (by omega : j / 2 * 2 = j ∨ j / 2 * 2 + 1 = j) with e | e
  · rw [e] at hca hg; rw [hca, ← hg.1, hj]
  · rw [Nat.add_assoc, e] at hcb; rw [e] at hg; rw [hcb, ← hg.2, hj]
theorem RdR.nil_ofC {w : World} {c n : Nat} {m : List Rng.R} (hx : RdR w (.slice none n c) m) : m = [] := by
  obtain ⟨a', c', e', _, hx⟩ := hx
  injection e' with e1 e2 e3
  rcases m with _ | ⟨x, m⟩
  · rfl
  · obtain ⟨b, off, e, _⟩ := hx 0 (by simp); rw [← e1] at e; cases e
theorem run_appendRC (w : World) (ty : TypeId) (v xv : Value) (l m : List Rng.R) (hown : w.ownsRow 0 81 2 v l.length (Fil.rcells l)) (hx : RdR w xv m) (hlen : l.length + m.length < 1000000) :
    ∃ v' w', (Builtin.append_ #[36, 36] ty #[v, xv]).run Try.prog w = .ok v' w' ∧ w'.ownsRow 0 81 2 v' (l ++ m).length (Fil.rcells (l ++ m)) ∧ w.grownBy w' v.ownBlock ∧ (v'.ownBlock = v.ownBlock ∨ v'.ownBlock = some w.heap.size) := by
  obtain ⟨i0, hi, hz0, hz1, hz2⟩ := info_parts infoR
  obtain ⟨a, c, rfl⟩ := hx.eq
  rw [List.length_append, rcells_app]
  cases a with
  | none =>
    have hm := RdR.nil_ofC hx
    subst hm
    refine ⟨v, w, run_append_none_anyC 0 36 ty 81 i0 2 Try.underlying36 hi v l.length (Fil.rcells l) hown c, ?_, ⟨rfl, rfl, rfl, Nat.le_refl _, fun _ _ _ => rfl⟩, Or.inl rfl⟩
    simpa [Fil.rcells] using hown
  | some ad =>
    obtain ⟨v', w', hrun, hown', hgr, _, hbl⟩ := run_append_own_at (P := Try.prog) w 0 36 ty 81 i0 (.agg #[.int .i64 0, .int .i64 0]) 2 16 Try.underlying36 hi hz0 hz1 hz2 rfl (by decide) v l.length (Fil.rcells l) hown ad m.length c (Fil.rcells m) (rcells_len m) (rd_newsC hx) (rcells_one m) (by unfold maxLen; omega) (by omega) (Nat.zero_le _)
    exact ⟨v', w', hrun, hown', hgr, hbl⟩
theorem wpList_appendRC {ops : Array Oper} {rest : List Oper} {o : Oper} {a : Act} {Q : Exit → Act → World → Prop} {W w : World} {L : List HProp} {v : Value} {l m : List Rng.R} (hgd : o.guard = none) (s x : Operand)
    (ho : o.op = .call { callee := .builtin .append, args := #[s, x], argTypes := #[36, 36] }) (hS : Sts W (rowP 81 2 v l.length (Fil.rcells l) :: L) w) (hL : ∀ B ∈ L, Stable B)
    (hs : a.eval s = v) (xv : Value) (hx : a.eval x = xv) (hrd : RdR w xv m) (hlen : l.length + m.length < 1000000)
    (h : ∀ v' w', Sts W (rowP 81 2 v' (l ++ m).length (Fil.rcells (l ++ m)) :: L) w' → wpList Try.prog ops Q rest (a.put o.dst v') w') : wpList Try.prog ops Q (o :: rest) a w := by
  refine wpList_plain hgd fun K hK => ?_
  obtain ⟨v', w', hrun, hown, hgr, hbl⟩ := run_appendRC w o.type v xv l m (Sts.rowOwnK hS) hrd hlen
  have hS2 := Sts.grownK hL hS hgr hown (own_orC hbl)
  unfold Oper.wp
  simp [execOp, ho, resolve, invoke, builtin, hs, hx, hrun, Result.andThen]
  exact hK _ _ (h v' w' hS2)
theorem rdR_oneC (w : World) (f t : Int) : RdR (w.alloc (.cells #[.int .i64 f, .int .i64 t] 81)) (.slice (some ⟨w.heap.size, 0, none⟩) 1 1) [(f, t)] := by
  have hc := cell_two_newC w (.int .i64 f) (.int .i64 t) 81
  refine ⟨_, 1, rfl, ⟨by simp, by unfold maxLen; omega⟩, fun j hj => ⟨w.heap.size, 0, rfl, ?_, ?_, ?_⟩⟩
  · show _ < (w.heap.push _).size; simp
  · have h0 : j = 0 := by simp at hj; omega
    subst h0
    have := hc 0 _ rfl
    rwa [plain_add] at this
  · have h0 : j = 0 := by simp at hj; omega
    subst h0
    have := hc 1 _ rfl
    rwa [plain_add] at this
def ansEnd (L : List Rng.R) (ga : Option Addr) (gc : Nat) (e : Ending) : Prop := (L = [] → e = .returned (.agg #[.int .i64 5, .int .i64 1, .int .i64 7, .int .i64 0, .string ⟨#[]⟩, .int .i64 0, .int .i64 0, .slice none 0 0, .int .u32 0, .int .i64 0, .slice none 0 0])) ∧ (L ≠ [] → e = .returned (.agg #[.int .i64 4, .int .i64 1, .int .i64 7, .int .i64 0, .string ⟨#[]⟩, .int .i64 0, .int .i64 0, .slice none 0 0, .int .u32 0, .int .i64 0, .slice ga L.length gc]))
def AnsPost (W : World) (rest : List HProp) (L : List Rng.R) (e : Ending) (w' : World) : Prop := ∃ ga gc, ansEnd L ga gc e ∧ Sts W (rowP 81 2 (.slice ga L.length gc) L.length (Fil.rcells L) :: rest) w'
theorem cIdC (w : World) : Calls Try.prog 22 #[] w fun e w' => e = .returned (.agg #[.int .i64 1, .int .i64 7]) ∧ Below w.heap.size w w' := by
  have HB := hid ((Below.refl w.heap.size w).alloc (Nat.le_refl _) (.cells #[.int .i64 1, .int .i64 7] 23))
  go_enter Try.func22, Try.ntmps22
  go_wp2_with fail
  refine bodyPost_ret (v := .agg #[.int .i64 1, .int .i64 7]) ?_ rfl ⟨rfl, HB.out⟩
  simp [results, Try.results22, go_sem]
section
variable {W w : World} {l : List HProp} (hl : ∀ B ∈ l, Stable B) (q gh gd D ch cd : Nat) (nm en cl : Bool) (hv : List Bool) (dt : List Nat)
  (hs : Sts W (blkP q (.cells #[.bool nm, .bool en, .bool cl, .slice (some ⟨gh, 0, none⟩) D ch, .slice (some ⟨gd, 0, none⟩) D cd] 53 (0, 0)) :: rowP 4 1 (.slice (some ⟨gh, 0, none⟩) D ch) D (hv.map Value.bool) :: rowP 5 1 (.slice (some ⟨gd, 0, none⟩) D cd) D (u8s dt) :: l) w) (hD : D ≤ 1500) (hh : hv.length = D)
include hl hs hD hh
set_option maxRecDepth 100000 in
set_option maxHeartbeats 8000000 in
theorem cAnswer : Calls Try.prog 26 #[.pointer (some ⟨q, 0, none⟩)] w fun e w' => AnsPost W (blkP q (.cells #[.bool nm, .bool en, .bool cl, .slice (some ⟨gh, 0, none⟩) D ch, .slice (some ⟨gd, 0, none⟩) D cd] 53 (0, 0)) :: rowP 4 1 (.slice (some ⟨gh, 0, none⟩) D ch) D (hv.map Value.bool) :: rowP 5 1 (.slice (some ⟨gd, 0, none⟩) D cd) D (u8s dt) :: l) (Fil.ansS hv nm (D + 1)).1 e w' := by
  have H0 : Hid (Sts W (rowP 81 2 (.slice none 0 0) 0 [] :: blkP w.heap.size (.cells #[.int .i64 0, .int .i64 0, .int .i64 0, .int .i64 0, .string ⟨#[]⟩, .int .i64 0, .int .i64 0, .slice none 0 0, .int .u32 0, .int .i64 0, .slice none 0 0] 45 (0, 0)) :: blkP q (.cells #[.bool nm, .bool en, .bool cl, .slice (some ⟨gh, 0, none⟩) D ch, .slice (some ⟨gd, 0, none⟩) D cd] 53 (0, 0)) :: rowP 4 1 (.slice (some ⟨gh, 0, none⟩) D ch) D (hv.map Value.bool) :: rowP 5 1 (.slice (some ⟨gd, 0, none⟩) D cd) D (u8s dt) :: l) (w.alloc (.cells #[.int .i64 0, .int .i64 0, .int .i64 0, .int .i64 0, .string ⟨#[]⟩, .int .i64 0, .int .i64 0, .slice none 0 0, .int .u32 0, .int .i64 0, .slice none 0 0] 45))) := hid (Sts.rowNil2 81 (hs.alloc (stabC (blkP_stable _ _) (stabC (rowP_stable _ _ _ _ _) (stabC (rowP_stable _ _ _ _ _) hl))) (.cells #[.int .i64 0, .int .i64 0, .int .i64 0, .int .i64 0, .string ⟨#[]⟩, .int .i64 0, .int .i64 0, .slice none 0 0, .int .u32 0, .int .i64 0, .slice none 0 0] 45)))
  have HST := hid (show ∀ B ∈ blkP w.heap.size (.cells #[.int .i64 0, .int .i64 0, .int .i64 0, .int .i64 0, .string ⟨#[]⟩, .int .i64 0, .int .i64 0, .slice none 0 0, .int .u32 0, .int .i64 0, .slice none 0 0] 45 (0, 0)) :: blkP q (.cells #[.bool nm, .bool en, .bool cl, .slice (some ⟨gh, 0, none⟩) D ch, .slice (some ⟨gd, 0, none⟩) D cd] 53 (0, 0)) :: rowP 4 1 (.slice (some ⟨gh, 0, none⟩) D ch) D (hv.map Value.bool) :: rowP 5 1 (.slice (some ⟨gd, 0, none⟩) D cd) D (u8s dt) :: l, Stable B from (stabC (blkP_stable _ _) (stabC (blkP_stable _ _) (stabC (rowP_stable _ _ _ _ _) (stabC (rowP_stable _ _ _ _ _) hl)))))
  have HAL := hid (Sts.box (stabC (rowP_stable _ _ _ _ _) HST.out) H0.out (.cells #[.int .i64 0, .int .i64 0] 81))
  have HRD := hid (show RdR ((w.alloc (.cells #[.int .i64 0, .int .i64 0, .int .i64 0, .int .i64 0, .string ⟨#[]⟩, .int .i64 0, .int .i64 0, .slice none 0 0, .int .u32 0, .int .i64 0, .slice none 0 0] 45)).alloc (.cells #[.int .i64 0, .int .i64 0] 81)) (.slice (some ⟨w.heap.size + 1, 0, none⟩) 1 1) [(0, 0)] from by
    have h := rdR_oneC (w.alloc (.cells #[.int .i64 0, .int .i64 0, .int .i64 0, .int .i64 0, .string ⟨#[]⟩, .int .i64 0, .int .i64 0, .slice none 0 0, .int .u32 0, .int .i64 0, .slice none 0 0] 45)) 0 0
    rw [show (w.alloc (.cells #[.int .i64 0, .int .i64 0, .int .i64 0, .int .i64 0, .string ⟨#[]⟩, .int .i64 0, .int .i64 0, .slice none 0 0, .int .u32 0, .int .i64 0, .slice none 0 0] 45)).heap.size = w.heap.size + 1 from Array.size_push ..] at h
    exact h)
  have HH := hid hh
  have hnm : (w.alloc (.cells #[.int .i64 0, .int .i64 0, .int .i64 0, .int .i64 0, .string ⟨#[]⟩, .int .i64 0, .int .i64 0, .slice none 0 0, .int .u32 0, .int .i64 0, .slice none 0 0] 45)).cell? ⟨q, 0, none⟩ = some (.bool nm) := (Sts.boxCell H0.out.tail.tail 0 _ rfl).1
  clear hs hl hh
  have HGO : Hid (Fil.ansS hv nm 0 = (Fil.pre nm, -1)) := hid rfl
  cases nm
  · go_enter Try.func26, Try.ntmps26
    go_wp2_with (at_builtin; refine wpList_appendRC (l := []) (m := [(0, 0)]) rfl (.tmp 12) (.tmp 14) rfl HAL.out HST.out rfl _ rfl HRD.out (by simp) ?_; intro v1 w5 hz; have HZ := hid hz; clear hz)
    clear hnm HAL H0
    go_loopw [3, 4, 5] (fun lv fr i wr => ∃ k : Nat, k ≤ D + 1 ∧ fr = .int .i64 (Fil.ansS hv false k).2 ∧ i = .int .i64 k ∧ Sts W (rowP 81 2 lv (Fil.ansS hv false k).1.length (Fil.rcells (Fil.ansS hv false k).1) :: blkP w.heap.size (.cells #[.int .i64 0, .int .i64 0, .int .i64 0, .int .i64 0, .string ⟨#[]⟩, .int .i64 0, .int .i64 0, .slice none 0 0, .int .u32 0, .int .i64 0, .slice none 0 0] 45 (0, 0)) :: blkP q (.cells #[.bool false, .bool en, .bool cl, .slice (some ⟨gh, 0, none⟩) D ch, .slice (some ⟨gd, 0, none⟩) D cd] 53 (0, 0)) :: rowP 4 1 (.slice (some ⟨gh, 0, none⟩) D ch) D (hv.map Value.bool) :: rowP 5 1 (.slice (some ⟨gd, 0, none⟩) D cd) D (u8s dt) :: l) wr) (fun _ _ i _ => D + 1 - (intOf i).toNat)
    case atStart => exact ⟨0, by omega, rfl, rfl, HZ.out⟩
    case round =>
      obtain ⟨k, hk, rfl, rfl, hS⟩ := hrel
      clear HZ
      have HS0 := hid hS
      clear hS
      obtain ⟨⟨L, F⟩, he⟩ : ∃ p, p = Fil.ansS hv false k := ⟨_, rfl⟩
      have hbd := Fil.ansS_bd hv false k
      rw [← he] at hbd HS0 ⊢
      simp only [] at hbd HS0 ⊢
      obtain ⟨hL16, hF1, hF2⟩ := hbd
      obtain ⟨a, c, rfl⟩ := (RdR.of_own (Sts.rowOwnK HS0.out) rfl).eq
      have HS := HS0
      clear HS0
      have q3 := (Sts.boxCell HS.out.tail.tail 3 _ rfl).1
      obtain ⟨nL, hnL⟩ : ∃ nL, nL = L.length := ⟨_, rfl⟩
      have HNL := hid hnL
      have HE := hid he.symm
      clear he
      by_cases hlt : k ≤ D
      · have d1 : decide ((k : Int) ≤ (D : Int)) = true := decide_eq_true (by omega)
        by_cases hkD : k = D
        · obtain rfl : D = k := hkD.symm
          have HN := hid (Fil.ansS_yes HE.out (by rw [decide_eq_true HH.out.symm]; rfl))
          rcases Int.lt_or_le F 0 with hF | hF
          · have f1 : decide ((0 : Int) ≤ F) = false := decide_eq_false (by omega)
            replace HN := hid (HN.out.trans (if_neg (by omega)))
            go_wp2_with fail
            go_roundw
            case rel => exact ⟨D + 1, by omega, by rw [HN.out], by go_num, by rw [HN.out]; exact HS.out⟩
            case measure => (simp [intOf]; try omega)
          · have f1 : decide ((0 : Int) ≤ F) = true := decide_eq_true hF
            replace HN := hid (HN.out.trans (if_pos hF))
            rcases Nat.lt_or_ge nL 16 with hl6 | hl6
            · have f2 : decide ((nL : Int) < 16) = true := decide_eq_true (by omega)
              have HN2 := hid (HN.out.trans (by rw [if_pos (by rw [← HNL.out]; exact hl6)]))
              have HAL := hid (Sts.box (stabC (rowP_stable _ _ _ _ _) HST.out) HS.out (.cells #[.int .i64 F, .int .i64 (D : Int)] 81))
              rw [hnL] at f2
              clear HN hnL
              go_wp2_with (at_builtin; refine wpList_appendRC rfl (.tmp 56) (.tmp 60) rfl HAL.out HST.out rfl _ rfl (rdR_oneC _ F D) (by simp only [List.length_cons, List.length_nil]; omega) ?_; intro v1 w5 hz; have HZ := hid hz; clear hz)
              go_roundw
              case rel => exact ⟨D + 1, by omega, by rw [HN2.out], by go_num, by rw [HN2.out]; exact HZ.out⟩
              case measure => (simp [intOf]; try omega)
            · have f2 : decide ((nL : Int) < 16) = false := decide_eq_false (by omega)
              have HN2 := hid (HN.out.trans (by rw [if_neg (by rw [← HNL.out]; omega)]))
              rw [hnL] at f2
              clear HN hnL
              go_wp2_with fail
              go_roundw
              case rel => exact ⟨D + 1, by omega, by rw [HN2.out], by go_num, by rw [HN2.out]; exact HS.out⟩
              case measure => (simp [intOf]; try omega)
        · have d2 : ((k : Int) == (D : Int)) = false := by rw [beq_eq_false_iff_ne]; omega
          have hkl : k < D := by omega
          have hk1 : (k : Int) < (D : Int) := by omega
          have hk0 : (0 : Int) ≤ (k : Int) := by omega
          obtain ⟨b, hkb⟩ : ∃ b, hv.getD k false = b := ⟨_, rfl⟩
          have rc := Sts.rowCell HS.out.tail.tail.tail k hkl (.bool b) (by rw [List.getElem?_map, ← hkb, List.getD_eq_getElem?_getD, List.getElem?_eq_getElem (by rw [HH.out]; exact hkl)]; rfl)
          cases b
          · have HN := hid (Fil.ansS_no HE.out (by rw [decide_eq_false (by rw [HH.out]; omega), hkb]; decide))
            rcases Int.lt_or_le F 0 with hF | hF
            · have f1 : decide (F < (0 : Int)) = true := decide_eq_true hF
              replace HN := hid (HN.out.trans (if_pos hF))
              go_wp2_with fail
              go_roundw
              case rel => exact ⟨k + 1, by omega, by rw [HN.out], by go_num, by rw [HN.out]; exact HS.out⟩
              case measure => (simp [intOf]; try omega)
            · have f1 : decide (F < (0 : Int)) = false := decide_eq_false (by omega)
              replace HN := hid (HN.out.trans (if_neg (by omega)))
              go_wp2_with fail
              go_roundw
              case rel => exact ⟨k + 1, by omega, by rw [HN.out], by go_num, by rw [HN.out]; exact HS.out⟩
              case measure => (simp [intOf]; try omega)
          · have HN := hid (Fil.ansS_yes HE.out (by rw [hkb]; exact Bool.or_true _))
            rcases Int.lt_or_le F 0 with hF | hF
            · have f1 : decide ((0 : Int) ≤ F) = false := decide_eq_false (by omega)
              replace HN := hid (HN.out.trans (if_neg (by omega)))
              go_wp2_with fail
              go_roundw
              case rel => exact ⟨k + 1, by omega, by rw [HN.out], by go_num, by rw [HN.out]; exact HS.out⟩
              case measure => (simp [intOf]; try omega)
            · have f1 : decide ((0 : Int) ≤ F) = true := decide_eq_true hF
              replace HN := hid (HN.out.trans (if_pos hF))
              rcases Nat.lt_or_ge nL 16 with hl6 | hl6
              · have f2 : decide ((nL : Int) < 16) = true := decide_eq_true (by omega)
                have HN2 := hid (HN.out.trans (by rw [if_pos (by rw [← HNL.out]; exact hl6)]))
                have HAL := hid (Sts.box (stabC (rowP_stable _ _ _ _ _) HST.out) HS.out (.cells #[.int .i64 F, .int .i64 (k : Int)] 81))
                rw [hnL] at f2
                clear HN hnL
                go_wp2_with (at_builtin; refine wpList_appendRC rfl (.tmp 56) (.tmp 60) rfl HAL.out HST.out rfl _ rfl (rdR_oneC _ F k) (by simp only [List.length_cons, List.length_nil]; omega) ?_; intro v1 w5 hz; have HZ := hid hz; clear hz)
                go_roundw
                case rel => exact ⟨k + 1, by omega, by rw [HN2.out], by go_num, by rw [HN2.out]; exact HZ.out⟩
                case measure => (simp [intOf]; try omega)
              · have f2 : decide ((nL : Int) < 16) = false := decide_eq_false (by omega)
                have HN2 := hid (HN.out.trans (by rw [if_neg (by rw [← HNL.out]; omega)]))
                rw [hnL] at f2
                clear HN hnL
                go_wp2_with fail
                go_roundw
                case rel => exact ⟨k + 1, by omega, by rw [HN2.out], by go_num, by rw [HN2.out]; exact HS.out⟩
                case measure => (simp [intOf]; try omega)
      · obtain rfl : k = D + 1 := by omega
        have d1 : decide (((D + 1 : Nat) : Int) ≤ (D : Int)) = false := decide_eq_false (by omega)
        clear hlt
        have hR : (Fil.ansS hv false (D + 1)).1 = L := by rw [HE.out]
        have HR := hid hR
        clear hR HE
        by_cases hLn : L = []
        · subst hLn
          go_wp2_with (first | (go_at_call 22; refine (cIdC _).mono ?_; rintro e w3 ⟨rfl, hb⟩; have H3 := hid ((HS.out.quiet (stabC (rowP_stable _ _ _ _ _) HST.out) hb).swap); clear hb) | (refine wpList_agg H3.out (stabC (rowP_stable _ _ _ _ _) (fun B hB => HST.out B (List.mem_cons_of_mem _ hB))) rfl (.tmp 2) (.tmp 66) 45 rfl #[.int .i64 5, .int .i64 1, .int .i64 7, .int .i64 0, .string ⟨#[]⟩, .int .i64 0, .int .i64 0, .slice none 0 0, .int .u32 0, .int .i64 0, .slice none 0 0] rfl rfl sizePdu rfl rfl ?_; intro w4 hz; have HF := hid hz; clear hz))
          exact post_cell1 HF.out Try.results26 rfl rfl (ldPdu rfl HF.out) (by rw [HR.out]; exact ⟨a, c, ⟨fun _ => rfl, fun h => absurd rfl h⟩, HF.out.tail⟩)
        · have d2 : ((L.length : Int) == 0) = false := by rw [beq_eq_false_iff_ne]; have := List.length_pos_iff.2 hLn; omega
          have HNE := hid hLn
          clear hLn
          go_wp2_with (first | (go_at_call 22; refine (cIdC _).mono ?_; rintro e w3 ⟨rfl, hb⟩; have H3 := hid ((HS.out.quiet (stabC (rowP_stable _ _ _ _ _) HST.out) hb).swap); clear hb) | (refine wpList_agg H3.out (stabC (rowP_stable _ _ _ _ _) (fun B hB => HST.out B (List.mem_cons_of_mem _ hB))) rfl (.tmp 2) (.tmp 69) 45 rfl #[.int .i64 4, .int .i64 1, .int .i64 7, .int .i64 0, .string ⟨#[]⟩, .int .i64 0, .int .i64 0, .slice none 0 0, .int .u32 0, .int .i64 0, .slice a L.length c] rfl rfl sizePdu rfl rfl ?_; intro w4 hz; have HF := hid hz; clear hz))
          exact post_cell1 HF.out Try.results26 rfl rfl (ldPdu rfl HF.out) (by rw [HR.out]; exact ⟨a, c, ⟨fun h => absurd h HNE.out, fun _ => rfl⟩, HF.out.tail⟩)
  · have HZ := H0
    clear HAL H0
    go_enter Try.func26, Try.ntmps26
    go_wp2_with fail
    clear hnm
    go_loopw [3, 4, 5] (fun lv fr i wr => ∃ k : Nat, k ≤ D + 1 ∧ fr = .int .i64 (Fil.ansS hv true k).2 ∧ i = .int .i64 k ∧ Sts W (rowP 81 2 lv (Fil.ansS hv true k).1.length (Fil.rcells (Fil.ansS hv true k).1) :: blkP w.heap.size (.cells #[.int .i64 0, .int .i64 0, .int .i64 0, .int .i64 0, .string ⟨#[]⟩, .int .i64 0, .int .i64 0, .slice none 0 0, .int .u32 0, .int .i64 0, .slice none 0 0] 45 (0, 0)) :: blkP q (.cells #[.bool true, .bool en, .bool cl, .slice (some ⟨gh, 0, none⟩) D ch, .slice (some ⟨gd, 0, none⟩) D cd] 53 (0, 0)) :: rowP 4 1 (.slice (some ⟨gh, 0, none⟩) D ch) D (hv.map Value.bool) :: rowP 5 1 (.slice (some ⟨gd, 0, none⟩) D cd) D (u8s dt) :: l) wr) (fun _ _ i _ => D + 1 - (intOf i).toNat)
    case atStart => exact ⟨0, by omega, rfl, rfl, HZ.out⟩
    case round =>
      obtain ⟨k, hk, rfl, rfl, hS⟩ := hrel
      clear HZ
      have HS0 := hid hS
      clear hS
      obtain ⟨⟨L, F⟩, he⟩ : ∃ p, p = Fil.ansS hv true k := ⟨_, rfl⟩
      have hbd := Fil.ansS_bd hv true k
      rw [← he] at hbd HS0 ⊢
      simp only [] at hbd HS0 ⊢
      obtain ⟨hL16, hF1, hF2⟩ := hbd
      obtain ⟨a, c, rfl⟩ := (RdR.of_own (Sts.rowOwnK HS0.out) rfl).eq
      have HS := HS0
      clear HS0
      have q3 := (Sts.boxCell HS.out.tail.tail 3 _ rfl).1
      obtain ⟨nL, hnL⟩ : ∃ nL, nL = L.length := ⟨_, rfl⟩
      have HNL := hid hnL
      have HE := hid he.symm
      clear he
      by_cases hlt : k ≤ D
      · have d1 : decide ((k : Int) ≤ (D : Int)) = true := decide_eq_true (by omega)
        by_cases hkD : k = D
        · obtain rfl : D = k := hkD.symm
          have HN := hid (Fil.ansS_yes HE.out (by rw [decide_eq_true HH.out.symm]; rfl))
          rcases Int.lt_or_le F 0 with hF | hF
          · have f1 : decide ((0 : Int) ≤ F) = false := decide_eq_false (by omega)
            replace HN := hid (HN.out.trans (if_neg (by omega)))
            go_wp2_with fail
            go_roundw
            case rel => exact ⟨D + 1, by omega, by rw [HN.out], by go_num, by rw [HN.out]; exact HS.out⟩
            case measure => (simp [intOf]; try omega)
          · have f1 : decide ((0 : Int) ≤ F) = true := decide_eq_true hF
            replace HN := hid (HN.out.trans (if_pos hF))
            rcases Nat.lt_or_ge nL 16 with hl6 | hl6
            · have f2 : decide ((nL : Int) < 16) = true := decide_eq_true (by omega)
              have HN2 := hid (HN.out.trans (by rw [if_pos (by rw [← HNL.out]; exact hl6)]))
              have HAL := hid (Sts.box (stabC (rowP_stable _ _ _ _ _) HST.out) HS.out (.cells #[.int .i64 F, .int .i64 (D : Int)] 81))
              rw [hnL] at f2
              clear HN hnL
              go_wp2_with (at_builtin; refine wpList_appendRC rfl (.tmp 56) (.tmp 60) rfl HAL.out HST.out rfl _ rfl (rdR_oneC _ F D) (by simp only [List.length_cons, List.length_nil]; omega) ?_; intro v1 w5 hz; have HZ := hid hz; clear hz)
              go_roundw
              case rel => exact ⟨D + 1, by omega, by rw [HN2.out], by go_num, by rw [HN2.out]; exact HZ.out⟩
              case measure => (simp [intOf]; try omega)
            · have f2 : decide ((nL : Int) < 16) = false := decide_eq_false (by omega)
              have HN2 := hid (HN.out.trans (by rw [if_neg (by rw [← HNL.out]; omega)]))
              rw [hnL] at f2
              clear HN hnL
              go_wp2_with fail
              go_roundw
              case rel => exact ⟨D + 1, by omega, by rw [HN2.out], by go_num, by rw [HN2.out]; exact HS.out⟩
              case measure => (simp [intOf]; try omega)
        · have d2 : ((k : Int) == (D : Int)) = false := by rw [beq_eq_false_iff_ne]; omega
          have hkl : k < D := by omega
          have hk1 : (k : Int) < (D : Int) := by omega
          have hk0 : (0 : Int) ≤ (k : Int) := by omega
          obtain ⟨b, hkb⟩ : ∃ b, hv.getD k false = b := ⟨_, rfl⟩
          have rc := Sts.rowCell HS.out.tail.tail.tail k hkl (.bool b) (by rw [List.getElem?_map, ← hkb, List.getD_eq_getElem?_getD, List.getElem?_eq_getElem (by rw [HH.out]; exact hkl)]; rfl)
          cases b
          · have HN := hid (Fil.ansS_no HE.out (by rw [decide_eq_false (by rw [HH.out]; omega), hkb]; decide))
            rcases Int.lt_or_le F 0 with hF | hF
            · have f1 : decide (F < (0 : Int)) = true := decide_eq_true hF
              replace HN := hid (HN.out.trans (if_pos hF))
              go_wp2_with fail
              go_roundw
              case rel => exact ⟨k + 1, by omega, by rw [HN.out], by go_num, by rw [HN.out]; exact HS.out⟩
              case measure => (simp [intOf]; try omega)
            · have f1 : decide (F < (0 : Int)) = false := decide_eq_false (by omega)
              replace HN := hid (HN.out.trans (if_neg (by omega)))
              go_wp2_with fail
              go_roundw
              case rel => exact ⟨k + 1, by omega, by rw [HN.out], by go_num, by rw [HN.out]; exact HS.out⟩
              case measure => (simp [intOf]; try omega)
          · have HN := hid (Fil.ansS_yes HE.out (by rw [hkb]; exact Bool.or_true _))
            rcases Int.lt_or_le F 0 with hF | hF
            · have f1 : decide ((0 : Int) ≤ F) = false := decide_eq_false (by omega)
              replace HN := hid (HN.out.trans (if_neg (by omega)))
              go_wp2_with fail
              go_roundw
              case rel => exact ⟨k + 1, by omega, by rw [HN.out], by go_num, by rw [HN.out]; exact HS.out⟩
              case measure => (simp [intOf]; try omega)
            · have f1 : decide ((0 : Int) ≤ F) = true := decide_eq_true hF
              replace HN := hid (HN.out.trans (if_pos hF))
              rcases Nat.lt_or_ge nL 16 with hl6 | hl6
              · have f2 : decide ((nL : Int) < 16) = true := decide_eq_true (by omega)
                have HN2 := hid (HN.out.trans (by rw [if_pos (by rw [← HNL.out]; exact hl6)]))
                have HAL := hid (Sts.box (stabC (rowP_stable _ _ _ _ _) HST.out) HS.out (.cells #[.int .i64 F, .int .i64 (k : Int)] 81))
                rw [hnL] at f2
                clear HN hnL
                go_wp2_with (at_builtin; refine wpList_appendRC rfl (.tmp 56) (.tmp 60) rfl HAL.out HST.out rfl _ rfl (rdR_oneC _ F k) (by simp only [List.length_cons, List.length_nil]; omega) ?_; intro v1 w5 hz; have HZ := hid hz; clear hz)
                go_roundw
                case rel => exact ⟨k + 1, by omega, by rw [HN2.out], by go_num, by rw [HN2.out]; exact HZ.out⟩
                case measure => (simp [intOf]; try omega)
              · have f2 : decide ((nL : Int) < 16) = false := decide_eq_false (by omega)
                have HN2 := hid (HN.out.trans (by rw [if_neg (by rw [← HNL.out]; omega)]))
                rw [hnL] at f2
                clear HN hnL
                go_wp2_with fail
                go_roundw
                case rel => exact ⟨k + 1, by omega, by rw [HN2.out], by go_num, by rw [HN2.out]; exact HS.out⟩
                case measure => (simp [intOf]; try omega)
      · obtain rfl : k = D + 1 := by omega
        have d1 : decide (((D + 1 : Nat) : Int) ≤ (D : Int)) = false := decide_eq_false (by omega)
        clear hlt
        have hR : (Fil.ansS hv true (D + 1)).1 = L := by rw [HE.out]
        have HR := hid hR
        clear hR HE
        by_cases hLn : L = []
        · subst hLn
          go_wp2_with (first | (go_at_call 22; refine (cIdC _).mono ?_; rintro e w3 ⟨rfl, hb⟩; have H3 := hid ((HS.out.quiet (stabC (rowP_stable _ _ _ _ _) HST.out) hb).swap); clear hb) | (refine wpList_agg H3.out (stabC (rowP_stable _ _ _ _ _) (fun B hB => HST.out B (List.mem_cons_of_mem _ hB))) rfl (.tmp 2) (.tmp 66) 45 rfl #[.int .i64 5, .int .i64 1, .int .i64 7, .int .i64 0, .string ⟨#[]⟩, .int .i64 0, .int .i64 0, .slice none 0 0, .int .u32 0, .int .i64 0, .slice none 0 0] rfl rfl sizePdu rfl rfl ?_; intro w4 hz; have HF := hid hz; clear hz))
          exact post_cell1 HF.out Try.results26 rfl rfl (ldPdu rfl HF.out) (by rw [HR.out]; exact ⟨a, c, ⟨fun _ => rfl, fun h => absurd rfl h⟩, HF.out.tail⟩)
        · have d2 : ((L.length : Int) == 0) = false := by rw [beq_eq_false_iff_ne]; have := List.length_pos_iff.2 hLn; omega
          have HNE := hid hLn
          clear hLn
          go_wp2_with (first | (go_at_call 22; refine (cIdC _).mono ?_; rintro e w3 ⟨rfl, hb⟩; have H3 := hid ((HS.out.quiet (stabC (rowP_stable _ _ _ _ _) HST.out) hb).swap); clear hb) | (refine wpList_agg H3.out (stabC (rowP_stable _ _ _ _ _) (fun B hB => HST.out B (List.mem_cons_of_mem _ hB))) rfl (.tmp 2) (.tmp 69) 45 rfl #[.int .i64 4, .int .i64 1, .int .i64 7, .int .i64 0, .string ⟨#[]⟩, .int .i64 0, .int .i64 0, .slice none 0 0, .int .u32 0, .int .i64 0, .slice a L.length c] rfl rfl sizePdu rfl rfl ?_; intro w4 hz; have HF := hid hz; clear hz))
          exact post_cell1 HF.out Try.results26 rfl rfl (ldPdu rfl HF.out) (by rw [HR.out]; exact ⟨a, c, ⟨fun h => absurd h HNE.out, fun _ => rfl⟩, HF.out.tail⟩)
end
end Go.Proofs.Ytfjadhkhmhnccaa
