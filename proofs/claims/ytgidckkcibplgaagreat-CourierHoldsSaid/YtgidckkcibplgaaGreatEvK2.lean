/- An evaluator of the model's code: checksums as operations. An evaluator of the model's code: functions of outside slices of bytes as operations. An evaluator of the model's code: two byte strings that were there before. -/
import Derived.Test.YtgidckkcibplgaaGreatEvHd
set_option linter.unusedVariables false
set_option linter.unusedSimpArgs false
namespace Go.Ev
open Go.RowKit
variable {P : Program} {pr : Prims} {e : Env} {t : T V} {h : H} {s : Nat} {w : World} {r : RO} {k : K}
/-- Reads as bytes. -/
def RdX (w : World) (v : Value) (l : List Nat) : Prop := (∃ a cap, v = .slice a l.length cap ∧ ∀ j, (h : j < l.length) → ∃ b off, a = some ⟨b, off, none⟩ ∧ b < w.heap.size ∧ w.cell? ⟨b, off + j, none⟩ = some (.int .u8 (l[j] : Nat))) ∧ ∀ x ∈ l, x < 256
noncomputable def natL (l : List V) : (List Nat → RO) → RO :=
  List.rec (motive := fun _ => (List Nat → RO) → RO) (fun f => f []) (fun v _ r f => getI v (fun kd n => Int.rec (motive := fun _ => RO) (fun n => match kd with | .u8 => Bool.rec (motive := fun _ => RO) (.err 240) (r (fun l => f (n :: l))) (Nat.ble n 255) | _ => .err 240) (fun _ => .err 240) n) (.err 240)) l
noncomputable def byteL (h : H) (x : V) (f : List Nat → RO) : RO :=
  match x with
  | .nils => f []
  | .sl b o l _ => (match h.get .gone b with | .cells t n => bif Nat.ble (Nat.add o l) n then natL (rdCells t l o) f else .err 241 | _ => bif Nat.beq l 0 then f [] else .err 242)
  | .slu b o l _ => (match h.get .gone b with | .cells t n => bif Nat.ble (Nat.add o l) n then natL (rdCells t l o) f else .err 243 | _ => bif Nat.beq l 0 then f [] else .err 244)
  | _ => .err 245
theorem natL_ok : ∀ {l : List V} {f : List Nat → RO} {xs : List Value}, natL l f = r → r.good → VRs e l xs → ∃ ns : List Nat, f ns = r ∧ xs = ns.map (fun n => Value.int .u8 (n : Nat)) ∧ ∀ n ∈ ns, n < 256
  | [], f, _, hk, hr, .nil => ⟨[], hk, rfl, by simp⟩
  | v :: l, f, _, hk, hr, .cons hv ht => by
    have e1 : ∀ u : V, natL (u :: l) f = getI u (fun kd n => Int.rec (motive := fun _ => RO) (fun n => match kd with | .u8 => Bool.rec (motive := fun _ => RO) (.err 240) (natL l (fun l => f (n :: l))) (Nat.ble n 255) | _ => .err 240) (fun _ => .err 240) n) (.err 240) := fun u => rfl
    rw [e1] at hk
    rcases getI_cases v (fun kd n => Int.rec (motive := fun _ => RO) (fun n => match kd with | .u8 => Bool.rec (motive := fun _ => RO) (.err 240) (natL l (fun l => f (n :: l))) (Nat.ble n 255) | _ => .err 240) (fun _ => .err 240) n) (.err 240) with ⟨kd, n, rfl⟩ | h2
    · rw [getI_int] at hk
      cases hv
      cases n with
      | negSucc m => subst hk; exact hr.elim
      | ofNat m =>
        cases kd with
        | u8 =>
          change (Bool.rec (motive := fun _ => RO) (.err 240) (natL l (fun l => f (m :: l))) (Nat.ble m 255) : RO) = r at hk
          cases hb : Nat.ble m 255 with
          | false => rw [hb] at hk; subst hk; exact hr.elim
          | true =>
            rw [hb] at hk
            obtain ⟨ns, h1, h2, h3⟩ := natL_ok hk hr ht
            refine ⟨m :: ns, h1, by simp [h2], fun n hn => ?_⟩
            rcases List.mem_cons.1 hn with rfl | hn
            · have := Nat.le_of_ble_eq_true hb; omega
            · exact h3 n hn
        | _ => subst hk; exact hr.elim
    · rw [h2] at hk; subst hk; exact hr.elim
theorem byteL_at (hs : Sim e h w) {b o l c : Nat} {f : List Nat → RO} {x : Loc} (hx : e b = some x) {a0 : Nat} (ha0 : l = 0 ∨ a0 = x.sh + o) (n1 n2 : Nat)
    (hk : (match h.get .gone b with | .cells t n => bif Nat.ble (Nat.add o l) n then natL (rdCells t l o) f else .err n1 | _ => bif Nat.beq l 0 then f [] else .err n2) = r) (hr : r.good) :
    ∃ ns, f ns = r ∧ RdX w (.slice (some ⟨x.n, a0, none⟩) l c) ns := by
  split at hk
  · rename_i t' m hb
    obtain ⟨hl, cs, el, fr, hw, h1, h2, h3, h4, h5⟩ := cells_at hs hb hx
    obtain ⟨hle, hk⟩ := bif_ok hk (by simp [RO.good]) hr
    have hle' : o + l ≤ m := Nat.le_of_ble_eq_true hle
    obtain ⟨xs, hxl, hxs, hget⟩ := rd_ok h3 hle'
    obtain ⟨ns, g1, g2, g3⟩ := natL_ok hk hr hxs
    have hlen : ns.length = l := by rw [← hxl, g2]; simp
    refine ⟨ns, g1, ⟨some ⟨x.n, a0, none⟩, c, by rw [hlen], fun j hj => ⟨x.n, a0, rfl, (Array.getElem?_eq_some_iff.1 hw).1, ?_⟩⟩, g3⟩
    have ha : a0 = x.sh + o := by
      rcases ha0 with h0 | h0
      · omega
      · exact h0
    rw [cell_at hw, ha]
    exact hget j _ (by rw [g2]; simp [hj])
  · obtain ⟨hle, hk⟩ := bif_ok hk (by simp [RO.good]) hr
    have := Nat.eq_of_beq_eq_true hle
    subst this
    exact ⟨[], hk, ⟨_, _, rfl, fun j hj => by simp at hj⟩, by simp⟩
theorem byteL_ok {x : V} {f : List Nat → RO} (hk : byteL h x f = r) (hr : r.good) (hs : Sim e h w) {xv : Value} (hx : VR e x xv) : ∃ ns, f ns = r ∧ RdX w xv ns := by
  unfold byteL at hk
  split at hk
  · cases hx; exact ⟨[], hk, ⟨none, 0, rfl, fun j hj => by simp at hj⟩, by simp⟩
  · cases hx with
    | sl hb hl => exact byteL_at hs hb (.inr rfl) _ _ hk hr
    | sl0 hb => exact byteL_at hs hb (.inl rfl) _ _ hk hr
  · cases hx with
    | slu hb hl hc => exact byteL_at hs hb (.inr rfl) _ _ hk hr
    | slu0 hb => exact byteL_at hs hb (.inl rfl) _ _ hk hr
  · subst hk; exact hr.elim
/-- A step of the checksum, without a branch. -/
def crcS (c : Nat) : Nat := Nat.xor (Nat.mod (Nat.mul c 2) 65536) (Nat.mul 4129 (Nat.mod (Nat.div c 32768) 2))
def crcB (c x : Nat) : Nat := crcS (crcS (crcS (crcS (crcS (crcS (crcS (crcS (Nat.xor c (Nat.mul x 256)))))))))
noncomputable def crcF (l : List Nat) : Nat → Nat := List.rec (motive := fun _ => Nat → Nat) (fun c => c) (fun x _ r c => r (crcB c x)) l
noncomputable def crcP (args : List V) (h : H) (s : Nat) (k : K) : RO :=
  match args with
  | [.int .u16 (.ofNat c), x] => bif Nat.ble c 65535 then byteL h x (fun l => bif Nat.ble l.length 1000000 then fN (crcF l c) (fun n => k (.int .u16 (.ofNat n)) h s) else .err 246) else .err 247
  | _ => .err 248
noncomputable def crcPr (F : Nat) (pr : Prims) : Prims := fun f => bif Nat.beq f F then some crcP else pr f
theorem crcPr_ok {F : Nat} (hF : isFn P F = true) (hc : ∀ w v c l, c < 65536 → RdX w v l → l.length < 1000000000000 → Calls P F #[.int .u16 (c : Nat), v] w (fun e w' => e = .returned (.int .u16 (crcF l c : Nat)) ∧ w = w')) (hpr : SoundPr P pr) : SoundPr P (crcPr F pr) := fun f g h => by
  unfold crcPr at h
  cases hf : Nat.beq f F with
  | false => rw [hf] at h; exact hpr f g h
  | true =>
    rw [hf] at h
    simp only [cond_true] at h
    injection h with h
    have := Nat.eq_of_beq_eq_true hf
    subst this
    subst h
    intro args h s k hr e w xs hx hs hf'
    generalize hk : crcP args h s k = r at hr
    unfold crcP at hk
    split at hk
    · rename_i c x
      obtain ⟨hcl, hk⟩ := bif_ok hk (by simp [RO.good]) hr
      have hcl : c ≤ 65535 := Nat.le_of_ble_eq_true hcl
      unfold isFn at hF
      split at hF
      · rename_i c' n rs hfn
        obtain ⟨_, _, _, _, _, g5⟩ := fnOf_ok hfn
        cases hx with
        | cons h1 hx => cases hx with
          | cons h2 hx => cases hx with
            | nil =>
              cases h1
              obtain ⟨ns, hk, hrd⟩ := byteL_ok hk hr hs h2
              obtain ⟨hlen, hk⟩ := bif_ok hk (by simp [RO.good]) hr
              have hlen : ns.length ≤ 1000000 := Nat.le_of_ble_eq_true hlen
              rw [fN_eq] at hk
              refine ⟨g5 _ _, Calls.mono (hc w _ c ns (by omega) hrd (by omega)) (fun en w' hq => ?_)⟩
              obtain ⟨rfl, rfl⟩ := hq
              exact ⟨_, rfl, _, h, s, hk ▸ .refl _, e, .int _ _, Post.refl hs hf'⟩
      · cases hF
    · subst hk; exact hr.elim
end Go.Ev
namespace Go.Ev
open Go.RowKit
variable {P : Program} {pr : Prims} {e : Env} {t : T V} {h : H} {s : Nat} {w : World} {r : RO} {k : K}
theorem xsu_rd (hs : Sim e h w) {j hi : Nat} {v : Value} (hv : VR e (.xsu j hi) v) : ∃ l, RdX w v l ∧ l.length ≤ hi := by
  cases hv with
  | @xsu _ _ a0 a m c0 c h1 h2 h3 =>
    refine ⟨(List.range m).map (fun i => (e.base.ρ (1000 * j + i)).toNat), ⟨⟨a, c, by simp, fun i hi => ?_⟩, fun x hx => ?_⟩, by simpa using h2⟩
    · have hi : i < m := by simpa using hi
      obtain ⟨n, o, cs, el, fr, g1, g2, g3, g4, g5⟩ := e.base.hx j _ _ _ h1 i hi
      refine ⟨n, o, by rw [h3 (by omega), g1], hs.big n g2, ?_⟩
      have hw := hs.old n g2
      rw [g3] at hw
      have : (0 : Int) ≤ e.base.ρ (1000 * j + i) := by rw [← g5, IntKind.wrap_u8]; omega
      simp only [World.cell?, hw]
      have e1 : ((List.range m).map (fun i => (e.base.ρ (1000 * j + i)).toNat))[i]'(by simpa using hi) = (e.base.ρ (1000 * j + i)).toNat := by simp
      rw [e1, Int.toNat_of_nonneg this]
      exact g4
    · simp only [List.mem_map, List.mem_range] at hx
      obtain ⟨i, hi, rfl⟩ := hx
      obtain ⟨n, o, cs, el, fr, g1, g2, g3, g4, g5⟩ := e.base.hx j _ _ _ h1 i hi
      rw [← g5, IntKind.wrap_u8]; omega
/-- Is a bit of a byte string set? Unknown; none behind its end. -/
noncomputable def lostP (args : List V) (h : H) (s : Nat) (k : K) : RO :=
  match args with
  | [.xsu _ hi, .int .i64 (.ofNat i)] => bif Nat.ble i 1000000 && Nat.ble hi 1000000 then (bif Nat.ble (Nat.mul 8 hi) i then k (.bool false) h s else .or (k (.bool true) h s) (k (.bool false) h s)) else .err 211
  | _ => .err 211
noncomputable def lostPr (F : Nat) (pr : Prims) : Prims := fun f => bif Nat.beq f F then some lostP else pr f
theorem lostPr_ok {F : Nat} (hF : isFn P F = true) (hc : ∀ w v l i, RdX w v l → i < 10000000 → l.length < 10000000 → Calls P F #[v, .int .i64 (i : Nat)] w (fun en w' => (∃ b, en = .returned (.bool b) ∧ (8 * l.length ≤ i → b = false)) ∧ w = w')) (hpr : SoundPr P pr) : SoundPr P (lostPr F pr) := fun f g h => by
  unfold lostPr at h
  cases hf : Nat.beq f F with
  | false => rw [hf] at h; exact hpr f g h
  | true =>
    rw [hf] at h
    simp only [cond_true] at h
    injection h with h
    have := Nat.eq_of_beq_eq_true hf
    subst this
    subst h
    intro args h s k hr e w xs hx hs hf'
    generalize hk : lostP args h s k = r at hr
    unfold lostP at hk
    split at hk
    · rename_i j hi i
      obtain ⟨hcl, hk⟩ := bif_ok hk (by simp [RO.good]) hr
      simp only [Bool.and_eq_true] at hcl
      have hcl1 := Nat.le_of_ble_eq_true hcl.1
      have hcl2 := Nat.le_of_ble_eq_true hcl.2
      unfold isFn at hF
      split at hF
      · rename_i c' n rs hfn
        obtain ⟨_, _, _, _, _, g5⟩ := fnOf_ok hfn
        cases hx with
        | cons h1 hx => cases hx with
          | cons h2 hx => cases hx with
            | nil =>
              cases h2
              obtain ⟨l, hrd, hl⟩ := xsu_rd hs h1
              refine ⟨g5 _ _, Calls.mono (hc w _ l i hrd (by omega) (by omega)) (fun en w' hq => ?_)⟩
              obtain ⟨⟨b, rfl, hb⟩, rfl⟩ := hq
              refine ⟨_, rfl, ?_⟩
              cases hbb : Nat.ble (Nat.mul 8 hi) i with
              | true =>
                rw [hbb] at hk
                have hb1 : 8 * hi ≤ i := Nat.le_of_ble_eq_true hbb
                rw [hb (by omega)]
                exact ⟨.bool false, h, s, hk ▸ .refl _, e, .bool _, Post.refl hs hf'⟩
              | false =>
                rw [hbb] at hk
                simp only [cond_false] at hk
                cases b with
                | true => exact ⟨.bool true, h, s, hk ▸ .left (.refl _), e, .bool _, Post.refl hs hf'⟩
                | false => exact ⟨.bool false, h, s, hk ▸ .right (.refl _), e, .bool _, Post.refl hs hf'⟩
      · cases hF
    · subst hk; exact hr.elim
/-- A checksum of bytes that are not known. -/
noncomputable def sumP (args : List V) (h : H) (s : Nat) (k : K) : RO :=
  match args with
  | [.xsu _ hi] => bif Nat.ble hi 1000000 then k .opq h s else .err 212
  | _ => .err 212
noncomputable def sumPr (F : Nat) (pr : Prims) : Prims := fun f => bif Nat.beq f F then some sumP else pr f
theorem sumPr_ok {F : Nat} (hF : isFn P F = true) (hc : ∀ w v l, RdX w v l → l.length < 10000000 → Calls P F #[v] w (fun en w' => (∃ n, en = .returned (.int .u32 n)) ∧ w = w')) (hpr : SoundPr P pr) : SoundPr P (sumPr F pr) := fun f g h => by
  unfold sumPr at h
  cases hf : Nat.beq f F with
  | false => rw [hf] at h; exact hpr f g h
  | true =>
    rw [hf] at h
    simp only [cond_true] at h
    injection h with h
    have := Nat.eq_of_beq_eq_true hf
    subst this
    subst h
    intro args h s k hr e w xs hx hs hf'
    generalize hk : sumP args h s k = r at hr
    unfold sumP at hk
    split at hk
    · rename_i j hi
      obtain ⟨hcl, hk⟩ := bif_ok hk (by simp [RO.good]) hr
      have hcl := Nat.le_of_ble_eq_true hcl
      unfold isFn at hF
      split at hF
      · rename_i c' n rs hfn
        obtain ⟨_, _, _, _, _, g5⟩ := fnOf_ok hfn
        cases hx with
        | cons h1 hx => cases hx with
          | nil =>
            obtain ⟨l, hrd, hl⟩ := xsu_rd hs h1
            refine ⟨g5 _ _, Calls.mono (hc w _ l hrd (by omega)) (fun en w' hq => ?_)⟩
            obtain ⟨⟨n, rfl⟩, rfl⟩ := hq
            exact ⟨_, rfl, .opq, h, s, hk ▸ .refl _, e, .opq rfl (by simp), Post.refl hs hf'⟩
      · cases hF
    · subst hk; exact hr.elim
end Go.Ev
namespace Go.Ev
open Go.RowKit
def adrOf : Value → Option Addr | .slice a _ _ => a | _ => none
/-- What was there before: two byte strings. -/
noncomputable def byBase (w : World) (v1 v2 : Value) (l1 l2 : List Nat) (h1 : RdX w v1 l1) (h2 : RdX w v2 l2) (n1 : l1.length ≤ 1000) (n2 : l2.length ≤ 1000) (q : Nat → Int) (hq : ∀ j, 1000000 ≤ j → 0 ≤ q j ∧ q j ≤ ((j % 1000 : Nat) : Int)) : Base where
  ρ i := if 1000000 ≤ i then q i else if i < 2000 then ((l1.getD (i - 1000) 0 : Nat) : Int) else ((l2.getD (i - 2000) 0 : Nat) : Int)
  prot n := n < w.heap.size
  w0 n := w.heap[n]?
  x j := if j = 1 then some (adrOf v1, l1.length, 0) else if j = 2 then some (adrOf v2, l2.length, 0) else none
  hx := fun j ad m c hj i hi => by
    by_cases h : j = 1
    · subst h
      rw [if_pos rfl] at hj
      injection hj with hj; injection hj with e1 e2; injection e2 with e2 e3
      subst e1 e2 e3
      obtain ⟨⟨a, cap, rfl, hx⟩, hb⟩ := h1
      obtain ⟨b, off, rfl, g1, g2⟩ := hx i hi
      have hbig : ¬ 1000000 ≤ 1000 * 1 + i := by omega
      have hlt : 1000 * 1 + i < 2000 := by omega
      have hs : 1000 * 1 + i - 1000 = i := by omega
      have hg : (l1.getD i 0 : Nat) = l1[i] := by rw [List.getD_eq_getElem?_getD, List.getElem?_eq_getElem hi]; rfl
      simp only [World.cell?] at g2
      split at g2
      · rename_i cs el fr hw
        refine ⟨b, off, cs, el, fr, rfl, g1, hw, ?_, ?_⟩
        · rw [if_neg hbig, if_pos hlt, hs, hg]; exact g2
        · rw [if_neg hbig, if_pos hlt, hs, hg]
          have := hb _ (List.getElem_mem hi)
          rw [IntKind.wrap_u8]; omega
      · cases g2
    · rw [if_neg h] at hj
      by_cases h' : j = 2
      · subst h'
        rw [if_pos rfl] at hj
        injection hj with hj; injection hj with e1 e2; injection e2 with e2 e3
        subst e1 e2 e3
        obtain ⟨⟨a, cap, rfl, hx⟩, hb⟩ := h2
        obtain ⟨b, off, rfl, g1, g2⟩ := hx i hi
        have hbig : ¬ 1000000 ≤ 1000 * 2 + i := by omega
        have hlt : ¬ 1000 * 2 + i < 2000 := by omega
        have hs : 1000 * 2 + i - 2000 = i := by omega
        have hg : (l2.getD i 0 : Nat) = l2[i] := by rw [List.getD_eq_getElem?_getD, List.getElem?_eq_getElem hi]; rfl
        simp only [World.cell?] at g2
        split at g2
        · rename_i cs el fr hw
          refine ⟨b, off, cs, el, fr, rfl, g1, hw, ?_, ?_⟩
          · rw [if_neg hbig, if_neg hlt, hs, hg]; exact g2
          · rw [if_neg hbig, if_neg hlt, hs, hg]
            have := hb _ (List.getElem_mem hi)
            rw [IntKind.wrap_u8]; omega
        · cases g2
      · rw [if_neg h'] at hj; cases hj
  xm := fun j ad m c hj => by
    by_cases h : j = 1
    · subst h
      rw [if_pos rfl] at hj
      injection hj with hj; injection hj with e1 e2; injection e2 with e2 e3
      omega
    · rw [if_neg h] at hj
      by_cases h' : j = 2
      · subst h'
        rw [if_pos rfl] at hj
        injection hj with hj; injection hj with e1 e2; injection e2 with e2 e3
        omega
      · rw [if_neg h'] at hj; cases hj
  sm := fun j hj => by rw [if_pos hj]; exact hq j hj
section
variable {w : World} {v1 v2 : Value} {l1 l2 : List Nat} {h1 : RdX w v1 l1} {h2 : RdX w v2 l2} {n1 : l1.length ≤ 1000} {n2 : l2.length ≤ 1000} {q : Nat → Int} {hq : ∀ j, 1000000 ≤ j → 0 ≤ q j ∧ q j ≤ ((j % 1000 : Nat) : Int)}
theorem byBase_at : BaseAt (byBase w v1 v2 l1 l2 h1 h2 n1 n2 q hq) w := ⟨fun _ h => h, fun _ _ => rfl⟩
theorem byBase_prot (n : Nat) (h : n < w.heap.size) : (byBase w v1 v2 l1 l2 h1 h2 n1 n2 q hq).prot n := h
theorem byBase_sm (j : Nat) (hj : 1000000 ≤ j) : (byBase w v1 v2 l1 l2 h1 h2 n1 n2 q hq).ρ j = q j := by unfold byBase; dsimp only; rw [if_pos hj]
theorem byBase_1 : (byBase w v1 v2 l1 l2 h1 h2 n1 n2 q hq).x 1 = some (adrOf v1, l1.length, 0) := rfl
theorem byBase_2 : (byBase w v1 v2 l1 l2 h1 h2 n1 n2 q hq).x 2 = some (adrOf v2, l2.length, 0) := rfl
theorem byBase_xsl {b off cap : Nat} (hv : v1 = .slice (some ⟨b, off, none⟩) l1.length cap) (hc : l1.length ≤ cap) : VR (env0 (byBase w v1 v2 l1 l2 h1 h2 n1 n2 q hq)) (.xsl 1 0 l1.length) v1 := by
  have h : (env0 (byBase w v1 v2 l1 l2 h1 h2 n1 n2 q hq)).base.x 1 = some (some ⟨b, off, none⟩, l1.length, 0) := by
    show (byBase w v1 v2 l1 l2 h1 h2 n1 n2 q hq).x 1 = _
    rw [byBase_1, hv]; rfl
  generalize env0 (byBase w v1 v2 l1 l2 h1 h2 n1 n2 q hq) = e at *
  rw [hv]
  exact VR.xsl (o := 0) h (by omega) hc
theorem byBase_xsu {hi : Nat} (hl : l2.length ≤ hi) : VR (env0 (byBase w v1 v2 l1 l2 h1 h2 n1 n2 q hq)) (.xsu 2 hi) v2 := by
  obtain ⟨a, cap, hv, _⟩ := h2.1
  have h : (env0 (byBase w v1 v2 l1 l2 h1 h2 n1 n2 q hq)).base.x 2 = some (a, l2.length, 0) := by
    show (byBase w v1 v2 l1 l2 h1 h2 n1 n2 q hq).x 2 = _
    rw [byBase_2, hv]; rfl
  generalize env0 (byBase w v1 v2 l1 l2 h1 h2 n1 n2 q hq) = e at *
  rw [hv]
  exact .xsu h hl (fun _ => rfl)
end
end Go.Ev
