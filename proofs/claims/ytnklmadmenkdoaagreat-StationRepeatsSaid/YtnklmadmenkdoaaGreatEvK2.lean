/- An evaluator of the model's code: checksums as operations. -/
import Derived.Test.YtnklmadmenkdoaaGreatEvHd
set_option linter.unusedVariables false
set_option linter.unusedSimpArgs false
namespace Go.Ev
open Go.RowKit
variable {P : Program} {pr : Prims} {e : Env} {t : T V} {h : H} {s : Nat} {w : World} {r : RO} {k : K}
/-- Reads as bytes. -/
def RdX (w : World) (v : Value) (l : List Nat) : Prop := (∃ a cap, v = .slice a l.length cap ∧ ∀ j, (h : j < l.length) → ∃ b off, a = some ⟨b, off, none⟩ ∧ b < w.heap.size ∧ w.cell? ⟨b, off + j, none⟩ = some (.int .u8 (l[j] : Nat))) ∧ ∀ x ∈ l, x < 256
noncomputable def natL (l : List V) : (List Nat → RO) → RO :=
  List.rec (motive := fun _ => (List Nat → RO) → RO) (fun f => f []) (fun v _ r f => getI v (fun kd n => Int.rec (motive := fun _ => RO) (fun n => match kd with | .u8 => Bool.rec (motive := fun _ => RO) (.err 240) (r (fun l => f (n :: l))) (Nat.ble n 255) | _ => .err 240) (fun _ => .err 240) n) (.err 240)) l
noncomputable def byteL (h : H) (x : V) (f : List Nat → RO) : RO :=
  match x with
  | .nils => f []
  | .sl b o l _ => (match h.get .gone b with | .cells t n => bif Nat.ble (Nat.add o l) n then natL (rdCells t l o) f else .err 241 | _ => bif Nat.beq l 0 then f [] else .err 242)
  | .slu b o l _ => (match h.get .gone b with | .cells t n => bif Nat.ble (Nat.add o l) n then natL (rdCells t l o) f else .err 243 | _ => bif Nat.beq l 0 then f [] else .err 244)
  | _ => .err 245
theorem natL_ok : ∀ {l : List V} {f : List Nat → RO} {xs : List Value}, natL l f = r → r.good → VRs e l xs → ∃ ns : List Nat, f ns = r ∧ xs = ns.map (fun n => Value.int .u8 (n : Nat)) ∧ ∀ n ∈ ns, n < 256
  | [], f, _, hk, hr, .nil => ⟨[], hk, rfl, by simp⟩
  | v :: l, f, _, hk, hr, .cons hv ht => by
    have e1 : ∀ u : V, natL (u :: l) f = getI u (fun kd n => Int.rec (motive := fun _ => RO) (fun n => match kd with | .u8 => Bool.rec (motive := fun _ => RO) (.err 240) (natL l (fun l => f (n :: l))) (Nat.ble n 255) | _ => .err 240) (fun _ => .err 240) n) (.err 240) := fun u => rfl
    rw [e1] at hk
    rcases getI_cases v (fun kd n => Int.rec (motive := fun _ => RO) (fun n => match kd with | .u8 => Bool.rec (motive := fun _ => RO) (.err 240) (natL l (fun l => f (n :: l))) (Nat.ble n 255) | _ => .err 240) (fun _ => .err 240) n) (.err 240) with ⟨kd, n, rfl⟩ | h2
    · rw [getI_int] at hk
      cases hv
      cases n with
      | negSucc m => subst hk; exact hr.elim
      | ofNat m =>
        cases kd with
        | u8 =>
          change (Bool.rec (motive := fun _ => RO) (.err 240) (natL l (fun l => f (m :: l))) (Nat.ble m 255) : RO) = r at hk
          cases hb : Nat.ble m 255 with
          | false => rw [hb] at hk; subst hk; exact hr.elim
          | true =>
            rw [hb] at hk
            obtain ⟨ns, h1, h2, h3⟩ := natL_ok hk hr ht
            refine ⟨m :: ns, h1, by simp [h2], fun n hn => ?_⟩
            rcases List.mem_cons.1 hn with rfl | hn
            · have := Nat.le_of_ble_eq_true hb; omega
            · exact h3 n hn
        | _ => subst hk; exact hr.elim
    · rw [h2] at hk; subst hk; exact hr.elim
theorem byteL_at (hs : Sim e h w) {b o l c : Nat} {f : List Nat → RO} {x : Loc} (hx : e b = some x) {a0 : Nat} (ha0 : l = 0 ∨ a0 = x.sh + o) (n1 n2 : Nat)
    (hk : (match h.get .gone b with | .cells t n => bif Nat.ble (Nat.add o l) n then natL (rdCells t l o) f else .err n1 | _ => bif Nat.beq l 0 then f [] else .err n2) = r) (hr : r.good) :
    ∃ ns, f ns = r ∧ RdX w (.slice (some ⟨x.n, a0, none⟩) l c) ns := by
  split at hk
  · rename_i t' m hb
    obtain ⟨hl, cs, el, fr, hw, h1, h2, h3, h4, h5⟩ := cells_at hs hb hx
    obtain ⟨hle, hk⟩ := bif_ok hk (by simp [RO.good]) hr
    have hle' : o + l ≤ m := Nat.le_of_ble_eq_true hle
    obtain ⟨xs, hxl, hxs, hget⟩ := rd_ok h3 hle'
    obtain ⟨ns, g1, g2, g3⟩ := natL_ok hk hr hxs
    have hlen : ns.length = l := by rw [← hxl, g2]; simp
    refine ⟨ns, g1, ⟨some ⟨x.n, a0, none⟩, c, by rw [hlen], fun j hj => ⟨x.n, a0, rfl, (Array.getElem?_eq_some_iff.1 hw).1, ?_⟩⟩, g3⟩
    have ha : a0 = x.sh + o := by
      rcases ha0 with h0 | h0
      · omega
      · exact h0
    rw [cell_at hw, ha]
    exact hget j _ (by rw [g2]; simp [hj])
  · obtain ⟨hle, hk⟩ := bif_ok hk (by simp [RO.good]) hr
    have := Nat.eq_of_beq_eq_true hle
    subst this
    exact ⟨[], hk, ⟨_, _, rfl, fun j hj => by simp at hj⟩, by simp⟩
theorem byteL_ok {x : V} {f : List Nat → RO} (hk : byteL h x f = r) (hr : r.good) (hs : Sim e h w) {xv : Value} (hx : VR e x xv) : ∃ ns, f ns = r ∧ RdX w xv ns := by
  unfold byteL at hk
  split at hk
  · cases hx; exact ⟨[], hk, ⟨none, 0, rfl, fun j hj => by simp at hj⟩, by simp⟩
  · cases hx with
    | sl hb hl => exact byteL_at hs hb (.inr rfl) _ _ hk hr
    | sl0 hb => exact byteL_at hs hb (.inl rfl) _ _ hk hr
  · cases hx with
    | slu hb hl hc => exact byteL_at hs hb (.inr rfl) _ _ hk hr
    | slu0 hb => exact byteL_at hs hb (.inl rfl) _ _ hk hr
  · subst hk; exact hr.elim
/-- A step of the checksum, without a branch. -/
def crcS (c : Nat) : Nat := Nat.xor (Nat.mod (Nat.mul c 2) 65536) (Nat.mul 4129 (Nat.mod (Nat.div c 32768) 2))
def crcB (c x : Nat) : Nat := crcS (crcS (crcS (crcS (crcS (crcS (crcS (crcS (Nat.xor c (Nat.mul x 256)))))))))
noncomputable def crcF (l : List Nat) : Nat → Nat := List.rec (motive := fun _ => Nat → Nat) (fun c => c) (fun x _ r c => r (crcB c x)) l
noncomputable def crcP (args : List V) (h : H) (s : Nat) (k : K) : RO :=
  match args with
  | [.int .u16 (.ofNat c), x] => bif Nat.ble c 65535 then byteL h x (fun l => bif Nat.ble l.length 1000000 then fN (crcF l c) (fun n => k (.int .u16 (.ofNat n)) h s) else .err 246) else .err 247
  | _ => .err 248
noncomputable def crcPr (F : Nat) (pr : Prims) : Prims := fun f => bif Nat.beq f F then some crcP else pr f
theorem crcPr_ok {F : Nat} (hF : isFn P F = true) (hc : ∀ w v c l, c < 65536 → RdX w v l → l.length < 1000000000000 → Calls P F #[.int .u16 (c : Nat), v] w (fun e w' => e = .returned (.int .u16 (crcF l c : Nat)) ∧ w = w')) (hpr : SoundPr P pr) : SoundPr P (crcPr F pr) := fun f g h => by
  unfold crcPr at h
  cases hf : Nat.beq f F with
  | false => rw [hf] at h; exact hpr f g h
  | true =>
    rw [hf] at h
    simp only [cond_true] at h
    injection h with h
    have := Nat.eq_of_beq_eq_true hf
    subst this
    subst h
    intro args h s k hr e w xs hx hs hf'
    generalize hk : crcP args h s k = r at hr
    unfold crcP at hk
    split at hk
    · rename_i c x
      obtain ⟨hcl, hk⟩ := bif_ok hk (by simp [RO.good]) hr
      have hcl : c ≤ 65535 := Nat.le_of_ble_eq_true hcl
      unfold isFn at hF
      split at hF
      · rename_i c' n rs hfn
        obtain ⟨_, _, _, _, _, g5⟩ := fnOf_ok hfn
        cases hx with
        | cons h1 hx => cases hx with
          | cons h2 hx => cases hx with
            | nil =>
              cases h1
              obtain ⟨ns, hk, hrd⟩ := byteL_ok hk hr hs h2
              obtain ⟨hlen, hk⟩ := bif_ok hk (by simp [RO.good]) hr
              have hlen : ns.length ≤ 1000000 := Nat.le_of_ble_eq_true hlen
              rw [fN_eq] at hk
              refine ⟨g5 _ _, Calls.mono (hc w _ c ns (by omega) hrd (by omega)) (fun en w' hq => ?_)⟩
              obtain ⟨rfl, rfl⟩ := hq
              exact ⟨_, rfl, _, h, s, hk ▸ .refl _, e, .int _ _, Post.refl hs hf'⟩
      · cases hF
    · subst hk; exact hr.elim
end Go.Ev
