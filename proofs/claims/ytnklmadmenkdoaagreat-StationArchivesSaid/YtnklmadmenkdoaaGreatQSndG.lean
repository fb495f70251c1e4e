/- The contracts of the checksums, of the program and of the specification. Regions that draw their order, as in OrdR; a call that leaves the world as it was counts as an operation without effect. No program in sight. The contracts of the copy of bytes, of the writer of bits (Bytes), of the checksum's append, of the frames of the uplink. -/
import Derived.Test.YtnklmadmenkdoaaGreatProg
import Derived.Test.YtnklmadmenkdoaaGreatQKeep
import Derived.Test.YtnklmadmenkdoaaGreatQSepc
import Derived.Test.YtnklmadmenkdoaaGreatQCrcMath
import Derived.IntWalk
import Derived.Laws.BitsAllLaws
import Derived.Outline
import Derived.Test.YtnklmadmenkdoaaGreatQStnA
set_option linter.unusedVariables false
set_option linter.unusedSimpArgs false
namespace Go.Proofs.YtnklmadmenkdoaaGreat
open Go.RowKit Go.Proofs.Num
set_option maxRecDepth 100000 in
theorem cUpd16 (w : World) (v : Value) (c : Nat) (l : List Nat) (hc : c < 65536) (h : RdB w v l) (hn : l.length < 1000000000000) :
    Calls Tryz.prog 256 #[.int .u16 c, v] w fun e w' => e = .returned (.int .u16 (Crc.crc16 c l : Nat)) ∧ w = w' := by
  obtain ⟨a, cap, rfl, hx⟩ := h.open
  have hB := h.2
  have HX := hid hx
  clear h hx
  go_enter Tryz.func256, Tryz.ntmps256
  go_wp2_with fail
  go_loop [0, 10] (fun x i => ∃ k : Nat, k ≤ l.length ∧ i = .int .i64 k ∧ x = .int .u16 (Crc.crc16 c (l.take k) : Nat)) (fun _ i => l.length - (intOf i).toNat)
  case atStart => exact ⟨0, by omega, rfl, rfl⟩
  case round =>
    obtain ⟨k, hk, rfl, rfl⟩ := hrel
    by_cases hlt : k < l.length
    · obtain ⟨b, off, rfl, hb, hcell⟩ := HX.out k hlt
      have hxb := hB _ (List.getElem_mem hlt)
      have HS : Hid (Crc.crc16 c (l.take (k + 1)) = Crc.B16 (Crc.crc16 c (l.take k)) l[k]) := by rw [List.take_succ_eq_append_getElem hlt]; exact Crc.crc16_snoc _ _ _
      have hq := Crc.crc16_lt c (l.take k) hc (fun x hx => hB x (List.mem_of_mem_take hx))
      obtain ⟨q', hq'⟩ : ∃ q', q' = Crc.crc16 c (l.take (k + 1)) := ⟨_, rfl⟩
      rw [← hq'] at HS
      have HQ := hid hq'
      clear hq'
      generalize Crc.crc16 c (l.take k) = q at *
      generalize l[k] = x at *
      obtain ⟨y, hy⟩ : ∃ y, y = q ^^^ x * 256 := ⟨_, rfl⟩
      have hyl : y < 65536 := by rw [hy]; exact Nat.xor_lt_two_pow (n := 16) hq (by omega)
      have e1 : bits .xor .u16 (q : Int) ((x : Int) * 256) = (y : Int) := by
        have := u16_xor_nat q (x * 256) hq (by omega)
        rw [hy, ← this]; simp
      have HY := hid hy
      clear hy
      go_wp2_with fail
      go_loop [0, 19] (fun z j => ∃ n : Nat, n ≤ 8 ∧ j = .int .i64 n ∧ z = .int .u16 (Crc.iter Crc.S16 n y : Nat)) (fun _ j => 8 - (intOf j).toNat)
      case atStart => exact ⟨0, by omega, rfl, rfl⟩
      case round =>
        obtain ⟨n, hn8, rfl, rfl⟩ := hrel
        by_cases hn8' : n < 8
        · have hr := Crc.iterS16_lt n y hyl
          have HN := hid (Crc.iter_succ Crc.S16 n y)
          generalize Crc.iter Crc.S16 n y = r at *
          rcases (show r / 32768 = 0 ∨ r / 32768 = 1 by omega) with h | h
          · have h2 : (r : Int) / 32768 = 0 := by omega
            rw [Crc.S16_lo r h] at HN
            go_wp2_with fail
            go_round
            case rel => exact ⟨n + 1, by omega, by go_num, val_int (by rw [HN.out]; omega)⟩
            case measure => simp [intOf]; omega
          · have h2 : (r : Int) / 32768 = 1 := by omega
            rw [Crc.S16_hi r hr h] at HN
            have HX2 := hid (u16_xor_nat (r * 2 % 65536) 4129 (by omega) (by decide))
            go_wp2_with fail
            go_round
            case rel => exact ⟨n + 1, by omega, by go_num, val_int (by rw [HN.out, ← HX2.out]; congr 1 <;> (rw [IntKind.wrap_u16]; try omega))⟩
            case measure => simp [intOf]; omega
        · have : n = 8 := by omega
          subst this
          have HZ : Hid (Crc.iter Crc.S16 8 y = q') := by rw [HS.out, HY.out]; rfl
          generalize Crc.iter Crc.S16 8 y = z at *
          go_wp2_with fail
          go_round
          case rel => exact ⟨k + 1, by omega, by go_num, by rw [HZ.out, HQ.out]⟩
          case measure => simp [intOf]; omega
    · go_wp2_with fail
      go_ret
      exact ⟨ret_int (by rw [List.take_of_length_le (by omega)]), rfl⟩
theorem cSum16 (w : World) (v : Value) (l : List Nat) (h : RdB w v l) (hn : l.length < 1000000000000) :
    Calls Tryz.prog 201 #[v] w fun e w' => e = .returned (.int .u16 (Crc.crc16 65535 l : Nat)) ∧ w = w' := by
  have K := hid (cUpd16 w v 65535 l (by decide) h hn)
  generalize Crc.crc16 65535 l = r at *
  go_enter Tryz.func201, Tryz.ntmps201
  go_wp2_with fail
  refine K.out.mono ?_; rintro e w1 ⟨rfl, rfl⟩
  go_wp2_with fail
  go_ret
  exact ⟨rfl, rfl⟩
/-! ### The specification -/
/-! ### CRC-32C -/
end Go.Proofs.YtnklmadmenkdoaaGreat
namespace Go
variable {P : Program} {ops : Array Oper} {md : Region.Mode}
/-- The operation yields v in this world and leaves it: at once, or by a call. -/
def still (P : Program) (v : Value) (w : World) (r : Result Next) : Prop := r = .ok (.value v) w ∨ ∃ f args, r = .ok (.enter f args) w ∧ Calls P f args w (fun e w' => e = .returned v ∧ w = w')
/-- Operation j comes up. -/
def eOpQ (P : Program) (ops : Array Oper) (L : Prop) (j : Nat) (K : Act → WP → WP → Prop) (a : Act) (D S : WP) : Prop :=
  match ops[j]? with
  | none => False
  | some o => if Region.wanted o (yielded ops a.tmps) = true then (∃ v, (∀ w, D w → still P v w ((execOp a.eval o).run P w)) ∧ K (a.put o.dst v) D S) ∨ (∀ w, S w → effUpon P L o.dst a D K ((execOp a.eval o).run P w))
    else K (a.put o.dst undef) D S
def ordGQ (P : Program) (M : Nat → Bool) (md : Region.Mode) (ops : Array Oper) (Q : Exit → Act → World → Prop) : Nat → Array Bool → Act → WP → WP → Prop
  | 0, listed, a, D, S => Region.ready md ops listed = [] ∧ ∀ w, S w → Q .normal a w
  | f + 1, listed, a, D, S => Region.ready md ops listed ≠ [] ∧ ∀ j ∈ Region.ready md ops listed, eOpQ P ops (M j = true) j (ordGQ P M md ops Q f (listed.setIfInBounds j true)) a D S
theorem wpOp_of_eOpQ {L : Prop} {j : Nat} {K : Act → WP → WP → Prop} {K' : Act → World → Prop} {Q : Exit → Act → World → Prop} {a : Act} {D S : WP} {w : World} (hS : S w) (hSD : ∀ w, S w → D w)
    (h : ∀ a D S w, S w → (∀ w, S w → D w) → K a D S → K' a w) (hh : eOpQ P ops L j K a D S) : wpOp P ops Q j K' a w := by
  unfold eOpQ at hh
  unfold wpOp
  split
  · rename_i ho; simp only [ho] at hh
  · rename_i o ho
    simp only [ho] at hh
    split
    · rename_i hw
      rw [if_pos hw] at hh
      left
      rcases hh with ⟨v, hv, hk⟩ | he
      · unfold Oper.wp
        rcases hv w (hSD w hS) with e | ⟨f, args, e, hc⟩
        · rw [e]
          exact h _ _ _ _ hS hSD hk
        · rw [e]
          exact Calls.mono hc (fun en w'' ⟨h1, h2⟩ => by subst h1; subst h2; exact h _ _ _ _ hS hSD hk)
      · have h1 := he w hS
        unfold Oper.wp
        generalize (execOp a.eval o).run P w = r at *
        cases r with
        | halt x w' => cases x <;> exact h1.elim
        | ok n w' =>
          cases n with
          | value u => obtain ⟨D', S', g1, g2, g3, g4⟩ := h1; exact h _ _ _ _ g1 g2 g4
          | skip => obtain ⟨D', S', g1, g2, g3, g4⟩ := h1; exact h _ _ _ _ g1 g2 g4
          | enter f args => exact Calls.mono h1 (fun e w'' ⟨u, he, D', S', g1, g2, g3, g4⟩ => by subst he; exact h _ _ _ _ g1 g2 g4)
          | row row args => exact Rows.mono h1 (fun u w'' ⟨D', S', g1, g2, g3, g4⟩ => h _ _ _ _ g1 g2 g4)
          | _ => exact h1.elim
    · rename_i hw
      rw [if_neg hw] at hh
      exact h _ _ _ _ hS hSD hh
theorem wpAny_of_ordGQ {M : Nat → Bool} {Q : Exit → Act → World → Prop} : ∀ (f : Nat) (listed : Array Bool) (a : Act) (D S : WP) (w : World), S w → (∀ w, S w → D w) → ordGQ P M md ops Q f listed a D S → wpAny P md ops Q f listed a w
  | 0, _, _, _, _, w, hS, _, h => ⟨h.1, h.2 w hS⟩
  | f + 1, _, _, _, _, w, hS, hSD, h => ⟨fun h0 => absurd h0 h.1, fun j hj => wpOp_of_eOpQ hS hSD (fun a D S w hS hSD hk => wpAny_of_ordGQ f _ a D S w hS hSD hk) (h.2 j hj)⟩
/-- In every world of the class the operation yields v. -/
def YieldsQ (P : Program) (ops : Array Oper) (D : WP) (o : Oper) (v : Value) (a : Act) : Prop :=
  (Region.wanted o (yielded ops a.tmps) = true ∧ ∀ w, D w → still P v w ((execOp a.eval o).run P w)) ∨ (Region.wanted o (yielded ops a.tmps) = false ∧ v = undef)
theorem YieldsQ.mono {D D' : WP} {o : Oper} {v : Value} {a : Act} (h : YieldsQ P ops D o v a) (hd : ∀ w, D' w → D w) : YieldsQ P ops D' o v a := by
  rcases h with ⟨h1, h2⟩ | h
  · exact Or.inl ⟨h1, fun w hw => h2 w (hd w hw)⟩
  · exact Or.inr h
theorem YieldsQ.eOpQ {L : Prop} {i : Nat} {o : Oper} {v : Value} {a : Act} {D S : WP} {K : Act → WP → WP → Prop} (hi : ops[i]? = some o) (hy : YieldsQ P ops D o v a) (h : K (a.put o.dst v) D S) : eOpQ P ops L i K a D S := by
  unfold Go.eOpQ
  simp only [hi]
  rcases hy with ⟨hw, hv⟩ | ⟨hw, rfl⟩
  · rw [if_pos hw]; exact Or.inl ⟨v, hv, h⟩
  · rw [if_neg (by simp [hw])]; exact h
theorem ordGQ_first {M : Nat → Bool} {Q : Exit → Act → World → Prop} {i : Nat} {oi : Oper} {v : Value} (hi : ops[i]? = some oi) (hsel : ∀ (j : Nat) (o : Oper) cs b, ops[j]? = some o → o.op ≠ .select cs b) :
    ∀ (f : Nat) (listed : Array Bool) (a : Act) (D S : WP),
      (∀ j oj, ops[j]? = some oj → j ≠ i → listed.getD j true = false → oi.apart ops oj = true ∨ reachB md ops ops.size j i = true) → (∀ j oj, ops[j]? = some oj → M j = true → reachB md ops ops.size j i = true) → Closed md ops listed →
      i ∈ Region.ready md ops listed → YieldsQ P ops D oi v a →
      ordGQ P M md ops Q f (listed.setIfInBounds i true) (a.put oi.dst v) D S → ordGQ P M md ops Q (f + 1) listed a D S := by
  intro f
  induction f with
  | zero =>
    intro listed a D S _ _ _ hr hy H
    refine ⟨fun h => (by rw [h] at hr; cases hr), fun j hj => ?_⟩
    by_cases hji : j = i
    · subst hji; exact hy.eOpQ hi H
    · have := ready_mono hj hji
      rw [H.1] at this
      cases this
  | succ f ih =>
    intro listed a D S hfree hM cl hr hy H
    refine ⟨fun h => (by rw [h] at hr; cases hr), fun j hj => ?_⟩
    by_cases hji : j = i
    · subst hji; exact hy.eOpQ hi H
    · have h1 := H.2 j (ready_mono hj hji)
      obtain ⟨hjun, oj, hoj, hall⟩ := mem_ready.1 hj
      have hap : oi.apart ops oj = true := by
        rcases hfree j oj hoj hji hjun with h | h
        · exact h
        · have h2 := reach_ready cl hj h
          have h0 := (mem_ready.1 hr).1
          rw [getD_both h0] at h2
          cases h2
      have hMj : ¬ M j = true := fun hm => by
        have h2 := reach_ready cl hj (hM j oj hoj hm)
        have h0 := (mem_ready.1 hr).1
        rw [getD_both h0] at h2
        cases h2
      obtain ⟨a1, a2, a3⟩ := Oper.apart_spec hap
      have hsi := fun cs b => hsel i oi cs b hi
      have hsj := fun cs b => hsel j oj cs b hoj
      have keep : ∀ (D' : WP) (u : Value), (∀ w, D' w → D w) → YieldsQ P ops D' oi v (a.put oj.dst u) := fun D' u hd => by
        have k := hy.mono hd
        unfold YieldsQ at *
        rw [execOp_put oi hsi a oj.dst u a3, wanted_put oi a oj.dst u a3]
        exact k
      have hfree' : ∀ k ok, ops[k]? = some ok → k ≠ i → (listed.setIfInBounds j true).getD k true = false →
          oi.apart ops ok = true ∨ reachB md ops ops.size k i = true := fun k ok hk hki hun => by
        refine hfree k ok hk hki ?_
        by_cases hjk : j = k
        · subst hjk; exact hjun
        · rw [getD_set_ne true hjk] at hun; exact hun
      have step : ∀ (u : Value) (D' S' : WP), (∀ w, D' w → D w) → ordGQ P M md ops Q f ((listed.setIfInBounds i true).setIfInBounds j true) ((a.put oi.dst v).put oj.dst u) D' S' →
          ordGQ P M md ops Q (f + 1) (listed.setIfInBounds j true) (a.put oj.dst u) D' S' := fun u D' S' hd hk => by
        refine ih (listed.setIfInBounds j true) _ D' S' hfree' hM (cl.set hj) (ready_mono hr (Ne.symm hji)) (keep D' u hd) ?_
        rw [Array.setIfInBounds_comm _ _ hji, ← Act.put_comm a v u a2]
        exact hk
      unfold eOpQ at h1 ⊢
      simp only [hoj] at h1 ⊢
      rw [wanted_put oj a oi.dst v a1] at h1
      split
      · rename_i hw
        rw [if_pos hw] at h1
        rcases h1 with ⟨u, hu, hk⟩ | he
        · left
          refine ⟨u, fun w hw' => ?_, step u D S (fun _ h => h) hk⟩
          have := hu w hw'
          rwa [execOp_put oj hsj a oi.dst v a1] at this
        · right
          intro w hw'
          have := he w hw'
          rw [execOp_put oj hsj a oi.dst v a1] at this
          exact effUpon_mono (fun u D' S' hd hk => step u D' S' (hd.resolve_left hMj) hk) this
      · rename_i hw
        rw [if_neg hw] at h1
        exact step undef D S (fun _ h => h) h1
/-- The walk in the order of our choice. -/
def wpOrdQ (P : Program) (M : Nat → Bool) (ops : Array Oper) (Q : Exit → Act → World → Prop) : Ord → Act → WP → WP → Prop
  | .nil, a, D, S => ∀ w, S w → Q .normal a w
  | .pure i t, a, D, S => ∃ o v, ops[i]? = some o ∧ YieldsQ P ops D o v a ∧ wpOrdQ P M ops Q t (a.put o.dst v) D S
  | .eff i t, a, D, S => ∃ o, ops[i]? = some o ∧ ((Region.wanted o (yielded ops a.tmps) = true ∧ ∀ w, S w → effUpon P (M i = true) o.dst a D (wpOrdQ P M ops Q t) ((execOp a.eval o).run P w)) ∨
      (Region.wanted o (yielded ops a.tmps) = false ∧ wpOrdQ P M ops Q t (a.put o.dst undef) D S))
  | .eff2 i j t u, a, D, S =>
    (∃ o, ops[i]? = some o ∧ ((Region.wanted o (yielded ops a.tmps) = true ∧ ∀ w, S w → effUpon P (M i = true) o.dst a D (wpOrdQ P M ops Q t) ((execOp a.eval o).run P w)) ∨
      (Region.wanted o (yielded ops a.tmps) = false ∧ wpOrdQ P M ops Q t (a.put o.dst undef) D S))) ∧
    (∃ o, ops[j]? = some o ∧ ((Region.wanted o (yielded ops a.tmps) = true ∧ ∀ w, S w → effUpon P (M j = true) o.dst a D (wpOrdQ P M ops Q u) ((execOp a.eval o).run P w)) ∨
      (Region.wanted o (yielded ops a.tmps) = false ∧ wpOrdQ P M ops Q u (a.put o.dst undef) D S)))
theorem eOpQ_of_eff {L : Prop} {Q : Exit → Act → World → Prop} {i : Nat} {a : Act} {D S : WP} {K K' : Act → WP → WP → Prop} (hK : ∀ a D S, K a D S → K' a D S)
    (h : ∃ o, ops[i]? = some o ∧ ((Region.wanted o (yielded ops a.tmps) = true ∧ ∀ w, S w → effUpon P L o.dst a D K ((execOp a.eval o).run P w)) ∨
      (Region.wanted o (yielded ops a.tmps) = false ∧ K (a.put o.dst undef) D S))) : eOpQ P ops L i K' a D S := by
  obtain ⟨o, ho, h⟩ := h
  unfold eOpQ
  simp only [ho]
  rcases h with ⟨hw, h⟩ | ⟨hw, h⟩
  · rw [if_pos hw]; exact Or.inr fun w hs => effUpon_mono (fun u D' S' _ hk => hK _ _ _ hk) (h w hs)
  · rw [if_neg (by simp [hw])]; exact hK _ _ _ h
theorem ordGQ_of_wpOrd {M : Nat → Bool} {Q : Exit → Act → World → Prop} (hs : Region.noSelect ops = true) : ∀ (t : Ord) (listed : Array Bool) (a : Act) (D S : WP), Closed md ops listed → ordB M md ops t listed = true → wpOrdQ P M ops Q t a D S → ordGQ P M md ops Q t.len listed a D S
  | .nil, _, _, _, _, _, hB, h => ⟨by simpa [ordB] using hB, h⟩
  | .pure i t, listed, a, D, S, cl, hB, h => by
    simp only [ordB, Bool.and_eq_true] at hB
    obtain ⟨⟨⟨hr, hf⟩, hMB⟩, hB'⟩ := hB
    obtain ⟨o, v, ho, hy, hk⟩ := h
    have hr' : i ∈ Region.ready md ops listed := by simpa using hr
    exact ordGQ_first ho (Region.noSelect_spec hs) t.len listed a D S (freeB_spec ho hf) (strongB_spec hMB) cl hr' hy (ordGQ_of_wpOrd hs t _ _ D S (cl.set hr') hB' hk)
  | .eff i t, listed, a, D, S, cl, hB, h => by
    simp only [ordB, Bool.and_eq_true, beq_iff_eq] at hB
    obtain ⟨hr, hB'⟩ := hB
    refine ⟨by rw [hr]; simp, fun j hj => ?_⟩
    rw [hr] at hj
    simp only [List.mem_singleton] at hj
    subst hj
    exact eOpQ_of_eff (Q := Q) (fun a D S hk => ordGQ_of_wpOrd hs t _ a D S (cl.set (by rw [hr]; simp)) hB' hk) h
  | .eff2 i j t u, listed, a, D, S, cl, hB, h => by
    simp only [ordB, Bool.and_eq_true, beq_iff_eq] at hB
    obtain ⟨⟨⟨hr, hl⟩, hB1⟩, hB2⟩ := hB
    refine ⟨by rw [hr]; simp, fun k hk => ?_⟩
    rw [hr] at hk
    simp only [List.mem_cons, List.not_mem_nil, or_false] at hk
    rcases hk with rfl | rfl
    · exact eOpQ_of_eff (Q := Q) (fun a D S hk => ordGQ_of_wpOrd hs t _ a D S (cl.set (by rw [hr]; simp)) hB1 hk) h.1
    · exact eOpQ_of_eff (Q := Q) (fun a D S hk => by
        have hh : t.len = u.len := hl
        show ordGQ P M md ops Q t.len _ a D S
        rw [hh]; exact ordGQ_of_wpOrd hs u _ a D S (cl.set (by rw [hr]; simp)) hB2 hk) h.2
/-- The region. -/
theorem wp_region_ordQ {id : Nat} {Q : Exit → Act → World → Prop} {a : Act} {w : World} {l : List Oper} (t : Ord) (D S : WP) (hm : P.follows .mixedOrders = true)
    (hB : (Region.noSelect l.toArray && ordB (fun _ => false) .any l.toArray t (Array.replicate l.length false) && t.len == l.length) = true)
    (hS : S w.drew) (hSD : ∀ w, S w → D w) (h : wpOrdQ P (fun _ => false) l.toArray Q t a D S) : (Code.region id l.toArray true).wp P Q a w := by
  simp only [Bool.and_eq_true, beq_iff_eq] at hB
  obtain ⟨⟨hs, hB⟩, hl⟩ := hB
  refine wp_region_any hm ?_
  have := wpAny_of_ordGQ (Q := Q) t.len _ a D S w.drew hS hSD (ordGQ_of_wpOrd hs t (Array.replicate l.length false) a D S (Closed.none _) hB h)
  rw [hl] at this
  simpa using this
/-- The region; the operations that M names may turn what is read: every operation without effect is ahead of them. -/
theorem wp_region_ordQS {id : Nat} {Q : Exit → Act → World → Prop} {a : Act} {w : World} {l : List Oper} (M : Nat → Bool) (t : Ord) (D S : WP) (hm : P.follows .mixedOrders = true)
    (hB : (Region.noSelect l.toArray && ordB M .any l.toArray t (Array.replicate l.length false) && t.len == l.length) = true)
    (hS : S w.drew) (hSD : ∀ w, S w → D w) (h : wpOrdQ P M l.toArray Q t a D S) : (Code.region id l.toArray true).wp P Q a w := by
  simp only [Bool.and_eq_true, beq_iff_eq] at hB
  obtain ⟨⟨hs, hB⟩, hl⟩ := hB
  refine wp_region_any hm ?_
  have := wpAny_of_ordGQ (Q := Q) t.len _ a D S w.drew hS hSD (ordGQ_of_wpOrd hs t (Array.replicate l.length false) a D S (Closed.none _) hB h)
  rw [hl] at this
  simpa using this
section
variable {M : Nat → Bool} {Q : Exit → Act → World → Prop} {a : Act} {D S : WP} {t u : Ord} {i j : Nat}
theorem ordq_pure (o : Oper) (v : Value) (ho : ops[i]? = some o) (hw : Region.wanted o (yielded ops a.tmps) = true) (h : ∀ w, D w → (execOp a.eval o).run P w = .ok (.value v) w)
    (hk : wpOrdQ P M ops Q t (a.put o.dst v) D S) : wpOrdQ P M ops Q (.pure i t) a D S := ⟨o, v, ho, Or.inl ⟨hw, fun w hD => Or.inl (h w hD)⟩, hk⟩
theorem ordq_call (o : Oper) (v : Value) (ho : ops[i]? = some o) (hw : Region.wanted o (yielded ops a.tmps) = true) (f : FuncId) (args : Array Value) (h1 : ∀ w, D w → (execOp a.eval o).run P w = .ok (.enter f args) w) (h2 : ∀ w, D w → Calls P f args w (fun e w' => e = .returned v ∧ w = w'))
    (hk : wpOrdQ P M ops Q t (a.put o.dst v) D S) : wpOrdQ P M ops Q (.pure i t) a D S := ⟨o, v, ho, Or.inl ⟨hw, fun w hD => Or.inr ⟨f, args, h1 w hD, h2 w hD⟩⟩, hk⟩
theorem ordq_skip (o : Oper) (ho : ops[i]? = some o) (hw : Region.wanted o (yielded ops a.tmps) = false) (hk : wpOrdQ P M ops Q t (a.put o.dst undef) D S) : wpOrdQ P M ops Q (.pure i t) a D S :=
  ⟨o, undef, ho, Or.inr ⟨hw, rfl⟩, hk⟩
theorem ordq_eff (o : Oper) (ho : ops[i]? = some o) (hw : Region.wanted o (yielded ops a.tmps) = true) (h : ∀ w, S w → effUpon P (M i = true) o.dst a D (wpOrdQ P M ops Q t) ((execOp a.eval o).run P w)) : wpOrdQ P M ops Q (.eff i t) a D S :=
  ⟨o, ho, Or.inl ⟨hw, h⟩⟩
theorem ordq_eff2 (h1 : wpOrdQ P M ops Q (.eff i t) a D S) (h2 : wpOrdQ P M ops Q (.eff j u) a D S) : wpOrdQ P M ops Q (.eff2 i j t u) a D S := ⟨h1, h2⟩
theorem ordq_eskip (o : Oper) (ho : ops[i]? = some o) (hw : Region.wanted o (yielded ops a.tmps) = false) (hk : wpOrdQ P M ops Q t (a.put o.dst undef) D S) : wpOrdQ P M ops Q (.eff i t) a D S :=
  ⟨o, ho, Or.inr ⟨hw, hk⟩⟩
theorem ordq_norm {a' : Act} (ha : a = a') (h : wpOrdQ P M ops Q t a' D S) : wpOrdQ P M ops Q t a D S := ha ▸ h
theorem ordq_nil (h : ∀ w, S w → Q .normal a w) : wpOrdQ P M ops Q .nil a D S := h
end
end Go
namespace Go.Proofs.Num
open Go.RowKit
theorem New.of_sts {w w' : World} {e : TypeId} {v : Value} {n : Nat} {xs : List Value} (h : Sts w [rowP e 1 v n xs] w') (hn : xs.length = n) : New w w' e v xs := by
  obtain ⟨F, ⟨F1, F2, ⟨a, hF1⟩, r, hd, hF⟩, hb, hnew⟩ := h
  subst hn
  refine ⟨⟨a.1, ?_⟩, hb⟩
  rcases a.2 with h2 | ⟨g, cap, cur, hv, hg, r⟩
  · exact Or.inl h2
  · exact Or.inr ⟨g, cap, cur, hv, hnew g ((hF g).2 (Or.inl ((hF1 g).2 (by rw [hv]; rfl)))), r⟩
theorem Sts.lit0 {W w : World} {l : List HProp} (e : TypeId) (hl : ∀ B ∈ l, Stable B) (h : Sts W l w) : Sts W (rowP e 1 (.slice (some ⟨w.heap.size, 0, none⟩) 0 0) 0 [] :: l) (w.alloc (.cells #[] e)) := by
  have hN := World.ownsRow_lit (base := w.heap.size) (e := e) (size := 1) w #[] 0 (Nat.le_refl _) (by unfold maxLen; omega) rfl
  have hNew : New w (w.alloc (.cells #[] e)) e (.slice (some ⟨w.heap.size, 0, none⟩) 0 0) [] := ⟨hN, (Below.refl _ _).alloc (Nat.le_refl _) _⟩
  exact Sts.new hl h hNew
end Go.Proofs.Num
namespace Go.Proofs.YtnklmadmenkdoaaGreat
open Go.RowKit Go.Proofs.Num
/-- What a nil slice is. -/
def NilOk (v : Value) : Prop := ∀ c, v = .slice none 0 c → c = 0
theorem NilOk.some (a : Addr) (n c : Nat) : NilOk (.slice (some a) n c) := by intro c' h; cases h
theorem NilOk.own {w : World} {b : Nat} {e : TypeId} {s n : Nat} {v : Value} {xs : List Value} (h : w.ownsRow b e s v n xs) : NilOk v := by
  intro c hc
  rcases h.2 with ⟨h1, _⟩ | ⟨g, cap, cur, hv, _⟩
  · rw [h1] at hc; injection hc with _ _ h3; exact h3.symm
  · rw [hv] at hc; cases hc
set_option maxRecDepth 100000 in
theorem cClone8 (w : World) (v : Value) (m : List Nat) (h : Rd w v (u8s m)) (hv : NilOk v) (hm : m.length < 100000000) :
    Calls Tryz.prog 148 #[v] w fun e w' => ∃ r, e = .returned r ∧ New w w' 5 r (u8s m) ∧ (m ≠ [] → r ≠ .slice none 0 0) := by
  have HRd := hid h
  obtain ⟨a, c, rfl, hc, hx⟩ := h
  cases a with
  | none =>
    have hm0 : m = [] := by
      rcases m with _ | ⟨x, m⟩
      · rfl
      · obtain ⟨b, off, e, _⟩ := hx 0 (by simp [u8s]); cases e
    subst hm0
    clear HRd
    have hq := Lib.run_eql_slice_nil (P := Tryz.prog) w 35 5 none 0 c 0 0 Tryz.underlying35
    have hc0 : c = 0 := hv c (by rfl)
    subst hc0
    clear hx hv hc
    show Calls Tryz.prog 148 #[.slice none 0 0] w _
    go_enter Tryz.func148, Tryz.ntmps148
    go_wp2_with fail
    go_ret
    exact ⟨_, rfl, ⟨own_nil _ _ _ _, Below.refl _ _⟩, fun h => absurd rfl h⟩
  | some ad =>
    have hq := Lib.run_eql_slice_nil (P := Tryz.prog) w 35 5 (some ad) (u8s m).length c 0 0 Tryz.underlying35
    have hR : Rd w (.slice (some ad) m.length c) (u8s m) := by have h := HRd.out; rwa [u8s_len] at h
    rw [u8s_len] at hq
    have H1 : Hid (Sts w (rowP 5 1 (.slice (some ⟨w.heap.size, 0, none⟩) 0 0) 0 [] :: []) (w.alloc (.cells #[] 5))) := hid (Sts.lit0 5 stab0 (Sts.nil w))
    have HR := hid (hR.below (H1.out.below))
    rw [u8s_len]
    clear hx hv hc hR HRd
    go_enter Tryz.func148, Tryz.ntmps148
    go_wp2_with (at_builtin; refine wpList_app8 (l := []) rfl (.tmp 5) (.tmp 6) rfl H1.out stab0 rfl rfl HR.out (by intro c hc; cases hc) (by simp; omega) ?_; intro v1 w1 h2; have H2 := hid h2; clear h2)
    have h3 := H2.out
    rw [List.nil_append, List.length_nil, Nat.zero_add] at h3
    have HN := hid (New.of_sts h3 (u8s_len m))
    have HO := hid h3
    clear h3
    go_ret
    refine ⟨_, rfl, HN.out, fun hne e => ?_⟩
    have := HO.out.rowOwn.2
    rcases this with ⟨_, h0⟩ | ⟨g, cap, cur, hv, _⟩
    · exact hne (List.eq_nil_of_length_eq_zero h0)
    · have hv' := hv.symm.trans e; cases hv'
section
variable {W w : World} {p n x : Nat} {l : List HProp}
set_option maxRecDepth 100000 in
theorem wBitBytes (hl : ∀ B ∈ l, Stable B) (hs : Sts W (bwP p n x :: l) w) (hn : n < 1000000) :
    Calls Tryz.prog 169 #[.pointer (some ⟨p, 0, none⟩)] w fun e w' => ∃ r, e = .returned r ∧ Sts W (rowP 5 1 r (Bitw.pk n x).length (u8s (Bitw.pk n x)) :: bwP p n x :: l) w' := by
  obtain ⟨v, h0⟩ := Sts.openBW hs
  have c0 : w.cell? ⟨p, 0, none⟩ = some (.bool true) := (Sts.boxCell h0 0 _ rfl).1
  have HOK := hid (cBwOk w p c0)
  have hl2 : ∀ B ∈ bwO p n x v ++ l, Stable B := stabC (blkP_stable _ _) (stabC (rowP_stable _ _ _ _ _) hl)
  have H1 := hid (Sts.lit0 5 hl2 h0)
  have d1 : (w.alloc (.cells #[] 5)).cell? ⟨p, 1, none⟩ = some v := (Sts.boxCell H1.out.tail 1 _ rfl).1
  have HR : Hid (Rd (w.alloc (.cells #[] 5)) v (u8s (Bitw.pk n x))) := hid (Sts.rdRow (H1.out.tail.tail) (by rw [u8s_len, Bitw.pk_len]))
  have HNK := hid (NilOk.own (Sts.swap h0).rowOwn)
  have HL2 := hid hl2
  have hlen : (Bitw.pk n x).length < 1000000 := by rw [Bitw.pk_len]; unfold Bitw.bytes; omega
  clear h0 hs c0 hl2
  go_enter Tryz.func169, Tryz.ntmps169
  go_wp2_with (first
    | (go_at_call 237; refine HOK.out.mono ?_; rintro e w' ⟨rfl, rfl⟩)
    | (at_builtin; refine wpList_app8 (l := []) rfl (.tmp 6) (.tmp 10) rfl H1.out HL2.out rfl rfl HR.out HNK.out (by simp; omega) ?_; intro v1 w1 h2; have H2 := hid h2; clear h2))
  go_ret
  refine ⟨_, rfl, ?_⟩
  have h3 := H2.out
  rw [List.nil_append, List.length_nil, Nat.zero_add] at h3
  exact (Sts.closeBW (l := _ :: l) (h3.third'.perm (List.Perm.refl _))).swap
end
end Go.Proofs.YtnklmadmenkdoaaGreat
