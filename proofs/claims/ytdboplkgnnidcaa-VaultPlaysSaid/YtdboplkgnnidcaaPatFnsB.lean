/- The contracts of Words, of the program and of the specification. -/
import Derived.Test.YtdboplkgnnidcaaPatFns
import Derived.IntWalk
import Derived.Laws.BitsAllLaws
set_option linter.unusedVariables false
namespace Go.Proofs.Ytdboplkgnnidcaa
open Go.RowKit Go.Proofs.Num
set_option maxRecDepth 100000 in
theorem cWordsBad (w : World) (v : Value) (l : List Nat) (h : RdB w v l) (hn : l.length < 1000000000) (h4 : l.length % 4 ≠ 0) :
    Calls Try.prog 12 #[v] w fun e w' => e = .returned (.tuple #[.slice none 0 0, .int .i64 4]) ∧ w = w' := by
  obtain ⟨a, cap, rfl, hx⟩ := h.open
  clear h hx
  have e1 : (l.length : Int) % 4 = ((l.length % 4 : Nat) : Int) := by simp
  generalize l.length % 4 = r at *
  go_enter Try.func12, Try.ntmps12
  go_wp2_with fail
  go_ret2
  exact ⟨rfl, rfl⟩
theorem w4_or (a b c d : Nat) (hb : b < 256) (hc : c < 256) (hd : d < 256) : (((a * 16777216) ||| (b * 65536)) ||| (c * 256)) ||| d = Pat.w4 a b c d := by
  have h1 := Nat.two_pow_add_eq_or_of_lt (i := 24) (b := b * 65536) (by omega) a
  have h2 := Nat.two_pow_add_eq_or_of_lt (i := 16) (b := c * 256) (by omega) (a * 256 + b)
  have h3 := Nat.two_pow_add_eq_or_of_lt (i := 8) (b := d) (by omega) (a * 65536 + b * 256 + c)
  rw [show a * 16777216 = 2 ^ 24 * a by omega, ← h1, show 2 ^ 24 * a + b * 65536 = 2 ^ 16 * (a * 256 + b) by omega, ← h2, show 2 ^ 16 * (a * 256 + b) + c * 256 = 2 ^ 8 * (a * 65536 + b * 256 + c) by omega, ← h3]
  unfold Pat.w4; omega
theorem w4_val (a b c d : Nat) (ha : a < 256) (hb : b < 256) (hc : c < 256) (hd : d < 256) : bits .or .u32 (bits .or .u32 (bits .or .u32 (IntKind.u32.wrap (IntKind.u32.wrap (a : Int) * 16777216)) (IntKind.u32.wrap (IntKind.u32.wrap (b : Int) * 65536)))
    (IntKind.u32.wrap (IntKind.u32.wrap (c : Int) * 256))) (IntKind.u32.wrap (d : Int)) = ((Pat.w4 a b c d : Nat) : Int) := by
  have e1 : IntKind.u32.wrap (IntKind.u32.wrap (a : Int) * 16777216) = ((a * 16777216 : Nat) : Int) := by rw [IntKind.wrap_u32', IntKind.wrap_u32']; omega
  have e2 : IntKind.u32.wrap (IntKind.u32.wrap (b : Int) * 65536) = ((b * 65536 : Nat) : Int) := by rw [IntKind.wrap_u32', IntKind.wrap_u32']; omega
  have e3 : IntKind.u32.wrap (IntKind.u32.wrap (c : Int) * 256) = ((c * 256 : Nat) : Int) := by rw [IntKind.wrap_u32', IntKind.wrap_u32']; omega
  have e4 : IntKind.u32.wrap (d : Int) = (d : Int) := by rw [IntKind.wrap_u32']; omega
  have l1 : a * 16777216 ||| b * 65536 < 4294967296 := Nat.or_lt_two_pow (n := 32) (by omega) (by omega)
  have l2 : (a * 16777216 ||| b * 65536) ||| c * 256 < 4294967296 := Nat.or_lt_two_pow (n := 32) l1 (by omega)
  rw [e1, e2, e3, e4, u32_or_nat _ _ (by omega) (by omega), u32_or_nat _ _ l1 (by omega), u32_or_nat _ _ l2 (by omega), w4_or a b c d hb hc hd]
theorem w4_cellW (a b c d : Nat) (ha : a < 256) (hb : b < 256) (hc : c < 256) (hd : d < 256) : [Value.int .u32 (bits .or .u32 (bits .or .u32 (bits .or .u32 (IntKind.u32.wrap (IntKind.u32.wrap (a : Int) * 16777216)) (IntKind.u32.wrap (IntKind.u32.wrap (b : Int) * 65536)))
    (IntKind.u32.wrap (IntKind.u32.wrap (c : Int) * 256))) (IntKind.u32.wrap (d : Int)))] = u32s [Pat.w4 a b c d] := by
  rw [w4_val a b c d ha hb hc hd]; rfl
theorem four_cells {w : World} {a' : Option Addr} {cap' q k m : Nat} {l : List Nat} (h4 : l.length = 4 * m) (hqk : q + 1 + k = m) (hB : ∀ x ∈ l, x < 256) (h : Rd w (.slice a' (4 * (q + 1)) cap') (u8s (l.drop (4 * k)))) :
    ∃ b off x0 x1 x2 x3, a' = some ⟨b, off, none⟩ ∧ b < w.heap.size ∧ w.cell? ⟨b, off, none⟩ = some (.int .u8 (x0 : Nat)) ∧ w.cell? ⟨b, off + 1, none⟩ = some (.int .u8 (x1 : Nat)) ∧
      w.cell? ⟨b, off + 2, none⟩ = some (.int .u8 (x2 : Nat)) ∧ w.cell? ⟨b, off + 3, none⟩ = some (.int .u8 (x3 : Nat)) ∧ x0 < 256 ∧ x1 < 256 ∧ x2 < 256 ∧ x3 < 256 ∧
      Pat.wordsOf (l.take (4 * (k + 1))) = Pat.wordsOf (l.take (4 * k)) ++ [Pat.w4 x0 x1 x2 x3] := by
  obtain ⟨a1, cap1, e, _, hc⟩ := h
  injection e with e1 e2 e3; subst e1
  have hl : (u8s (l.drop (4 * k))).length = 4 * (q + 1) := e2.symm
  have g : ∀ j, j < 4 → ∃ b off, a' = some ⟨b, off, none⟩ ∧ b < w.heap.size ∧ w.cell? ⟨b, off + j, none⟩ = some (.int .u8 (l.getD (4 * k + j) 0 : Nat)) := by
    intro j hj
    obtain ⟨b, off, h1, h2, h3⟩ := hc j (by omega)
    refine ⟨b, off, h1, h2, ?_⟩
    rw [h3]
    simp [u8s, List.getD, show 4 * k + j < l.length by omega]
  obtain ⟨b, off, rfl, hb, g0⟩ := g 0 (by decide)
  obtain ⟨b1, off1, h1, _, g1⟩ := g 1 (by decide)
  obtain ⟨b2, off2, h2, _, g2⟩ := g 2 (by decide)
  obtain ⟨b3, off3, h3, _, g3⟩ := g 3 (by decide)
  simp only [Option.some.injEq, Addr.mk.injEq, and_true] at h1 h2 h3
  obtain ⟨rfl, rfl⟩ := h1
  obtain ⟨rfl, rfl⟩ := h2
  obtain ⟨rfl, rfl⟩ := h3
  have hx : ∀ j, (hj : j < 4) → l.getD (4 * k + j) 0 = l[4 * k + j]'(by omega) ∧ l.getD (4 * k + j) 0 < 256 := by
    intro j hj
    have e : l.getD (4 * k + j) 0 = l[4 * k + j]'(by omega) := by simp [List.getD, show 4 * k + j < l.length by omega]
    exact ⟨e, by rw [e]; exact hB _ (List.getElem_mem _)⟩
  refine ⟨b, off, _, _, _, _, rfl, hb, g0, g1, g2, g3, (hx 0 (by decide)).2, (hx 1 (by decide)).2, (hx 2 (by decide)).2, (hx 3 (by decide)).2, ?_⟩
  rw [show 4 * (k + 1) = 4 * k + 4 by omega, Pat.wordsOf_take l k (by omega), (hx 0 (by decide)).1, (hx 1 (by decide)).1, (hx 2 (by decide)).1, (hx 3 (by decide)).1]
  rfl
theorem words_next {w : World} {b off cap q k : Nat} {l : List Nat} (h : Rd w (.slice (some ⟨b, off, none⟩) (4 * (q + 1)) cap) (u8s (l.drop (4 * k)))) :
    Rd w (.slice (if cap = 4 then some ⟨b, off, none⟩ else some ⟨b, off + 4, none⟩) (4 * q) (cap - 4)) (u8s (l.drop (4 * (k + 1)))) := by
  have hc := h.cap
  have e : u8s (l.drop (4 * (k + 1))) = (u8s (l.drop (4 * k))).drop 4 := by
    simp only [u8s, List.map_drop, List.drop_drop]; congr 1
  have hl : (u8s (l.drop (4 * k))).length - 4 = 4 * q := by omega
  have := h.drop 4 (by omega) (if cap = 4 then some ⟨b, off, none⟩ else some ⟨b, off + 4, none⟩) (cap - 4) (by omega) (by
    intro b' off' hlt e
    simp only [Option.some.injEq, Addr.mk.injEq, and_true] at e
    obtain ⟨rfl, rfl⟩ := e
    rw [if_neg (by omega)])
  rw [e, ← hl]; exact this
set_option maxRecDepth 100000 in
theorem cWords (w : World) (v : Value) (l : List Nat) (h : RdB w v l) (hn : l.length < 1000000000) (m : Nat) (h4 : l.length = 4 * m) :
    Calls Try.prog 12 #[v] w fun e w' => ∃ r, e = .returned (.tuple #[r, .int .i64 0]) ∧ New w w' 48 r (u32s (Pat.wordsOf l)) := by
  obtain ⟨a, cap, rfl, hx⟩ := h.open
  have hB := h.2
  have hR := h.1
  have hcap := hR.cap
  rw [u8s_len] at hcap
  clear h hx
  have e1 : (l.length : Int) % 4 = 0 := by omega
  obtain ⟨i0, hi, hz0, hz1, hz2⟩ := info_parts info32
  have hm : l.length ≤ maxLen := by omega
  unfold maxLen at hm hcap
  have HR : Hid (Rd w (.slice a l.length cap) (u8s l)) := hid hR
  have H4 := hid h4
  have hm4 : m < 1000000000 := by omega
  clear hR h4
  go_enter Try.func12, Try.ntmps12
  go_wp2_with fail
  go_loopw [0, 4] (fun s r wr => ∃ q k : Nat, q + k = m ∧ (∃ a' cap', s = .slice a' (4 * q) cap' ∧ Rd w (.slice a' (4 * q) cap') (u8s (l.drop (4 * k)))) ∧ wr.ownsRow w.heap.size 48 1 r k (u32s (Pat.wordsOf (l.take (4 * k)))) ∧ Below w.heap.size w wr)
    (fun s _ _ => match s with | .slice _ n _ => n | _ => 0)
  case atStart => exact ⟨m, 0, by omega, ⟨a, cap, by rw [H4.out], by rw [← H4.out]; exact HR.out⟩, own_nil _ _ _ _, Below.refl _ _⟩
  case round =>
    obtain ⟨q, k, hqk, ⟨a', cap', rfl, hrd⟩, hown, hbel⟩ := hrel
    by_cases hlt : 0 < q
    · obtain ⟨q, rfl⟩ : ∃ q', q = q' + 1 := ⟨q - 1, by omega⟩
      have hc' := hrd.cap.2
      unfold maxLen at hc'
      have HD := hid hrd
      obtain ⟨b, off, x0, x1, x2, x3, rfl, hb, g0, g1, g2, g3, h0, h1, h2, h3, hW⟩ := four_cells H4.out hqk hB hrd
      have HW := hid hW
      clear hrd hW e1 HR hcap hm
      rw [← hbel.cell hb] at g0 g1 g2 g3
      have hsz := hbel.size
      have hne : u4.ownBlock ≠ some b := fun e => by have := (hown.lt b e).1; omega
      have HA := hid hown
      clear hown
      have p0 : (0 : Int) < 4 * (↑q + 1) := by omega
      have p1 : (1 : Int) < 4 * (↑q + 1) := by omega
      have p2 : (2 : Int) < 4 * (↑q + 1) := by omega
      have p3 : (3 : Int) < 4 * (↑q + 1) := by omega
      go_wp2_with fail
      go_region_held3 (fun w' => w'.cell? ⟨b, off, none⟩ = some (.int .u8 (x0 : Nat)) ∧ w'.cell? ⟨b, off + 1, none⟩ = some (.int .u8 (x1 : Nat)) ∧ w'.cell? ⟨b, off + 2, none⟩ = some (.int .u8 (x2 : Nat)) ∧ w'.cell? ⟨b, off + 3, none⟩ = some (.int .u8 (x3 : Nat)))
        (first | go_keep | (go_split_ands; refine ⟨?_, ?_, ?_, ?_⟩ <;> (rw [hgrow.cell_far _ (by simp; omega) (Ne.symm hne)]; assumption)))
        ((refine step_append_lies _ (by rfl) _ _ _ (by rfl) w.heap.size 48 i0 _ 1 4 Try.underlying22 hi hz0 hz1 hz2 rfl (by omega) u4 k (u32s (Pat.wordsOf (l.take (4 * k)))) (by rfl) ((HA.out.alloc _).drew) ⟨wr.heap.size, 0, none⟩ 1 1 (u32s [Pat.w4 x0 x1 x2 x3]) (by rfl) (by simp [u32s]) (news_blk (heap_alloc_new wr _) (w4_cellW x0 x1 x2 x3 h0 h1 h2 h3)) (u32s_one _) (by omega) (by unfold maxLen; omega) (by omega) (by simp; omega) (wr.heap.size + 1) (by simp) ?_; intro gg cg w1 hown1 hgrow hat hlt1))
      go_wp2_with fail
      go_roundw
      case rel => exact ⟨q, k + 1, by omega, ⟨_, _, by rw [show 4 * (q + 1) - 4 = 4 * q by omega], words_next HD.out⟩, by rw [HW.out, u32s_app]; exact hown1, ((hbel.alloc hsz _).drew).grown hgrow (by simp; omega) (fun q hq => (HA.out.lt q hq).1)⟩
      case measure => show 4 * (q + 1) - 4 < 4 * (q + 1); omega
    · have : q = 0 := by omega
      subst this
      obtain rfl : k = m := by omega
      rw [← H4.out, List.take_length] at hown
      have HO := hid hown
      have HL : Hid (k = (u32s (Pat.wordsOf l)).length) := by rw [u32s_len, Pat.wordsOf_len]; have := H4.out; exact (by omega : k = l.length / 4)
      clear hown hrd
      go_wp2_with fail
      go_ret2
      exact ⟨_, rfl, by rw [← HL.out]; exact HO.out, hbel⟩
set_option maxRecDepth 100000 in
theorem cRWordsBad (w : World) (v : Value) (l : List Nat) (h : RdB w v l) (hn : l.length < 1000000000) (h4 : l.length % 4 ≠ 0) :
    Calls Try.prog 13 #[v] w fun e w' => e = .returned (.tuple #[.slice none 0 0, .int .i64 4]) ∧ w = w' := by
  obtain ⟨a, cap, rfl, hx⟩ := h.open
  clear h hx
  have e1 : (l.length : Int) % 4 = ((l.length % 4 : Nat) : Int) := by simp
  generalize l.length % 4 = r at *
  go_enter Try.func13, Try.ntmps13
  go_wp2_with fail
  go_ret2
  exact ⟨rfl, rfl⟩
theorem four_at {w : World} {a : Option Addr} {cap k m : Nat} {l : List Nat} (h4 : l.length = 4 * m) (hk : k < m) (hB : ∀ x ∈ l, x < 256) (h : Rd w (.slice a l.length cap) (u8s l)) :
    ∃ b off x0 x1 x2 x3, a = some ⟨b, off, none⟩ ∧ b < w.heap.size ∧ w.cell? ⟨b, off + 4 * k, none⟩ = some (.int .u8 (x0 : Nat)) ∧ w.cell? ⟨b, off + (4 * k + 1), none⟩ = some (.int .u8 (x1 : Nat)) ∧
      w.cell? ⟨b, off + (4 * k + 2), none⟩ = some (.int .u8 (x2 : Nat)) ∧ w.cell? ⟨b, off + (4 * k + 3), none⟩ = some (.int .u8 (x3 : Nat)) ∧ x0 < 256 ∧ x1 < 256 ∧ x2 < 256 ∧ x3 < 256 ∧
      Pat.wordsOf (l.take (4 * (k + 1))) = Pat.wordsOf (l.take (4 * k)) ++ [Pat.w4 x0 x1 x2 x3] := by
  have hc := h.cap
  obtain ⟨q, hq⟩ : ∃ q, q + 1 + k = m := ⟨m - k - 1, by omega⟩
  have hl : (u8s l).length - 4 * k = 4 * (q + 1) := by rw [u8s_len]; omega
  have e : u8s (l.drop (4 * k)) = (u8s l).drop (4 * k) := by simp only [u8s, List.map_drop]
  have hd := h.drop (4 * k) (by rw [u8s_len]; omega) (a.map fun p => ⟨p.block, p.off + 4 * k, none⟩) (cap - 4 * k) (by rw [u8s_len] at *; omega) (by
    intro b off _ ha; subst ha; rfl)
  rw [hl, ← e] at hd
  obtain ⟨b, off, x0, x1, x2, x3, h1, hb, g0, g1, g2, g3, r⟩ := four_cells h4 hq hB hd
  cases a with
  | none => cases h1
  | some p =>
    obtain ⟨pb, po, pv⟩ := p
    obtain ⟨a1, c1, ea, _, hcell⟩ := h
    injection ea with ea1
    subst ea1
    obtain ⟨b', off', hp, _⟩ := hcell 0 (by rw [u8s_len]; omega)
    simp only [Option.some.injEq, Addr.mk.injEq] at hp
    obtain ⟨rfl, rfl, rfl⟩ := hp
    simp only [Option.map_some, Option.some.injEq, Addr.mk.injEq, and_true] at h1
    obtain ⟨rfl, rfl⟩ := h1
    exact ⟨pb, po, x0, x1, x2, x3, rfl, hb, g0, by rw [← Nat.add_assoc]; exact g1, by rw [← Nat.add_assoc]; exact g2, by rw [← Nat.add_assoc]; exact g3, r⟩
set_option maxRecDepth 100000 in
theorem cRWords (w : World) (v : Value) (l : List Nat) (h : RdB w v l) (hn : l.length < 1000000000) (m : Nat) (h4 : l.length = 4 * m) :
    Calls Try.prog 13 #[v] w fun e w' => ∃ r, e = .returned (.tuple #[r, .int .i64 0]) ∧ New w w' 48 r (u32s (Pat.wordsOf l)) := by
  obtain ⟨a, cap, rfl, hx⟩ := h.open
  have hB := h.2
  have hR := h.1
  have hcap := hR.cap
  rw [u8s_len] at hcap
  clear h hx
  have e1 : (l.length : Int) % 4 = 0 := by omega
  obtain ⟨i0, hi, hz0, hz1, hz2⟩ := info_parts info32
  have hm : l.length ≤ maxLen := by omega
  unfold maxLen at hm hcap
  have HR : Hid (Rd w (.slice a l.length cap) (u8s l)) := hid hR
  have H4 := hid h4
  have hm4 : m < 1000000000 := by omega
  clear hR h4
  go_enter Try.func13, Try.ntmps13
  go_wp2_with fail
  go_loopw [4, 5] (fun r i wr => ∃ k : Nat, k ≤ m ∧ i = .int .i64 (4 * k : Nat) ∧ wr.ownsRow w.heap.size 48 1 r k (u32s (Pat.wordsOf (l.take (4 * k)))) ∧ Below w.heap.size w wr)
    (fun _ i _ => l.length - (intOf i).toNat)
  case atStart => exact ⟨0, by omega, rfl, own_nil _ _ _ _, Below.refl _ _⟩
  case round =>
    obtain ⟨k, hk, rfl, hown, hbel⟩ := hrel
    by_cases hlt : k < m
    · obtain ⟨b, off, x0, x1, x2, x3, rfl, hb, g0, g1, g2, g3, h0, h1, h2, h3, hW⟩ := four_at H4.out hlt hB HR.out
      have HW := hid hW
      have hlen : 4 * k + 4 ≤ l.length := by have := H4.out; omega
      clear hW e1 HR hcap hm
      rw [← hbel.cell hb] at g0 g1 g2 g3
      have hsz := hbel.size
      have hne : u4.ownBlock ≠ some b := fun e => by have := (hown.lt b e).1; omega
      have HA := hid hown
      clear hown
      obtain ⟨z, hz⟩ : ∃ z, z = 4 * k := ⟨_, rfl⟩
      rw [← hz] at g0 g1 g2 g3 hlen ⊢
      have HZ := hid hz
      clear hz
      have q0 : (0 : Int) ≤ (z : Int) := by omega
      have q1 : (0 : Int) ≤ (z : Int) + 1 := by omega
      have q2 : (0 : Int) ≤ (z : Int) + 2 := by omega
      have q3 : (0 : Int) ≤ (z : Int) + 3 := by omega
      have p0 : (z : Int) < l.length := by omega
      have p1 : (z : Int) + 1 < l.length := by omega
      have p2 : (z : Int) + 2 < l.length := by omega
      have p3 : (z : Int) + 3 < l.length := by omega
      have s1 : ((z : Int) + 1).toNat = z + 1 := by omega
      have s2 : ((z : Int) + 2).toNat = z + 2 := by omega
      have s3 : ((z : Int) + 3).toNat = z + 3 := by omega
      have w1 : IntKind.i64.wrap ((z : Int) + 1) = (z : Int) + 1 := by rw [IntKind.wrap_i64]; omega
      have w2 : IntKind.i64.wrap ((z : Int) + 2) = (z : Int) + 2 := by rw [IntKind.wrap_i64]; omega
      have w3 : IntKind.i64.wrap ((z : Int) + 3) = (z : Int) + 3 := by rw [IntKind.wrap_i64]; omega
      go_wp2_with fail
      go_region_held3 (fun w' => w'.cell? ⟨b, off + z, none⟩ = some (.int .u8 (x0 : Nat)) ∧ w'.cell? ⟨b, off + (z + 1), none⟩ = some (.int .u8 (x1 : Nat)) ∧ w'.cell? ⟨b, off + (z + 2), none⟩ = some (.int .u8 (x2 : Nat)) ∧ w'.cell? ⟨b, off + (z + 3), none⟩ = some (.int .u8 (x3 : Nat)))
        (first | go_keep | (go_split_ands; refine ⟨?_, ?_, ?_, ?_⟩ <;> (rw [hgrow.cell_far _ (by simp; omega) (Ne.symm hne)]; assumption)))
        ((refine step_append_lies _ (by rfl) _ _ _ (by rfl) w.heap.size 48 i0 _ 1 4 Try.underlying22 hi hz0 hz1 hz2 rfl (by omega) u4 k (u32s (Pat.wordsOf (l.take (4 * k)))) (by rfl) ((HA.out.alloc _).drew) ⟨wr.heap.size, 0, none⟩ 1 1 (u32s [Pat.w4 x0 x1 x2 x3]) (by rfl) (by simp [u32s]) (news_blk (heap_alloc_new wr _) (w4_cellW x0 x1 x2 x3 h0 h1 h2 h3)) (u32s_one _) (by omega) (by unfold maxLen; omega) (by omega) (by simp; omega) (wr.heap.size + 1) (by simp) ?_; intro gg cg w1 hown1 hgrow hat hlt1))
      go_wp2_with fail
      go_roundw
      case rel => exact ⟨k + 1, by omega, by have := HZ.out; go_num, by rw [HW.out, u32s_app]; exact hown1, ((hbel.alloc hsz _).drew).grown hgrow (by simp; omega) (fun q hq => (HA.out.lt q hq).1)⟩
      case measure => simp [intOf]; omega
    · obtain rfl : k = m := by omega
      rw [← H4.out, List.take_length] at hown
      have HO := hid hown
      have HL : Hid (k = (u32s (Pat.wordsOf l)).length) := by rw [u32s_len, Pat.wordsOf_len]; have := H4.out; exact (by omega : k = l.length / 4)
      have hlt2 : ((4 * k : Nat) : Int) = l.length := by have := H4.out; omega
      clear hown
      go_wp2_with fail
      go_ret2
      exact ⟨_, rfl, by rw [← HL.out]; exact HO.out, hbel⟩
end Go.Proofs.Ytdboplkgnnidcaa
