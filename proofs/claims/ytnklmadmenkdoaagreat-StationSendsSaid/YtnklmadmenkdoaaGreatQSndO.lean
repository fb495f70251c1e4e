/- The specification's integers and byte strings as bytes. The specification's reader: numbers of bytes, integers, byte strings. Small methods of the sending end of the uplink and of the tracker. Rows of byte strings; the sending end of the uplink takes a unit. The sending end takes a unit. -/
import Derived.Test.YtnklmadmenkdoaaGreatQSndM
import Derived.Test.YtnklmadmenkdoaaGreatQSndA
set_option linter.unusedVariables false
set_option linter.unusedSimpArgs false
namespace Go.Proofs.YtnklmadmenkdoaaGreat
open Go.RowKit Go.Proofs.Num
set_option maxRecDepth 100000 in
theorem cRZig (w : World) (n : Int) (h1 : -1099511627776 ≤ n) (h2 : n ≤ 1099511627776) : Calls Tryz.prog 233 #[.int .i64 n] w fun e w' => e = .returned (.int .u64 ((Cmd.zig n : Nat) : Int)) ∧ w = w' := by
  by_cases h : n < 0
  · have HZ : Hid (IntKind.u64.wrap (IntKind.u64.wrap (IntKind.u64.wrap (wrap64 (-(n + 1))) * 2) + 1) = ((Cmd.zig n : Nat) : Int)) := hid (by
      unfold Cmd.zig; rw [if_pos h]; simp only [IntKind.wrap_u64]; unfold wrap64; omega)
    have d1 : decide (n < 0) = true := decide_eq_true h
    have e1 : wrap64 (n + 1) = n + 1 := by unfold wrap64; omega
    clear h1 h2 h
    go_enter Tryz.func233, Tryz.ntmps233
    go_wp2_with fail
    go_ret
    exact ⟨ret_int HZ.out, rfl⟩
  · have HZ : Hid (n * 2 = ((Cmd.zig n : Nat) : Int)) := hid (by unfold Cmd.zig; rw [if_neg h]; omega)
    have d1 : decide (n < 0) = false := decide_eq_false h
    go_enter Tryz.func233, Tryz.ntmps233
    go_wp2_with fail
    go_ret
    exact ⟨ret_int HZ.out, rfl⟩
theorem Sts.oneNew {W w : World} {v : Value} {ys : List Nat} {l : List HProp} (hl : ∀ B ∈ l, Stable B) (h : Sts W (rowP 5 1 v ys.length (u8s ys) :: l) w) (d : Nat) :
    Sts W (rowP 5 1 v ys.length (u8s ys) :: blkP w.heap.size (.cells #[.int .u8 (d : Int)] 5 (0, 0)) :: l) (w.alloc (.cells #[.int .u8 (d : Int)] 5)) ∧
    Rd (w.alloc (.cells #[.int .u8 (d : Int)] 5)) (.slice (some ⟨w.heap.size, 0, none⟩) 1 1) (u8s [d]) := by
  have h2 := Sts.alloc (stabC (rowP_stable _ _ _ _ _) hl) h (.cells #[.int .u8 (d : Int)] 5)
  refine ⟨h2.swap, ?_⟩
  obtain ⟨F, q⟩ := Sts.head h2
  exact blk_rd q.1 rfl rfl (by decide)
set_option maxRecDepth 100000 in
set_option maxHeartbeats 1000000 in
theorem cRInt (w : World) (n : Int) (h1 : -1099511627776 ≤ n) (h2 : n ≤ 1099511627776) :
    Calls Tryz.prog 161 #[.int .i64 n] w fun e w' => ∃ r, e = .returned r ∧ New w w' 5 r (u8s (Cmd.vint (Cmd.zig n))) := by
  have HZ := hid (cRZig w n h1 h2)
  have hzl := Cmd.zig_lt n h1 h2
  have hvl := Cmd.vint_len 5 _ (show Cmd.zig n < 128 ^ (5 + 1) by omega)
  clear h1 h2
  generalize Cmd.zig n = z at *
  go_enter Tryz.func161, Tryz.ntmps161
  go_wp2_with (first | (go_at_call 233; refine HZ.out.mono ?_; rintro e w' ⟨rfl, rfl⟩))
  go_loopw [3, 4] (fun i o wr => ∃ y : Nat, y < 4398046511104 ∧ i = .int .u64 (y : Int) ∧ ∃ ys, ys ++ Cmd.vint y = Cmd.vint z ∧ Sts w (rowP 5 1 o ys.length (u8s ys) :: []) wr) (fun i o _ => (intOf i).toNat)
  case atStart => exact ⟨z, hzl, rfl, [], rfl, Sts.new stab0 (Sts.nil w) ⟨own_nil _ _ _ _, Below.refl _ _⟩⟩
  case round =>
    obtain ⟨y, hy, rfl, ys, hys, hs⟩ := hrel
    have hyl : ys.length < 10 := by have := congrArg List.length hys; simp at this; omega
    obtain ⟨oa, oc, rfl⟩ := own_slice hs.rowOwn
    have HY := hid hys
    have HLt := hid hy
    clear hys hy hvl hzl
    by_cases hlt : y < 128
    · have hd : decide (127 < (y : Int)) = false := decide_eq_false (by omega)
      have HE : Hid (ys ++ [y] = Cmd.vint z) := hid (by rw [← HY.out, Cmd.vint_lo hlt])
      obtain ⟨h1, hR⟩ := Sts.oneNew stab0 hs y
      have H1 := hid h1
      have HR := hid hR
      clear h1 hR hs
      go_wp2_with (first
        | (at_builtin; refine wpList_app8 rfl (.tmp 18) (.tmp 21) rfl H1.out (stabC (blkP_stable _ _) stab0) rfl rfl HR.out (by intro c hc; cases hc) (by simp; omega) ?_; intro v1 w1 h2; have H2 := hid h2; clear h2))
      go_ret
      have h3 := H2.out.swap.tail
      rw [show ys.length + [y].length = (ys ++ [y]).length by simp, HE.out] at h3
      exact ⟨_, rfl, New.of_sts h3 (u8s_len _)⟩
    · have hd : decide (127 < (y : Int)) = true := decide_eq_true (by omega)
      obtain ⟨d, hd2⟩ : ∃ d, d = y % 128 + 128 := ⟨_, rfl⟩
      have e9 : (y : Int) % 128 + 128 = (d : Int) := by omega
      have e10 : IntKind.u64.wrap ((y : Int) / 128) = (y : Int) / 128 := by have := HLt.out; rw [IntKind.wrap_u64]; omega
      have HE : Hid ((ys ++ [d]) ++ Cmd.vint (y / 128) = Cmd.vint z) := hid (by rw [← HY.out, Cmd.vint_hi hlt, hd2]; simp)
      clear hd2
      obtain ⟨h1, hR⟩ := Sts.oneNew stab0 hs d
      have H1 := hid h1
      have HR := hid hR
      clear h1 hR hs
      go_wp2_with (first
        | (at_builtin; refine wpList_app8 rfl (.tmp 9) (.tmp 14) rfl H1.out (stabC (blkP_stable _ _) stab0) rfl rfl HR.out (by intro c hc; cases hc) (by simp; omega) ?_; intro v1 w1 h2; have H2 := hid h2; clear h2))
      go_roundw
      case rel =>
        have h3 := H2.out.swap.tail
        rw [show ys.length + [d].length = (ys ++ [d]).length by simp] at h3
        exact ⟨y / 128, by have := HLt.out; omega, val_int (by omega), ys ++ [d], HE.out, h3⟩
      case measure => simp [intOf]; omega
set_option maxRecDepth 100000 in
theorem cRBlob (w : World) (a : Option Addr) (c : Nat) (m : List Nat) (hm : m.length < 1000000) (hv : a = none → c = 0) (hR : RdB w (.slice a m.length c) m) :
    Calls Tryz.prog 162 #[.slice a m.length c] w fun e w' => ∃ r, e = .returned r ∧ New w w' 5 r (u8s (Cmd.blobB m)) := by
  have HI := hid (cRInt w (m.length : Int) (by omega) (by omega))
  have hvl := Cmd.vint_len 5 _ (show Cmd.zig (m.length : Int) < 128 ^ (5 + 1) by have := Cmd.zig_lt (m.length : Int) (by omega) (by omega); omega)
  have HE : Hid (Cmd.blobB m = Cmd.vint (Cmd.zig (m.length : Int)) ++ m) := hid rfl
  have HR := hid hR
  have HV := hid hv
  clear hR hv
  generalize Cmd.vint (Cmd.zig (m.length : Int)) = zs at *
  go_enter Tryz.func162, Tryz.ntmps162
  go_wp2_with (first
    | (go_at_call 161; refine HI.out.mono ?_; rintro e w1 ⟨r, rfl, h1⟩
       have h2 := Sts.new stab0 (Sts.nil w) h1
       rw [u8s_len] at h2
       have H2 := hid h2
       have HR2 := hid (HR.out.below h2.below)
       clear h1 h2)
    | (at_builtin; refine wpList_app8 rfl (.tmp 5) (.tmp 6) rfl H2.out stab0 rfl rfl HR2.out.1 (by intro c hc; injection hc with h1 h2 h3; rw [← h3]; exact HV.out h1) (by omega) ?_; intro v2 w2 h3; have H3 := hid h3; clear h3))
  go_ret
  have h3 := H3.out
  rw [show zs.length + m.length = (zs ++ m).length by simp, ← HE.out] at h3
  exact ⟨_, rfl, New.of_sts h3 (u8s_len _)⟩
end Go.Proofs.YtnklmadmenkdoaaGreat
namespace Cmd
/-- The number of bytes, the most significant first. -/
def bev (l : List Nat) : Nat := l.foldl (fun a x => a * 256 + x) 0
theorem bev_snoc (l : List Nat) (x : Nat) : bev (l ++ [x]) = bev l * 256 + x := by simp [bev]
theorem get_hi {Z k : Nat} {rest : List Nat} (h : k + 1 < (vint Z).length) : (vint Z ++ rest)[k]? = some (Z / 128 ^ k % 128 + 128) := by
  rw [List.getElem?_append_left (by omega)]; exact vint_get k Z h
theorem get_last {Z k : Nat} {rest : List Nat} (h : k + 1 = (vint Z).length) : (vint Z ++ rest)[k]? = some (Z / 128 ^ k) ∧ Z / 128 ^ k < 128 := by
  rw [List.getElem?_append_left (by omega)]; exact vint_last k Z h
end Cmd
namespace Go.Proofs.YtnklmadmenkdoaaGreat
open Go.RowKit Go.Proofs.Num
/-- The byte k of what reads. -/
theorem RdB.byte {w : World} {b off n cap : Nat} {l : List Nat} (h : RdB w (.slice (some ⟨b, off, none⟩) n cap) l) {k y : Nat} (hk : l[k]? = some y) : w.cell? ⟨b, off + k, none⟩ = some (.int .u8 (y : Int)) ∧ y < 256 := by
  obtain ⟨hlt, hy⟩ := List.getElem?_eq_some_iff.1 hk
  obtain ⟨a, c, e, hx⟩ := RdB.open h
  obtain ⟨b', o', e1, _, e2⟩ := hx k hlt
  injection e with q1 q2 q3
  subst q1
  injection e1 with e1
  injection e1 with r1 r2 r3
  subst r1; subst r2
  rw [hy] at e2
  exact ⟨e2, h.2 y (hy ▸ List.getElem_mem hlt)⟩
set_option maxRecDepth 100000 in
theorem cTakeUint (w : World) (b off n c : Nat) (bs : List Nat) (size : Nat) (h1 : 1 ≤ size) (h2 : size ≤ 2) (hn : size ≤ n) (hR : RdB w (.slice (some ⟨b, off, none⟩) n c) bs) :
    Calls Tryz.prog 157 #[.slice (some ⟨b, off, none⟩) n c, .int .i64 (size : Int)] w fun e w' => e = .returned (.tuple #[.int .u64 ((Cmd.bev (bs.take size) : Nat) : Int), .int .i64 (size : Int)]) ∧ w = w' := by
  have hnl : n = bs.length := by have := (Rd.cap hR.1).1; rwa [u8s_len] at this
  have d1 : decide ((size : Int) < 1) = false := decide_eq_false (by omega)
  have d2 : decide (8 < (size : Int)) = false := decide_eq_false (by omega)
  have d3 : decide ((n : Int) < (size : Int)) = false := decide_eq_false (by omega)
  have HR := hid hR
  have HN := hid hnl
  clear hR hnl
  go_enter Tryz.func157, Tryz.ntmps157
  go_wp2_with fail
  go_loop [6, 7] (fun v i => ∃ k : Nat, k ≤ size ∧ i = .int .i64 (k : Int) ∧ ∃ x, x = Cmd.bev (bs.take k) ∧ v = .int .u64 (x : Int) ∧ (k = 0 ∧ x = 0 ∨ k = 1 ∧ x < 256 ∨ k = 2 ∧ x < 65536)) (fun v i => size - (intOf i).toNat)
  case atStart => exact ⟨0, by omega, rfl, 0, rfl, rfl, Or.inl ⟨rfl, rfl⟩⟩
  case round =>
    obtain ⟨k, hk, rfl, x, hx, rfl, hb⟩ := hrel
    by_cases hlt : k < size
    · have d4 : decide ((k : Int) < (size : Int)) = true := decide_eq_true (by omega)
      obtain ⟨y, hy⟩ : ∃ y, bs[k]? = some y := ⟨bs[k]'(by have := HN.out; omega), List.getElem?_eq_getElem _⟩
      obtain ⟨c0, hy8⟩ := RdB.byte HR.out hy
      have hk0 : (0 : Int) ≤ (k : Int) := by omega
      have hk1 : (k : Int) < (n : Int) := by omega
      have hE : Hid (x * 256 + y = Cmd.bev (bs.take (k + 1))) := hid (by
        obtain ⟨q1, q2⟩ := List.getElem?_eq_some_iff.1 hy
        rw [List.take_succ_eq_append_getElem q1, Cmd.bev_snoc, q2, hx])
      have hx2 : x < 256 := by omega
      have HB := hid hb
      clear hx hy hb
      go_wp2_with fail
      go_round
      case rel => exact ⟨k + 1, by omega, by go_num, x * 256 + y, hE.out, by first | rfl | exact val_int (by omega), by have := HB.out; omega⟩
      case measure => simp [intOf]; omega
    · obtain rfl : k = size := by omega
      have d4 : decide ((k : Int) < (k : Int)) = false := decide_eq_false (by omega)
      have HX := hid hx
      clear hx
      go_wp2_with fail
      go_ret2
      exact ⟨by rw [← HX.out]; rfl, rfl⟩
end Go.Proofs.YtnklmadmenkdoaaGreat
namespace Go.Proofs.YtnklmadmenkdoaaGreat
open Go.RowKit Go.Proofs.Num
/-- The sending end as cells. -/
def fopC (size : Int) (units : Value) (acked flight front : Int) (craft chan to re state now timer reps : Int) : Array Value :=
  #[.int .i64 size, units, .int .i64 acked, .int .i64 flight, .int .i64 front, .bool true, .int .i64 craft, .int .i64 chan, .int .i64 to, .int .i64 re, .int .i64 state, .slice none 0 0, .int .i64 now, .int .i64 timer, .int .i64 reps]
section
variable {W w : World} {l : List HProp} (q : Nat) (size : Int) (units : Value) (acked flight front : Int) (craft chan to re state now timer reps : Int) (hs : Sts W (blkP q (.cells (fopC size units acked flight front craft chan to re state now timer reps) 216 (0, 0)) :: l) w)
include hs
set_option maxRecDepth 100000 in
theorem cFopUsable : Calls Tryz.prog 129 #[.pointer (some ⟨q, 0, none⟩)] w fun e w' => e = .returned (.bool true) ∧ w = w' := by
  have k5 : w.cell? ⟨q, 5, none⟩ = some (.bool true) := (Sts.boxCell hs 5 _ rfl).1
  clear hs
  go_enter Tryz.func129, Tryz.ntmps129
  go_wp2_with fail
  go_ret
  exact ⟨rfl, rfl⟩
set_option maxRecDepth 100000 in
theorem cFopState : Calls Tryz.prog 51 #[.pointer (some ⟨q, 0, none⟩)] w fun e w' => e = .returned (.int .i64 state) ∧ w = w' := by
  have k10 : w.cell? ⟨q, 10, none⟩ = some (.int .i64 state) := (Sts.boxCell hs 10 _ rfl).1
  have HU := hid (cFopUsable q size units acked flight front craft chan to re state now timer reps hs)
  clear hs
  go_enter Tryz.func51, Tryz.ntmps51
  go_wp2_with (first | (go_at_call 129; refine HU.out.mono ?_; rintro e w2 ⟨rfl, rfl⟩))
  go_ret
  exact ⟨rfl, rfl⟩
end
section
variable {W w : World} {l : List HProp} (q : Nat) (size : Int) (ua : Option Addr) (n uc : Nat) (acked flight front : Int) (craft chan to re state now timer reps : Int) (hs : Sts W (blkP q (.cells (fopC size (.slice ua n uc) acked flight front craft chan to re state now timer reps) 216 (0, 0)) :: l) w)
include hs
set_option maxRecDepth 100000 in
theorem cFopQueued : Calls Tryz.prog 53 #[.pointer (some ⟨q, 0, none⟩)] w fun e w' => e = .returned (.int .i64 (n : Int)) ∧ w = w' := by
  have k1 : w.cell? ⟨q, 1, none⟩ = some (.slice ua n uc) := (Sts.boxCell hs 1 _ rfl).1
  have HU := hid (cFopUsable q size (.slice ua n uc) acked flight front craft chan to re state now timer reps hs)
  clear hs
  go_enter Tryz.func53, Tryz.ntmps53
  go_wp2_with (first | (go_at_call 129; refine HU.out.mono ?_; rintro e w2 ⟨rfl, rfl⟩))
  go_ret
  exact ⟨rfl, rfl⟩
end
end Go.Proofs.YtnklmadmenkdoaaGreat
namespace Go.Proofs.Num
open Go.RowKit
/-- Byte strings, each in a row of its own. -/
def rowsP (t : TypeId) : List Value → List (List Nat) → HProp
  | [], [] => emp
  | v :: vs, u :: us => star (rowP t 1 v u.length (u8s u)) (rowsP t vs us)
  | _, _ => fun _ _ => False
theorem rowsP_stable (t : TypeId) : ∀ (vs : List Value) (us : List (List Nat)), Stable (rowsP t vs us)
  | [], [] => emp_stable
  | v :: vs, u :: us => star_stable (rowP_stable _ _ _ _ _) (rowsP_stable t vs us)
  | [], _ :: _ => ⟨fun h => h.elim, fun h => h.elim⟩
  | _ :: _, [] => ⟨fun h => h.elim, fun h => h.elim⟩
theorem rowsP_len {t : TypeId} : ∀ {vs : List Value} {us : List (List Nat)} {w : World} {F : Nat → Prop}, rowsP t vs us w F → vs.length = us.length
  | [], [], _, _, _ => rfl
  | v :: vs, u :: us, _, _, ⟨_, _, _, h, _⟩ => by simp [rowsP_len h]
  | [], _ :: _, _, _, h => h.elim
  | _ :: _, [], _, _, h => h.elim
theorem rowsP_snoc {t : TypeId} : ∀ {vs : List Value} {us : List (List Nat)} {v : Value} {u : List Nat} {w : World} {F : Nat → Prop}, star (rowP t 1 v u.length (u8s u)) (rowsP t vs us) w F → rowsP t (vs ++ [v]) (us ++ [u]) w F
  | [], [], v, u, w, F, h => h
  | v0 :: vs, u0 :: us, v, u, w, F, h => star_mono (fun _ h => h) (fun _ h => rowsP_snoc h) (star_left h)
  | [], _ :: _, _, _, _, _, ⟨_, _, _, h, _⟩ => h.elim
  | _ :: _, [], _, _, _, _, ⟨_, _, _, h, _⟩ => h.elim
/-- Each of them can be read. -/
theorem rowsP_rd {t : TypeId} : ∀ {vs : List Value} {us : List (List Nat)} {w : World} {F : Nat → Prop}, rowsP t vs us w F → ∀ i, (h : i < us.length) → ∃ v, vs[i]? = some v ∧ Rd w v (u8s us[i]) ∧ ∀ c, v = .slice none 0 c → c = 0
  | v0 :: vs, u0 :: us, w, F, ⟨F1, F2, a, b, _⟩, 0, h => ⟨v0, rfl, Rd.of_own a.1 (u8s_len u0), fun c hc => by
      rcases a.1.2 with ⟨h1, _⟩ | ⟨g, cap, cur, hv, _⟩
      · rw [h1] at hc; injection hc with _ _ h3; exact h3.symm
      · rw [hv] at hc; cases hc⟩
  | v0 :: vs, u0 :: us, w, F, ⟨F1, F2, a, b, _⟩, i + 1, h => by
    obtain ⟨v, h1, h2⟩ := rowsP_rd b i (by simpa using h)
    exact ⟨v, by simpa using h1, by simpa using h2⟩
  | [], _ :: _, _, _, h, _, _ => h.elim
  | _, [], _, _, _, i, h => by simp at h
end Go.Proofs.Num
namespace Go.Proofs.YtnklmadmenkdoaaGreat
open Go.RowKit Go.Proofs.Num
/-- An append of one cell to the row at the head. -/
theorem app1_run {W w : World} {L : List HProp} {v : Value} {l : List Value} {n : Nat} (hn : l.length = n) (t e : TypeId) (z : Value) (by' : Nat) (ht : Tryz.prog.underlying t = some (.slice e)) (hinfo : (Tryz.prog.info? e).map (fun i => (i.zero, i.size, i.bytes)) = some (some z, 1, by')) (hzs : z.cells.size = 1) (hby : by' ≤ 64)
    (ty : TypeId) (g : Nat) (x : Value) (hS : Sts W (rowP e 1 v n l :: L) w) (hL : ∀ B ∈ L, Stable B) (hb : w.cell? ⟨g, 0, none⟩ = some x) (h1 : x.oneCell' = true) (hlen : n < 100000000) :
    ∃ v' w', (Builtin.append_ #[t, t] ty #[v, .slice (some ⟨g, 0, none⟩) 1 1]).run Tryz.prog w = .ok v' w' ∧ Sts W (rowP e 1 v' (n + 1) (l ++ [x]) :: L) w' := by
  obtain ⟨i0, hi, hz0, hz1, hz2⟩ := info_parts hinfo
  have hnews : ∀ j u, ([x] : List Value)[j]? = some u → w.cell? ((⟨g, 0, none⟩ : Addr).add j) = some u := by
    intro j u hj
    cases j with
    | zero => simp at hj; subst hj; exact hb
    | succ j => simp at hj
  obtain ⟨v', w', hrun, hown, hgr, _, hbl⟩ := run_append_own_at (P := Tryz.prog) w 0 t ty e i0 z 1 by' ht hi hz0 hz1 hz2 hzs (by decide) v n l (Sts.rowOwn hS) ⟨g, 0, none⟩ 1 1 [x] rfl hnews (by simpa using h1) (by unfold maxLen; omega) (by
    have := Nat.mul_le_mul_left (n + 1) hby
    omega) (Nat.zero_le _)
  have hS2 := Sts.grown hL hS hgr hown (by
    intro k hk
    rcases hbl with h | h
    · exact Or.inl (h ▸ hk)
    · rw [h] at hk; injection hk with hk; exact Or.inr (by omega))
  exact ⟨v', w', hrun, hS2⟩
theorem eff_app1 {W w : World} {o : Oper} {a : Act} {D : WP} {K : Act → WP → WP → Prop} {v : Value} {l : List Value} {n : Nat} {L : List HProp} {X : Prop} (hn : l.length = n) (t e : TypeId) (z : Value) (by' : Nat) (ht : Tryz.prog.underlying t = some (.slice e)) (hinfo : (Tryz.prog.info? e).map (fun i => (i.zero, i.size, i.bytes)) = some (some z, 1, by')) (hzs : z.cells.size = 1) (hby : by' ≤ 64)
    (hL : ∀ B ∈ L, Stable B) (hS : Sts W (rowP e 1 v n l :: L) w) (s y : Operand) (ho : o.op = .call { callee := .builtin .append, args := #[s, y], argTypes := #[t, t] }) (g : Nat) (x : Value) (hs : a.eval s = v) (hy : a.eval y = .slice (some ⟨g, 0, none⟩) 1 1) (hb : w.cell? ⟨g, 0, none⟩ = some x) (h1 : x.oneCell' = true) (hlen : n < 100000000) (hD : ∀ y v', Sts W (rowP e 1 v' (n + 1) (l ++ [x]) :: L) y → D y)
    (hk : ∀ v', K (a.put o.dst v') D (fun y => Sts W (rowP e 1 v' (n + 1) (l ++ [x]) :: L) y)) : effUpon Tryz.prog X o.dst a D K ((execOp a.eval o).run Tryz.prog w) := by
  obtain ⟨v', w', hrun, hS2⟩ := app1_run hn t e z by' ht hinfo hzs hby o.type g x hS hL hb h1 hlen
  have hr : (execOp a.eval o).run Tryz.prog w = .ok (.value v') w' := by
    simp [execOp, ho, resolve, invoke, builtin, hs, hy, hrun, Result.andThen]
  exact eff_value D (fun y => Sts W (rowP e 1 v' (n + 1) (l ++ [x]) :: L) y) hr hS2 (fun y hy => hD y v' hy) (fun _ h => h) (hk v')
theorem wpList_app1 {ops : Array Oper} {rest : List Oper} {o : Oper} {a : Act} {Q : Exit → Act → World → Prop} {W w : World} {L : List HProp} {v : Value} {l : List Value} {n : Nat} (hn : l.length = n) (t e : TypeId) (z : Value) (by' : Nat) (ht : Tryz.prog.underlying t = some (.slice e)) (hinfo : (Tryz.prog.info? e).map (fun i => (i.zero, i.size, i.bytes)) = some (some z, 1, by')) (hzs : z.cells.size = 1) (hby : by' ≤ 64)
    (hgd : o.guard = none) (s y : Operand) (ho : o.op = .call { callee := .builtin .append, args := #[s, y], argTypes := #[t, t] }) (hS : Sts W (rowP e 1 v n l :: L) w) (hL : ∀ B ∈ L, Stable B)
    (g : Nat) (x : Value) (hs : a.eval s = v) (hy : a.eval y = .slice (some ⟨g, 0, none⟩) 1 1) (hb : w.cell? ⟨g, 0, none⟩ = some x) (h1 : x.oneCell' = true) (hlen : n < 100000000)
    (h : ∀ v' w', Sts W (rowP e 1 v' (n + 1) (l ++ [x]) :: L) w' → wpList Tryz.prog ops Q rest (a.put o.dst v') w') : wpList Tryz.prog ops Q (o :: rest) a w := by
  refine wpList_plain hgd fun K hK => ?_
  obtain ⟨v', w', hrun, hS2⟩ := app1_run hn t e z by' ht hinfo hzs hby o.type g x hS hL hb h1 hlen
  unfold Oper.wp
  simp [execOp, ho, resolve, invoke, builtin, hs, hy, hrun, Result.andThen]
  exact hK _ _ (h v' w' hS2)
theorem infoS8 : (Tryz.prog.info? 35).map (fun i => (i.zero, i.size, i.bytes)) = some (some (.slice none 0 0), 1, 24) := by kernel_rfl
/-- The sending end with its units. -/
def fopA (fl fr now tm : Nat) (uv : Value) : Array Value := fopC 16 uv 0 (fl : Int) (fr : Int) 5 0 20 10 1 (now : Int) (tm : Int) 0
def fopO (fq : Nat) (us : List (List Nat)) (fl fr now tm : Nat) (uv : Value) (vs : List Value) : List HProp := [blkP fq (.cells (fopA fl fr now tm uv) 216 (0, 0)), rowP 35 1 uv us.length vs, rowsP 5 vs us]
def fopP (fq : Nat) (us : List (List Nat)) (fl fr now tm : Nat) : HProp := fun w F => ∃ uv vs, star (blkP fq (.cells (fopA fl fr now tm uv) 216 (0, 0))) (star (rowP 35 1 uv us.length vs) (rowsP 5 vs us)) w F
theorem fopP_stable (fq : Nat) (us : List (List Nat)) (fl fr now tm : Nat) : Stable (fopP fq us fl fr now tm) where
  dom := by rintro w F ⟨uv, vs, h⟩; exact (star_stable (blkP_stable _ _) (star_stable (rowP_stable _ _ _ _ _) (rowsP_stable _ _ _))).dom h
  keep := by rintro w w' F S ⟨uv, vs, h⟩ hk hS; exact ⟨uv, vs, (star_stable (blkP_stable _ _) (star_stable (rowP_stable _ _ _ _ _) (rowsP_stable _ _ _))).keep h hk hS⟩
theorem Sts.openF {W w : World} {fq fl fr now tm : Nat} {us : List (List Nat)} {l : List HProp} (h : Sts W (fopP fq us fl fr now tm :: l) w) : ∃ uv vs, Sts W (fopO fq us fl fr now tm uv vs ++ l) w := by
  obtain ⟨F, ⟨F1, F2, ⟨uv, vs, a⟩, r⟩, hb, hn⟩ := h
  have h1 : Sts W (star (blkP fq (.cells (fopA fl fr now tm uv) 216 (0, 0))) (star (rowP 35 1 uv us.length vs) (rowsP 5 vs us)) :: l) w := ⟨F, ⟨F1, F2, a, r⟩, hb, hn⟩
  have h2 := Sts.split h1
  exact ⟨uv, vs, (Sts.split h2.swap).perm ((List.perm_middle (l₁ := [_, _])))⟩
theorem Sts.closeF {W w : World} {fq fl fr now tm : Nat} {us : List (List Nat)} {uv : Value} {vs : List Value} {l : List HProp} (h : Sts W (fopO fq us fl fr now tm uv vs ++ l) w) : Sts W (fopP fq us fl fr now tm :: l) w := by
  have h1 : Sts W (blkP fq (.cells (fopA fl fr now tm uv) 216 (0, 0)) :: rowP 35 1 uv us.length vs :: rowsP 5 vs us :: l) w := h
  have h2 : Sts W (star (rowP 35 1 uv us.length vs) (rowsP 5 vs us) :: blkP fq (.cells (fopA fl fr now tm uv) 216 (0, 0)) :: l) w := Sts.join (Sts.third' h1) (fun F hF => hF)
  exact Sts.join h2.swap (fun F hF => ⟨uv, vs, hF⟩)
end Go.Proofs.YtnklmadmenkdoaaGreat
namespace Go.Proofs.YtnklmadmenkdoaaGreat
open Go.RowKit Go.Proofs.Num
set_option maxRecDepth 100000 in
theorem szSlS : ∀ w, (Go.sizeOf 43).run Tryz.prog w = .ok 1 w := fun w => by first | rfl | simp [go_sem] | kernel_rfl
theorem exec_cellS {W w : World} {l : List HProp} {b : Nat} {c : Array Value} {t0 : TypeId} {o : Oper} {a : Act} (hS : Sts W (blkP b (.cells c t0 (0, 0)) :: l) w) (hl : ∀ B ∈ l, Stable B) (p v : Operand) (t : TypeId) (ho : o.op = .store t p v) (j : Nat) (x : Value)
    (hp : a.eval p = .pointer (some ⟨b, j, none⟩)) (hv : a.eval v = x) (hz : ∀ w, (Go.sizeOf t).run Tryz.prog w = .ok 1 w) (hj : j < c.size) (h1 : cellBS x = true) :
    (execOp a.eval o).run Tryz.prog w = .ok .skip (w.setCell ⟨b, j, none⟩ x) ∧ Sts W (blkP b (.cells (c.setIfInBounds j x) t0 (0, 0)) :: l) (w.setCell ⟨b, j, none⟩ x) := by
  have hb : w.heap[b]? = some (.cells c t0 (0, 0)) := by obtain ⟨F, hF⟩ := hS.head; exact hF.1
  have h3 := cell_blk hb (Array.getElem?_eq_getElem hj)
  have h4 : w.frozen? ⟨b, j, none⟩ = false := free_blk hb
  refine ⟨?_, Sts.store hl hS (j := j) x⟩
  unfold execOp
  simp only [ho, hp, hv]
  cases x
  all_goals first
    | (simp [cellBS] at h1; done)
    | (simp [go_sem, Instr.storeAt, storeVar, hz, Value.cells, h3, h4, Result.andThen])
theorem effS_cellS {L : Prop} {W w : World} {l : List HProp} {b : Nat} {c : Array Value} {t0 : TypeId} {o : Oper} {a : Act} {D : WP} {K : Act → WP → WP → Prop} (hL : L) (hS : Sts W (blkP b (.cells c t0 (0, 0)) :: l) w) (hl : ∀ B ∈ l, Stable B) (p v : Operand) (t : TypeId) (ho : o.op = .store t p v) (j : Nat) (x : Value)
    (hp : a.eval p = .pointer (some ⟨b, j, none⟩)) (hv : a.eval v = x) (hz : ∀ w, (Go.sizeOf t).run Tryz.prog w = .ok 1 w) (hj : j < c.size) (h1 : cellBS x = true) (S' : WP) (h : ∀ w', Sts W (blkP b (.cells (c.setIfInBounds j x) t0 (0, 0)) :: l) w' → S' w')
    (hk : K (a.put o.dst undef) (fun _ => True) S') : effUpon Tryz.prog L o.dst a D K ((execOp a.eval o).run Tryz.prog w) := by
  obtain ⟨h2, h3⟩ := exec_cellS hS hl p v t ho j x hp hv hz hj h1
  exact effS_skip (fun _ => True) S' hL h2 (h _ h3) (fun _ _ => trivial) hk
section
variable {W w : World} {l : List HProp} (hl : ∀ B ∈ l, Stable B) (fq : Nat) (us : List (List Nat)) (fl fr now tm : Nat) (hs : Sts W (fopP fq us fl fr now tm :: l) w)
include hl hs
set_option maxRecDepth 100000 in
set_option maxHeartbeats 2000000 in
theorem cFopSend (a : Option Addr) (cap : Nat) (u : List Nat) (hR : Rds W l (.slice a u.length cap) (u8s u)) (hv : NilOk (.slice a u.length cap)) (h1 : 1 ≤ u.length) (h2 : u.length ≤ 1017) (hn : us.length < 200) :
    Calls Tryz.prog 117 #[.pointer (some ⟨fq, 0, none⟩), .slice a u.length cap] w fun e w' => e = .returned (.int .i64 0) ∧ Sts W (fopP fq (us ++ [u]) fl fr now tm :: l) w' := by
  obtain ⟨uv, vs, h0⟩ := Sts.openF hs
  have HUS := hid (cFopUsable fq 16 uv 0 (fl : Int) (fr : Int) 5 0 20 10 1 (now : Int) (tm : Int) 0 h0)
  obtain ⟨ua, uc, hue⟩ := own_slice h0.tail.rowOwn
  subst hue
  have hvl : vs.length = us.length := by obtain ⟨F, hF⟩ := h0.tail.tail.head; exact rowsP_len hF
  have c1 : w.cell? ⟨fq, 1, none⟩ = some (.slice ua us.length uc) := (Sts.boxCell h0 1 _ rfl).1
  have HL2 := hid (show ∀ B ∈ rowP 35 1 (.slice ua us.length uc) us.length vs :: rowsP 5 vs us :: l, Stable B from stabC (rowP_stable _ _ _ _ _) (stabC (rowsP_stable _ _ _) hl))
  have HL := hid hl
  have H0 := hid h0
  have d1 : decide ((u.length : Int) < 1) = false := decide_eq_false (by omega)
  have d2 : decide (1017 < (u.length : Int)) = false := decide_eq_false (by omega)
  have d3 : decide (256 ≤ (us.length : Int)) = false := decide_eq_false (by omega)
  have HR := hid hR
  have HV := hid hv
  have HN := hid hn
  have HVL := hid hvl
  have HU := hid h2
  have HU1 := hid h1
  clear h0 hs hl hR hv h1 h2 hn hvl
  go_enter Tryz.func117, Tryz.ntmps117
  go_wp2_with (first | (go_at_call 129; refine HUS.out.mono ?_; rintro e w1 ⟨rfl, rfl⟩))
  refine wp_region_ordQS (fun i => i == 13) (.pure 0 (.pure 1 (.pure 2 (.pure 3 (.pure 4 (.pure 5 (.pure 6 (.eff 7 (.eff 8 (.eff 9 (.pure 10 (.pure 11 (.pure 12 (.eff 13 .nil)))))))))))))) (fun y => y.cell? ⟨fq, 1, none⟩ = some (.slice ua us.length uc)) (fun y => Sts W (blkP fq (.cells (fopA fl fr now tm (.slice ua us.length uc)) 216 (0, 0)) :: rowP 35 1 (.slice ua us.length uc) us.length vs :: rowsP 5 vs us :: l) y) (by kernel_rfl) (by kernel_rfl) (H0.out.drew (stabC (blkP_stable _ _) HL2.out)) (fun y hy => (Sts.boxCell hy 1 _ rfl).1) ?_
  iterate 7
    (apply ordq_pure (ho := rfl)
     · go_simp
     · intro x hx; go_simp; rfl
     apply ordq_norm
     · go_simp; rfl)
  apply ordq_eff (ho := rfl)
  · go_simp
  intro y hy
  refine eff_call (f := 148) (by go_simp) (cClone8 y _ u (HR.out _ y hy.tail.tail.tail.withEmp) HV.out (by have := HU.out; omega)) ?_
  rintro e w3 ⟨r, rfl, hN, -⟩
  have h4 := Sts.new (stabC (blkP_stable _ _) HL2.out) hy hN
  rw [u8s_len] at h4
  obtain ⟨ra, rc, hre⟩ := own_slice h4.rowOwn
  subst hre
  refine ⟨_, rfl, (fun y => y.cell? ⟨fq, 1, none⟩ = some (.slice ua us.length uc)), (fun y => Sts W (rowP 5 1 (.slice ra u.length rc) u.length (u8s u) :: blkP fq (.cells (fopA fl fr now tm (.slice ua us.length uc)) 216 (0, 0)) :: rowP 35 1 (.slice ua us.length uc) us.length vs :: rowsP 5 vs us :: l) y), h4, (fun y hy => (Sts.boxCell hy.tail 1 _ rfl).1), (fun _ h => h), ?_⟩
  clear h4 hN hy y
  apply ordq_norm
  · go_simp; rfl
  apply ordq_eff (ho := rfl)
  · go_simp
  intro y hy
  have hy2 := Sts.alloc (stabC (rowP_stable _ _ _ _ _) (stabC (blkP_stable _ _) HL2.out)) hy (.cells #[.slice ra u.length rc] 35)
  refine eff_value (fun y => y.cell? ⟨fq, 1, none⟩ = some (.slice ua us.length uc)) (fun y' => Sts W (blkP y.heap.size (.cells #[.slice ra u.length rc] 35 (0, 0)) :: rowP 5 1 (.slice ra u.length rc) u.length (u8s u) :: blkP fq (.cells (fopA fl fr now tm (.slice ua us.length uc)) 216 (0, 0)) :: rowP 35 1 (.slice ua us.length uc) us.length vs :: rowsP 5 vs us :: l) y') (v := .slice (some ⟨y.heap.size, 0, none⟩) 1 1) (w := y.alloc (.cells #[.slice ra u.length rc] 35)) ?_ hy2 (fun y hy => (Sts.boxCell hy.tail.tail 1 _ rfl).1) (fun _ h => h) ?_
  · go_simp
  apply ordq_norm
  · go_simp; rfl
  clear hy hy2
  generalize y.heap.size = gx at *
  clear y
  apply ordq_eff (ho := rfl)
  · go_simp
  intro y hy
  have hc := (Sts.boxCell hy 0 _ rfl).1
  have hy3 := hy.perm (List.perm_middle (l₁ := [_, _, _]))
  refine eff_app1 HVL.out 43 35 (.slice none 0 0) 24 Tryz.underlying43 infoS8 rfl (by decide) (stabC (blkP_stable _ _) (stabC (rowP_stable _ _ _ _ _) (stabC (blkP_stable _ _) (stabC (rowsP_stable _ _ _) HL.out)))) hy3 (.tmp 31) (.tmp 34) rfl gx (.slice ra u.length rc) ?_ ?_ hc rfl (by have := HN.out; omega) (fun y v' hy => (Sts.boxCell hy.tail.tail.tail 1 _ rfl).1) ?_
  · go_simp
  · go_simp
  intro v1
  apply ordq_norm
  · go_simp; rfl
  clear hy hy3 hc y
  iterate 3
    (apply ordq_pure (ho := rfl)
     · go_simp
     · intro x hx; go_simp; rfl
     apply ordq_norm
     · go_simp; rfl)
  apply ordq_eff (ho := rfl)
  · go_simp
  intro y hy
  obtain ⟨a1, cc1, rfl⟩ := own_slice hy.rowOwn
  have hy4 := (hy.perm (List.perm_middle (l₁ := [_, _, _])))
  refine effS_cellS rfl hy4 (stabC (rowP_stable _ _ _ _ _) (stabC (blkP_stable _ _) (stabC (rowP_stable _ _ _ _ _) (stabC (rowsP_stable _ _ _) HL.out)))) (.tmp 38) (.tmp 35) 43 rfl 1 (.slice a1 (us.length + 1) cc1) ?_ ?_ szSlS (show 1 < 15 by decide) rfl (fun y' => Sts W (fopP fq (us ++ [u]) fl fr now tm :: l) y') ?_ ?_
  · go_simp
  · go_simp
  · intro w' h7
    replace h7 : Sts W (blkP fq (.cells (fopA fl fr now tm (.slice a1 (us.length + 1) cc1)) 216 (0, 0)) :: rowP 35 1 (.slice a1 (us.length + 1) cc1) (us.length + 1) (vs ++ [.slice ra u.length rc]) :: blkP gx (.cells #[.slice ra u.length rc] 35 (0, 0)) :: rowP 5 1 (.slice ra u.length rc) u.length (u8s u) :: rowsP 5 vs us :: l) w' := h7
    have h8 := (Sts.third h7).tail
    have h9 : Sts W (rowsP 5 (vs ++ [.slice ra u.length rc]) (us ++ [u]) :: blkP fq (.cells (fopA fl fr now tm (.slice a1 (us.length + 1) cc1)) 216 (0, 0)) :: rowP 35 1 (.slice a1 (us.length + 1) cc1) (us.length + 1) (vs ++ [.slice ra u.length rc]) :: l) w' :=
      Sts.join (h8.perm ((List.perm_append_comm (l₁ := [_, _]) (l₂ := [_, _])).append_right l)) (fun F hF => rowsP_snoc hF)
    refine Sts.closeF (uv := .slice a1 (us.length + 1) cc1) (vs := vs ++ [.slice ra u.length rc]) ?_
    unfold fopO
    rw [List.length_append]
    exact Sts.third' h9
  apply ordq_norm
  · go_simp; rfl
  refine ordq_nil fun z hz => ?_
  have HZ := hid hz
  clear hz hy hy4 y
  go_wp2_with fail
  go_ret
  exact ⟨rfl, HZ.out⟩
end
end Go.Proofs.YtnklmadmenkdoaaGreat
