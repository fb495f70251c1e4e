/- The contracts of the specification's integers of four bytes, and of the bytes of words. The contracts of the specification's bytes of words and copy of an image. The contracts of the specification's image of a copy. The contracts of the specification's newest copy, older copy and save. The contracts of the specification's older copy and save. The contracts of spacecraftlaw32's same and words, and of the specification's Save as a whole. -/
import Derived.Test.YtdboplkgnnidcaaVltSaved
import Derived.Test.YtdboplkgnnidcaaVltLaw
import Derived.Laws.CopyOwn
import Derived.BigQuiet
import Derived.Test.YtdboplkgnnidcaaVltLawB
import Derived.Outline
set_option linter.unusedVariables false
set_option linter.unusedSimpArgs false
namespace Go.Proofs.Ytdboplkgnnidcaa
open Go.RowKit Go.Proofs.Num
theorem make4 (W : World) : (Instr.makeSlice 23 (.int .i64 4) (.int .i64 4)).run Try.prog W = .ok (.slice (some ⟨W.heap.size, 0, none⟩) 4 4) (W.alloc (.cells #[.int .u8 0, .int .u8 0, .int .u8 0, .int .u8 0] 5)) := by kernel_rfl
theorem be_step (x m : Nat) (hm : m < 4) : ((List.replicate (4 - m) 0 ++ Oct.be m x).set (3 - m) (x / 256 ^ m % 256)) = List.replicate (4 - (m + 1)) 0 ++ Oct.be (m + 1) x := by
  match m, hm with
  | 0, _ => rfl
  | 1, _ => rfl
  | 2, _ => rfl
  | 3, _ => rfl
set_option maxRecDepth 100000 in
theorem cRUint4 (w : World) (x : Nat) (hx : x < 4294967296) :
    Calls Try.prog 78 #[.int .u64 x, .int .i64 4] w fun e w' => ∃ r, e = .returned r ∧ New w w' 5 r (u8s (Pat.be4 x)) := by
  have hmk := make4
  have h0 : Sts w [rowP 5 1 (.slice (some ⟨w.heap.size, 0, none⟩) 4 4) 4 (u8s (List.replicate 4 0))] (w.alloc (.cells #[.int .u8 0, .int .u8 0, .int .u8 0, .int .u8 0] 5)) :=
    ((Sts.nil w).alloc stab0 (.cells #[.int .u8 0, .int .u8 0, .int .u8 0, .int .u8 0] 5)).weaken (fun F h => blkP.row h (by simp))
  have H0 := hid h0
  clear h0
  go_enter Try.func78, Try.ntmps78
  go_wp2_with fail
  clear hmk
  go_loopw [0, 6] (fun n i wr => ∃ m : Nat, m ≤ 4 ∧ i = .int .i64 (3 - (m : Int)) ∧ n = .int .u64 (x / 256 ^ m : Nat) ∧ Sts w [rowP 5 1 (.slice (some ⟨w.heap.size, 0, none⟩) 4 4) 4 (u8s (List.replicate (4 - m) 0 ++ Oct.be m x))] wr) (fun _ i _ => (intOf i + 1).toNat)
  case atStart => exact ⟨0, by omega, rfl, by simp, by simpa [Oct.be] using H0.out⟩
  case round =>
    obtain ⟨m, hm, rfl, rfl, hs⟩ := hrel
    by_cases hlt : m < 4
    · have hb0 : (0 : Int) ≤ 3 - (m : Int) := by omega
      have hb1 : (3 - (m : Int)).toNat = 3 - m := by omega
      have hb2 : 3 - (m : Int) < 4 := by omega
      have hf := Sts.rowFree hs (3 - m)
      have hlen : (u8s (List.replicate (4 - m) 0 ++ Oct.be m x)).length = 4 := by rw [u8s_len]; simp [Oct.be_len]; omega
      obtain ⟨old, hold⟩ : ∃ old, (u8s (List.replicate (4 - m) 0 ++ Oct.be m x))[3 - m]? = some old := ⟨_, List.getElem?_eq_getElem (by rw [hlen]; omega)⟩
      have hcell := Sts.rowCell hs (3 - m) (by omega) _ hold
      clear hold
      have hdiv : (x / 256 ^ m) / 256 = x / 256 ^ (m + 1) := by rw [Nat.div_div_eq_div_mul, Nat.pow_succ]
      have hxm : x / 256 ^ m < 4294967296 := Nat.lt_of_le_of_lt (Nat.div_le_self _ _) hx
      have hst := Sts.rowStore stab0 hs (3 - m) (.int .u8 (x / 256 ^ m % 256 : Nat))
      have e : (u8s (List.replicate (4 - m) 0 ++ Oct.be m x)).set (3 - m) (Value.int .u8 ((x / 256 ^ m % 256 : Nat) : Int)) = u8s (List.replicate (4 - (m + 1)) 0 ++ Oct.be (m + 1) x) := by
        rw [← be_step x m hlt]; simp [u8s, List.map_set]
      rw [e] at hst
      have HD := hid hdiv
      have HST := hid hst
      clear hdiv hst e hs hlen
      generalize x / 256 ^ m = y at *
      go_wp2_with fail
      go_roundw
      case rel => exact ⟨m + 1, by omega, val_int (by omega), by rw [← HD.out]; exact val_int (by omega), by first | exact HST.out | (have := HST.out; simpa using this)⟩
      case measure => simp [intOf]; omega
    · obtain rfl : m = 4 := by omega
      go_wp2_with fail
      go_ret
      have e : List.replicate (4 - 4) 0 ++ Oct.be 4 x = Pat.be4 x := by rw [Oct.be_four]; rfl
      rw [e] at hs
      exact ⟨_, rfl, Sts.isNew hs (by simp [u8s, Pat.be4])⟩
def hor : List Nat → Nat := List.foldl (fun a b => a * 256 + b) 0
theorem hor_snoc (l : List Nat) (x : Nat) : hor (l ++ [x]) = hor l * 256 + x := by simp [hor]
theorem hor_lt (l : List Nat) (h : ∀ x ∈ l, x < 256) : hor l < 256 ^ l.length := by
  obtain ⟨m, hm⟩ : ∃ m, m = l.reverse := ⟨_, rfl⟩
  have e : l = m.reverse := by rw [hm]; simp
  clear hm
  subst e
  induction m with
  | nil => simp [hor]
  | cons x m ih =>
    rw [List.reverse_cons] at h ⊢
    rw [hor_snoc, List.length_append]
    have h1 := ih (fun y hy => h y (by simp at hy; simp [hy]))
    have h2 : x < 256 := h x (by simp)
    simp only [List.length_cons, List.length_nil, Nat.zero_add, Nat.pow_succ]
    omega
set_option maxRecDepth 100000 in
theorem cRTake4 (w : World) (v : Value) (l : List Nat) (h : RdB w v l) (hl : l.length = 4) :
    Calls Try.prog 66 #[v, .int .i64 4] w fun e w' => e = .returned (.tuple #[.int .u64 (hor l : Nat), .int .i64 4]) ∧ w = w' := by
  obtain ⟨a, cap, rfl, hx⟩ := h.open
  have HX := hid hx
  have HB := hid h.2
  have HL := hid hl
  have hlr : RdB w (.slice a 4 cap) l := by rw [← hl]; exact h
  rw [hl]
  clear h hx hl
  go_enter Try.func66, Try.ntmps66
  go_wp2_with fail
  go_loop [6, 7] (fun n i => ∃ k : Nat, k ≤ 4 ∧ i = .int .i64 k ∧ n = .int .u64 (hor (l.take k) : Nat)) (fun _ i => 4 - (intOf i).toNat)
  case atStart => exact ⟨0, by omega, rfl, rfl⟩
  case round =>
    obtain ⟨k, hk, rfl, rfl⟩ := hrel
    by_cases hlt : k < 4
    · obtain ⟨b, off, rfl, hb, hcell⟩ := HX.out k (by rw [HL.out]; exact hlt)
      have hxb := HB.out _ (List.getElem_mem (show k < l.length by rw [HL.out]; exact hlt))
      have hs : hor (l.take (k + 1)) = hor (l.take k) * 256 + l[k]'(by rw [HL.out]; exact hlt) := by
        rw [List.take_succ_eq_append_getElem (by rw [HL.out]; exact hlt), hor_snoc]
      have hbd := hor_lt (l.take k) (fun x hx => HB.out x (List.mem_of_mem_take hx))
      have hp : 256 ^ (l.take k).length ≤ 256 ^ 3 := Nat.pow_le_pow_right (by omega) (by rw [List.length_take]; omega)
      have hz : hor (l.take k) < 16777216 := Nat.lt_of_lt_of_le hbd hp
      have HS := hid hs
      clear hs hbd hp
      generalize hor (l.take k) = z at *
      generalize l[k]'(by rw [HL.out]; exact hlt) = x at *
      go_wp2_with fail
      go_round
      case rel => exact ⟨k + 1, by omega, by go_num, by rw [HS.out]; exact val_int (by omega)⟩
      case measure => simp [intOf]; omega
    · obtain rfl : k = 4 := by omega
      have e : l.take 4 = l := List.take_of_length_le (by rw [HL.out]; omega)
      rw [e]
      go_wp2_with fail
      go_ret2
      exact ⟨rfl, rfl⟩
end Go.Proofs.Ytdboplkgnnidcaa
namespace Go.Proofs.Ytdboplkgnnidcaa
open Go.RowKit Go.Proofs.Num
theorem plain_add (b o n : Nat) : (⟨b, o, none⟩ : Addr).add n = ⟨b, o + n, none⟩ := WideShapes.add_plain b o n
theorem own_news {w : World} {b g n cap : Nat} {e : TypeId} {xs : List Value} (h : w.ownsRow b e 1 (.slice (some ⟨g, 0, none⟩) n cap) n xs) (hn : xs.length = n) : ∀ j u, xs[j]? = some u → w.cell? ((⟨g, 0, none⟩ : Addr).add j) = some u := by
  intro j u hj
  rw [plain_add, Nat.zero_add]
  have hlt : j < n := by
    rw [← hn]
    rcases Nat.lt_or_ge j xs.length with h | h
    · exact h
    · rw [List.getElem?_eq_none h] at hj; cases hj
  rw [h.cellAt j (by omega)]; exact hj
set_option maxRecDepth 100000 in
theorem cRBytes32 (w : World) (v : Value) (l : List Nat) (h : RdW w v l) (hn : l.length < 1000000) :
    Calls Try.prog 68 #[v] w fun e w' => ∃ r, e = .returned r ∧ New w w' 5 r (u8s (Pat.bytesOf l)) := by
  obtain ⟨a, cap, rfl, hx⟩ := h.open
  have hB := h.2
  have HX := hid hx
  clear h hx
  obtain ⟨i0, hi, hz0, hz1, hz2⟩ := info_parts info8
  go_enter Try.func68, Try.ntmps68
  go_wp2_with fail
  go_loopw [3, 4] (fun r i wr => ∃ k : Nat, k ≤ l.length ∧ i = .int .i64 k ∧ wr.ownsRow w.heap.size 5 1 r (4 * k) (u8s (Pat.bytesOf (l.take k))) ∧ Below w.heap.size w wr) (fun _ i _ => l.length - (intOf i).toNat)
  case atStart => exact ⟨0, by omega, rfl, own_nil _ _ _ _, Below.refl _ _⟩
  case round =>
    obtain ⟨k, hk, rfl, hown, hbel⟩ := hrel
    by_cases hlt : k < l.length
    · obtain ⟨b, off, rfl, hb, hcell⟩ := HX.out k hlt
      rw [← hbel.cell hb] at hcell
      have hxb := hB _ (List.getElem_mem hlt)
      have HS := hid (Pat.bytesOf_take l k hlt)
      have HOW := hid hown
      have HBE := hid hbel
      clear hown hbel
      generalize l[k] = x at *
      generalize Pat.bytesOf (l.take k) = ys at *
      go_wp2_with fail
      refine (cRUint4 wr x hxb).mono ?_
      rintro e w2 ⟨r, rfl, hN⟩
      have hlr : (u8s (Pat.be4 x)).length = 4 := by simp [u8s, Pat.be4]
      have hro := hN.own
      rw [hlr] at hro
      obtain ⟨g2, cap2, rfl⟩ := own_nonnil hro (by omega)
      have HNW := hid (own_news hro hlr)
      have HA := hid ((Keep.of_below (S := fun _ => False) hN.below).ownsRow HOW.out (fun _ _ h => h))
      have HB2 := hid (HBE.out.trans (hN.below.mono HBE.out.size))
      clear hN hro
      go_wp2_with (at_builtin; refine wpList_append_own _ rfl (.tmp 11) (.tmp 17) 23 rfl w.heap.size 5 i0 (.int .u8 0) 1 1 Try.underlying23 hi hz0 hz1 hz2 rfl (by decide) _ (4 * k) (u8s ys) rfl HA.out ⟨g2, 0, none⟩ 4 cap2 (u8s (Pat.be4 x)) rfl (by simp [u8s, Pat.be4]) HNW.out (u8s_one _) (by unfold maxLen; omega) (by omega) HB2.out.size ?_; intro v' w1 hown1 hgr1 hiff; rw [← u8s_app] at hown1; have HO := hid hown1; clear hown1 hiff)
      go_roundw
      case rel => exact ⟨k + 1, by omega, by go_num, by rw [HS.out]; exact HO.out, HB2.out.grown hgr1 HB2.out.size (fun q hq => (HA.out.lt q hq).1)⟩
      case measure => simp [intOf]; omega
    · have e : l.take k = l := List.take_of_length_le (by omega)
      have ek : k = l.length := by omega
      rw [e, ek, ← Pat.bytesOf_len, ← u8s_len] at hown
      have HO := hid hown
      clear e ek hown
      go_wp2_with fail
      go_ret
      exact ⟨_, rfl, HO.out, hbel⟩
theorem packW_snoc (k : Nat) (l : List Nat) : Vlt.packW (k + 1) l = Vlt.packW k l ++ [Vlt.wd l k] := by simp [Vlt.packW, List.range_succ]
/-- Four bytes, zeros behind them. -/
def four (l : List Nat) (k : Nat) : List Nat := [l.getD (4 * k) 0, l.getD (4 * k + 1) 0, l.getD (4 * k + 2) 0, l.getD (4 * k + 3) 0]
theorem hor_four (l : List Nat) (k : Nat) : hor (four l k) = Vlt.wd l k := by
  simp [hor, four, Vlt.wd, Pat.w4]; omega
theorem splice_four (l : List Nat) (k : Nat) : splice [Value.int .u8 0, .int .u8 0, .int .u8 0, .int .u8 0] 0 (u8s ((l.drop (4 * k)).take 4)) = u8s (four l k) := by
  have hd : ∀ c, l.getD (4 * k + c) 0 = (l.drop (4 * k)).getD c 0 := fun c => by simp [List.getD_eq_getElem?_getD]
  have h0 : l.getD (4 * k) 0 = (l.drop (4 * k)).getD 0 0 := hd 0
  unfold four
  rw [h0, hd 1, hd 2, hd 3]
  generalize l.drop (4 * k) = d
  match d with
  | [] => rfl
  | [a] => rfl
  | [a, b] => rfl
  | [a, b, c] => rfl
  | a :: b :: c :: e :: r => simp [splice, u8s]
set_option maxRecDepth 100000 in
set_option maxHeartbeats 1000000 in
theorem cRCopy (w : World) (g : Nat) (v : Value) (bs : List Nat) (hg : g < 4294967296) (h : RdB w v bs) (hn : bs.length < 1000000) :
    Calls Try.prog 53 #[v, .int .u32 g] w fun e w' => ∃ r, e = .returned r ∧ New w w' 48 r (u32s (Vlt.wordsV g bs)) := by
  obtain ⟨a, cap, rfl, hx⟩ := h.open
  obtain ⟨hq0, hcap1, hcap2⟩ := h.1.cap
  rw [u8s_len] at hq0
  clear hq0
  unfold maxLen at hcap2
  have HX := hid hx
  have HB := hid h.2
  clear h hx
  obtain ⟨n, hnn⟩ : ∃ n, n = bs.length := ⟨_, rfl⟩
  have HL := hid hnn
  rw [← hnn] at hn hcap1 ⊢
  clear hnn
  obtain ⟨t, ht⟩ : ∃ t, t = Vlt.room n := ⟨_, rfl⟩
  have ht1 : n ≤ 4 * t := by unfold Vlt.room at ht; omega
  have ht2 : 4 * t < n + 4 := by unfold Vlt.room at ht; omega
  have HT := hid ht
  clear ht
  obtain ⟨i0, hi0, hz0, hz1, hz2⟩ := info_parts info32
  have HA : Hid (Sts w [rowP 48 1 (.slice (some ⟨w.heap.size, 0, none⟩) 2 2) 2 (u32s [g, n])] (w.alloc (.cells #[.int .u32 (g : Nat), .int .u32 (n : Nat)] 48))) :=
    hid (((Sts.nil w).alloc stab0 (.cells #[.int .u32 (g : Nat), .int .u32 (n : Nat)] 48)).weaken (fun F h => blkP.row h (by simp)))
  go_enter Try.func53, Try.ntmps53
  go_wp2_with fail
  go_loopw [5, 6] (fun r i wr => ∃ k : Nat, k ≤ t ∧ i = .int .i64 (4 * k : Nat) ∧ Sts w [rowP 48 1 r (k + 2) (u32s (g :: n :: Vlt.packW k bs))] wr) (fun _ i _ => 4 * t - (intOf i).toNat)
  case atStart => exact ⟨0, by omega, rfl, HA.out⟩
  case round =>
    obtain ⟨k, hk, rfl, hs⟩ := hrel
    clear HA
    by_cases hlt : k < t
    · have hkn : 4 * k < n := by omega
      obtain ⟨b, off, rfl, hb, _⟩ := HX.out (4 * k) (by rw [← HL.out]; exact hkn)
      have hmk := make4 wr
      have HS := hid hs
      clear hs
      have hi0' : ((4 * k : Nat) : Int) < (n : Int) := by omega
      have hCL : (u8s ((bs.drop (4 * k)).take 4)).length = Nat.min (n - 4 * k) 4 := by
        rw [u8s_len, List.length_take, List.length_drop, ← HL.out]; exact Nat.min_comm _ _
      have HCL := hid hCL
      have HZ : Hid ((wr.alloc (.cells #[.int .u8 0, .int .u8 0, .int .u8 0, .int .u8 0] 5)).heap[wr.heap.size]? = some (.cells [Value.int .u8 0, .int .u8 0, .int .u8 0, .int .u8 0].toArray 5 (0, 0))) := hid (heap_new wr _ rfl)
      have HPOS : Hid (0 < (u8s ((bs.drop (4 * k)).take 4)).length → (some ⟨wr.heap.size, 0, none⟩ : Option Addr) = some ⟨wr.heap.size, 0, none⟩ ∧ ∃ ad, (some ⟨b, off + 4 * k, none⟩ : Option Addr) = some ad ∧ ∀ j v, (u8s ((bs.drop (4 * k)).take 4))[j]? = some v → (wr.alloc (.cells #[.int .u8 0, .int .u8 0, .int .u8 0, .int .u8 0] 5)).cell? (ad.add j) = some v) := by
        refine hid (fun _ => ⟨rfl, _, rfl, fun j v hj => ?_⟩)
        have hj4 : j < 4 ∧ 4 * k + j < n := by
          rcases Nat.lt_or_ge j ((u8s ((bs.drop (4 * k)).take 4)).length) with hl | hl
          · have h2 : j < min (n - 4 * k) 4 := by rw [hCL] at hl; exact hl
            omega
          · rw [List.getElem?_eq_none hl] at hj; cases hj
        obtain ⟨b', off', e', _, hcell⟩ := HX.out (4 * k + j) (by rw [← HL.out]; exact hj4.2)
        injection e' with e'
        injection e' with e1 e2 e3
        subst e1
        subst e2
        have hbel := (HS.out.below).alloc HS.out.below.size (.cells #[.int .u8 0, .int .u8 0, .int .u8 0, .int .u8 0] 5)
        rw [plain_add, Nat.add_assoc, hbel.cell hb, hcell]
        simp only [u8s, List.getElem?_map, List.getElem?_take, List.getElem?_drop] at hj
        rw [if_pos hj4.1, List.getElem?_eq_getElem (by rw [← HL.out]; exact hj4.2)] at hj
        simpa using hj
      clear hCL
      go_wp2_with (with_reducible refine wpList_copy_splice rfl (.tmp 22) (.tmp 25) 23 23 rfl 5 Try.underlying23 (by kernel_rfl) (some ⟨wr.heap.size, 0, none⟩) (some ⟨b, off + 4 * k, none⟩) 4 4 (n - 4 * k) (cap - 4 * k) rfl rfl wr.heap.size 0 [Value.int .u8 0, .int .u8 0, .int .u8 0, .int .u8 0] 5 HZ.out (u8s ((bs.drop (4 * k)).take 4)) HCL.out HPOS.out (by rw [HCL.out]; exact Nat.le_trans (Nat.le_of_eq (Nat.zero_add _)) (Nat.min_le_right _ _)) (u8s_one _) wr.heap.size (wr.alloc (.cells #[.int .u8 0, .int .u8 0, .int .u8 0, .int .u8 0] 5)) (Below.refl _ _) (Nat.le_refl _) ?_; intro w2 HG2 hB2)
      have hG := HG2.out
      rw [splice_four] at hG
      have hbw : Below wr.heap.size wr w2 := ((Below.refl _ _).alloc (Nat.le_refl _) _).trans hB2
      have hs2 := HS.out.quiet (stab1 (rowP_stable _ _ _ _ _)) hbw
      have hrow := blkP.row (b := wr.heap.size) (cs := (u8s (four bs k)).toArray) (e := 5) (w := w2) (F := fun j => j = wr.heap.size) ⟨hG, fun _ => Iff.rfl⟩ (by simp [u8s, four])
      have h4l : (u8s (four bs k)).length = 4 := by simp [u8s, four]
      have h4b : ∀ x ∈ four bs k, x < 256 := by
        have hb := Vlt.getD_lt HB.out
        intro x hx
        simp only [four, List.mem_cons, List.not_mem_nil, or_false] at hx
        rcases hx with rfl | rfl | rfl | rfl <;> exact hb _
      have hrd : RdB w2 (.slice (some ⟨wr.heap.size, 0, none⟩) 4 4) (four bs k) := ⟨by
        have := Rd.of_own hrow.1 (by simp)
        simpa [h4l] using this, h4b⟩
      have HT4 := hid (cRTake4 w2 _ (four bs k) hrd (by simp [four]))
      rw [hor_four] at HT4
      have hwd := Vlt.wd_lt HB.out k
      have HP := hid (packW_snoc k bs)
      have HS2 := hid hs2
      clear hG hbw hs2 hrow h4l h4b hrd HG2 hB2 HS HZ HCL HPOS hmk
      generalize Vlt.wd bs k = x at *
      generalize Vlt.packW k bs = ys at *
      refine HT4.out.mono ?_
      rintro e w3 ⟨rfl, rfl⟩
      have H6 := hid (Sts.box (stab1 (rowP_stable _ _ _ _ _)) HS2.out (.cells #[.int .u32 (x : Nat)] 48))
      clear HS2
      go_wp2_with (at_builtin; refine wpList_append_own_at _ rfl (.tmp 32) (.tmp 35) 22 rfl 0 48 i0 (.int .u32 0) 1 4 Try.underlying22 hi0 hz0 hz1 hz2 rfl (by decide) u5 (k + 2) (u32s (g :: n :: ys)) rfl (Sts.rowOwn H6.out) ⟨w2.heap.size, 0, none⟩ 1 1 [.int .u32 (x : Nat)] rfl rfl (cell_one_new _ _ _) (by intro u hu; simp at hu; subst hu; rfl) (by unfold maxLen; omega) (by omega) (Nat.zero_le _) ?_; intro v1 w5 hown hgr _ hblk)
      have H7 := hid (Sts.grown stab0 H6.out hgr hown (by
        intro q' hq
        rcases hblk with h | h
        · exact Or.inl (h ▸ hq)
        · rw [h] at hq; injection hq with hq; exact Or.inr (by omega)))
      clear hown hgr hblk
      go_roundw
      case rel =>
        refine ⟨k + 1, by omega, by go_num, ?_⟩
        rw [HP.out, show u32s (g :: n :: (ys ++ [x])) = u32s (g :: n :: ys) ++ [.int .u32 (x : Nat)] by simp [u32s]]
        exact H7.out
      case measure => simp [intOf]; omega
    · obtain rfl : k = t := by omega
      have hhead : g :: n :: Vlt.packW k bs = Vlt.headV g bs := by
        unfold Vlt.headV; rw [← HL.out, ← HT.out]
      rw [hhead] at hs
      have hhl : (Vlt.headV g bs).length = k + 2 := by rw [Vlt.headV_len, ← HL.out, ← HT.out]
      obtain ⟨g2, cap2, rfl⟩ := own_nonnil (Sts.rowOwn hs) (by omega)
      have hv : ∀ x ∈ Vlt.headV g bs, x < 4294967296 := by
        intro x hx
        simp only [Vlt.headV, List.mem_cons] at hx
        rcases hx with rfl | rfl | hx
        · exact hg
        · rw [← HL.out]; omega
        · exact Vlt.packW_lt HB.out _ _ hx
      have hrd : RdW wr (.slice (some ⟨g2, 0, none⟩) (k + 2) cap2) (Vlt.headV g bs) := ⟨by have := Rd.of_own (Sts.rowOwn hs) (by rw [u32s_len]; exact hhl); exact this, hv⟩
      have HBY := hid (cRBytes32 wr _ _ hrd (by omega))
      have HW : Hid (Vlt.wordsV g bs = Vlt.headV g bs ++ [Vlt.crcOf (Pat.bytesOf (Vlt.headV g bs))]) := rfl
      have hbl : (Pat.bytesOf (Vlt.headV g bs)).length < 1000000000000 := by rw [Pat.bytesOf_len, hhl]; omega
      have HSUM := hid (fun y r (hr : RdB y r (Pat.bytesOf (Vlt.headV g bs))) => cRSum32 y r _ hr hbl)
      have HBT := hid (Pat.bytesOf_lt (Vlt.headV g bs))
      have hcr : 4294967295 - Crc.crc32 4294967295 (Pat.bytesOf (Vlt.headV g bs)) = Vlt.crcOf (Pat.bytesOf (Vlt.headV g bs)) := rfl
      rw [hcr] at HSUM
      have HS := hid hs
      have HHL := hid hhl
      clear hs hhl hv hrd hbl hcr hhead
      generalize Vlt.crcOf (Pat.bytesOf (Vlt.headV g bs)) = c at *
      generalize Vlt.headV g bs = hd at *
      go_wp2_with fail
      refine HBY.out.mono ?_
      rintro e w3 ⟨r, rfl, hN⟩
      have HC := hid (HSUM.out w3 r ⟨hN.rd, HBT.out⟩)
      have H6 := hid (Sts.box (stab1 (rowP_stable _ _ _ _ _)) (HS.out.quiet (stab1 (rowP_stable _ _ _ _ _)) hN.below) (.cells #[.int .u32 (c : Nat)] 48))
      clear hN HS
      go_wp2_with fail
      refine HC.out.mono ?_
      rintro e w4 ⟨rfl, rfl⟩
      go_wp2_with (at_builtin; refine wpList_append_own_at _ rfl (.tmp 37) (.tmp 41) 22 rfl 0 48 i0 (.int .u32 0) 1 4 Try.underlying22 hi0 hz0 hz1 hz2 rfl (by decide) (.slice (some ⟨g2, 0, none⟩) (k + 2) cap2) (k + 2) (u32s hd) rfl (Sts.rowOwn H6.out) ⟨w3.heap.size, 0, none⟩ 1 1 [.int .u32 (c : Nat)] rfl rfl (cell_one_new _ _ _) (by intro u hu; simp at hu; subst hu; rfl) (by unfold maxLen; omega) (by omega) (Nat.zero_le _) ?_; intro v1 w5 hown hgr _ hblk)
      have H7 := hid (Sts.grown stab0 H6.out hgr hown (by
        intro q' hq
        rcases hblk with h | h
        · exact Or.inl (h ▸ hq)
        · rw [h] at hq; injection hq with hq; exact Or.inr (by omega)))
      clear hown hgr hblk
      go_ret
      refine ⟨_, rfl, ?_⟩
      have h7 := H7.out
      rw [show u32s hd ++ [Value.int .u32 (c : Nat)] = u32s (hd ++ [c]) by simp [u32s]] at h7
      rw [HW.out]
      exact Sts.isNew h7 (by rw [u32s_len, List.length_append, HHL.out]; rfl)
end Go.Proofs.Ytdboplkgnnidcaa
namespace Vlt
theorem readV_shift (w v : List Nat) (half a c : Nat) (hh : 4 ≤ half) (h : ∀ i, i < half → w[a + i]? = v[c + i]?) : readV w half a = readV v half c := by
  have h0 : w.getD a 0 = v.getD c 0 := by
    have := h 0 (by omega); rw [List.getD_eq_getElem?_getD, List.getD_eq_getElem?_getD]; simpa using congrArg (·.getD 0) this
  have h1 : w.getD (a + 1) 0 = v.getD (c + 1) 0 := by
    have := h 1 (by omega); rw [List.getD_eq_getElem?_getD, List.getD_eq_getElem?_getD, this]
  have ht : ∀ n k, k + n ≤ half → (w.drop (a + k)).take n = (v.drop (c + k)).take n := by
    intro n k hk
    apply List.ext_getElem?
    intro i
    by_cases hi : i < n
    · rw [List.getElem?_take_of_lt hi, List.getElem?_take_of_lt hi, List.getElem?_drop, List.getElem?_drop, Nat.add_assoc, Nat.add_assoc]; exact h (k + i) (by omega)
    · rw [List.getElem?_take_eq_none (by omega), List.getElem?_take_eq_none (by omega)]
  unfold readV
  rw [h0, h1]
  split
  · rfl
  · rename_i hc
    have hr := room_le (v.getD (c + 1) 0) half (fun h => hc (Or.inr h))
    have e3 := ht (room (v.getD (c + 1) 0) + 3) 0 (by omega)
    simp only [Nat.add_zero] at e3
    rw [ht _ 2 (by omega), e3]
end Vlt
namespace Go.Proofs.Ytdboplkgnnidcaa
open Go.RowKit Go.Proofs.Num
def ImageEnd (w : World) (c : List Nat) (e : Ending) (w' : World) : Prop :=
  ∃ bv, e = .returned (.tuple #[bv, .int .u32 ((Vlt.readV c c.length 0).1 : Nat), .bool (decide ((Vlt.readV c c.length 0).1 ≠ 0))]) ∧ New w w' 5 bv (u8s (Vlt.readV c c.length 0).2)
theorem new_nil {w w' : World} {e : TypeId} (h : Below w.heap.size w w') : New w w' e (.slice none 0 0) [] := ⟨⟨rfl, Or.inl ⟨rfl, rfl⟩⟩, h⟩
set_option maxRecDepth 100000 in
set_option maxHeartbeats 1000000 in
theorem cRImage (w : World) (v : Value) (c : List Nat) (h : RdW w v c) (h4 : 4 ≤ c.length) (hn : c.length < 100000) :
    Calls Try.prog 64 #[v] w (ImageEnd w c) := by
  obtain ⟨a, cap, rfl, hx⟩ := h.open
  obtain ⟨hq0, hcap1, hcap2⟩ := h.1.cap
  clear hq0
  unfold maxLen at hcap2
  have HX := hid hx
  have HR := hid h
  obtain ⟨b0, o0, rfl, hb0, c0⟩ := hx 0 (by omega)
  rw [Nat.add_zero] at c0
  obtain ⟨b1, o1, e1, _, c1⟩ := hx 1 (by omega)
  injection e1 with e1
  injection e1 with e1 e2 e3
  subst e1
  subst e2
  clear hx e3
  have hv := h.2
  have hg := hv _ (List.getElem_mem (show 0 < c.length by omega))
  have hnb := hv _ (List.getElem_mem (show 1 < c.length by omega))
  have hread : ∀ g n : Nat, c.getD 0 0 = g → c.getD (0 + 1) 0 = n → Vlt.readV c c.length 0 = if g = 0 ∨ 4 * ((c.length : Int) - 3) < (n : Int) then (0, []) else
    if c.take (Vlt.room n + 3) = Vlt.wordsV g ((Pat.bytesOf ((c.drop 2).take (Vlt.room n))).take n) then (g, (Pat.bytesOf ((c.drop 2).take (Vlt.room n))).take n) else (0, []) := by
    rintro g n rfl rfl
    unfold Vlt.readV
    simp only [Nat.zero_add, List.drop_zero]
  have e0 : c.getD 0 0 = c[0] := by simp [List.getD_eq_getElem?_getD, show 0 < c.length by omega]
  have e1 : c.getD (0 + 1) 0 = c[1] := by simp [List.getD_eq_getElem?_getD, show 1 < c.length by omega]
  have hread := hread c[0] c[1] e0 e1
  clear e0 e1
  have HE : Hid (∀ g b e w', Vlt.readV c c.length 0 = (g, b) → (∃ bv, e = Ending.returned (.tuple #[bv, .int .u32 (g : Nat), .bool (decide (g ≠ 0))]) ∧ New w w' 5 bv (u8s b)) → ImageEnd w c e w') := hid (by
    intro g b e w' hgb hex
    unfold ImageEnd; rw [hgb]; exact hex)
  have HQ := hid hread
  have HV := hid hv
  clear hread hv h
  obtain ⟨m, hm⟩ : ∃ m, m = c.length := ⟨_, rfl⟩
  have HM := hid hm
  generalize c[0] = g at *
  generalize c[1] = n at *
  rw [← hm] at h4 hn hcap1 HQ ⊢
  clear hm
  have hm0 : decide (4 * ((m : Int) - 3) < 0) = false := decide_eq_false (by omega)
  by_cases hg0 : (g : Int) = 0
  · go_enter Try.func64, Try.ntmps64
    go_wp2_with fail
    go_ret3
    exact HE.out 0 [] _ _ (by rw [← HM.out, HQ.out, if_pos (Or.inl (by omega))]) ⟨_, rfl, new_nil (Below.refl _ _)⟩
  · have hg1 : ((g : Int) == 0) = false := by simpa using hg0
    by_cases hnr : 4 * ((m : Int) - 3) < (n : Int)
    · have hnr2 : decide (4 * ((m : Int) - 3) < (n : Int)) = true := decide_eq_true hnr
      go_enter Try.func64, Try.ntmps64
      go_wp2_with fail
      go_ret3
      exact HE.out 0 [] _ _ (by rw [← HM.out, HQ.out, if_pos (Or.inr hnr)]) ⟨_, rfl, new_nil (Below.refl _ _)⟩
    · have hnr2 : decide (4 * ((m : Int) - 3) < (n : Int)) = false := decide_eq_false hnr
      obtain ⟨t, ht⟩ : ∃ t, t = Vlt.room n := ⟨_, rfl⟩
      have htn : ((n : Int) + 3) / 4 = (t : Int) := by unfold Vlt.room at ht; omega
      have hth : t + 3 ≤ m := by unfold Vlt.room at ht; omega
      have htr : n ≤ 4 * t := by unfold Vlt.room at ht; omega
      rw [← ht, if_neg (by omega)] at HQ
      clear ht
      have hW : RdW w (.slice (some ⟨b0, o0 + 2, none⟩) t (cap - 2)) ((c.drop 2).take t) := by
        refine ⟨?_, fun x hx => HV.out x (List.mem_of_mem_drop (List.mem_of_mem_take hx))⟩
        have h2 := (HR.out.1.drop 2 (by rw [u32s_len, ← HM.out]; omega) (some ⟨b0, o0 + 2, none⟩) (cap - 2) (by rw [u32s_len, ← HM.out]; unfold maxLen; omega) (by intro b off _ hb; injection hb with hb; injection hb with h1 h2 h3; subst h1; subst h2; rfl)).take t (by simp [u32s_len, ← HM.out]; omega) (cap - 2) (by unfold maxLen; omega)
        have e : ((u32s c).drop 2).take t = u32s ((c.drop 2).take t) := by simp only [u32s, ← List.map_drop, ← List.map_take]
        rw [e] at h2; exact h2
      have HWL : Hid (((c.drop 2).take t).length = t) := hid (by rw [List.length_take, List.length_drop, ← HM.out]; omega)
      have HW := hid hW
      have HBY := hid (cRBytes32 w _ _ hW (by have := HWL.out; omega))
      have hlen : (Pat.bytesOf ((c.drop 2).take t)).length = 4 * t := by rw [Pat.bytesOf_len, HWL.out]
      have hbt : ∀ x ∈ Pat.bytesOf ((c.drop 2).take t), x < 256 := Pat.bytesOf_lt _
      clear hW HW
      generalize Pat.bytesOf ((c.drop 2).take t) = by4 at *
      have HBT := hid hbt
      have HLEN := hid hlen
      clear hbt hlen
      have hcp : (2 : Int) ≤ (t : Int) + 2 := by omega
      go_enter Try.func64, Try.ntmps64
      go_wp2_with fail
      refine HBY.out.mono ?_
      rintro e w3 ⟨r, rfl, hN⟩
      have HN := hid hN
      clear hN HBY
      have hK2 : ∃ bv, New w w3 5 bv (u8s (by4.take n)) ∧ ((r = .slice none 0 0 ∧ n = 0 ∧ bv = .slice none 0 0) ∨ ∃ g2 cap2, r = .slice (some ⟨g2, 0, none⟩) (4 * t) cap2 ∧ 4 * t ≤ cap2 ∧ cap2 ≤ maxLen ∧ bv = .slice (some ⟨g2, 0, none⟩) n cap2) := by
        have hlu : (u8s by4).length = 4 * t := by rw [u8s_len]; exact HLEN.out
        have ho := HN.out.own
        rw [hlu] at ho
        rcases own_pre ho htr with ⟨h1, h2⟩ | ⟨g2, cap2, h1, h2, h3, h4⟩
        · have hn0 : n = 0 := by omega
          refine ⟨.slice none 0 0, ⟨?_, HN.out.below⟩, Or.inl ⟨h1, hn0, rfl⟩⟩
          rw [hn0]; exact ⟨by simp [u8s], Or.inl ⟨rfl, by simp [u8s]⟩⟩
        · refine ⟨_, ⟨?_, HN.out.below⟩, Or.inr ⟨g2, cap2, h1, h2, h3, rfl⟩⟩
          have e : (u8s (by4.take n)).length = n := by rw [u8s_len, List.length_take, HLEN.out]; omega
          rw [e]
          simpa [u8s, List.map_take] using h4
      obtain ⟨bv, hbv, hr⟩ := hK2
      have hbb : RdB w3 bv (by4.take n) := ⟨hbv.rd, fun x hx => HBT.out x (List.mem_of_mem_take hx)⟩
      have hln : (by4.take n).length = n := by rw [List.length_take, HLEN.out]; omega
      have HC := hid (cRCopy w3 g bv (by4.take n) hg hbb (by rw [hln]; omega))
      have HWL2 : Hid ((Vlt.wordsV g (by4.take n)).length = t + 3) := hid (by rw [Vlt.wordsV_len, hln]; unfold Vlt.room; omega)
      have HWB := hid (words_lt g (by4.take n) hg hbb.2 (by rw [hln]; omega))
      have HBV := hid hbv
      have hcell0 : w3.cell? ⟨b0, o0, none⟩ = some (.int .u32 (g : Nat)) := by rw [hbv.below.cell hb0]; exact c0
      have HC0 := hid c0
      clear hbv hbb HN HLEN hln c0 c1
      generalize by4.take n = b4 at *
      generalize Vlt.wordsV g b4 = L at *
      rcases hr with ⟨rfl, rfl, rfl⟩ | ⟨g2, cap2, rfl, hcc, hcm, rfl⟩
      all_goals
        try unfold maxLen at hcm
        go_wp2_with fail
        refine HC.out.mono ?_
        rintro e w4 ⟨r2, rfl, hN2⟩
        have HL2 : Hid ((u32s L).length = t + 3) := hid (by rw [u32s_len]; exact HWL2.out)
        have ho2 := hN2.own
        rw [HL2.out] at ho2
        obtain ⟨gq, cq, rfl⟩ := own_nonnil ho2 (by omega)
        have hcq := (Rd.of_own ho2 HL2.out).cap
        obtain ⟨hq0, hcq1, hcq2⟩ := hcq
        rw [HL2.out] at hq0
        clear hq0
        unfold maxLen at hcq2
        have HR4 := hid (HR.out.below (HBV.out.below.trans (hN2.below.mono HBV.out.below.size)))
        have HL4 : Hid (RdW w4 (.slice (some ⟨gq, 0, none⟩) (t + 3) cq) L) := hid ⟨Rd.of_own ho2 HL2.out, HWB.out⟩
        have HB4 := hid (HBV.out.below.trans (hN2.below.mono HBV.out.below.size))
        have HN4 := hid (HBV.out.later hN2.below)
        clear hN2 ho2 hcell0
        go_wp2_with fail
        go_loopw [10] (fun i wr => ∃ j : Nat, j ≤ t + 3 ∧ i = .int .i64 j ∧ L.take j = c.take j ∧ Below w4.heap.size w4 wr) (fun i _ => t + 3 - (intOf i).toNat)
        case atStart => exact ⟨0, by omega, rfl, rfl, Below.refl _ _⟩
        case round =>
          obtain ⟨j, hj, rfl, he, hbel⟩ := hrel
          have HEQ := hid he
          have HBE := hid hbel
          clear he hbel
          by_cases hlt : j < t + 3
          · have hjL : j < L.length := by rw [HWL2.out]; exact hlt
            have hjc : j < c.length := by rw [← HM.out]; omega
            obtain ⟨_, _, ea, hxa⟩ := HL4.out.open
            obtain ⟨ba, oa, ea2, hba, hca⟩ := hxa j hjL
            obtain ⟨_, _, ec, hxc⟩ := HR4.out.open
            obtain ⟨bc, oc, ec2, hbc, hcc2⟩ := hxc j hjc
            injection ea with ea u1 u2
            injection ec with ec u3 u4
            clear u1 u2 u3 u4
            rw [← ea] at ea2
            rw [← ec] at ec2
            injection ea2 with ea2
            injection ea2 with k1 k2 _
            injection ec2 with ec2
            injection ec2 with k3 k4 _
            subst k1
            subst k2
            subst k3
            subst k4
            rw [← HBE.out.cell hba] at hca
            rw [← HBE.out.cell hbc] at hcc2
            rw [Nat.zero_add] at hca
            have HT : Hid (L[j] = c[j] → L.take (j + 1) = c.take (j + 1)) := by
              refine hid fun h => ?_
              rw [List.take_succ_eq_append_getElem hjL, List.take_succ_eq_append_getElem hjc, h, HEQ.out]
            have HNE : Hid (L[j] ≠ c[j] → c.take (t + 3) ≠ L) := by
              refine hid fun h e => h ?_
              have h1 : (c.take (t + 3))[j]? = L[j]? := by rw [e]
              rw [List.getElem?_take_of_lt hlt, List.getElem?_eq_getElem hjc, List.getElem?_eq_getElem hjL] at h1
              injection h1 with h1
              exact h1.symm
            clear ea ec hxa hxc
            generalize L[j] = x at *
            generalize c[j] = y at *
            by_cases hxy : (x : Int) = (y : Int)
            · go_wp2_with fail
              go_quiet (fail)
              go_wp2_with fail
              go_roundw
              case rel => exact ⟨j + 1, by omega, by go_num, HT.out (by omega), below_drewN HBE.out _⟩
              case measure => simp [intOf]; omega
            · go_wp2_with fail
              go_quiet (fail)
              go_wp2_with fail
              go_ret3
              exact HE.out 0 [] _ _ (by rw [← HM.out, HQ.out, if_neg (HNE.out (by omega))]) ⟨_, rfl, new_nil (below_drewN (HB4.out.trans (HBE.out.mono HB4.out.size)) _)⟩
          · have hjt : j = t + 3 := by omega
            have heq : c.take (t + 3) = L := by
              have := HEQ.out
              rw [hjt, List.take_of_length_le (by rw [HWL2.out]; omega)] at this
              exact this.symm
            have HEQ2 := hid heq
            have hc4 : wr.cell? ⟨b0, o0, none⟩ = some (.int .u32 (g : Nat)) := by rw [(HB4.out.trans (HBE.out.mono HB4.out.size)).cell hb0]; exact HC0.out
            clear heq
            go_wp2_with fail
            go_quiet (fail)
            go_wp2_with fail
            go_ret3
            exact HE.out g b4 _ _ (by rw [← HM.out, HQ.out, if_pos HEQ2.out]) ⟨_, by simp; omega, HN4.out.later (below_drewN HBE.out _)⟩
end Go.Proofs.Ytdboplkgnnidcaa
namespace Go.Proofs.Ytdboplkgnnidcaa
open Go.RowKit Go.Proofs.Num
theorem RdW.part {w : World} {b off n cap : Nat} {c : List Nat} (h : RdW w (.slice (some ⟨b, off, none⟩) n cap) c) (lo k : Nat) (hk : lo + k ≤ n) : RdW w (.slice (some ⟨b, off + lo, none⟩) k (cap - lo)) ((c.drop lo).take k) := by
  have hc := h.1.cap
  rw [u32s_len] at hc
  obtain ⟨rfl, h1, h2⟩ := hc
  refine ⟨?_, fun x hx => h.2 x (List.mem_of_mem_drop (List.mem_of_mem_take hx))⟩
  have h3 := (h.1.drop lo (by rw [u32s_len]; omega) (some ⟨b, off + lo, none⟩) (cap - lo) (by rw [u32s_len]; omega) (by intro b' off' _ hb; injection hb with hb; injection hb with h1 h2 h3; subst h1; subst h2; rfl)).take k (by simp [u32s_len]; omega) (cap - lo) (by omega)
  have e : ((u32s c).drop lo).take k = u32s ((c.drop lo).take k) := by simp only [u32s, ← List.map_drop, ← List.map_take]
  rw [e] at h3; exact h3
def newK (c : List Nat) : Int := if (Vlt.newV c 0 (c.length / 2)).2.1 = 0 then -1 else (Vlt.newV c 0 (c.length / 2)).1
def NewestEnd (w : World) (c : List Nat) (e : Ending) (w' : World) : Prop :=
  ∃ bv, e = .returned (.tuple #[.int .i64 (newK c), bv, .int .u32 ((Vlt.newV c 0 (c.length / 2)).2.1 : Nat)]) ∧ New w w' 5 bv (u8s (Vlt.newV c 0 (c.length / 2)).2.2)
set_option maxRecDepth 100000 in
set_option maxHeartbeats 1000000 in
theorem cRNewest (w : World) (v : Value) (c : List Nat) (h : RdW w v c) (h8 : 8 ≤ c.length) (hn : c.length < 100000) :
    Calls Try.prog 49 #[v] w (NewestEnd w c) := by
  obtain ⟨a, cap, rfl, hx⟩ := h.open
  obtain ⟨b, off, rfl, hy1, hy2⟩ := hx 0 (by omega)
  obtain ⟨hq0, hcap1, hcap2⟩ := h.1.cap
  clear hq0 hx hy1 hy2
  unfold maxLen at hcap2
  obtain ⟨half, hhalf⟩ : ∃ half, half = c.length / 2 := ⟨_, rfl⟩
  have hh4 : 4 ≤ half := by omega
  have hh2 : 2 * half ≤ c.length := by omega
  have hi2 : (c.length : Int) / 2 = (half : Int) := by omega
  have hl1 : (c.take half).length = half := by rw [List.length_take]; omega
  have hl2 : ((c.drop half).take half).length = half := by rw [List.length_take, List.length_drop]; omega
  have e1 : Vlt.readV (c.take half) (c.take half).length 0 = Vlt.readV c half 0 := by
    rw [hl1]; exact Vlt.readV_shift _ _ half 0 0 hh4 (fun i hi => by rw [Nat.zero_add, List.getElem?_take_of_lt hi])
  have e2 : Vlt.readV ((c.drop half).take half) ((c.drop half).take half).length 0 = Vlt.readV c half (0 + half) := by
    rw [hl2]; exact Vlt.readV_shift _ _ half 0 (0 + half) hh4 (fun i hi => by rw [Nat.zero_add, Nat.zero_add, List.getElem?_take_of_lt hi, List.getElem?_drop])
  have p1 : RdW w (.slice (some ⟨b, off, none⟩) half cap) (c.take half) := by
    have := h.1.take half (by rw [u32s_len]; omega) cap ⟨by omega, by unfold maxLen; omega⟩
    rw [show (u32s c).take half = u32s (c.take half) by simp only [u32s, ← List.map_take]] at this
    exact ⟨this, fun x hx => h.2 x (List.mem_of_mem_take hx)⟩
  have p2 : RdW w (.slice (some ⟨b, off + half, none⟩) (2 * half - half) (cap - half)) ((c.drop half).take half) := by
    rw [show 2 * half - half = half by omega]; exact RdW.part h half half (by omega)
  have I1 := hid (cRImage w _ _ p1 (by omega) (by omega))
  have I2 := hid (fun y hy => cRImage y _ _ (p2.below hy) (by omega) (by omega))
  unfold ImageEnd at I1 I2
  rw [e1] at I1
  rw [e2] at I2
  have n0 := Vlt.readV_nil c half 0
  have n1 := Vlt.readV_nil c half (0 + half)
  have hN : Vlt.newV c 0 half = if (Vlt.readV c half 0).1 < (Vlt.readV c half (0 + half)).1 then (1, (Vlt.readV c half (0 + half)).1, (Vlt.readV c half (0 + half)).2) else (0, (Vlt.readV c half 0).1, (Vlt.readV c half 0).2) := rfl
  have g0b := Vlt.readV_bound c half 0 h.2
  have g1b := Vlt.readV_bound c half (0 + half) h.2
  clear e1 e2 p1 p2 hl1 hl2
  generalize Vlt.readV c half 0 = r0 at *
  generalize Vlt.readV c half (0 + half) = r1 at *
  obtain ⟨g0, b0⟩ := r0
  obtain ⟨g1, b1⟩ := r1
  simp only [] at n0 n1 hN g0b g1b I1 I2
  have HE : Hid (∀ k g bb e w', Vlt.newV c 0 half = (k, g, bb) → (∃ bv, e = Ending.returned (.tuple #[.int .i64 (if g = 0 then -1 else (k : Int)), bv, .int .u32 (g : Nat)]) ∧ New w w' 5 bv (u8s bb)) → NewestEnd w c e w') := hid (by
    intro k g bb e w' hgb hex
    unfold NewestEnd newK
    rw [← hhalf, hgb]
    obtain ⟨bv, h1, h2⟩ := hex
    refine ⟨bv, ?_, h2⟩
    rw [h1])
  have HN := hid hN
  have N0 := hid n0
  have N1 := hid n1
  have hm : (half : Int) ≤ (c.length : Int) := by omega
  have hm2 : 2 * (half : Int) ≤ (c.length : Int) := by omega
  clear hN n0 n1 hhalf h h8 hn
  generalize c.length = m at *
  have hcases : (g0 < g1 ∧ g0 ≠ 0) ∨ (g0 < g1 ∧ g0 = 0) ∨ (g0 = 0 ∧ g1 = 0) ∨ (g0 ≠ 0 ∧ g1 = 0) ∨ (g1 ≤ g0 ∧ g1 ≠ 0) := by omega
  rcases hcases with ⟨k1, k2⟩ | ⟨k1, k2⟩ | ⟨k1, k2⟩ | ⟨k1, k2⟩ | ⟨k1, k2⟩
  · have q0 : decide (g0 ≠ 0) = true := decide_eq_true k2
    have q1 : decide (g1 ≠ 0) = true := decide_eq_true (by omega)
    rw [q0] at I1
    rw [q1] at I2
    have k3 : ¬ (g1 ≤ g0) := by omega
    clear q0 q1 k2
    go_enter Try.func49, Try.ntmps49
    go_wp2_with fail
    refine I1.out.mono ?_
    rintro e w1 ⟨bv, rfl, hN1⟩
    have HN1 := hid hN1
    clear hN1
    go_wp2_with fail
    refine (I2.out w1 HN1.out.below).mono ?_
    rintro e w2 ⟨cv, rfl, hN2⟩
    have HN2 := hid hN2
    clear hN2
    go_wp2_with fail
    go_ret3
    exact HE.out 1 g1 b1 _ _ (by rw [HN.out, if_pos k1]) ⟨_, by rw [if_neg (by omega)]; rfl, New.of HN1.out.below HN2.out⟩
  · subst k2
    have q0 : decide ((0 : Nat) ≠ 0) = false := by decide
    have q1 : decide (g1 ≠ 0) = true := decide_eq_true (by omega)
    rw [q0] at I1
    rw [q1] at I2
    clear q0 q1
    go_enter Try.func49, Try.ntmps49
    go_wp2_with fail
    refine I1.out.mono ?_
    rintro e w1 ⟨bv, rfl, hN1⟩
    have HN1 := hid hN1
    clear hN1
    go_wp2_with fail
    refine (I2.out w1 HN1.out.below).mono ?_
    rintro e w2 ⟨cv, rfl, hN2⟩
    have HN2 := hid hN2
    clear hN2
    go_wp2_with fail
    go_ret3
    exact HE.out 1 g1 b1 _ _ (by rw [HN.out, if_pos k1]) ⟨_, by rw [if_neg (by omega)]; rfl, New.of HN1.out.below HN2.out⟩
  · subst k1
    subst k2
    have q0 : decide ((0 : Nat) ≠ 0) = false := by decide
    rw [q0] at I1
    rw [q0] at I2
    clear q0
    go_enter Try.func49, Try.ntmps49
    go_wp2_with fail
    refine I1.out.mono ?_
    rintro e w1 ⟨bv, rfl, hN1⟩
    have HN1 := hid hN1
    clear hN1
    go_wp2_with fail
    refine (I2.out w1 HN1.out.below).mono ?_
    rintro e w2 ⟨cv, rfl, hN2⟩
    have HN2 := hid hN2
    clear hN2
    go_wp2_with fail
    go_ret3
    exact HE.out 0 0 b0 _ _ (by rw [HN.out, if_neg (by omega)]) ⟨_, by rw [if_pos rfl]; rfl, by rw [show b0 = [] by first | exact N0.out rfl | exact N0.out trivial]; exact new_nil (HN1.out.below.trans (HN2.out.below.mono HN1.out.below.size))⟩
  · subst k2
    have q0 : decide ((0 : Nat) ≠ 0) = false := by decide
    have q1 : decide (g0 ≠ 0) = true := decide_eq_true (by omega)
    rw [q1] at I1
    rw [q0] at I2
    clear q0 q1
    go_enter Try.func49, Try.ntmps49
    go_wp2_with fail
    refine I1.out.mono ?_
    rintro e w1 ⟨bv, rfl, hN1⟩
    have HN1 := hid hN1
    clear hN1
    go_wp2_with fail
    refine (I2.out w1 HN1.out.below).mono ?_
    rintro e w2 ⟨cv, rfl, hN2⟩
    have HN2 := hid hN2
    clear hN2
    go_wp2_with fail
    go_ret3
    exact HE.out 0 g0 b0 _ _ (by rw [HN.out, if_neg (by omega)]) ⟨_, by rw [if_neg k1]; rfl, HN1.out.later HN2.out.below⟩
  · have q0 : decide (g0 ≠ 0) = true := decide_eq_true (by omega)
    have q1 : decide (g1 ≠ 0) = true := decide_eq_true (by omega)
    rw [q0] at I1
    rw [q1] at I2
    have K2 := hid k2
    clear q0 q1 k2
    have k3 : decide ((g1 : Int) ≤ (g0 : Int)) = true := decide_eq_true (by omega)
    go_enter Try.func49, Try.ntmps49
    go_wp2_with fail
    refine I1.out.mono ?_
    rintro e w1 ⟨bv, rfl, hN1⟩
    have HN1 := hid hN1
    clear hN1
    go_wp2_with fail
    refine (I2.out w1 HN1.out.below).mono ?_
    rintro e w2 ⟨cv, rfl, hN2⟩
    have HN2 := hid hN2
    clear hN2
    go_wp2_with fail
    go_ret3
    exact HE.out 0 g0 b0 _ _ (by rw [HN.out, if_neg (by omega)]) ⟨_, by rw [if_neg (by have := K2.out; omega)]; rfl, HN1.out.later HN2.out.below⟩
end Go.Proofs.Ytdboplkgnnidcaa
namespace Vlt
def rput (c : List Nat) (a : Nat) (L : List Nat) : Nat → List Nat
  | 0 => c
  | k + 1 => (rput c a L k).set (a + k) (L.getD k 0)
theorem rput_len (c : List Nat) (a : Nat) (L : List Nat) (k : Nat) : (rput c a L k).length = c.length := by
  induction k with
  | zero => rfl
  | succ k ih => unfold rput; simp [ih]
theorem rput_wrote (c : List Nat) (a : Nat) (L : List Nat) (k : Nat) (h1 : 1 ≤ k) (hk : k ≤ L.length) : (rput c a L k).set a 0 = wrote c a L k := by
  induction k with
  | zero => omega
  | succ k ih =>
    by_cases h0 : k = 0
    · subst h0
      simp [rput, wrote, List.set_set]
    · have e : wrote c a L (k + 1) = (wrote c a L k).set (a + k) (L.getD k 0) := by
        show (if k = 0 then _ else _) = _
        rw [if_neg h0, if_pos (by omega)]
      rw [e, ← ih (by omega) (by omega), List.set_comm _ _ (by omega)]
      rfl
theorem rput_all (c : List Nat) (a : Nat) (L : List Nat) (h : 1 ≤ L.length) : ((rput c a L L.length).set a 0).set a (L.getD 0 0) = wrote c a L (L.length + 1) := by
  have e : wrote c a L (L.length + 1) = (wrote c a L L.length).set a (L.getD 0 0) := by
    show (if L.length = 0 then _ else _) = _
    rw [if_neg (by omega), if_neg (by omega)]
  rw [e, ← rput_wrote c a L L.length h (Nat.le_refl _)]
end Vlt
namespace Go.Proofs.Ytdboplkgnnidcaa
open Go.RowKit Go.Proofs.Num
theorem newK_old (c : List Nat) : (newK c = 0 ∧ Vlt.oldV c 0 (c.length / 2) = 1) ∨ (newK c ≠ 0 ∧ Vlt.oldV c 0 (c.length / 2) = 0) := by
  have hi := Vlt.newV_lt c 0 (c.length / 2)
  unfold newK Vlt.oldV
  by_cases h : (Vlt.newV c 0 (c.length / 2)).2.1 = 0
  · rw [if_pos h, if_pos h]; exact Or.inr ⟨by decide, rfl⟩
  · rw [if_neg h, if_neg h]
    omega
set_option maxRecDepth 100000 in
theorem cROlder (w : World) (v : Value) (c : List Nat) (h : RdW w v c) (h8 : 8 ≤ c.length) (hn : c.length < 100000) :
    Calls Try.prog 50 #[v] w fun e w' => e = .returned (.int .i64 (Vlt.oldV c 0 (c.length / 2) : Nat)) ∧ Below w.heap.size w w' := by
  have HN := hid (cRNewest w v c h h8 hn)
  have ho := newK_old c
  unfold NewestEnd at HN
  clear h h8 hn
  generalize newK c = k at *
  generalize Vlt.oldV c 0 (c.length / 2) = o at *
  generalize (Vlt.newV c 0 (c.length / 2)).2.1 = g at *
  rcases ho with ⟨rfl, rfl⟩ | ⟨hk, rfl⟩
  · go_enter Try.func50, Try.ntmps50
    go_wp2_with fail
    refine HN.out.mono ?_
    rintro e w1 ⟨bv, rfl, hN⟩
    have HB := hid hN.below
    clear hN
    go_wp2_with fail
    go_ret
    exact ⟨rfl, HB.out⟩
  · have hk2 : (k == 0) = false := by simpa using hk
    go_enter Try.func50, Try.ntmps50
    go_wp2_with fail
    refine HN.out.mono ?_
    rintro e w1 ⟨bv, rfl, hN⟩
    have HB := hid hN.below
    clear hN
    go_wp2_with fail
    go_ret
    exact ⟨rfl, HB.out⟩
theorem Sts.rowsApart {W w : World} {e e' : TypeId} {g g' n n' k k' : Nat} {xs ys : List Value} {l : List HProp} (h : Sts W (rowP e 1 (.slice (some ⟨g, 0, none⟩) n k) n xs :: rowP e' 1 (.slice (some ⟨g', 0, none⟩) n' k') n' ys :: l) w) : g' ≠ g := by
  obtain ⟨F, ⟨F1, F2, ⟨_, hF1⟩, ⟨F3, F4, ⟨_, hF3⟩, _, _, hF2⟩, hd, _⟩, _⟩ := h
  rintro rfl
  exact hd g' ((hF1 g').2 rfl) ((hF2 g').2 (Or.inl ((hF3 g').2 rfl)))
def RSaveEnd (w : World) (v : Value) (c b : List Nat) (cut : Int) (e : Ending) (w' : World) : Prop :=
  ∃ r, e = .returned (.tuple #[r, .int .i64 ((Vlt.saveV c 0 (c.length / 2) b cut).1 : Nat)]) ∧
    ((r = v ∧ (Vlt.saveV c 0 (c.length / 2) b cut).2 = c ∧ Below w.heap.size w w') ∨ New w w' 48 r (u32s (Vlt.saveV c 0 (c.length / 2) b cut).2))
set_option maxRecDepth 100000 in
theorem cRSaveLong (w : World) (v vb : Value) (c b : List Nat) (cut : Int) (h : RdW w v c) (hb : RdB w vb b) (h8 : 8 ≤ c.length) (hn : c.length < 100000) (hl : 4 * (((c.length / 2 : Nat) : Int) - 3) < b.length) :
    Calls Try.prog 32 #[v, vb, .int .i64 cut] w fun e w' => e = .returned (.tuple #[v, .int .i64 6]) ∧ Below w.heap.size w w' := by
  obtain ⟨a1, c1, rfl, hy1⟩ := h.open
  obtain ⟨a2, c2, rfl, hy2⟩ := hb.open
  clear hy1 hy2
  have HR := hid (cRefRoom w c.length (by omega))
  have hd : decide (4 * ((c.length : Int) / 2 - 3) < (b.length : Int)) = true := decide_eq_true (by omega)
  clear h hb
  generalize c.length = n at *
  go_enter Try.func32, Try.ntmps32
  go_wp2_with fail
  refine HR.out.mono ?_
  rintro e w1 ⟨rfl, rfl⟩
  go_wp2_with fail
  go_ret2
  exact ⟨rfl, Below.refl _ _⟩
set_option maxRecDepth 100000 in
theorem cRSaveFull (w : World) (v vb : Value) (c b : List Nat) (cut : Int) (h : RdW w v c) (hb : RdB w vb b) (h8 : 8 ≤ c.length) (hn : c.length < 100000) (hl : ¬ 4 * (((c.length / 2 : Nat) : Int) - 3) < b.length) (hg : (Vlt.newV c 0 (c.length / 2)).2.1 = 4294967295) :
    Calls Try.prog 32 #[v, vb, .int .i64 cut] w fun e w' => e = .returned (.tuple #[v, .int .i64 7]) ∧ Below w.heap.size w w' := by
  have HN := hid (cRNewest w v c h h8 hn)
  obtain ⟨a1, c1, rfl, hy1⟩ := h.open
  obtain ⟨a2, c2, rfl, hy2⟩ := hb.open
  clear hy1 hy2
  have HR := hid (cRefRoom w c.length (by omega))
  have hd : decide (4 * ((c.length : Int) / 2 - 3) < (b.length : Int)) = false := decide_eq_false (by omega)
  unfold NewestEnd at HN
  rw [hg, show ((4294967295 : Nat) : Int) = 4294967295 from rfl] at HN
  clear h hb hg
  generalize newK c = kk at *
  generalize (Vlt.newV c 0 (c.length / 2)).2.2 = bb at *
  generalize c.length = n at *
  go_enter Try.func32, Try.ntmps32
  go_wp2_with fail
  refine HR.out.mono ?_
  rintro e w1 ⟨rfl, rfl⟩
  go_wp2_with fail
  refine HN.out.mono ?_
  rintro e w1 ⟨bv, rfl, hN⟩
  have HB := hid hN.below
  clear hN
  go_wp2_with fail
  go_ret2
  exact ⟨rfl, HB.out⟩
set_option maxRecDepth 100000 in
set_option maxHeartbeats 1000000 in
theorem cRSaveDoes (w : World) (v vb : Value) (c b : List Nat) (cut : Int) (h : RdW w v c) (hb : RdB w vb b) (h8 : 8 ≤ c.length) (hn : c.length < 100000) (hl : ¬ 4 * (((c.length / 2 : Nat) : Int) - 3) < b.length) (hg : (Vlt.newV c 0 (c.length / 2)).2.1 < 4294967295)
    (d a : Nat) (L : List Nat) (ha : a = Vlt.oldV c 0 (c.length / 2) * (c.length / 2)) (hL : L = Vlt.wordsV ((Vlt.newV c 0 (c.length / 2)).2.1 + 1) b)
    (hd : (cut < 0 ∧ d = L.length + 1) ∨ ((L.length : Int) < cut ∧ d = L.length + 1) ∨ (cut = (d : Int) ∧ d ≤ L.length)) :
    Calls Try.prog 32 #[v, vb, .int .i64 cut] w fun e w' => ∃ r, e = .returned (.tuple #[r, .int .i64 (if d < L.length + 1 then 17 else 0)]) ∧ New w w' 48 r (u32s (Vlt.wrote c a L d)) := by
  have HN := hid (cRNewest w v c h h8 hn)
  have HO := hid (fun y hy => cROlder y v c (h.below hy) h8 hn)
  have hlt := Vlt.oldV_lt c 0 (c.length / 2)
  have hLl : L.length = Vlt.room b.length + 3 := by rw [hL, Vlt.wordsV_len]
  have hoh : Vlt.oldV c 0 (c.length / 2) * (c.length / 2) ≤ 1 * (c.length / 2) := Nat.mul_le_mul_right _ (by omega)
  have HC := hid (fun y hy => cRCopy y ((Vlt.newV c 0 (c.length / 2)).2.1 + 1) vb b (by omega) (hb.below hy) (by omega))
  rw [← hL] at HC
  have hz : ((Vlt.oldV c 0 (c.length / 2) : Nat) : Int) * ((c.length / 2 : Nat) : Int) = (a : Int) := by rw [ha, Int.natCast_mul]
  obtain ⟨a1, c1, rfl, hx⟩ := h.open
  obtain ⟨b1, o1, rfl, hy1, hy2⟩ := hx 0 (by omega)
  obtain ⟨a2, c2, rfl, hy3⟩ := hb.open
  clear hy1 hy2 hy3
  obtain ⟨hq0, hcap1, hcap2⟩ := h.1.cap
  clear hq0
  have HR := hid (cRefRoom w c.length (by omega))
  have hdl : decide (4 * ((c.length : Int) / 2 - 3) < (b.length : Int)) = false := decide_eq_false (by omega)
  have HH := hid h
  unfold NewestEnd at HN
  have hm3 : 3 ≤ L.length := by omega
  have hLb : L.length ≤ c.length / 2 := by unfold Vlt.room at hLl; omega
  have hab : a ≤ c.length / 2 := by omega
  clear hb hl ha hLl hoh hlt hL hx h
  generalize newK c = kk at *
  generalize (Vlt.newV c 0 (c.length / 2)).2.2 = bb at *
  generalize (Vlt.newV c 0 (c.length / 2)).2.1 = g at *
  generalize Vlt.oldV c 0 (c.length / 2) = o at *
  generalize hhf : c.length / 2 = half at *
  generalize hnn : c.length = n at *
  have HNL := hid hnn
  clear hnn
  generalize hmm : L.length = m at *
  have HM := hid hmm.symm
  clear hmm
  obtain ⟨i0, hi0, hz0, hz1, hz2⟩ := info_parts info32
  have hgm : ((g : Int) == 4294967295) = false := by simp; omega
  rw [show ((g + 1 : Nat) : Int) = (g : Int) + 1 by omega] at HC
  have hi2 : (n : Int) / 2 = (half : Int) := by omega
  have hdl' := of_decide_eq_false hdl
  rw [hi2] at hdl'
  have hdl2 : decide (4 * ((half : Int) - 3) < (b.length : Int)) = false := decide_eq_false hdl'
  clear hdl hdl'
  have hp0 : 0 ≤ (o : Int) * (half : Int) := by rw [hz]; omega
  have hp1 : (o : Int) * (half : Int) ≤ 1000000 := by rw [hz]; omega
  have HZ := hid hz
  clear hz
  go_enter Try.func32, Try.ntmps32
  go_wp2_with fail
  refine HR.out.mono ?_
  rintro e w1 ⟨rfl, rfl⟩
  go_wp2_with fail
  refine HN.out.mono ?_
  rintro e w1 ⟨bv, rfl, hN⟩
  have HB1 := hid hN.below
  clear hN
  go_wp2_with fail
  refine (HO.out w1 HB1.out).mono ?_
  rintro e w2 ⟨rfl, hb2⟩
  have HB2 := hid (HB1.out.trans (hb2.mono HB1.out.size))
  clear hb2
  go_wp2_with fail
  rw [HZ.out]
  clear hp0 hp1
  refine (HC.out w2 HB2.out).mono ?_
  rintro e w3 ⟨r, rfl, hN⟩
  have hs3 := Sts.new stab0 ((Sts.nil w).quiet stab0 HB2.out) hN
  have HLU : Hid ((u32s L).length = m) := hid (by rw [u32s_len]; exact HM.out.symm)
  rw [HLU.out] at hs3
  obtain ⟨gl, capl, rfl⟩ := own_nonnil (Sts.rowOwn hs3) (by omega)
  have HRL := hid ((Rd.of_own (Sts.rowOwn hs3) HLU.out).cap)
  have HS3 := hid hs3
  have HCN : Hid (∀ j u, (u32s c)[j]? = some u → (w3.alloc (.cells #[] 48)).cell? ((⟨b1, o1, none⟩ : Addr).add j) = some u) := by
    refine hid (fun j u hj => ?_)
    have hbel := hs3.below.alloc hs3.below.size (.cells #[] 48)
    have hlt : j < c.length := by
      rcases Nat.lt_or_ge j (u32s c).length with h | h
      · rw [u32s_len] at h; exact h
      · rw [List.getElem?_eq_none h] at hj; cases hj
    obtain ⟨_, _, ea, hxa⟩ := HH.out.open
    obtain ⟨ba, oa, ea2, hba, hca⟩ := hxa j hlt
    injection ea with ea u1 u2
    rw [← ea] at ea2
    injection ea2 with ea2
    injection ea2 with k1 k2 _
    subst k1
    subst k2
    rw [plain_add, hbel.cell hba, hca]
    simp only [u32s, List.getElem?_map, List.getElem?_eq_getElem hlt] at hj
    simpa using hj
  have hso : Sts w [rowP 48 1 (.slice (some ⟨w3.heap.size, 0, none⟩) 0 0) 0 (u32s []), rowP 48 1 (.slice (some ⟨gl, 0, none⟩) m capl) m (u32s L)] (w3.alloc (.cells #[] 48)) :=
    (hs3.alloc (stab1 (rowP_stable _ _ _ _ _)) (.cells #[] 48)).weaken (fun F h => blkP.row h (by simp))
  have HSO0 := hid hso
  have HNU : Hid ((u32s c).length = n * 1) := hid (by rw [u32s_len, HNL.out, Nat.mul_one])
  clear hso hs3 hN HS3
  rcases hd with ⟨hc, hdm⟩ | ⟨hc, hdm⟩ | ⟨hc, hdm⟩
  · subst hdm
    go_wp2_with (at_builtin; refine wpList_append_own_at _ rfl (.tmp 43) (.tmp 44) 22 rfl 0 48 i0 (.int .u32 0) 1 4 Try.underlying22 hi0 hz0 hz1 hz2 rfl (by decide) (.slice (some ⟨w3.heap.size, 0, none⟩) 0 0) 0 (u32s []) rfl (Sts.rowOwn HSO0.out) ⟨b1, o1, none⟩ n c1 (u32s c) rfl HNU.out HCN.out (u32s_one c) (by unfold maxLen; omega) (by omega) (Nat.zero_le _) ?_; intro v1 w5 hown hgr _ hblk)
    have hso := Sts.grown (stab1 (rowP_stable _ _ _ _ _)) HSO0.out hgr hown (by
      intro q' hq
      rcases hblk with h | h
      · exact Or.inl (h ▸ hq)
      · rw [h] at hq; injection hq with hq; exact Or.inr (by omega))
    rw [Nat.zero_add, show u32s [] ++ u32s c = u32s c from rfl] at hso
    obtain ⟨go, capo, rfl⟩ := own_nonnil (Sts.rowOwn hso) (by omega)
    have hco := (Rd.of_own (Sts.rowOwn hso) (by rw [u32s_len]; exact HNL.out)).cap
    have hcl := HRL.out
    obtain ⟨u1, hco1, hco2⟩ := hco
    obtain ⟨u2, hcl1, hcl2⟩ := hcl
    clear u1 u2
    unfold maxLen at hco2 hcl2
    have HSO := hid hso
    clear hso hown hgr hblk
    go_loopw [15] (fun i wr => ∃ k : Nat, k ≤ m ∧ i = .int .i64 k ∧ Sts w [rowP 48 1 (.slice (some ⟨go, 0, none⟩) n capo) n (u32s (Vlt.rput c a L k)), rowP 48 1 (.slice (some ⟨gl, 0, none⟩) m capl) m (u32s L)] wr) (fun i _ => m - (intOf i).toNat)
    case atStart => exact ⟨0, by omega, rfl, HSO.out⟩
    case round =>
      obtain ⟨k, hk, rfl, hs⟩ := hrel
      by_cases hlt : k < m
      · have hkm : k < m := by omega
        have hkL : k < L.length := by have := HM.out; omega
        have hsc : Vlt.rput c a L (k + 1) = (Vlt.rput c a L k).set (a + k) (L.getD k 0) := rfl
        have hlen : (u32s (Vlt.rput c a L k)).length = n := by rw [u32s_len, Vlt.rput_len]; exact HNL.out
        obtain ⟨old, hold⟩ : ∃ old, (u32s (Vlt.rput c a L k))[a + k]? = some old := ⟨_, List.getElem?_eq_getElem (by rw [hlen]; omega)⟩
        have c0 := Sts.rowCell hs (a + k) (by omega) _ hold
        have f0 := Sts.rowFree hs (a + k)
        have c1 := Sts.rowCell hs.swap k (by omega) (.int .u32 (L.getD k 0 : Nat)) (by simp [u32s, List.getD_eq_getElem?_getD, List.getElem?_eq_getElem hkL])
        have HST := hid (Sts.rowStore (stab1 (rowP_stable _ _ _ _ _)) hs (a + k) (.int .u32 (L.getD k 0 : Nat)))
        have HSC : Hid ((u32s (Vlt.rput c a L k)).set (a + k) (.int .u32 (L.getD k 0 : Nat)) = u32s (Vlt.rput c a L (k + 1))) := hid (by rw [hsc]; simp [u32s, List.map_set])
        clear hsc hlen hold hs
        generalize L.getD k 0 = x at *
        have b1 : ((a : Int) + (k : Int)).toNat = a + k := by omega
        have b2 : (a : Int) + (k : Int) < (n : Int) := by omega
        have b3 : (0 : Int) ≤ (a : Int) + (k : Int) := by omega
        have b4 : decide ((k : Int) < (m : Int) + 1) = true := decide_eq_true (by omega)
        have b5 : decide ((k : Int) < (m : Int)) = true := decide_eq_true (by omega)
        go_wp2_with fail
        go_roundw
        case rel => exact ⟨k + 1, by omega, by go_num, by rw [← HSC.out]; exact HST.out⟩
        case measure => simp [intOf]; omega
      · obtain rfl : m = k := by omega
        have hlen : (u32s (Vlt.rput c a L m)).length = n := by rw [u32s_len, Vlt.rput_len]; exact HNL.out
        have hneg := Sts.rowsApart hs
        obtain ⟨old, hold⟩ : ∃ old, (u32s (Vlt.rput c a L m))[a]? = some old := ⟨_, List.getElem?_eq_getElem (by rw [hlen]; omega)⟩
        have c0 := Sts.rowCell hs a (by omega) _ hold
        have f0 := Sts.rowFree hs a
        have c1 := Sts.rowCell hs.swap 0 (by omega) (.int .u32 (L.getD 0 0 : Nat)) (by simp [u32s, List.getD_eq_getElem?_getD, List.getElem?_eq_getElem (show 0 < L.length by have := HM.out; omega)])
        have HST := hid (Sts.rowStore (stab1 (rowP_stable _ _ _ _ _)) (Sts.rowStore (stab1 (rowP_stable _ _ _ _ _)) hs a (.int .u32 ((0 : Nat) : Int))) a (.int .u32 (L.getD 0 0 : Nat)))
        have HSC : Hid (((u32s (Vlt.rput c a L m)).set a (.int .u32 ((0 : Nat) : Int))).set a (.int .u32 (L.getD 0 0 : Nat)) = u32s (Vlt.wrote c a L (m + 1))) := by
          have e := Vlt.rput_all c a L (by have := HM.out; omega)
          rw [← HM.out] at e
          rw [← e]
          exact hid (by simp [u32s, List.map_set])
        clear hlen hold hs
        generalize L.getD 0 0 = x at *
        have b1 : decide ((0 : Int) < (m : Int) + 1) = true := decide_eq_true (by omega)
        have b2 : decide ((m : Int) < (m : Int) + 1) = true := decide_eq_true (by omega)
        have b3 : decide ((m : Int) < (m : Int)) = false := decide_eq_false (by omega)
        have hm0 : 0 < m := by omega
        have ha0 : a < n := by omega
        go_wp2_with fail
        go_ret2
        refine ⟨_, rfl, ?_⟩
        have h7 := HST.out
        rw [HSC.out] at h7
        exact Sts.isNew h7 (by rw [u32s_len, Vlt.wrote_len]; exact HNL.out)
  · subst hdm
    go_wp2_with (at_builtin; refine wpList_append_own_at _ rfl (.tmp 43) (.tmp 44) 22 rfl 0 48 i0 (.int .u32 0) 1 4 Try.underlying22 hi0 hz0 hz1 hz2 rfl (by decide) (.slice (some ⟨w3.heap.size, 0, none⟩) 0 0) 0 (u32s []) rfl (Sts.rowOwn HSO0.out) ⟨b1, o1, none⟩ n c1 (u32s c) rfl HNU.out HCN.out (u32s_one c) (by unfold maxLen; omega) (by omega) (Nat.zero_le _) ?_; intro v1 w5 hown hgr _ hblk)
    have hso := Sts.grown (stab1 (rowP_stable _ _ _ _ _)) HSO0.out hgr hown (by
      intro q' hq
      rcases hblk with h | h
      · exact Or.inl (h ▸ hq)
      · rw [h] at hq; injection hq with hq; exact Or.inr (by omega))
    rw [Nat.zero_add, show u32s [] ++ u32s c = u32s c from rfl] at hso
    obtain ⟨go, capo, rfl⟩ := own_nonnil (Sts.rowOwn hso) (by omega)
    have hco := (Rd.of_own (Sts.rowOwn hso) (by rw [u32s_len]; exact HNL.out)).cap
    have hcl := HRL.out
    obtain ⟨u1, hco1, hco2⟩ := hco
    obtain ⟨u2, hcl1, hcl2⟩ := hcl
    clear u1 u2
    unfold maxLen at hco2 hcl2
    have HSO := hid hso
    clear hso hown hgr hblk
    go_loopw [15] (fun i wr => ∃ k : Nat, k ≤ m ∧ i = .int .i64 k ∧ Sts w [rowP 48 1 (.slice (some ⟨go, 0, none⟩) n capo) n (u32s (Vlt.rput c a L k)), rowP 48 1 (.slice (some ⟨gl, 0, none⟩) m capl) m (u32s L)] wr) (fun i _ => m - (intOf i).toNat)
    case atStart => exact ⟨0, by omega, rfl, HSO.out⟩
    case round =>
      obtain ⟨k, hk, rfl, hs⟩ := hrel
      by_cases hlt : k < m
      · have hkm : k < m := by omega
        have hkL : k < L.length := by have := HM.out; omega
        have hsc : Vlt.rput c a L (k + 1) = (Vlt.rput c a L k).set (a + k) (L.getD k 0) := rfl
        have hlen : (u32s (Vlt.rput c a L k)).length = n := by rw [u32s_len, Vlt.rput_len]; exact HNL.out
        obtain ⟨old, hold⟩ : ∃ old, (u32s (Vlt.rput c a L k))[a + k]? = some old := ⟨_, List.getElem?_eq_getElem (by rw [hlen]; omega)⟩
        have c0 := Sts.rowCell hs (a + k) (by omega) _ hold
        have f0 := Sts.rowFree hs (a + k)
        have c1 := Sts.rowCell hs.swap k (by omega) (.int .u32 (L.getD k 0 : Nat)) (by simp [u32s, List.getD_eq_getElem?_getD, List.getElem?_eq_getElem hkL])
        have HST := hid (Sts.rowStore (stab1 (rowP_stable _ _ _ _ _)) hs (a + k) (.int .u32 (L.getD k 0 : Nat)))
        have HSC : Hid ((u32s (Vlt.rput c a L k)).set (a + k) (.int .u32 (L.getD k 0 : Nat)) = u32s (Vlt.rput c a L (k + 1))) := hid (by rw [hsc]; simp [u32s, List.map_set])
        clear hsc hlen hold hs
        generalize L.getD k 0 = x at *
        have b1 : ((a : Int) + (k : Int)).toNat = a + k := by omega
        have b2 : (a : Int) + (k : Int) < (n : Int) := by omega
        have b3 : (0 : Int) ≤ (a : Int) + (k : Int) := by omega
        have b4 : decide ((k : Int) < (m : Int) + 1) = true := decide_eq_true (by omega)
        have b5 : decide ((k : Int) < (m : Int)) = true := decide_eq_true (by omega)
        go_wp2_with fail
        go_roundw
        case rel => exact ⟨k + 1, by omega, by go_num, by rw [← HSC.out]; exact HST.out⟩
        case measure => simp [intOf]; omega
      · obtain rfl : m = k := by omega
        have hlen : (u32s (Vlt.rput c a L m)).length = n := by rw [u32s_len, Vlt.rput_len]; exact HNL.out
        have hneg := Sts.rowsApart hs
        obtain ⟨old, hold⟩ : ∃ old, (u32s (Vlt.rput c a L m))[a]? = some old := ⟨_, List.getElem?_eq_getElem (by rw [hlen]; omega)⟩
        have c0 := Sts.rowCell hs a (by omega) _ hold
        have f0 := Sts.rowFree hs a
        have c1 := Sts.rowCell hs.swap 0 (by omega) (.int .u32 (L.getD 0 0 : Nat)) (by simp [u32s, List.getD_eq_getElem?_getD, List.getElem?_eq_getElem (show 0 < L.length by have := HM.out; omega)])
        have HST := hid (Sts.rowStore (stab1 (rowP_stable _ _ _ _ _)) (Sts.rowStore (stab1 (rowP_stable _ _ _ _ _)) hs a (.int .u32 ((0 : Nat) : Int))) a (.int .u32 (L.getD 0 0 : Nat)))
        have HSC : Hid (((u32s (Vlt.rput c a L m)).set a (.int .u32 ((0 : Nat) : Int))).set a (.int .u32 (L.getD 0 0 : Nat)) = u32s (Vlt.wrote c a L (m + 1))) := by
          have e := Vlt.rput_all c a L (by have := HM.out; omega)
          rw [← HM.out] at e
          rw [← e]
          exact hid (by simp [u32s, List.map_set])
        clear hlen hold hs
        generalize L.getD 0 0 = x at *
        have b1 : decide ((0 : Int) < (m : Int) + 1) = true := decide_eq_true (by omega)
        have b2 : decide ((m : Int) < (m : Int) + 1) = true := decide_eq_true (by omega)
        have b3 : decide ((m : Int) < (m : Int)) = false := decide_eq_false (by omega)
        have hm0 : 0 < m := by omega
        have ha0 : a < n := by omega
        go_wp2_with fail
        go_ret2
        refine ⟨_, rfl, ?_⟩
        have h7 := HST.out
        rw [HSC.out] at h7
        exact Sts.isNew h7 (by rw [u32s_len, Vlt.wrote_len]; exact HNL.out)
  · subst hc
    go_wp2_with (at_builtin; refine wpList_append_own_at _ rfl (.tmp 43) (.tmp 44) 22 rfl 0 48 i0 (.int .u32 0) 1 4 Try.underlying22 hi0 hz0 hz1 hz2 rfl (by decide) (.slice (some ⟨w3.heap.size, 0, none⟩) 0 0) 0 (u32s []) rfl (Sts.rowOwn HSO0.out) ⟨b1, o1, none⟩ n c1 (u32s c) rfl HNU.out HCN.out (u32s_one c) (by unfold maxLen; omega) (by omega) (Nat.zero_le _) ?_; intro v1 w5 hown hgr _ hblk)
    have hso := Sts.grown (stab1 (rowP_stable _ _ _ _ _)) HSO0.out hgr hown (by
      intro q' hq
      rcases hblk with h | h
      · exact Or.inl (h ▸ hq)
      · rw [h] at hq; injection hq with hq; exact Or.inr (by omega))
    rw [Nat.zero_add, show u32s [] ++ u32s c = u32s c from rfl] at hso
    obtain ⟨go, capo, rfl⟩ := own_nonnil (Sts.rowOwn hso) (by omega)
    have hco := (Rd.of_own (Sts.rowOwn hso) (by rw [u32s_len]; exact HNL.out)).cap
    have hcl := HRL.out
    obtain ⟨u1, hco1, hco2⟩ := hco
    obtain ⟨u2, hcl1, hcl2⟩ := hcl
    clear u1 u2
    unfold maxLen at hco2 hcl2
    have HSO := hid hso
    clear hso hown hgr hblk
    go_loopw [15] (fun i wr => ∃ k : Nat, k ≤ d ∧ i = .int .i64 k ∧ Sts w [rowP 48 1 (.slice (some ⟨go, 0, none⟩) n capo) n (u32s (Vlt.rput c a L k)), rowP 48 1 (.slice (some ⟨gl, 0, none⟩) m capl) m (u32s L)] wr) (fun i _ => d - (intOf i).toNat)
    case atStart => exact ⟨0, by omega, rfl, HSO.out⟩
    case round =>
      obtain ⟨k, hk, rfl, hs⟩ := hrel
      by_cases hlt : k < d
      · have hkm : k < m := by omega
        have hkL : k < L.length := by have := HM.out; omega
        have hsc : Vlt.rput c a L (k + 1) = (Vlt.rput c a L k).set (a + k) (L.getD k 0) := rfl
        have hlen : (u32s (Vlt.rput c a L k)).length = n := by rw [u32s_len, Vlt.rput_len]; exact HNL.out
        obtain ⟨old, hold⟩ : ∃ old, (u32s (Vlt.rput c a L k))[a + k]? = some old := ⟨_, List.getElem?_eq_getElem (by rw [hlen]; omega)⟩
        have c0 := Sts.rowCell hs (a + k) (by omega) _ hold
        have f0 := Sts.rowFree hs (a + k)
        have c1 := Sts.rowCell hs.swap k (by omega) (.int .u32 (L.getD k 0 : Nat)) (by simp [u32s, List.getD_eq_getElem?_getD, List.getElem?_eq_getElem hkL])
        have HST := hid (Sts.rowStore (stab1 (rowP_stable _ _ _ _ _)) hs (a + k) (.int .u32 (L.getD k 0 : Nat)))
        have HSC : Hid ((u32s (Vlt.rput c a L k)).set (a + k) (.int .u32 (L.getD k 0 : Nat)) = u32s (Vlt.rput c a L (k + 1))) := hid (by rw [hsc]; simp [u32s, List.map_set])
        clear hsc hlen hold hs
        generalize L.getD k 0 = x at *
        have b1 : ((a : Int) + (k : Int)).toNat = a + k := by omega
        have b2 : (a : Int) + (k : Int) < (n : Int) := by omega
        have b3 : (0 : Int) ≤ (a : Int) + (k : Int) := by omega
        have b4 : decide ((k : Int) < (d : Int)) = true := decide_eq_true (by omega)
        have b5 : decide ((k : Int) < (m : Int)) = true := decide_eq_true (by omega)
        go_wp2_with fail
        go_roundw
        case rel => exact ⟨k + 1, by omega, by go_num, by rw [← HSC.out]; exact HST.out⟩
        case measure => simp [intOf]; omega
      · obtain rfl : d = k := by omega
        by_cases hd0 : d = 0
        · subst hd0
          have HS := hid hs
          clear hs
          go_wp2_with fail
          go_ret2
          exact ⟨_, rfl, Sts.isNew HS.out (by rw [u32s_len]; exact HNL.out)⟩
        · have hlen : (u32s (Vlt.rput c a L d)).length = n := by rw [u32s_len, Vlt.rput_len]; exact HNL.out
          obtain ⟨old, hold⟩ : ∃ old, (u32s (Vlt.rput c a L d))[a]? = some old := ⟨_, List.getElem?_eq_getElem (by rw [hlen]; omega)⟩
          have c0 := Sts.rowCell hs a (by omega) _ hold
          have f0 := Sts.rowFree hs a
          have HST := hid (Sts.rowStore (stab1 (rowP_stable _ _ _ _ _)) hs a (.int .u32 ((0 : Nat) : Int)))
          have HSC : Hid ((u32s (Vlt.rput c a L d)).set a (.int .u32 ((0 : Nat) : Int)) = u32s (Vlt.wrote c a L d)) := by
            have e := Vlt.rput_wrote c a L d (by omega) (by have := HM.out; omega)
            rw [← e]
            exact hid (by simp [u32s, List.map_set])
          clear hlen hold hs
          have b1 : decide ((0 : Int) < (d : Int)) = true := decide_eq_true (by omega)
          have b2 : decide ((d : Int) < (d : Int)) = false := decide_eq_false (by omega)
          have b3 : decide ((m : Int) < (d : Int)) = false := decide_eq_false (by omega)
          have ha0 : a < n := by omega
          go_wp2_with fail
          go_ret2
          refine ⟨_, rfl, ?_⟩
          have h7 := HST.out
          rw [HSC.out] at h7
          exact Sts.isNew h7 (by rw [u32s_len, Vlt.wrote_len]; exact HNL.out)
end Go.Proofs.Ytdboplkgnnidcaa
namespace Go.Proofs.Ytdboplkgnnidcaa
open Go.RowKit Go.Proofs.Num
theorem cRSave (w : World) (v vb : Value) (c b : List Nat) (cut : Int) (h : RdW w v c) (hb : RdB w vb b) (h8 : 8 ≤ c.length) (hn : c.length < 100000) :
    Calls Try.prog 32 #[v, vb, .int .i64 cut] w (RSaveEnd w v c b cut) := by
  have hE : ∀ x r e w', Vlt.saveV c 0 (c.length / 2) b cut = x → e = Ending.returned (.tuple #[r, .int .i64 (x.1 : Nat)]) → ((r = v ∧ x.2 = c ∧ Below w.heap.size w w') ∨ New w w' 48 r (u32s x.2)) → RSaveEnd w v c b cut e w' := by
    rintro x r e w' rfl h1 h2; exact ⟨r, h1, h2⟩
  by_cases h1 : 4 * (((c.length / 2 : Nat) : Int) - 3) < b.length
  · refine (cRSaveLong w v vb c b cut h hb h8 hn h1).mono ?_
    rintro e w' ⟨he, hs'⟩
    exact hE (6, c) v e w' (by unfold Vlt.saveV; rw [if_pos h1]) he (Or.inl ⟨rfl, rfl, hs'⟩)
  · have hgb := Vlt.newV_bound c 0 (c.length / 2) h.2
    by_cases h2 : 4294967295 ≤ (Vlt.newV c 0 (c.length / 2)).2.1
    · refine (cRSaveFull w v vb c b cut h hb h8 hn h1 (by omega)).mono ?_
      rintro e w' ⟨he, hs'⟩
      exact hE (7, c) v e w' (by unfold Vlt.saveV; rw [if_neg h1, if_pos h2]) he (Or.inl ⟨rfl, rfl, hs'⟩)
    · refine (cRSaveDoes w v vb c b cut h hb h8 hn h1 (by omega) (Vlt.doneV (Vlt.wordsV ((Vlt.newV c 0 (c.length / 2)).2.1 + 1) b).length cut) (0 + Vlt.oldV c 0 (c.length / 2) * (c.length / 2)) _ (Nat.zero_add _) rfl ?_).mono ?_
      · unfold Vlt.doneV
        split <;> omega
      · rintro e w' ⟨r, he, hs'⟩
        refine hE _ r e w' (by unfold Vlt.saveV; rw [if_neg h1, if_neg h2]) ?_ (Or.inr hs')
        rw [he]; simp only []; split <;> rfl
set_option maxRecDepth 100000 in
theorem cLSame (w : World) (v1 v2 : Value) (l m : List Nat) (h1 : RdW w v1 l) (h2 : RdW w v2 m) (hn : l.length < 100000000) :
    Calls Try.prog 34 #[v1, v2] w fun e w' => e = .returned (.bool (decide (l = m))) ∧ Below w.heap.size w w' := by
  obtain ⟨a, cap, rfl, hx⟩ := h1.open
  obtain ⟨b, cap2, rfl, hy⟩ := h2.open
  have HX := hid hx
  have HY := hid hy
  clear h1 h2 hx hy
  by_cases hl : l.length = m.length
  · rw [← hl]
    go_enter Try.func34, Try.ntmps34
    go_wp2_with fail
    go_loopw [5] (fun i wr => ∃ k : Nat, k ≤ l.length ∧ i = .int .i64 k ∧ l.take k = m.take k ∧ Below w.heap.size w wr) (fun i _ => l.length - (intOf i).toNat)
    case atStart => exact ⟨0, by omega, rfl, rfl, Below.refl _ _⟩
    case round =>
      obtain ⟨k, hk, rfl, he, hbel⟩ := hrel
      have HE := hid he
      clear he
      by_cases hlt : k < l.length
      · have hlt2 : k < m.length := by omega
        obtain ⟨b1, o1, rfl, hb1, hc1⟩ := HX.out k hlt
        obtain ⟨b2, o2, rfl, hb2, hc2⟩ := HY.out k hlt2
        rw [← hbel.cell hb1] at hc1
        rw [← hbel.cell hb2] at hc2
        have HT : Hid (l[k] = m[k] → l.take (k + 1) = m.take (k + 1)) := by
          refine hid fun h => ?_
          rw [List.take_succ_eq_append_getElem hlt, List.take_succ_eq_append_getElem hlt2, h, HE.out]
        have HN : Hid (l[k] ≠ m[k] → l ≠ m) := hid (take_succ_ne k hlt hlt2)
        generalize l[k] = x at *
        generalize m[k] = y at *
        by_cases hxy : (x : Int) = (y : Int)
        · go_wp2_with fail
          go_quiet (fail)
          go_wp2_with fail
          go_roundw
          case rel => exact ⟨k + 1, by omega, by go_num, HT.out (by omega), below_drewN hbel _⟩
          case measure => simp [intOf]; omega
        · go_wp2_with fail
          go_quiet (fail)
          go_wp2_with fail
          go_ret
          have := HN.out (by omega)
          exact ⟨by simp [this], below_drewN hbel _⟩
      · have e : l = m := by
          have := HE.out
          rwa [List.take_of_length_le (by omega), List.take_of_length_le (by omega)] at this
        have H1 := hid e
        clear e
        go_wp2_with fail
        go_ret
        exact ⟨by simp [H1.out], hbel⟩
  · have hne : (l.length : Int) ≠ (m.length : Int) := by omega
    go_enter Try.func34, Try.ntmps34
    go_wp2_with fail
    go_ret
    have : l ≠ m := fun e => hl (by rw [e])
    exact ⟨by simp [this], Below.refl _ _⟩
def WordsEnd (W : World) (p K : Nat) (M : List Nat) (l : List HProp) (at' n : Nat) (e : Ending) (w' : World) : Prop :=
  ∃ r, e = .returned r ∧ Sts W (rowP 48 1 r n (u32s ((M.drop at').take n)) :: wordP p K M :: l) w'
set_option maxRecDepth 100000 in
theorem cLWords {W w : World} {l : List HProp} (hl : ∀ B ∈ l, Stable B) (p K : Nat) (M : List Nat) (hK : K < 100000000000) (at' n : Nat) (hat : at' + n ≤ M.length) (hw : M.length ≤ 65536) (hs : Sts W (wordP p K M :: l) w) :
    Calls Try.prog 35 #[.pointer (some ⟨p, 0, none⟩), .int .i64 at', .int .i64 n] w (WordsEnd W p K M l at' n) := by
  have hst : ∀ B ∈ wordP p K M :: l, Stable B := stabC (wordP_stable _ _ _) hl
  have HS := hid hs
  have hval : ∀ x ∈ M, x < 4294967296 := by
    obtain ⟨F, hF⟩ := hs.head
    exact wordP.val hF
  have HV := hid hval
  clear hs hval
  obtain ⟨i0, hi0, hz0, hz1, hz2⟩ := info_parts info32
  go_enter Try.func35, Try.ntmps35
  go_wp2_with fail
  go_loopw [7, 8] (fun v i wr => ∃ c : Nat, c ≤ n ∧ i = .int .i64 c ∧ Sts W (rowP 48 1 v c (u32s ((M.drop at').take c)) :: wordP p K M :: l) wr) (fun _ i _ => n - (intOf i).toNat)
  case atStart => exact ⟨0, by omega, rfl, HS.out.rowNil _⟩
  case round =>
    obtain ⟨c, hct, rfl, hs⟩ := hrel
    by_cases hlt : c < n
    · have hR := wRead (p := p) (want := M) hK (at' + c) (by omega)
      rw [show (((at' + c : Nat)) : Int) = (at' : Int) + (c : Int) by omega] at hR
      have HR2 := hid hR
      have HS4 := hid hs.swap
      clear hR hs
      have HSTEP : Hid ((M.drop at').take (c + 1) = (M.drop at').take c ++ [M.getD (at' + c) 0]) := by
        refine hid ?_
        rw [List.take_succ_eq_append_getElem (by simp; omega)]
        simp [List.getD_eq_getElem?_getD, show at' + c < M.length by omega]
      have hxb : M.getD (at' + c) 0 < 4294967296 := by
        rw [List.getD_eq_getElem?_getD, List.getElem?_eq_getElem (by omega)]
        exact HV.out _ (List.getElem_mem _)
      generalize M.getD (at' + c) 0 = x at *
      generalize (M.drop at').take c = xs at *
      go_wp2_with fail
      refine (Sts.callV (stabC (rowP_stable _ _ _ _ _) hl) HS4.out HR2.out).mono ?_
      rintro e w4 ⟨rfl, hs4⟩
      have H6 := hid (Sts.box (stabC (rowP_stable _ _ _ _ _) hst) (Sts.swap hs4) (.cells #[.int .u32 (x : Nat)] 48))
      clear hs4 HS4
      go_wp2_with (at_builtin; refine wpList_append_own_at _ rfl (.tmp 26) (.tmp 28) 22 rfl 0 48 i0 (.int .u32 0) 1 4 Try.underlying22 hi0 hz0 hz1 hz2 rfl (by decide) u7 c (u32s xs) rfl (Sts.rowOwn H6.out) ⟨w4.heap.size, 0, none⟩ 1 1 [.int .u32 (x : Nat)] rfl rfl (cell_one_new _ _ _) (by intro u hu; simp at hu; subst hu; rfl) (by unfold maxLen; omega) (by omega) (Nat.zero_le _) ?_; intro v1 w5 hown hgr _ hblk)
      have H7 := hid (Sts.grown hst H6.out hgr hown (by
        intro q' hq
        rcases hblk with h | h
        · exact Or.inl (h ▸ hq)
        · rw [h] at hq; injection hq with hq; exact Or.inr (by omega)))
      clear hown hgr hblk
      go_roundw
      case rel =>
        refine ⟨c + 1, by omega, by go_num, ?_⟩
        rw [HSTEP.out, show u32s (xs ++ [x]) = u32s xs ++ [.int .u32 (x : Nat)] by simp [u32s]]
        exact H7.out
      case measure => simp [intOf]; omega
    · obtain rfl : c = n := by omega
      have HF := hid hs
      clear hs
      go_wp2_with fail
      go_ret
      exact ⟨_, rfl, HF.out⟩
end Go.Proofs.Ytdboplkgnnidcaa
