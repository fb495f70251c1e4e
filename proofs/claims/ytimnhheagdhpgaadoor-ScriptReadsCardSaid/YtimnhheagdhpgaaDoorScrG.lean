/- Writing byte strings. -/
import Derived.Test.YtimnhheagdhpgaaDoorScrF
import Derived.Test.YtimnhheagdhpgaaDoorQuietTail
import Derived.Deep.RegionHeld3
import Derived.Deep.AppendLies
import Derived.Deep.DrawnRows
import Derived.WalkSpells
import Derived.Outline
set_option linter.unusedVariables false
set_option linter.unusedSimpArgs false
namespace Go.Proofs.YtimnhheagdhpgaaDoor
open Go.RowKit Go.Proofs.Num Scr
theorem hexB_app : ∀ (a b : List UInt8), hexB (a ++ b) = hexB a ++ hexB b
  | [], b => rfl
  | c :: r, b => by simp only [List.cons_append, hexB, hexB_app r b]
theorem hexB_take (b : List UInt8) (k : Nat) (h : k < b.length) : hexB (b.take (k + 1)) = hexB (b.take k) ++ [hexC (b[k].toNat / 16), hexC (b[k].toNat % 16)] := by
  rw [List.take_succ_eq_append_getElem h, hexB_app]; rfl
def digs : ByteArray := ⟨#[48, 49, 50, 51, 52, 53, 54, 55, 56, 57, 97, 98, 99, 100, 101, 102]⟩
theorem digs_at (n : Nat) (h : n < 16) : (bs digs).getD n 0 = hexC n := by
  have : ∀ i : Fin 16, (bs digs).getD i.val 0 = hexC i.val := by decide
  exact this ⟨n, h⟩
theorem run_digit (n : Nat) (h : n < 16) (x : World) : (Instr.index 9 (.string ⟨#[48, 49, 50, 51, 52, 53, 54, 55, 56, 57, 97, 98, 99, 100, 101, 102]⟩) (.int .u8 (n : Int))).run Tryd.prog x = .ok (.int .u8 ((hexC n).toNat : Int)) x := by
  show (Instr.index 9 (.string digs) (.int .u8 (n : Int))).run Tryd.prog x = _
  rw [run_index_string x 9 digs .u8 (n : Int) Tryd.underlying9, dif_pos ⟨by omega, by show (n : Int) < (16 : Nat); omega⟩]
  congr 3
  have := digs_at n h
  rw [List.getD_eq_getElem?_getD, List.getElem?_eq_getElem (show n < (bs digs).length from h)] at this
  exact congrArg UInt8.toNat this
theorem and15 (c : Nat) (h : c < 256) : bits .and .u8 (c : Int) 15 = (c : Int) % 16 := by
  have : ∀ i : Fin 256, bits .and .u8 (i.val : Int) 15 = (i.val : Int) % 16 := by decide +kernel
  exact this ⟨c, h⟩
def u8v (l : List UInt8) : List Value := u8s (nb l)
theorem u8v_len (l : List UInt8) : (u8v l).length = l.length := by simp [u8v, u8s_len, nb_len]
theorem u8v_app (a b : List UInt8) : u8v (a ++ b) = u8v a ++ u8v b := by simp [u8v, u8s, nb]
theorem u8v_one (l : List UInt8) : ∀ u ∈ u8v l, u.oneCell' = true := by
  intro u hu
  simp only [u8v, u8s, List.mem_map] at hu
  obtain ⟨x, _, rfl⟩ := hu
  rfl
theorem news_blk {w : World} {b : Nat} {cs : Array Value} {t : TypeId} {news : List Value} (h : w.heap[b]? = some (.cells cs t (0, 0))) (hn : cs.toList = news) : ∀ j u, news[j]? = some u → w.cell? ((⟨b, 0, none⟩ : Addr).add j) = some u := by
  intro j u hu
  subst hn
  have e : ((⟨b, 0, none⟩ : Addr).add j) = ⟨b, j, none⟩ := by
    cases j with
    | zero => rfl
    | succ j => simp [Addr.add]
  rw [e]
  exact cell_blk h (by simpa using hu)
section
variable {w : World}
set_option maxRecDepth 100000 in
set_option maxHeartbeats 8000000 in
theorem cHex (a : Option Addr) (cap : Nat) (b : List UInt8) (hr : Rd w (.slice a b.length cap) (u8v b)) (hn : b.length < 100000000) : Calls Tryd.prog 46 #[.slice a b.length cap] w fun e w' => e = .returned (.string ⟨(hexV b).toArray⟩) ∧ Below w.heap.size w w' := by
  have HR := hid hr
  clear hr
  obtain ⟨N, hN⟩ : ∃ N, N = b.length := ⟨_, rfl⟩
  rw [← hN] at HR hn ⊢
  have HN := hid hN
  clear hN
  obtain ⟨i0, hi, hz0, hz1, hz2⟩ := info_parts eltByte.i
  have hS0 : Hid ((w.alloc (.cells #[.int .u8 120] 5)).ownsRow w.heap.size 5 1 (.slice (some ⟨w.heap.size, 0, none⟩) 1 1) 1 (u8v [120])) := hid ⟨rfl, Or.inr ⟨_, _, _, rfl, Nat.le_refl _, heap_new w _ rfl, Nat.le_refl _, by decide, rfl, rfl⟩⟩
  go_enter Tryd.func46, Tryd.ntmps46
  go_wp2_with fail
  go_loopw [3, 9] (fun r i wr => ∃ k : Nat, k ≤ N ∧ i = .int .i64 k ∧ Hid (wr.ownsRow w.heap.size 5 1 r (1 + 2 * k) (u8v (120 :: hexB (b.take k))) ∧ Below w.heap.size w wr)) (fun _ i _ => N - (intOf i).toNat)
  case atStart => exact ⟨0, by omega, rfl, hid ⟨hS0.out, (Below.refl _ _).alloc (Nat.le_refl _) _⟩⟩
  case round =>
    obtain ⟨k, hk, rfl, HS⟩ := hrel
    by_cases hlt : k < N
    · obtain ⟨hown, hbel⟩ := HS.out
      have hkb : k < b.length := by rw [← HN.out]; exact hlt
      obtain ⟨a', c', e', hcap, hx⟩ := HR.out
      injection e' with e1 e2 e3
      subst e1
      obtain ⟨bb, off, rfl, hb1, hb2⟩ := hx k (by rw [u8v_len]; exact hkb)
      have hcell : wr.cell? ⟨bb, off + k, none⟩ = some (.int .u8 (b[k].toNat : Int)) := by
        rw [hbel.cell hb1, hb2]; simp [u8v, u8s, nb]
      have HT := hid (hexB_take b k hkb)
      have hc256 := b[k].toNat_lt
      obtain ⟨c, hc⟩ : ∃ c, c = b[k].toNat := ⟨_, rfl⟩
      rw [← hc] at hcell HT hc256
      obtain ⟨ys, hys⟩ : ∃ ys, ys = 120 :: hexB (b.take k) := ⟨_, rfl⟩
      have HY := hid hys
      rw [← hys] at hown
      have hd1 := run_digit (c / 16) (by omega)
      have hd2 := run_digit (c % 16) (by omega)
      have hq1 : ((c / 16 : Nat) : Int) = (c : Int) / 16 := by omega
      have hq2 : ((c % 16 : Nat) : Int) = (c : Int) % 16 := by omega
      rw [hq1] at hd1
      rw [hq2] at hd2
      obtain ⟨d1, hd1e⟩ : ∃ d1, d1 = hexC (c / 16) := ⟨_, rfl⟩
      obtain ⟨d2, hd2e⟩ : ∃ d2, d2 = hexC (c % 16) := ⟨_, rfl⟩
      rw [← hd1e] at hd1 HT
      rw [← hd2e] at hd2 HT
      have hsz := hbel.size
      have HA := hid hown
      have HB := hid hbel
      have hk0 : (0 : Int) ≤ (k : Int) := Int.natCast_nonneg _
      clear hown hx e2 e3 hcap hb1 hb2 hc hys hq1 hq2 hd1e hd2e HS hbel
      have h15 := and15 c hc256
      have hys2 : ys.length = 1 + 2 * k := by rw [HY.out]; simp [hexB_len]; omega
      have hlen1 : (1 + 2 * k) + 2 < 1000000000 := by omega
      have hc0 : (0 : Int) ≤ (c : Int) := Int.natCast_nonneg _
      have HYL := hid hys2
      clear hys2
      go_wp2_with fail
      go_region_held3 (fun w' => True)
        (first | go_keep | trivial)
        ((refine step_append_lies _ (by rfl) _ _ _ (by rfl) w.heap.size 5 i0 _ 1 1 Tryd.underlying22 hi hz0 hz1 hz2 rfl (by omega) u3 (1 + 2 * k) (u8v ys) (by rfl) ((HA.out.alloc _).drew) ⟨wr.heap.size, 0, none⟩ 2 2 (u8v [d1, d2]) (by rfl) (by rfl) (news_blk (heap_alloc_new wr _) rfl) (u8v_one _) (by omega) (by unfold maxLen; omega) (by omega) (by simp; omega) (wr.heap.size + 1) (by simp) ?_; intro gg cap' w1 hown1 hgrow hat hlt1))
      all_goals (
        have HG := hid (show w1.ownsRow w.heap.size 5 1 (.slice (some ⟨gg, 0, none⟩) (1 + 2 * (k + 1)) cap') (1 + 2 * (k + 1)) (u8v (120 :: hexB (b.take (k + 1)))) ∧ Below w.heap.size w w1 from by
          refine ⟨?_, ((HB.out.alloc HB.out.size _).drew).grown hgrow (by simp; have := HB.out.size; omega) (fun q hq => (HA.out.lt q hq).1)⟩
          rw [HT.out, show 120 :: (hexB (b.take k) ++ [d1, d2]) = ys ++ [d1, d2] by rw [HY.out]; rfl, u8v_app, show 1 + 2 * (k + 1) = 1 + 2 * k + 2 by omega]
          exact hown1)
        clear hown1 hgrow hat hlt1
        go_wp2_with fail
        go_roundw
        case rel => exact ⟨k + 1, by omega, by go_num, by rw [show 1 + 2 * (k + 1) = 1 + 2 * k + 2 by omega] at HG; exact HG⟩
        case measure => simp [intOf]; omega)
    · have hkN : k = N := by omega
      obtain ⟨hown, hbel⟩ := HS.out
      rw [hkN, show b.take N = b by rw [HN.out, List.take_length]] at hown
      have hv : hexV b = 120 :: hexB b := rfl
      rw [← hv] at hown
      have hvl : (hexV b).length = 1 + 2 * N := by rw [hv, HN.out]; simp [hexB_len]; omega
      have hRB : RdB wr u3 (nb (hexV b)) := ⟨by
        have := Rd.of_own hown (by rw [u8v_len, hvl])
        exact this, nb_lt _⟩
      have hcv := hRB.str (P := Tryd.prog) 22 9 5 Tryd.underlying22 Tryd.underlying5 Tryd.underlying9
      rw [strB_nb] at hcv
      have HB := hid hbel
      clear hown hbel hRB hv hvl HS
      subst hkN
      go_wp2_with fail
      all_goals (go_ret; exact ⟨rfl, HB.out⟩)
end
end Go.Proofs.YtimnhheagdhpgaaDoor
