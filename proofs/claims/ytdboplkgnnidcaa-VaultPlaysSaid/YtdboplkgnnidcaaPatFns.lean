/- The contracts of the conversions between words and bytes, of the program and of the specification. -/
import Derived.Test.YtdboplkgnnidcaaCrcFns
import Derived.Test.YtdboplkgnnidcaaPatMath
import Derived.Test.YtdboplkgnnidcaaQuietTail
import Derived.Deep.RegionHeld3
import Derived.Deep.AppendLies
import Derived.Deep.DrawnRows
import Derived.WalkSpells
import Derived.Outline
set_option linter.unusedVariables false
namespace Go.Proofs.Num
open Go.RowKit
theorem news_blk {w : World} {b : Nat} {cs : Array Value} {t : TypeId} {news : List Value} (h : w.heap[b]? = some (.cells cs t (0, 0))) (hn : cs.toList = news) : ∀ j u, news[j]? = some u → w.cell? ((⟨b, 0, none⟩ : Addr).add j) = some u := by
  intro j u hu
  subst hn
  have e : ((⟨b, 0, none⟩ : Addr).add j) = ⟨b, j, none⟩ := by
    cases j with
    | zero => rfl
    | succ j => simp [Addr.add]
  rw [e]
  exact cell_blk h (by simpa using hu)
theorem u8s_one (l : List Nat) : ∀ u ∈ u8s l, u.oneCell' = true := by
  intro u hu; simp only [u8s, List.mem_map] at hu; obtain ⟨x, _, rfl⟩ := hu; rfl
theorem u32s_one (l : List Nat) : ∀ u ∈ u32s l, u.oneCell' = true := by
  intro u hu; simp only [u32s, List.mem_map] at hu; obtain ⟨x, _, rfl⟩ := hu; rfl
theorem be4_cells (x : Nat) (h : x < 4294967296) : [Value.int .u8 ((x : Int) / 16777216), .int .u8 ((x : Int) / 65536 % 256), .int .u8 ((x : Int) / 256 % 256), .int .u8 ((x : Int) % 256)] = u8s (Pat.be4 x) := by
  simp only [u8s, Pat.be4, List.map_cons, List.map_nil]
  rw [Nat.mod_eq_of_lt (show x / 16777216 < 256 by omega)]
  simp
theorem be4_cellsW (x : Nat) : [Value.int .u8 (IntKind.u8.wrap ((x : Int) / 16777216)), .int .u8 (IntKind.u8.wrap ((x : Int) / 65536)), .int .u8 (IntKind.u8.wrap ((x : Int) / 256)), .int .u8 (IntKind.u8.wrap (x : Int))] = u8s (Pat.be4 x) := by
  simp only [u8s, Pat.be4, List.map_cons, List.map_nil, IntKind.wrap_u8]
  simp
theorem own_nil (w : World) (b e s : Nat) : w.ownsRow b e s (.slice none 0 0) 0 [] := ⟨by simp, Or.inl ⟨rfl, rfl⟩⟩
theorem u8s_app (a b : List Nat) : u8s (a ++ b) = u8s a ++ u8s b := by simp [u8s]
theorem u32s_app (a b : List Nat) : u32s (a ++ b) = u32s a ++ u32s b := by simp [u32s]
end Go.Proofs.Num
namespace Go.Proofs.Ytdboplkgnnidcaa
open Go.RowKit Go.Proofs.Num
theorem info8 : (Try.prog.info? 5).map (fun i => (i.zero, i.size, i.bytes)) = some (some (.int .u8 0), 1, 1) := by kernel_rfl
theorem info32 : (Try.prog.info? 48).map (fun i => (i.zero, i.size, i.bytes)) = some (some (.int .u32 0), 1, 4) := by kernel_rfl
set_option maxRecDepth 100000 in
theorem cBytes (w : World) (v : Value) (l : List Nat) (h : RdW w v l) (hn : l.length < 1000000000) :
    Calls Try.prog 14 #[v] w fun e w' => ∃ r, e = .returned r ∧ New w w' 5 r (u8s (Pat.bytesOf l)) := by
  obtain ⟨a, cap, rfl, hx⟩ := h.open
  have hB := h.2
  have HX := hid hx
  clear h hx
  obtain ⟨i0, hi, hz0, hz1, hz2⟩ := info_parts info8
  go_enter Try.func14, Try.ntmps14
  go_wp2_with fail
  go_loopw [3, 8] (fun r i wr => ∃ k : Nat, k ≤ l.length ∧ i = .int .i64 k ∧ wr.ownsRow w.heap.size 5 1 r (4 * k) (u8s (Pat.bytesOf (l.take k))) ∧ Below w.heap.size w wr) (fun _ i _ => l.length - (intOf i).toNat)
  case atStart => exact ⟨0, by omega, rfl, own_nil _ _ _ _, Below.refl _ _⟩
  case round =>
    obtain ⟨k, hk, rfl, hown, hbel⟩ := hrel
    by_cases hlt : k < l.length
    · obtain ⟨b, off, rfl, hb, hcell⟩ := HX.out k hlt
      rw [← hbel.cell hb] at hcell
      have hxb := hB _ (List.getElem_mem hlt)
      have HS := hid (Pat.bytesOf_take l k hlt)
      generalize l[k] = x at *
      generalize Pat.bytesOf (l.take k) = ys at *
      have hsz := hbel.size
      have HA := hid (hown.alloc (.cells #[.int .u8 ((x : Int) / 16777216), .int .u8 ((x : Int) / 65536 % 256), .int .u8 ((x : Int) / 256 % 256), .int .u8 ((x : Int) % 256)] 5))
      clear hown
      go_wp2_with (at_builtin; refine wpList_append_own _ rfl (.tmp 12) (.tmp 24) 23 rfl w.heap.size 5 i0 (.int .u8 0) 1 1 Try.underlying23 hi hz0 hz1 hz2 rfl (by decide) _ (4 * k) (u8s ys) rfl HA.out ⟨wr.heap.size, 0, none⟩ 4 4 (u8s (Pat.be4 x)) rfl (by simp [u8s, Pat.be4]) (news_blk (heap_new _ _ rfl) (be4_cells x hxb)) (u8s_one _) (by unfold maxLen; omega) (by omega) (by simp; omega) ?_; intro v' w1 hown1 hgr1 hiff; rw [← u8s_app] at hown1; have HO := hid hown1; clear hown1 hiff)
      go_roundw
      case rel => exact ⟨k + 1, by omega, by go_num, by rw [HS.out]; exact HO.out, (hbel.alloc hsz _).grown hgr1 (by simp; omega) (fun q hq => (HA.out.lt q hq).1)⟩
      case measure => simp [intOf]; omega
    · have e : l.take k = l := List.take_of_length_le (by omega)
      have ek : k = l.length := by omega
      rw [e, ek, ← Pat.bytesOf_len, ← u8s_len] at hown
      have HO := hid hown
      clear e ek hown
      go_wp2_with fail
      go_ret
      exact ⟨_, rfl, HO.out, hbel⟩
set_option maxRecDepth 100000 in
theorem cRBytes (w : World) (v : Value) (l : List Nat) (h : RdW w v l) (hn : l.length < 1000000000) :
    Calls Try.prog 15 #[v] w fun e w' => ∃ r, e = .returned r ∧ New w w' 5 r (u8s (Pat.bytesOf l)) := by
  obtain ⟨a, cap, rfl, hx⟩ := h.open
  have hB := h.2
  have HX := hid hx
  clear h hx
  obtain ⟨i0, hi, hz0, hz1, hz2⟩ := info_parts info8
  go_enter Try.func15, Try.ntmps15
  go_wp2_with fail
  go_loopw [3, 4] (fun r i wr => ∃ k : Nat, k ≤ l.length ∧ i = .int .i64 k ∧ wr.ownsRow w.heap.size 5 1 r (4 * k) (u8s (Pat.bytesOf (l.take k))) ∧ Below w.heap.size w wr) (fun _ i _ => l.length - (intOf i).toNat)
  case atStart => exact ⟨0, by omega, rfl, own_nil _ _ _ _, Below.refl _ _⟩
  case round =>
    obtain ⟨k, hk, rfl, hown, hbel⟩ := hrel
    by_cases hlt : k < l.length
    · obtain ⟨b, off, rfl, hb, hcell⟩ := HX.out k hlt
      rw [← hbel.cell hb] at hcell
      have hxb := hB _ (List.getElem_mem hlt)
      have HS := hid (Pat.bytesOf_take l k hlt)
      generalize l[k] = x at *
      generalize Pat.bytesOf (l.take k) = ys at *
      have hsz := hbel.size
      have HA := hid hown
      have hne : u3.ownBlock ≠ some b := fun e => by have := (hown.lt b e).1; omega
      have hk0 : (0 : Int) ≤ (k : Int) := Int.natCast_nonneg _
      have hk1 : (k : Int) < (l.length : Int) := by omega
      clear hown
      go_wp2_with fail
      go_region_held3 (fun w' => w'.cell? ⟨b, off + k, none⟩ = some (.int .u32 (x : Nat)))
        (first | go_keep | (rw [hgrow.cell_far _ (by simp; omega) (Ne.symm hne)]; assumption))
        ((refine step_append_lies _ (by rfl) _ _ _ (by rfl) w.heap.size 5 i0 _ 1 1 Try.underlying23 hi hz0 hz1 hz2 rfl (by omega) u3 (4 * k) (u8s ys) (by rfl) ((HA.out.alloc _).drew) ⟨wr.heap.size, 0, none⟩ 4 4 (u8s (Pat.be4 x)) (by rfl) (by simp [u8s, Pat.be4]) (news_blk (heap_alloc_new wr _) (be4_cellsW x)) (u8s_one _) (by omega) (by unfold maxLen; omega) (by omega) (by simp; omega) (wr.heap.size + 1) (by simp) ?_; intro gg cap' w1 hown1 hgrow hat hlt1))
      go_wp2_with fail
      go_roundw
      case rel => exact ⟨k + 1, by omega, by go_num, by rw [HS.out, u8s_app]; exact hown1, ((hbel.alloc hsz _).drew).grown hgrow (by simp; omega) (fun q hq => (HA.out.lt q hq).1)⟩
      case measure => simp [intOf]; omega
    · have e : l.take k = l := List.take_of_length_le (by omega)
      have ek : k = l.length := by omega
      rw [e, ek, ← Pat.bytesOf_len, ← u8s_len] at hown
      have HO := hid hown
      clear e ek hown
      go_wp2_with fail
      go_ret
      exact ⟨_, rfl, HO.out, hbel⟩
end Go.Proofs.Ytdboplkgnnidcaa
