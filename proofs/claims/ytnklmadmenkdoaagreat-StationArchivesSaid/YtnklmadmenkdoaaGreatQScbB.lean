/- Slices joined: Grow and Concat over bytes. A range over a function that yields without end, in a body that is left by a return. No program in sight. The pseudo-random sequence: its iterator. -/
import Derived.Test.YtnklmadmenkdoaaGreatQStr
import Derived.Test.YtnklmadmenkdoaaGreatQSndG
import Derived.Test.YtnklmadmenkdoaaGreatQSnrA
import Derived.Lib.AppendZeros
import Derived.Lib.AppendZerosOnto
import Derived.RangeFuncNested
import Derived.RangeFuncBound
import Derived.RangeFuncCalls
import Derived.RangeFuncLeaves
import Derived.RangeFuncFrom
import Derived.Shelf.Abstract
import Derived.Shelf.RegionOpen
import Derived.WalkKit
import Derived.OwnWalkIn
import Derived.TacticsInMore
import Derived.LoopNIn
import Derived.LoopIn
import Derived.Test.YtnklmadmenkdoaaGreatProg
import Derived.Test.YtnklmadmenkdoaaGreatQSepc
set_option linter.unusedVariables false
set_option linter.unusedSimpArgs false
namespace Go.Proofs.YtnklmadmenkdoaaGreat
open Go.RowKit Go.Proofs.Num
theorem zcells (k : Nat) : (Builtin.zeroCells (Value.int .u8 0).cells k).toList = u8s (List.replicate k 0) := by
  apply List.ext_getElem
  · simp [Builtin.zeroCells, u8s, Value.cells]
  · intro n h1 h2
    simp [Builtin.zeroCells, u8s, Value.cells]
    try (rw [Nat.mod_one]; rfl)
theorem run_append_room_zeros {P : Program} (w : World) (t tn ty e : TypeId) (i : TypeInfo) (kn kq : IntKind) (ht : P.underlying t = some (.slice e)) (htn : P.underlying tn = some (.int kn)) (hi : P.info? e = some i) (hz : i.zero = some (.int .u8 0)) (hs1 : i.size = 1) (hby : i.bytes = 1)
    (g sLen sCap : Nat) (cur : Array Value) (hg : w.heap[g]? = some (.cells cur e (0, 0))) (k : Nat) (hk : 0 < k) (h63 : k ≤ 1000000000)
    (hroom : sLen + k ≤ sCap) (hfit : sLen + k ≤ cur.size) :
    (Builtin.append_ #[t, tn] ty #[.slice (some ⟨g, 0, none⟩) sLen sCap, .int kq k]).run P w =
      .ok (.slice (some ⟨g, 0, none⟩) (sLen + k) sCap) (w.setRow g (cur.toList.take sLen ++ u8s (List.replicate k 0) ++ cur.toList.drop (sLen + k)).toArray) := by
  have hlz : (u8s (List.replicate k 0)).length = k := by simp [u8s]
  have hst := run_storeCells_at P g sLen e (u8s (List.replicate k 0)) 0 cur w hg (by rw [hlz]; simpa using hfit) (by intro u hu; simp [u8s] at hu; obtain ⟨_, rfl⟩ := hu; rfl)
  simp only [Nat.add_zero, hlz] at hst
  have hk0 : k ≠ 0 := by omega
  have hw : IntKind.i64.wrap (k : Int) = k := by rw [IntKind.wrap_i64]; omega
  have h48i : ¬ (281474976710656 < (k : Int)) := by omega
  have hneg : ¬ ((k : Int) < 0) := by omega
  have hzl := zcells k
  simp [Builtin.append_, run_underlying ht, run_underlying htn, sizeOf, typeInfo, zeroValue, hi, hz, hs1, hby, asInt, asIntOf, hw, hk0, hneg, h48i, hroom, Addr.add_lit, hzl, hst]
theorem run_append_own_zeros {P : Program} (w : World) (t tn ty e : TypeId) (i : TypeInfo) (kn kq : IntKind) (ht : P.underlying t = some (.slice e)) (htn : P.underlying tn = some (.int kn)) (hi : P.info? e = some i) (hz : i.zero = some (.int .u8 0)) (hs1 : i.size = 1) (hby : i.bytes = 1)
    (v : Value) (n : Nat) (xs : List Value) (hown : w.ownsRow 0 e 1 v n xs) (k : Nat) (hk : 0 < k) (h63 : n + k ≤ 1000000000) :
    ∃ v' w', (Builtin.append_ #[t, tn] ty #[v, .int kq k]).run P w = .ok v' w' ∧ w'.ownsRow 0 e 1 v' (n + k) (xs ++ u8s (List.replicate k 0)) ∧ w.grownBy w' v.ownBlock ∧ (v'.ownBlock = v.ownBlock ∨ v'.ownBlock = some w.heap.size) := by
  have hxl : xs.length = n := by simpa using hown.1
  have hzl : (u8s (List.replicate k 0)).length = k := by simp [u8s]
  have hlen : (xs ++ u8s (List.replicate k 0)).length = (n + k) * 1 := by rw [List.length_append, hxl, hzl, Nat.mul_one]
  have hmx : n + k ≤ maxLen := by unfold maxLen; omega
  have grown : ∀ (old : Nat), old < n + k → ∀ (row : Option Nat),
      (w.drew.alloc (.cells (xs.toArray ++ Builtin.zeroCells (Value.int .u8 0).cells k ++ Builtin.zeroCells (Value.int .u8 0).cells (grownCap w (n + k) old e - (n + k))) e)).ownsRow 0 e 1
        (.slice (some ⟨w.heap.size, 0, none⟩) (n + k) (grownCap w (n + k) old e)) (n + k) (xs ++ u8s (List.replicate k 0)) ∧
      w.grownBy (w.drew.alloc (.cells (xs.toArray ++ Builtin.zeroCells (Value.int .u8 0).cells k ++ Builtin.zeroCells (Value.int .u8 0).cells (grownCap w (n + k) old e - (n + k))) e)) row := by
    intro old ho row
    have hge := grownCap_ge w (n + k) old e
    have hcm : grownCap w (n + k) old e ≤ maxLen := grownCap_le_maxLen w (n + k) old e hmx
    refine ⟨⟨hlen, .inr ⟨w.heap.size, _, _, rfl, Nat.zero_le _, heap_alloc_new w.drew _, hge, hcm, ?_, ?_⟩⟩, ⟨rfl, rfl, rfl, by simp, fun j hj _ => heap_alloc_old w.drew _ hj⟩⟩
    · have hz1 : (Value.int IntKind.u8 0).cells.size = 1 := rfl
      simp only [Array.size_append, List.size_toArray, size_zeroCells, hz1, hxl]
      omega
    · simp only [Array.toList_append, List.append_assoc, zcells]
      rw [← List.append_assoc, ← hlen]
      exact List.take_left
  rcases hown.2 with ⟨rfl, rfl⟩ | ⟨g, cap, cur, rfl, hbg, hg, hnc, hcm, hcs, htake⟩
  · have hx : xs = [] := List.eq_nil_of_length_eq_zero hxl
    subst hx
    have hr := Lib.run_append_nil_zeros (P := P) w t tn ty e i (.int .u8 0) kq kn ht htn hi hz k hk (by omega) (by omega) (by rw [hby]; omega)
    have hgr := grown 0 (by omega) (Value.ownBlock (.slice none 0 0))
    simp only [Nat.zero_add, List.nil_append, Array.empty_append] at hgr ⊢
    exact ⟨_, _, hr, hgr.1, hgr.2, Or.inr rfl⟩
  · by_cases hroom : n + k ≤ cap
    · have hcs' : cur.size = cap := by simpa using hcs
      have hr := run_append_room_zeros (P := P) w t tn ty e i kn kq ht htn hi hz hs1 hby g n cap cur hg k hk (by omega) hroom (by omega)
      refine ⟨_, _, hr, ⟨hlen, .inr ⟨g, cap, _, rfl, hbg, setRow_heap w g cur _ e _ hg, hroom, hcm, ?_, ?_⟩⟩, ⟨rfl, rfl, rfl, by simp, fun k _ hk => setRow_other w g k _ (fun e => hk (by simp [Value.ownBlock, e]))⟩, Or.inl rfl⟩
      · simp only [List.size_toArray, List.length_append, List.length_take, List.length_drop, Array.length_toList, hzl]
        omega
      · have ht' : cur.toList.take n = xs := by simpa using htake
        rw [ht', ← hlen]
        exact List.take_left
    · have holds : ∀ j u, xs[j]? = some u → w.cell? ((⟨g, 0, none⟩ : Addr).add j) = some u := hown.cells (g := g) rfl
      have hfo := run_firstCells_some (P := P) w.drew i.size n ⟨g, 0, none⟩ n cap xs (by rw [hs1]; simpa using hxl) (by simpa using holds)
      have hr := Lib.run_append_grow_zeros (P := P) w t tn ty e i (.int .u8 0) kq kn ht htn hi hz (some ⟨g, 0, none⟩) n cap xs hfo k hk (by omega) (by omega) (by omega) (by rw [hby]; omega) (by rw [hby]; exact growslice_fits (by omega) (by omega))
      have hgr := grown cap (by omega) (Value.ownBlock (.slice (some ⟨g, 0, none⟩) n cap))
      exact ⟨_, _, hr, hgr.1, hgr.2, Or.inr rfl⟩
theorem wpList_appZ {ops : Array Oper} {rest : List Oper} {o : Oper} {a : Act} {Q : Exit → Act → World → Prop} {W w : World} {L : List HProp} {v : Value} {l : List Nat} {k : Nat} (hgd : o.guard = none) (s x : Operand)
    (ho : o.op = .call { callee := .builtin .append, args := #[s, x], argTypes := #[35, 3] }) (hS : Sts W (rowP 5 1 v l.length (u8s l) :: L) w) (hL : ∀ B ∈ L, Stable B)
    (hs : a.eval s = v) (hx : a.eval x = .int .i64 (k : Int)) (hk0 : 0 < k) (hlen : l.length + k ≤ 1000000000)
    (h : ∀ v' w', Sts W (rowP 5 1 v' (l.length + k) (u8s l ++ u8s (List.replicate k 0)) :: L) w' → wpList Tryz.prog ops Q rest (a.put o.dst v') w') : wpList Tryz.prog ops Q (o :: rest) a w := by
  refine wpList_plain hgd fun K hK => ?_
  obtain ⟨i0, hi, hz0, hz1, hz2⟩ := info_parts info8
  obtain ⟨v', w', hrun, hown', hgr, hbl⟩ := run_append_own_zeros (P := Tryz.prog) w 35 3 o.type 5 i0 .i64 .i64 Tryz.underlying35 (by kernel_rfl) hi hz0 hz1 hz2 v l.length (u8s l) (Sts.rowOwn hS) k hk0 hlen
  have hS2 := Sts.grown hL hS hgr hown' (by
    intro q' hq
    rcases hbl with h | h
    · exact Or.inl (h ▸ hq)
    · rw [h] at hq; injection hq with hq; exact Or.inr (by omega))
  unfold Oper.wp
  simp [execOp, ho, resolve, invoke, builtin, hs, hx, hrun, Result.andThen]
  exact hK _ _ (h v' w' hS2)
/-- The same row with nothing in it. -/
theorem Sts.rowVoid {W w : World} {l : List HProp} {e : TypeId} {g n c : Nat} {xs : List Value} (h : Sts W (rowP e 1 (.slice (some ⟨g, 0, none⟩) n c) n xs :: l) w) : Sts W (rowP e 1 (.slice (some ⟨g, 0, none⟩) 0 c) 0 [] :: l) w := by
  refine h.weaken fun F hF => ?_
  obtain ⟨⟨h1, h2⟩, h3⟩ := hF
  refine ⟨⟨by simp, ?_⟩, by simpa [Value.ownBlock] using h3⟩
  rcases h2 with ⟨h2, _⟩ | ⟨g', cap, cur, hv, k1, k2, k3, k4, k5, k6⟩
  · cases h2
  · injection hv with i1 i2 i3
    injection i1 with i1
    injection i1 with i1
    subst i1; subst i3
    exact Or.inr ⟨g, c, cur, rfl, k1, k2, Nat.zero_le _, k4, k5, by simp⟩
section
set_option maxRecDepth 100000 in
theorem cGrow8 (w : World) (n : Nat) (h0 : 0 < n) (hn : n < 1000000) : Calls Tryz.prog 258 #[.slice none 0 0, .int .i64 (n : Int)] w fun e w' => ∃ g c, e = .returned (.slice (some ⟨g, 0, none⟩) 0 c) ∧ Sts w [rowP 5 1 (.slice (some ⟨g, 0, none⟩) 0 c) 0 []] w' := by
  have H0 : Hid (Sts w (rowP 5 1 (.slice none 0 0) ([] : List Nat).length (u8s []) :: []) w) := hid (Sts.rowNil 5 (Sts.nil w))
  have d1 : decide ((n : Int) < 0) = false := decide_eq_false (by omega)
  have d2 : decide ((0 : Int) < (n : Int)) = true := decide_eq_true (by omega)
  have g1 : wrap64 (n : Int) = (n : Int) := by unfold wrap64; omega
  have d3 : decide (0 < n) = true := decide_eq_true h0
  have HN := hid h0
  have HN2 := hid hn
  clear h0 hn
  go_enter Tryz.func258, Tryz.ntmps258
  go_wp2_with (at_builtin; refine wpList_appZ (l := []) rfl (.tmp 20) (.tmp 21) rfl H0.out stab0 rfl (by first | rfl | exact congrArg (Value.int .i64) g1) HN.out (by have := HN2.out; simp; omega) ?_; intro v1 w1 h1
               obtain ⟨g, c, rfl⟩ : ∃ g c, v1 = .slice (some ⟨g, 0, none⟩) n c := by
                 obtain ⟨g, c, hv⟩ := own_pos h1.rowOwn (by have := HN.out; simp; omega)
                 exact ⟨g, c, by simpa using hv⟩
               rw [List.length_nil, Nat.zero_add] at h1
               have H1 := hid (Sts.rowVoid h1)
               clear h1)
  go_ret
  exact ⟨g, c, rfl, H1.out⟩
set_option maxRecDepth 100000 in
set_option maxHeartbeats 2000000 in
/-- Two slices of bytes joined. -/
theorem cConcat2 (w : World) (b : Nat) (aA bA : Option Addr) (ca cb : Nat) (la lb : List Nat) (h0 : w.cell? ⟨b, 0, none⟩ = some (.slice aA la.length ca)) (h1 : w.cell? ⟨b, 1, none⟩ = some (.slice bA lb.length cb)) (hA : Rd w (.slice aA la.length ca) (u8s la)) (hB : Rd w (.slice bA lb.length cb) (u8s lb)) (nA : NilOk (.slice aA la.length ca)) (nB : NilOk (.slice bA lb.length cb)) (hn : 0 < la.length + lb.length) (hm : la.length + lb.length < 1000000) :
    Calls Tryz.prog 208 #[.slice (some ⟨b, 0, none⟩) 2 2] w fun e w' => ∃ r, e = .returned r ∧ New w w' 5 r (u8s (la ++ lb)) := by
  obtain ⟨A, hAl⟩ : ∃ A, A = la.length := ⟨_, rfl⟩
  obtain ⟨B, hBl⟩ : ∃ B, B = lb.length := ⟨_, rfl⟩
  obtain ⟨C, hC⟩ : ∃ C, C = A + B := ⟨_, rfl⟩
  have hbw : b < w.heap.size := World.block_lt_of_cell? w _ h0
  rw [← hAl] at h0 hA nA
  rw [← hBl] at h1 hB nB
  have g1 : wrap64 (A : Int) = (A : Int) := by unfold wrap64; omega
  have g2 : wrap64 ((A : Int) + (B : Int)) = (C : Int) := by unfold wrap64; omega
  have d1 : decide ((A : Int) < 0) = false := decide_eq_false (by omega)
  have d2 : decide ((C : Int) < 0) = false := decide_eq_false (by omega)
  have KG := hid (cGrow8 w C (by omega) (by omega))
  have HA := hid hA
  have HB := hid hB
  have NA := hid nA
  have NB := hid nB
  have CS := hid (show ∀ y : World, Below w.heap.size w y → y.cell? ⟨b, 0, none⟩ = some (.slice aA A ca) ∧ y.cell? ⟨b, 1, none⟩ = some (.slice bA B cb) from fun y k => ⟨(k.cell hbw).trans h0, (k.cell hbw).trans h1⟩)
  have HAL := hid hAl
  have HBL := hid hBl
  have HM := hid hm
  clear hA hB nA nB hn hm hbw hAl hBl hC
  go_enter Tryz.func208, Tryz.ntmps208
  go_wp2_with fail
  go_loopw [3, 11] (fun s i wr => wr = w ∧ ((s = .int .i64 0 ∧ i = .int .i64 0) ∨ (s = .int .i64 (A : Int) ∧ i = .int .i64 1) ∨ (s = .int .i64 (C : Int) ∧ i = .int .i64 2))) (fun _ i _ => 2 - (intOf i).toNat)
  case atStart => exact ⟨rfl, Or.inl ⟨rfl, rfl⟩⟩
  case round =>
    obtain ⟨rfl, hst⟩ := hrel
    rcases hst with ⟨rfl, rfl⟩ | ⟨rfl, rfl⟩ | ⟨rfl, rfl⟩
    · go_wp2_with fail
      refine ⟨⟨by trivial, Or.inr (Or.inl ⟨?_, rfl⟩)⟩, by decide⟩
      rw [g1]
    · go_wp2_with fail
      refine ⟨⟨by trivial, Or.inr (Or.inr ⟨?_, rfl⟩)⟩, by decide⟩
      rw [g2]
    · go_wp2_with (go_at_call 258; refine KG.out.mono ?_; rintro e w1 ⟨g, c, rfl, h1⟩; have H1 := hid h1; clear h1)
      clear KG
      go_loopw [6, 27] (fun o i wz => (o = .slice (some ⟨g, 0, none⟩) 0 c ∧ i = .int .i64 0 ∧ wz = w1) ∨ (∃ oa oc, o = .slice oa A oc ∧ i = .int .i64 1 ∧ Sts wr (rowP 5 1 (.slice oa A oc) A (u8s la) :: []) wz) ∨ (∃ oa oc, o = .slice oa (A + B) oc ∧ i = .int .i64 2 ∧ Sts wr (rowP 5 1 (.slice oa (A + B) oc) (A + B) (u8s (la ++ lb)) :: []) wz)) (fun _ i _ => 2 - (intOf i).toNat)
      case atStart => exact Or.inl ⟨rfl, rfl, rfl⟩
      case round =>
        rcases hrel with ⟨rfl, rfl, rfl⟩ | ⟨oa, oc, rfl, rfl, hs⟩ | ⟨oa, oc, rfl, rfl, hs⟩
        · obtain ⟨k0, k1⟩ := CS.out _ H1.out.below
          have HR := hid (HA.out.below H1.out.below)
          go_wp2_with (at_builtin; refine wpList_app8 (l := []) rfl (.tmp 31) (.tmp 32) rfl H1.out stab0 rfl rfl HR.out NA.out (by have := HM.out; simp; omega) ?_; intro v2 w2 h2
                       rw [List.length_nil, Nat.zero_add, List.nil_append, ← HAL.out] at h2
                       obtain ⟨oa, oc, rfl⟩ := own_slice h2.rowOwn
                       have H2 := hid h2
                       clear h2)
          exact ⟨Or.inr (Or.inl ⟨oa, oc, rfl, rfl, H2.out⟩), by decide⟩
        · obtain ⟨k0, k1⟩ := CS.out _ hs.below
          have HR := hid (HB.out.below hs.below)
          have H2 := hid (show Sts _ (rowP 5 1 (.slice oa A oc) la.length (u8s la) :: []) _ by rw [← HAL.out]; exact hs)
          clear hs
          go_wp2_with (at_builtin; refine wpList_app8 rfl (.tmp 31) (.tmp 32) rfl H2.out stab0 rfl rfl HR.out NB.out (by have := HM.out; omega) ?_; intro v3 w3 h2
                       rw [← HAL.out, ← HBL.out] at h2
                       obtain ⟨pa, pc, rfl⟩ := own_slice h2.rowOwn
                       have H3 := hid h2
                       clear h2)
          exact ⟨Or.inr (Or.inr ⟨pa, pc, rfl, rfl, H3.out⟩), by decide⟩
        · have HS := hid hs
          clear hs
          go_wp2_with fail
          go_ret
          exact ⟨_, rfl, New.of_sts HS.out (by rw [u8s_len, List.length_append, HAL.out, HBL.out])⟩
end
end Go.Proofs.YtnklmadmenkdoaaGreat
namespace Go
open Go.RowKit
/-- What an endless iterator owes: it hands out enc 0, enc 1, .. until a round has said that no more are wanted. -/
def Endless (F : Fence) (n : Nat) (P : Program) (g : Nat) (lb : Array Value) (enc : Nat → Value) (N : Nat) (w : World) : Prop :=
  ∀ (l : Nat) (J Jx : Nat → World → Prop) (W : World), Below w.heap.size w W → AbidesFrom W.heap.size J → AbidesFrom W.heap.size Jx →
    (∀ k W1, J k W1 → k ≤ N → YieldAt F (n - 1) P l #[enc k] W1 fun e W' => (e = .returned (.bool true) ∧ J (k + 1) W' ∧ k < N) ∨ (e = .returned (.bool false) ∧ Jx k W')) →
    J 0 W → CallsIn F n P g (#[.func (.yield l) #[] #[]] ++ lb) W fun e W' => (∃ v, e = .returned v) ∧ ∃ k, k ≤ N ∧ Jx k W'
/-- How a round of the body ends: it goes on, or it returns. -/
def endPost (N : Nat) (I Ix : Nat → World → Prop) (k : Nat) (W : World) : Exit → Act → World → Prop
  | .normal, _, W' => KeepsOthers W W' ∧ I (k + 1) W' ∧ k < N
  | .ret, _, W' => KeepsOthers W W' ∧ Ix k W'
  | _, _, _ => False
theorem wpIn_endless {F : Fence} {n : Nat} {P : Program} {g : Operand} {p : Tmp} {assign body : Code} {Q : Exit → Act → World → Prop} {a : Act} {w : World} (hro : F.round = none) (h1 : 1 ≤ n)
    {gf : Nat} {lb : Array Value} (hg : a.eval g = .func (.func gf) #[] lb) (hFg : F.fn gf) (eg : ∀ args w, (callFunc gf args).run P w = .ok (.enter gf args) w)
    {enc : Nat → Value} {N : Nat} {w0 : World} (hseq : Endless F (n - 1) P gf lb enc N w0) (hb0 : Below w0.heap.size w0 w)
    (I Ix : Nat → World → Prop) (hI : OwnFrom w.heap.size I) (hIx : OwnFrom w.heap.size Ix) (h0 : I 0 w) (a₁ : Nat → Act)
    (hassign : ∀ (l k : Nat) (W : World) (K : Act → World → Prop), K (a₁ k) W →
      assign.wpIn (F.inRound l) (n - 1 - 1) P (Exit.then K (fun _ _ _ => False)) { tmps := a.tmps.setIfInBounds p (enc k), defers := [] } W)
    (hbody : ∀ (l k : Nat) (W : World), I k W → k ≤ N → body.wpIn (F.inRound l) (n - 1 - 1) P (endPost N I Ix k W) (a₁ k) W)
    (hstop : ∀ (D k : Nat) (W : World), w.heap.size ≤ D → k ≤ N → Ix k W → W.heap[D]? = some (.deferred (some [])) → Code.ret.wpIn F n P Q { a with defers := { target := .collected D, args := #[] } :: a.defers } W) :
    (Code.rangeFunc g #[p] assign body).wpIn F n P Q a w := by
  refine wpIn_rangeFunc fun fn hfn => ?_
  rw [hro]
  -- the loop's record
  obtain ⟨rec, hrec⟩ : ∃ rec : LoopState → Option Code → Loop, rec = fun st pe => { state := st, pending := pe, fn, tmps := a.tmps, params := #[p], assign, body, defers := w.heap.size } := ⟨_, rfl⟩
  obtain ⟨W1, hW1⟩ : ∃ W1, (w.alloc (.deferred (some []))).alloc (.loop (rec .ready none)) = W1 := ⟨_, rfl⟩
  have hL : W1.heap[w.heap.size + 1]? = some (.loop (rec .ready none)) := by
    rw [← hW1]; have := World.alloc_heap_new (w.alloc (.deferred (some []))) (.loop (rec .ready none)); rwa [World.size_alloc] at this
  have hD : W1.heap[w.heap.size]? = some (.deferred (some [])) := by
    rw [← hW1]; exact (Below.heap_alloc _ _ _ (by simp)).trans (World.alloc_heap_new w _)
  have hb1 : Below w0.heap.size w0 W1 := by
    rw [← hW1]; exact hb0.trans ((((Below.refl _ w).alloc (Nat.le_refl _) _).alloc (by simp) _).mono hb0.size)
  have hI1 : I 0 W1 := by rw [← hW1]; exact hI.alloc _ (hI.alloc _ h0)
  have hsz : w.heap.size ≤ W1.heap.size := by rw [← hW1]; simp; omega
  refine ⟨w.heap.size + 1, [{ target := .collected w.heap.size, args := #[] }], W1, { target := .fn (.func gf) lb, args := #[.func (.yield (w.heap.size + 1)) #[] #[]] }, W1, gf,
    #[.func (.yield (w.heap.size + 1)) #[] #[]] ++ lb, W1, ?_, ?_, ?_, ?_, fun _ => h1, ?_⟩
  · rw [← hW1, hrec]; exact run_enterLoop_outer _ _ _ _ _
  · simp only [resolve, hg]
    simp [go_sem]
  · intro f' hf'; simp [Target.leads] at hf'; subst hf'; exact hFg
  · simp [invoke, go_sem, eg]
  · have far : ∀ {A : World} {row : Option Nat}, (∀ r, row = some r → W1.heap.size ≤ r ∧ ∃ o : Obj, A.heap[r]? = some o ∧ o.isWalk = true) → (∀ r, row = some r → w.heap.size ≤ r ∧ ∃ o : Obj, A.heap[r]? = some o ∧ o.isCells = false) :=
      fun hr r e => by obtain ⟨hB, o, ho, hw⟩ := hr r e; exact ⟨by omega, o, ho, Obj.not_cells_of_walk hw⟩
    refine (hseq (w.heap.size + 1)
      (fun k W => I k W ∧ W.heap[w.heap.size + 1]? = some (.loop (rec .ready none)) ∧ W.heap[w.heap.size]? = some (.deferred (some [])))
      (fun k W => Ix k W ∧ W.heap[w.heap.size + 1]? = some (.loop (rec .done (some .ret))) ∧ W.heap[w.heap.size]? = some (.deferred (some [])))
      W1 hb1
      (fun s A B row hs hg' hr => ⟨hI s A B row hs.1 hg' (far hr), (grownBy_keeps hg' (fun r e => (hr r e).2) hs.2.1 rfl).trans hs.2.1, (grownBy_keeps hg' (fun r e => (hr r e).2) hs.2.2 rfl).trans hs.2.2⟩)
      (fun s A B row hs hg' hr => ⟨hIx s A B row hs.1 hg' (far hr), (grownBy_keeps hg' (fun r e => (hr r e).2) hs.2.1 rfl).trans hs.2.1, (grownBy_keeps hg' (fun r e => (hr r e).2) hs.2.2 rfl).trans hs.2.2⟩)
      ?_ ⟨hI1, hL, hD⟩).mono ?_
    · rintro k W ⟨hi, hl, hk⟩ hkN
      have hlt : w.heap.size + 1 < W.heap.size := (Array.getElem?_eq_some_iff.1 hl).1
      have hy := run_yield (P := P) (args := #[enc k]) hl (by rw [hrec]; rfl)
      rw [hrec] at hy
      have hl2 : (W.putObj (w.heap.size + 1) (.loop { rec .ready none with state := .busy })).heap[w.heap.size + 1]? = some (.loop { rec .ready none with state := .busy }) := World.putObj_heap_same hlt
      have hk2 : (W.putObj (w.heap.size + 1) (.loop { rec .ready none with state := .busy })).heap[w.heap.size]? = some (.deferred (some [])) := (World.putObj_heap_other (by omega)).trans hk
      have he : ((#[p].zip #[enc k]).foldl (fun t (p, v) => t.setIfInBounds p v) a.tmps) = a.tmps.setIfInBounds p (enc k) := by simp
      refine ⟨fn, _, assign, body, hy, roundIn_of_wpIn hfn ?_⟩
      rw [he]
      refine hassign _ k W _ ⟨_, run_beginRound hl (by rw [hrec]), ?_⟩
      have ends : ∀ (jump : Option Code) (W3 : World), KeepsOthers (W.putObj (w.heap.size + 1) (.loop { rec .ready none with state := .busy })) W3 →
          W3.heap[w.heap.size + 1]? = some (.loop { rec .ready none with state := .busy }) ∧
          (Instr.endRound (w.heap.size + 1) jump).run P W3 = .ok (.bool jump.isNone) (W3.putObj (w.heap.size + 1) (.loop (rec (if jump.isNone then .ready else .done) jump))) ∧
          (W3.putObj (w.heap.size + 1) (.loop (rec (if jump.isNone then .ready else .done) jump))).heap[w.heap.size + 1]? = some (.loop (rec (if jump.isNone then .ready else .done) jump)) ∧
          (W3.putObj (w.heap.size + 1) (.loop (rec (if jump.isNone then .ready else .done) jump))).heap[w.heap.size]? = some (.deferred (some [])) := by
        intro jump W3 hk3
        have hl3 := hk3.same _ _ hl2 rfl
        refine ⟨hl3, ?_, World.putObj_heap_same (Array.getElem?_eq_some_iff.1 hl3).1, (World.putObj_heap_other (by omega)).trans (hk3.same _ _ hk2 rfl)⟩
        have h := run_endRound (P := P) jump hl3
        rw [hrec] at h ⊢
        exact h
      refine wpIn_mono (hbody _ k _ (hI.putObj _ hi (by omega) hl rfl) hkN) ?_
      rintro e a3 W3 hp
      cases e with
      | normal =>
        obtain ⟨hk3, hi3, hlt3⟩ := hp
        obtain ⟨hl3, hr, hl4, hk4⟩ := ends none W3 hk3
        exact ⟨_, _, hr, .inl ⟨rfl, ⟨hI.putObj _ hi3 (by omega) hl3 rfl, hl4, hk4⟩, hlt3⟩⟩
      | ret =>
        obtain ⟨hk3, hi3⟩ := hp
        obtain ⟨hl3, hr, hl4, hk4⟩ := ends (some .ret) W3 hk3
        exact ⟨_, _, hr, .inr ⟨rfl, hIx.putObj _ hi3 (by omega) hl3 rfl, hl4, hk4⟩⟩
      | exit id => exact hp.elim
      | goto t => exact hp.elim
      | panic ch => exact hp.elim
      | outgrown => exact hp.elim
    · rintro e W2 ⟨⟨v, rfl⟩, k, hkN, hi, hl, hk⟩
      exact ⟨some .ret, _, by have h := run_endLoop (P := P) hl (by rw [hrec]; simp); rw [hrec] at h; exact h, hstop _ k _ (Nat.le_refl _) hkN (hIx.putObj _ hi (by omega) hl rfl) ((World.putObj_heap_other (by omega)).trans hk)⟩
end Go
namespace Scr
/-- One bit on. -/
def stp (s : Nat) : Nat := s * 2 % 256 ||| ((s ^^^ s / 4 ^^^ s / 16 ^^^ s / 128) % 2)
def stpN : Nat → Nat → Nat
  | 0, s => s
  | j + 1, s => stp (stpN j s)
/-- The byte k of the sequence. -/
def byt : Nat → Nat
  | 0 => 255
  | k + 1 => stpN 8 (byt k)
theorem stp_lt (s : Nat) (h : s < 256) : stp s < 256 := by
  unfold stp; exact Nat.or_lt_two_pow (n := 8) (by omega) (by omega)
theorem stpN_lt (j s : Nat) (h : s < 256) : stpN j s < 256 := by
  induction j with
  | zero => exact h
  | succ j ih => exact stp_lt _ ih
theorem byt_lt (k : Nat) : byt k < 256 := by
  induction k with
  | zero => decide
  | succ k ih => exact stpN_lt _ _ ih
end Scr
namespace Go
/-- A loop whose rounds are counted by something that no slot shows. -/
theorem rounds_up {F : Fence} {n : Nat} {P : Program} {c : Code} {Q : Exit → Act → World → Prop} (N : Nat) (R : Nat → Act → World → Prop)
    (step : ∀ k a w m, R k a w → k ≤ N → (∀ a' w', k < N → R (k + 1) a' w' → Code.roundsIn F n P c Q m a' w') → c.wpIn F n P (Exit.then (Code.roundsIn F n P c Q m) Q) a w) (k : Nat) (a : Act) (w : World) (hk : k ≤ N) (h : R k a w) : (Code.loop c).wpIn F n P Q a w := by
  have key : ∀ m k a w, N < k + m → k ≤ N → R k a w → Code.roundsIn F n P c Q m a w := by
    intro m
    induction m with
    | zero => intro k a w h1 h2 _; omega
    | succ m ih => intro k a w h1 h2 h3; rw [roundsIn_succ]; exact step k a w m h3 h2 (fun a' w' h4 h5 => ih (k + 1) a' w' (by omega) (by omega) h5)
  exact wpIn_loop_rounds (N + 1 - k) (key _ k a w (by omega) hk h)
end Go
namespace Go.Proofs.YtnklmadmenkdoaaGreat
open Go.RowKit Go.Shelf Go.Proofs.Num
attribute [local go_sem] Oper.semAt_some
theorem stp_bits : ∀ s : Nat, s < 256 → bits .or .u8 ((s : Int) * 2 % 256) (bits .and .u8 (bits .xor .u8 (bits .xor .u8 (bits .xor .u8 (s : Int) ((s : Int) / 4)) ((s : Int) / 16)) ((s : Int) / 128)) 1) = ((Scr.stp s : Nat) : Int) := by decide +kernel
set_option maxRecDepth 100000 in
set_option maxHeartbeats 1000000 in
theorem scr_iter (F : Fence) (n : Nat) (hF : F.fn 285) (hro : F.round = none) (hn : 1 ≤ n) (N : Nat) (w : World) : Endless F n Tryz.prog 285 #[] (fun k => .int .u8 (Scr.byt k : Int)) N w := by
  intro l J Jx W hW hJ hJx hY h0
  refine callsIn_of_wp Tryz.func285 rfl hF ?_ hro
  simp only [Tryz.ntmps285, List.size_toArray, List.length_cons, List.length_nil, Nat.reduceAdd, Nat.reduceSub, Array.replicate_succ, Array.replicate_zero, List.push_toArray, List.append_toArray, List.nil_append, List.cons_append]
  gi_wp2
  refine rounds_up N (fun k a W2 => J k W2 ∧ ∃ u3 u4 u5 u6 u7 u8 u9 u10 u11 u12 u13 u14 u15 u16 u17 u18 u19 u20 u21 u22 u23 u24, a = { tmps := #[.func (.yield l) #[] #[], undef, .int .u8 (Scr.byt k : Int), u3, u4, u5, u6, u7, u8, u9, u10, u11, u12, u13, u14, u15, u16, u17, u18, u19, u20, u21, u22, u23, u24], defers := [] }) ?_ 0 _ _ (Nat.zero_le _) ⟨h0, _, _, _, _, _, _, _, _, _, _, _, _, _, _, _, _, _, _, _, _, _, _, rfl⟩
  rintro k a W2 m ⟨hj, u3, u4, u5, u6, u7, u8, u9, u10, u11, u12, u13, u14, u15, u16, u17, u18, u19, u20, u21, u22, u23, u24, rfl⟩ hkN hnext
  obtain ⟨fn, tmps, assign, body, hy, hR⟩ := hY k W2 hj hkN
  gi_wp2
  refine hR.mono ?_
  rintro e W3 (⟨rfl, hj3, hlt⟩ | ⟨rfl, hjx⟩)
  · gi_wp2
    gi_loopw [2, 7] (fun s i wr => wr = W3 ∧ ∃ j : Nat, j ≤ 8 ∧ i = .int .i64 (j : Int) ∧ s = .int .u8 (Scr.stpN j (Scr.byt k) : Int)) (fun s i wr => 8 - (intOf i).toNat)
    case atStart => exact ⟨rfl, 0, by decide, rfl, rfl⟩
    case round =>
      obtain ⟨rfl, j, hj8, rfl, rfl⟩ := hrel
      by_cases hlt8 : j < 8
      · have hs := Scr.stpN_lt j (Scr.byt k) (Scr.byt_lt k)
        have HE : Hid (Scr.stpN (j + 1) (Scr.byt k) = Scr.stp (Scr.stpN j (Scr.byt k))) := hid rfl
        generalize Scr.stpN j (Scr.byt k) = s at *
        have HB := hid (stp_bits s hs)
        gi_wp2
        go_roundw
        case rel => exact ⟨trivial, j + 1, by omega, by first | rfl | go_num, by rw [HE.out, HB.out]⟩
        case measure => simp [intOf]; omega
      · obtain rfl : j = 8 := by omega
        gi_wp2
        exact hnext _ _ hlt ⟨hj3, _, _, _, _, _, _, _, _, _, _, _, _, _, _, _, _, _, _, _, _, _, _, rfl⟩
  · gi_wp2
    go_end0
    exact ⟨⟨_, rfl⟩, k, hkN, hjx⟩
end Go.Proofs.YtnklmadmenkdoaaGreat
