/- Maps: lookup and update by what is found. The counts of packets in a map. The ground segment sends data in a packet; a command. The ground segment takes a command. -/
import Derived.MapKept
import Derived.RowKit
import Derived.Test.YtnklmadmenkdoaaGreatQFndA
import Derived.Test.YtnklmadmenkdoaaGreatQSndL
import Derived.Test.YtnklmadmenkdoaaGreatQTkB
set_option linter.unusedVariables false
set_option linter.unusedSimpArgs false
namespace Go.Mp
open Go.RowKit
variable {P : Program} {w : World}
def KEq (P : Program) (kt : TypeId) (d : TypeDesc) (x p : Value) (b : Bool) : Prop := match d with | .struct _ => ∀ w, (Op.equal kt x p).run P w = .ok b w | _ => Instr.sameNow d x p = some b
def KFind (P : Program) (kt : TypeId) (d : TypeDesc) (x : Value) (ms : List MapEntry) (i : Nat) (res : Option (Nat × Value)) : Prop := match d with | .struct _ => ∀ w, (Instr.findAsking kt x ms i).run P w = .ok res w | _ => Instr.findNow d x ms i = some res
theorem KFind.nil {kt : TypeId} {d : TypeDesc} {x : Value} {i : Nat} : KFind P kt d x [] i none := by
  unfold KFind; split
  · intro w; simp [Instr.findAsking]
  · rfl
theorem KFind.hit {kt : TypeId} {d : TypeDesc} {x : Value} {i : Nat} {en : MapEntry} {ms : List MapEntry} (h : KEq P kt d x en.key true) : KFind P kt d x (en :: ms) i (some (i, en.val)) := by
  unfold KEq at h; unfold KFind
  cases d <;> first | (simp only [Instr.findNow, h]; done) | (intro w; simp [Instr.findAsking, h, Result.andThen])
theorem KFind.run {kt : TypeId} {d : TypeDesc} {x : Value} {ms : List MapEntry} {res : Option (Nat × Value)} (hd : P.underlying kt = some d) (h : KFind P kt d x ms 0 res) : (Instr.findKey kt x ms).run P w = .ok res w := by
  unfold KFind at h
  cases d
  case struct fs =>
    cases ms with
    | nil => have := h w; simp [Instr.findAsking] at this; subst this; simp [Instr.findKey, run_underlying hd, Result.andThen, Instr.findNow]
    | cons m ms => simp [Instr.findKey, run_underlying hd, Result.andThen, Instr.findNow, Instr.sameNow]; exact h w
  all_goals exact MapKept.run_findKey hd h
def lookRes (res : Option (Nat × Value)) (c : Bool) (zv : Value) : Value := match res, c with | some (_, y), true => .tuple #[y, .bool true] | some (_, y), false => y | none, true => .tuple #[zv, .bool false] | none, false => zv
theorem run_lookup {ty kt et : TypeId} {d : TypeDesc} {m : Value} {ms : List MapEntry} {xv zv : Value} {c : Bool} {res : Option (Nat × Value)} (hu : P.underlying ty = some (.map kt et)) (hd : P.underlying kt = some d) (hik : ∀ b w, (Instr.checkKey b 10000 kt xv).run P w = .ok () w)
    (hm : (m = .map none ∧ ms = []) ∨ ∃ n cl, m = .map (some n) ∧ w.heap[n]? = some (.map ⟨ms⟩ cl)) (hf : KFind P kt d xv ms 0 res) (hz : res = none → ∀ w, (zeroValue et).run P w = .ok zv w) :
    (Instr.lookup ty m xv c).run P w = .ok (lookRes res c zv) w := by
  have hck : ∀ b, (Instr.checkKey b 10000 kt xv).run P w = .ok () w := fun b => hik b w
  have hfk := hf.run (w := w) hd
  rcases hm with ⟨rfl, rfl⟩ | ⟨n, cl, rfl, hw⟩
  · simp only [Instr.lookup, Sem.run_bind, run_underlying hu, Result.andThen, Sem.run_pure, hck]
    rw [hfk]
    cases res with
    | none => simp only [Result.andThen, Sem.run_bind, hz rfl, Sem.run_pure]; cases c <;> rfl
    | some p => obtain ⟨i, y⟩ := p; simp only [Result.andThen, Sem.run_pure]; cases c <;> rfl
  · have hg : (getObj n).run P w = .ok (.map ⟨ms⟩ cl) w := MapKept.run_getObj_map hw
    simp only [Instr.lookup, Sem.run_bind, run_underlying hu, Result.andThen, hg, Sem.run_pure, hck, hfk]
    cases res with
    | none => simp only [Result.andThen, Sem.run_bind, hz rfl, Sem.run_pure]; cases c <;> rfl
    | some p => obtain ⟨i, y⟩ := p; simp only [Result.andThen, Sem.run_pure]; cases c <;> rfl
theorem run_mapUpdate {ty kt et : TypeId} {d : TypeDesc} {n cl : Nat} {ms : List MapEntry} {xv vv : Value} {res : Option (Nat × Value)} (hu : P.underlying ty = some (.map kt et)) (hd : P.underlying kt = some d) (hik : ∀ b w, (Instr.checkKey b 10000 kt xv).run P w = .ok () w)
    (hw : w.heap[n]? = some (.map ⟨ms⟩ cl)) (hf : KFind P kt d xv ms 0 res) (hsame : Instr.sameBits 10000 xv xv = true) (hkey : ∀ i old, res = some (i, old) → ∃ en, ms[i]? = some en ∧ en.key = xv) :
    (Instr.mapUpdate ty (.map (some n)) xv vv).run P w = .ok () { w with heap := w.heap.setIfInBounds n (match res with | some (i, _) => .map ⟨ms.modify i fun en => { en with key := xv, val := vv }⟩ cl | none => .map ⟨ms ++ [⟨xv, vv, cl⟩]⟩ (cl + 1)) } := by
  have hck : (Instr.checkKey false 10000 kt xv).run P w = .ok () w := hik false w
  have hfk := hf.run (w := w) hd
  have hg : (getObj n).run P w = .ok (.map ⟨ms⟩ cl) w := MapKept.run_getObj_map hw
  simp only [Instr.mapUpdate, Sem.run_bind, run_underlying hu, Result.andThen, hg, hck, hfk]
  cases res with
  | none =>
    simp only
    rw [MapKept.run_setObj_map _ hw]
    simp
  | some p =>
    obtain ⟨i, old⟩ := p
    obtain ⟨en, h1, h2⟩ := hkey i old rfl
    have hks : (Instr.keyThatStays (((⟨ms⟩ : Array MapEntry)[i]?.map (·.key)).getD xv) xv).run P w = .ok xv w := by
      have : ((⟨ms⟩ : Array MapEntry)[i]?.map (·.key)).getD xv = xv := by
        simp [h1, h2]
      rw [this]
      simp [Instr.keyThatStays, hsame]
    simp only [Sem.run_bind, hks, Result.andThen]
    rw [MapKept.run_setObj_map _ hw]
    have : (⟨ms⟩ : Array MapEntry).modify i (fun en => { en with key := xv, val := vv }) = ⟨ms.modify i fun en => { en with key := xv, val := vv }⟩ := by
      apply Array.ext'; simp
    rw [this]
end Go.Mp
namespace Go.Proofs.YtnklmadmenkdoaaGreat
open Go.RowKit Go.Proofs.Num
/-- The map of counts once k packets have been sent. -/
def cntO (k : Nat) : Obj := if k = 0 then .map #[] 0 else .map #[⟨.int .i64 10, .int .i64 (k : Int), 0⟩] 1
theorem cntO_succ (k : Nat) : cntO (k + 1) = .map #[⟨.int .i64 10, .int .i64 ((k + 1 : Nat) : Int), 0⟩] 1 := by unfold cntO; rw [if_neg (Nat.succ_ne_zero k)]
set_option maxRecDepth 100000 in
theorem chkInt : ∀ b w, (Instr.checkKey b 10000 3 (.int .i64 10)).run Tryz.prog w = .ok () w := fun b w => by first | rfl | simp [go_sem, Instr.checkKey] | kernel_rfl
set_option maxRecDepth 100000 in
theorem zeroInt : ∀ w, (zeroValue 3).run Tryz.prog w = .ok (.int .i64 0) w := fun w => by first | rfl | simp [go_sem] | kernel_rfl
theorem cnt_lookup {w : World} {mp k : Nat} (h : w.heap[mp]? = some (cntO k)) : (Instr.lookup 115 (.map (some mp)) (.int .i64 10) false).run Tryz.prog w = .ok (.int .i64 (k : Int)) w := by
  cases k with
  | zero => exact Go.Mp.run_lookup (P := Tryz.prog) (w := w) (c := false) (zv := .int .i64 0) Tryz.underlying115 Tryz.underlying3 chkInt (Or.inr ⟨mp, 0, rfl, h⟩) Go.Mp.KFind.nil (fun _ => zeroInt)
  | succ k =>
    rw [cntO_succ] at h
    exact Go.Mp.run_lookup (P := Tryz.prog) (w := w) (c := false) (zv := .int .i64 0) Tryz.underlying115 Tryz.underlying3 chkInt (Or.inr ⟨mp, 1, rfl, h⟩) (Go.Mp.KFind.hit (en := ⟨.int .i64 10, .int .i64 ((k + 1 : Nat) : Int), 0⟩) (show Go.Mp.KEq Tryz.prog 3 (.int .i64) (.int .i64 10) (.int .i64 10) true from rfl)) (fun _ => zeroInt)
theorem cnt_update {W w : World} {mp k : Nat} {l : List HProp} (hl : ∀ B ∈ l, Stable B) (h : Sts W (blkP mp (cntO k) :: l) w) : ∃ w', (Instr.mapUpdate 115 (.map (some mp)) (.int .i64 10) (.int .i64 ((k + 1 : Nat) : Int))).run Tryz.prog w = .ok () w' ∧ Sts W (blkP mp (cntO (k + 1)) :: l) w' := by
  have hb : w.heap[mp]? = some (cntO k) := by obtain ⟨F, hF⟩ := h.head; exact hF.1
  have hr : (Instr.mapUpdate 115 (.map (some mp)) (.int .i64 10) (.int .i64 ((k + 1 : Nat) : Int))).run Tryz.prog w = .ok () { w with heap := w.heap.setIfInBounds mp (cntO (k + 1)) } := by
    rw [cntO_succ]
    cases k with
    | zero => exact Go.Mp.run_mapUpdate (P := Tryz.prog) (w := w) (vv := .int .i64 ((0 + 1 : Nat) : Int)) (res := none) Tryz.underlying115 Tryz.underlying3 chkInt hb Go.Mp.KFind.nil (by rfl) (by intro i old h; cases h)
    | succ k =>
      rw [cntO_succ] at hb
      exact Go.Mp.run_mapUpdate (P := Tryz.prog) (w := w) (vv := .int .i64 ((k + 1 + 1 : Nat) : Int)) (res := some (0, .int .i64 ((k + 1 : Nat) : Int))) Tryz.underlying115 Tryz.underlying3 chkInt hb (Go.Mp.KFind.hit (en := ⟨.int .i64 10, .int .i64 ((k + 1 : Nat) : Int), 0⟩) (show Go.Mp.KEq Tryz.prog 3 (.int .i64) (.int .i64 10) (.int .i64 10) true from rfl)) (by rfl) (by
        intro i old hi
        injection hi with hi
        injection hi with h1 h2
        subst h1
        exact ⟨_, rfl, rfl⟩)
  refine ⟨_, hr, ?_⟩
  obtain ⟨F, ⟨F1, F2, ⟨a, hF1⟩, r, hd, hF⟩, hB, hn⟩ := h
  have hlt := lt_of_heap hb
  have hk : Keep (fun k => k = mp) w { w with heap := w.heap.setIfInBounds mp (cntO (k + 1)) } := ⟨rfl, rfl, rfl, by simp, fun i hi hne => by
    show (w.heap.setIfInBounds mp _)[i]? = _
    rw [Array.getElem?_setIfInBounds_ne (fun e => hne e.symm)]⟩
  refine ⟨F, ⟨F1, F2, ⟨?_, hF1⟩, (stars_stable hl).keep r hk (fun k h2 h1 => hd k ((hF1 k).2 h1) h2), hd, hF⟩, ?_, hn⟩
  · show (w.heap.setIfInBounds mp _)[mp]? = _
    rw [Array.getElem?_setIfInBounds]
    simp [hlt]
  · exact Keep.below hB hk hB.size (fun k hk => hn k ((hF k).2 (Or.inl ((hF1 k).2 hk))))
end Go.Proofs.YtnklmadmenkdoaaGreat
namespace Go.Proofs.YtnklmadmenkdoaaGreat
open Go.RowKit Go.Proofs.Num
/-- The ground segment as a value. -/
def staC (fi u0 u1 u2 ar tq c fq mp now next : Nat) : Array Value := #[.pointer (some ⟨fi, 0, none⟩), .pointer (some ⟨u0, 0, none⟩), .pointer (some ⟨u1, 0, none⟩), .pointer (some ⟨u2, 0, none⟩), .pointer (some ⟨ar, 0, none⟩), .pointer (some ⟨tq, 0, none⟩), .pointer (some ⟨c, 0, none⟩), .bool true, .int .i64 5, .int .i64 (now : Int), .pointer (some ⟨fq, 0, none⟩), .int .i64 (next : Int), .map (some mp)]
theorem exec_look {o : Oper} {a : Act} {w : World} (x y : Operand) (t : TypeId) (ho : o.op = .lookup t x y false) (m k v : Value) (hx : a.eval x = m) (hy : a.eval y = k) (hr : (Instr.lookup t m k false).run Tryz.prog w = .ok v w) : (execOp a.eval o).run Tryz.prog w = .ok (.value v) w := by
  unfold execOp
  simp only [ho, hx, hy]
  simp [Sem.run_bind, hr, Result.andThen]
theorem exec_upd {o : Oper} {a : Act} {w w' : World} (x y z : Operand) (t : TypeId) (ho : o.op = .mapUpdate t x y z) (m k v : Value) (hx : a.eval x = m) (hy : a.eval y = k) (hz : a.eval z = v) (hr : (Instr.mapUpdate t m k v).run Tryz.prog w = .ok () w') : (execOp a.eval o).run Tryz.prog w = .ok .skip w' := by
  unfold execOp
  simp only [ho, hx, hy, hz]
  simp [Sem.run_bind, hr, Result.andThen]
theorem wpList_look {ops : Array Oper} {rest : List Oper} {o : Oper} {a : Act} {Q : Exit → Act → World → Prop} {w : World} (hgd : o.guard = none) (x y : Operand) (t : TypeId) (ho : o.op = .lookup t x y false) (m k v : Value) (hx : a.eval x = m) (hy : a.eval y = k)
    (hr : (Instr.lookup t m k false).run Tryz.prog w = .ok v w) (h : wpList Tryz.prog ops Q rest (a.put o.dst v) w) : wpList Tryz.prog ops Q (o :: rest) a w := by
  refine wpList_plain hgd fun K hK => ?_
  have hr2 : (execOp a.eval o).run Tryz.prog w = .ok (.value v) w := by
    unfold execOp
    simp only [ho, hx, hy]
    simp [Sem.run_bind, hr, Result.andThen]
  unfold Oper.wp
  rw [hr2]
  exact hK _ _ h
section
variable {W w : World} {l : List HProp} (hl : ∀ B ∈ l, Stable B) (g fi u0 u1 u2 ar tq c fq mp now next k : Nat) (us : List (List Nat)) (fl fr fnow tm : Nat)
include hl
set_option maxRecDepth 100000 in
set_option maxHeartbeats 2000000 in
theorem cSend (hs : Sts W (blkP g (.cells (staC fi u0 u1 u2 ar tq c fq mp now next) 119 (0, 0)) :: blkP mp (cntO k) :: fopP fq us fl fr fnow tm :: l) w)
    (a : Option Addr) (cap : Nat) (d : List Nat) (hR : Rds W l (.slice a d.length cap) (u8s d)) (hv : NilOk (.slice a d.length cap)) (h1 : 1 ≤ d.length) (h2 : d.length ≤ 1000) (hk : k < 100) (hn : us.length < 100) :
    Calls Tryz.prog 44 #[.pointer (some ⟨g, 0, none⟩), .int .i64 10, .slice a d.length cap] w fun e w' => e = .returned (.int .i64 0) ∧ Sts W (blkP g (.cells (staC fi u0 u1 u2 ar tq c fq mp now next) 119 (0, 0)) :: blkP mp (cntO (k + 1)) :: fopP fq (us ++ [Cmd.pkB true false 10 3 k d]) fl fr fnow tm :: l) w' := by
  have HS := hid hs
  have HL := hid hl
  have HL2 := hid (show ∀ B ∈ blkP g (.cells (staC fi u0 u1 u2 ar tq c fq mp now next) 119 (0, 0)) :: blkP mp (cntO k) :: fopP fq us fl fr fnow tm :: l, Stable B from stabC (blkP_stable _ _) (stabC (blkP_stable _ _) (stabC (fopP_stable _ _ _ _ _ _) hl)))
  have c10 : w.cell? ⟨g, 10, none⟩ = some (.pointer (some ⟨fq, 0, none⟩)) := (Sts.boxCell hs 10 _ rfl).1
  have c12 : w.cell? ⟨g, 12, none⟩ = some (.map (some mp)) := (Sts.boxCell hs 12 _ rfl).1
  have HM : Hid (w.heap[mp]? = some (cntO k)) := hid (by obtain ⟨F, hF⟩ := hs.tail.head; exact hF.1)
  have HRW : Hid (Rd w (.slice a d.length cap) (u8s d)) := hid (hR _ _ hs.tail.tail)
  have HV := hid hv
  have e1 : ((k : Int) + 1) % 16384 = ((k + 1 : Nat) : Int) := by omega
  have e2 : wrap64 ((k : Int) + 1) = (k : Int) + 1 := by unfold wrap64; omega
  have e3 : ((k : Int) + 1).tmod 16384 = (k : Int) + 1 := by rw [Int.tmod_eq_emod_of_nonneg (by omega)]; omega
  have e4 : IntKind.i64.wrap ((k : Int) + 1) = (k : Int) + 1 := by rw [IntKind.wrap_i64]; omega
  have HP := hid (fun (w : World) (h : Rd w (.slice a d.length cap) (u8s d)) => cPkEncode true false 10 3 k a cap d w (by omega) (by omega) (by omega) h1 (by omega) h hv)
  have HD := hid h2
  have HN := hid hn
  clear hs hl hR hv h1 h2 hk hn
  go_enter Tryz.func44, Tryz.ntmps44
  go_wp2_with (first
    | (refine wpList_look rfl (.tmp 15) (.tmp 16) 115 rfl _ _ (.int .i64 (k : Int)) rfl rfl (cnt_lookup HM.out) ?_)
    | (go_at_call 116; refine (HP.out _ HRW.out).mono ?_; rintro e w1 ⟨r, rfl, hN⟩
       have h4 := Sts.new HL2.out HS.out hN
       rw [u8s_len] at h4
       have hpl := Cmd.pkB_len true false 10 3 k d
       obtain ⟨P, hP⟩ : ∃ P, P = Cmd.pkB true false 10 3 k d := ⟨_, rfl⟩
       rw [← hP] at h4 hpl
       obtain ⟨ra, rc, rfl⟩ := own_slice h4.rowOwn
       have H4 := hid h4
       have HPE := hid hP
       have hpl2 : 1 ≤ P.length ∧ P.length ≤ 1017 := by have := HD.out; omega
       have d10 : w1.cell? ⟨g, 10, none⟩ = some (.pointer (some ⟨fq, 0, none⟩)) := (Sts.boxCell h4.tail 10 _ rfl).1
       clear h4 hN hP hpl)
    | (go_at_call 117; refine (cFopSend (stabC (rowP_stable _ _ _ _ _) (stabC (blkP_stable _ _) (stabC (blkP_stable _ _) HL.out))) fq us fl fr fnow tm (H4.out.perm (List.perm_middle (l₁ := [_, _, _]))) ra rc P (Rds.row (u8s_len P) (List.mem_cons_self)) (NilOk.own H4.out.rowOwn) hpl2.1 hpl2.2 (by have := HN.out; omega)).mono ?_
       rintro e w2 ⟨rfl, h5⟩
       have h6 : Sts W (blkP g (.cells (staC fi u0 u1 u2 ar tq c fq mp now next) 119 (0, 0)) :: blkP mp (cntO k) :: fopP fq (us ++ [P]) fl fr fnow tm :: rowP 5 1 (.slice ra P.length rc) P.length (u8s P) :: l) w2 := h5.perm ((List.perm_append_comm (l₁ := [_, _]) (l₂ := [_, _])).append_right l)
       have H6 := hid h6
       clear h5 h6))
  have HL4 := hid (show ∀ B ∈ blkP g (.cells (staC fi u0 u1 u2 ar tq c fq mp now next) 119 (0, 0)) :: fopP fq (us ++ [P]) fl fr fnow tm :: rowP 5 1 (.slice ra P.length rc) P.length (u8s P) :: l, Stable B from stabC (blkP_stable _ _) (stabC (fopP_stable _ _ _ _ _ _) (stabC (rowP_stable _ _ _ _ _) HL.out)))
  refine wp_region_ordQS (fun i => i == 13) (.pure 0 (.pure 1 (.pure 2 (.pure 3 (.pure 4 (.pure 5 (.pure 6 (.pure 7 (.pure 8 (.pure 9 (.pure 10 (.pure 11 (.pure 12 (.eff 13 .nil)))))))))))))) (fun y => y.cell? ⟨g, 12, none⟩ = some (.map (some mp)) ∧ y.heap[mp]? = some (cntO k)) (fun y => Sts W (blkP mp (cntO k) :: blkP g (.cells (staC fi u0 u1 u2 ar tq c fq mp now next) 119 (0, 0)) :: fopP fq (us ++ [P]) fl fr fnow tm :: rowP 5 1 (.slice ra P.length rc) P.length (u8s P) :: l) y) (by kernel_rfl) (by kernel_rfl) (H6.out.swap.drew (stabC (blkP_stable _ _) HL4.out)) (fun y hy => ⟨(Sts.boxCell hy.tail 12 _ rfl).1, by obtain ⟨F, hF⟩ := hy.head; exact hF.1⟩) ?_
  iterate 10
    (apply ordq_pure (ho := rfl)
     · go_simp
     · intro x hx; obtain ⟨k0, k1⟩ := hx; go_simp; rfl
     apply ordq_norm
     · go_simp; rfl)
  apply ordq_pure (ho := rfl)
  · go_simp
  · intro x hx; exact exec_look (.tmp 43) (.tmp 44) 115 rfl _ _ (.int .i64 (k : Int)) rfl rfl (cnt_lookup hx.2)
  apply ordq_norm
  · go_simp; rfl
  iterate 2
    (apply ordq_pure (ho := rfl)
     · go_simp
     · intro x hx; obtain ⟨k0, k1⟩ := hx; go_simp; rfl
     apply ordq_norm
     · go_simp; rfl)
  apply ordq_eff (ho := rfl)
  · go_simp
  intro y hy
  obtain ⟨w3, g1, g2⟩ := cnt_update HL4.out hy
  refine effS_skip (fun _ => True) (fun y => Sts W (blkP mp (cntO (k + 1)) :: blkP g (.cells (staC fi u0 u1 u2 ar tq c fq mp now next) 119 (0, 0)) :: fopP fq (us ++ [P]) fl fr fnow tm :: rowP 5 1 (.slice ra P.length rc) P.length (u8s P) :: l) y) rfl (exec_upd (.tmp 38) (.tmp 39) (.tmp 47) 115 rfl _ _ (.int .i64 ((k + 1 : Nat) : Int)) rfl rfl ?_ g1) g2 (fun _ _ => trivial) ?_
  · go_simp
  apply ordq_norm
  · go_simp; rfl
  refine ordq_nil fun z hz => ?_
  have HU2 := hid hz
  clear hz g1 g2 hy y w3
  go_wp2_with fail
  go_ret
  refine ⟨rfl, ?_⟩
  rw [← HPE.out]
  have h7 : Sts W (blkP mp (cntO (k + 1)) :: blkP g (.cells (staC fi u0 u1 u2 ar tq c fq mp now next) 119 (0, 0)) :: fopP fq (us ++ [P]) fl fr fnow tm :: rowP 5 1 (.slice ra P.length rc) P.length (u8s P) :: l) z := HU2.out
  exact ((h7.swap.perm (List.perm_middle (l₁ := [_, _, _]))).tail)
end
end Go.Proofs.YtnklmadmenkdoaaGreat
namespace Cmd
theorem enc_len (src num s : Nat) (args : List Int) (data : List Nat) (h : cmdOk (s : Int) args data.length = true) : 4 ≤ (enc src num s args data).length ∧ (enc src num s args data).length ≤ 600 := by
  unfold cmdOk at h
  simp only [Bool.and_eq_true, decide_eq_true_eq] at h
  obtain ⟨h1, h2, h3, h4⟩ := h
  have h5 := argsB_len args (List.all_eq_true.1 h3)
  have h6 := argN_le (s : Int)
  unfold enc
  simp only [List.length_append, Oct.be_len]
  by_cases hd : datN (s : Int) = 1
  · rw [if_pos hd] at h4 ⊢
    simp only [Bool.and_eq_true, decide_eq_true_eq] at h4
    have := blobB_len data (by omega)
    omega
  · rw [if_neg hd]; simp; omega
end Cmd
namespace Go.Proofs.YtnklmadmenkdoaaGreat
open Go.RowKit Go.Proofs.Num
section
variable {W w : World} {l : List HProp} (hl : ∀ B ∈ l, Stable B) (g fi u0 u1 u2 ar tq c fq mp k : Nat) (us : List (List Nat)) (fl fr fnow tm : Nat)
/-- The ground segment at the time 0, after k commands. -/
def stL (g fi u0 u1 u2 ar tq c fq mp k : Nat) (us : List (List Nat)) (fl fr fnow tm : Nat) : List HProp := [blkP g (.cells (staC fi u0 u1 u2 ar tq c fq mp 0 (k + 1)) 119 (0, 0)), blkP mp (cntO k), fopP fq us fl fr fnow tm, trkP tq k]
theorem stL_stable (hl : ∀ B ∈ l, Stable B) : ∀ B ∈ stL g fi u0 u1 u2 ar tq c fq mp k us fl fr fnow tm ++ l, Stable B := stabC (blkP_stable _ _) (stabC (blkP_stable _ _) (stabC (fopP_stable _ _ _ _ _ _) (stabC (trkP_stable _ _) hl)))
set_option maxRecDepth 100000 in
theorem cStaUsable {now next : Nat} (hs : Sts W (blkP g (.cells (staC fi u0 u1 u2 ar tq c fq mp now next) 119 (0, 0)) :: l) w) : Calls Tryz.prog 42 #[.pointer (some ⟨g, 0, none⟩)] w fun e w' => e = .returned (.bool true) ∧ w = w' := by
  have c7 : w.cell? ⟨g, 7, none⟩ = some (.bool true) := (Sts.boxCell hs 7 _ rfl).1
  clear hs
  go_enter Tryz.func42, Tryz.ntmps42
  go_wp2_with fail
  go_ret
  exact ⟨rfl, rfl⟩
include hl
set_option maxRecDepth 100000 in
set_option maxHeartbeats 4000000 in
theorem cCommandOk (hs : Sts W (stL g fi u0 u1 u2 ar tq c fq mp k us fl fr fnow tm ++ l) w) (sv : Nat) (aa : Option Addr) (ca : Nat) (args : List Int) (ad : Option Addr) (cd : Nat) (data : List Nat) (hR : Rd w (.slice aa args.length ca) (i64s args)) (hD : RdB w (.slice ad data.length cd) data) (hN : data.length < 100000) (hnl : ad = none → cd = 0) (hk : k < 12) (hus : us.length < 100) (hok : Cmd.cmdOk (sv : Int) args data.length = true) :
    Calls Tryz.prog 11 #[.pointer (some ⟨g, 0, none⟩), .int .i64 (sv : Int), .slice aa args.length ca, .slice ad data.length cd] w fun e w' => e = .returned (.tuple #[.int .i64 ((k + 1 : Nat) : Int), .int .i64 0]) ∧ Sts W (stL g fi u0 u1 u2 ar tq c fq mp (k + 1) (us ++ [Cmd.pkB true false 10 3 k (Cmd.enc 1 (k + 1) sv args data)]) fl fr fnow tm ++ l) w' := by
  have HS := hid hs
  have HL := hid hl
  have HL2 := hid (stL_stable g fi u0 u1 u2 ar tq c fq mp k us fl fr fnow tm hl)
  have HU := hid (cStaUsable g fi u0 u1 u2 ar tq c fq mp hs)
  obtain ⟨nx, hnx⟩ : ∃ nx, nx = k + 1 := ⟨_, rfl⟩
  have c11 : w.cell? ⟨g, 11, none⟩ = some (.int .i64 (nx : Int)) := by rw [hnx]; exact (Sts.boxCell hs 11 _ rfl).1
  have hE := cCmdEncode w 1 nx sv aa ca args ad cd data (by omega) (by omega) hR hD hN hnl hok
  have hln := Cmd.enc_len 1 nx sv args data hok
  have HE := hid hE
  have d1 : decide (65535 < (nx : Int)) = false := decide_eq_false (by omega)
  have HNX := hid hnx
  have HK := hid hk
  have HUS := hid hus
  clear hs hl hR hD hN hnl hk hok hE hnx hus
  obtain ⟨B, hB⟩ : ∃ B, B = Cmd.enc 1 nx sv args data := ⟨_, rfl⟩
  rw [← hB] at HE hln
  have HBE := hid hB
  have hl4 : 1 ≤ B.length := by omega
  have hl6 : B.length ≤ 1000 := by omega
  clear hB hln
  go_enter Tryz.func11, Tryz.ntmps11
  go_wp2_with (first
    | (go_at_call 42; refine HU.out.mono ?_; rintro e w1 ⟨rfl, rfl⟩)
    | (go_at_call 43; refine HE.out.mono ?_; rintro e w1 ⟨r, rfl, hN⟩
       have h4 := Sts.new HL2.out HS.out hN
       rw [u8s_len] at h4
       obtain ⟨ra, rc, rfl⟩ := own_slice h4.rowOwn
       have H4 := hid h4
       clear h4 hN)
    | (go_at_call 44; refine (cSend (l := trkP tq k :: rowP 5 1 (.slice ra B.length rc) B.length (u8s B) :: l) (stabC (trkP_stable _ _) (stabC (rowP_stable _ _ _ _ _) HL.out)) g fi u0 u1 u2 ar tq c fq mp 0 (k + 1) k us fl fr fnow tm (H4.out.perm (List.perm_append_comm (l₁ := [_]) (l₂ := [_, _, _, _]) |>.append_right l)) ra rc B (Rds.row (u8s_len B) (List.mem_cons_of_mem _ List.mem_cons_self)) (NilOk.own H4.out.rowOwn) hl4 hl6 (by have := HK.out; omega) HUS.out).mono ?_
       rintro e w2 ⟨rfl, h5⟩
       have H5 := hid h5
       have e11 : w2.cell? ⟨g, 11, none⟩ = some (.int .i64 (nx : Int)) := by rw [HNX.out]; exact (Sts.boxCell h5 11 _ rfl).1
       have e2 : wrap64 ((nx : Int) + 1) = (nx : Int) + 1 := by have h1 := HNX.out; have h2 := HK.out; unfold wrap64; omega
       have e3 : IntKind.i64.wrap ((nx : Int) + 1) = (nx : Int) + 1 := by have h1 := HNX.out; have h2 := HK.out; rw [IntKind.wrap_i64]; omega
       clear h5)
    | (refine wpList_cellS H5.out (stabC (blkP_stable _ _) (stabC (fopP_stable _ _ _ _ _ _) (stabC (trkP_stable _ _) (stabC (rowP_stable _ _ _ _ _) HL.out)))) rfl (.tmp 55) (.tmp 53) 3 rfl 11 (.int .i64 ((nx : Int) + 1)) rfl rfl szInt (show 11 < 13 by decide) rfl ?_; intro w3 h6
       have H6 : Hid (Sts W (blkP g (.cells (staC fi u0 u1 u2 ar tq c fq mp 0 (k + 1 + 1)) 119 (0, 0)) :: blkP mp (cntO (k + 1)) :: fopP fq (us ++ [Cmd.pkB true false 10 3 k B]) fl fr fnow tm :: trkP tq k :: rowP 5 1 (.slice ra B.length rc) B.length (u8s B) :: l) w3) := hid (by
         have h7 : ((nx : Int) + 1) = ((k + 1 + 1 : Nat) : Int) := by rw [HNX.out]; omega
         rw [h7] at h6
         exact h6)
       clear h6 H5 H4))
  have HLR := hid (show ∀ B' ∈ blkP g (.cells (staC fi u0 u1 u2 ar tq c fq mp 0 (k + 1 + 1)) 119 (0, 0)) :: blkP mp (cntO (k + 1)) :: fopP fq (us ++ [Cmd.pkB true false 10 3 k B]) fl fr fnow tm :: rowP 5 1 (.slice ra B.length rc) B.length (u8s B) :: l, Stable B' from stabC (blkP_stable _ _) (stabC (blkP_stable _ _) (stabC (fopP_stable _ _ _ _ _ _) (stabC (rowP_stable _ _ _ _ _) HL.out))))
  refine wp_region_ordQ (.pure 0 (.pure 1 (.pure 2 (.pure 3 (.pure 4 (.pure 5 (.pure 6 (.pure 7 (.pure 8 (.pure 9 (.eff 10 .nil))))))))))) (fun y => y.cell? ⟨g, 5, none⟩ = some (.pointer (some ⟨tq, 0, none⟩)) ∧ y.cell? ⟨g, 9, none⟩ = some (.int .i64 0)) (fun y => Sts W (trkP tq k :: blkP g (.cells (staC fi u0 u1 u2 ar tq c fq mp 0 (k + 1 + 1)) 119 (0, 0)) :: blkP mp (cntO (k + 1)) :: fopP fq (us ++ [Cmd.pkB true false 10 3 k B]) fl fr fnow tm :: rowP 5 1 (.slice ra B.length rc) B.length (u8s B) :: l) y) (by kernel_rfl) (by kernel_rfl) ((H6.out.perm (List.perm_middle (l₁ := [_, _, _]))).drew (stabC (trkP_stable _ _) HLR.out)) (fun y hy => ⟨(Sts.boxCell hy.tail 5 _ rfl).1, (Sts.boxCell hy.tail 9 _ rfl).1⟩) ?_
  iterate 10
    (apply ordq_pure (ho := rfl)
     · go_simp
     · intro x hx; obtain ⟨k0, k1⟩ := hx; go_simp; rfl
     apply ordq_norm
     · go_simp; rfl)
  apply ordq_eff (ho := rfl)
  · go_simp
  intro y hy
  have hI := cIssue HLR.out tq k HK.out hy
  rw [← HNX.out] at hI
  refine eff_call (f := 45) (by go_simp) hI ?_
  rintro e w4 ⟨rfl, h8⟩
  rw [HNX.out] at h8
  refine ⟨_, rfl, (fun y => y.cell? ⟨g, 5, none⟩ = some (.pointer (some ⟨tq, 0, none⟩)) ∧ y.cell? ⟨g, 9, none⟩ = some (.int .i64 0)), (fun y => Sts W (trkP tq (k + 1) :: blkP g (.cells (staC fi u0 u1 u2 ar tq c fq mp 0 (k + 1 + 1)) 119 (0, 0)) :: blkP mp (cntO (k + 1)) :: fopP fq (us ++ [Cmd.pkB true false 10 3 k B]) fl fr fnow tm :: rowP 5 1 (.slice ra B.length rc) B.length (u8s B) :: l) y), h8, (fun y hy => ⟨(Sts.boxCell hy.tail 5 _ rfl).1, (Sts.boxCell hy.tail 9 _ rfl).1⟩), (fun _ h => h), ?_⟩
  apply ordq_norm
  · go_simp; rfl
  refine ordq_nil fun z hz => ?_
  have HZ := hid hz
  clear hz h8 hy y w4 hI
  go_wp2_with fail
  go_ret2
  refine ⟨by rw [show ((k + 1 : Nat) : Int) = (nx : Int) by rw [HNX.out]]; rfl, ?_⟩
  have h9 : Sts W (trkP tq (k + 1) :: blkP g (.cells (staC fi u0 u1 u2 ar tq c fq mp 0 (k + 1 + 1)) 119 (0, 0)) :: blkP mp (cntO (k + 1)) :: fopP fq (us ++ [Cmd.pkB true false 10 3 k B]) fl fr fnow tm :: rowP 5 1 (.slice ra B.length rc) B.length (u8s B) :: l) z := HZ.out
  rw [HBE.out, HNX.out] at h9
  exact (((h9.perm (List.perm_append_comm (l₁ := [_]) (l₂ := [_, _, _]) |>.append_right _)).perm (List.perm_middle (l₁ := [_, _, _, _]))).tail)
end
end Go.Proofs.YtnklmadmenkdoaaGreat
