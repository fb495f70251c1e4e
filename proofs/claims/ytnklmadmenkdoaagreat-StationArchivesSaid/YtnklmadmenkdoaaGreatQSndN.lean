/- The encoding of space packets. Small methods of the sending end of the uplink and of the tracker. Rows of byte strings; the sending end of the uplink takes a unit. -/
import Derived.Test.YtnklmadmenkdoaaGreatQSndI
import Derived.Test.YtnklmadmenkdoaaGreatQStr
set_option linter.unusedVariables false
set_option linter.unusedSimpArgs false
namespace Cmd
def fl (b : Bool) (v : Nat) : Nat := if b = true then v else 0
def pkF (b1 b2 : Bool) (apid : Nat) : Nat := (fl b1 4096 ||| fl b2 2048) ||| apid
def pkS (fg cnt : Nat) : Nat := fg * 16384 ||| cnt
/-- The header of a packet. -/
def pkH (b1 b2 : Bool) (apid fg cnt n : Nat) : List Nat := [pkF b1 b2 apid / 256, pkF b1 b2 apid % 256, pkS fg cnt / 256, pkS fg cnt % 256, (n - 1) / 256, (n - 1) % 256]
def pkB (b1 b2 : Bool) (apid fg cnt : Nat) (d : List Nat) : List Nat := pkH b1 b2 apid fg cnt d.length ++ d
theorem pkB_len (b1 b2 : Bool) (apid fg cnt : Nat) (d : List Nat) : (pkB b1 b2 apid fg cnt d).length = d.length + 6 := by simp [pkB, pkH]
theorem fl_lt (b : Bool) {v m : Nat} (h : v < m) : fl b v < m := by unfold fl; split <;> omega
theorem pkF_lt (b1 b2 : Bool) (apid : Nat) (h : apid < 2048) : pkF b1 b2 apid < 8192 :=
  Nat.or_lt_two_pow (n := 13) (Nat.or_lt_two_pow (n := 13) (fl_lt b1 (by decide)) (fl_lt b2 (by decide))) (by omega)
theorem pkS_lt (fg cnt : Nat) (h1 : fg ≤ 3) (h2 : cnt ≤ 16383) : pkS fg cnt < 65536 := Nat.or_lt_two_pow (n := 16) (by omega) (by omega)
end Cmd
namespace Go.Proofs.YtnklmadmenkdoaaGreat
open Go.RowKit Go.Proofs.Num
theorem blkP.row {b : Nat} {cs : Array Value} {e : TypeId} {w : World} {F : Nat → Prop} (h : blkP b (.cells cs e (0, 0)) w F) (hm : cs.size ≤ 1000000) : rowP e 1 (.slice (some ⟨b, 0, none⟩) cs.size cs.size) cs.size cs.toList w F :=
  ⟨⟨by simp, Or.inr ⟨b, cs.size, cs, rfl, Nat.zero_le _, h.1, Nat.le_refl _, by unfold maxLen; omega, by omega, List.take_of_length_le (by simp)⟩⟩, fun k => by rw [h.2 k]; simp [Value.ownBlock]; exact eq_comm⟩
/-- A packet as a value. -/
def pkV (b1 b2 : Bool) (apid fg cnt : Nat) (v : Value) : Array Value := #[.bool b1, .bool b2, .int .i64 (apid : Int), .int .i64 (fg : Int), .int .i64 (cnt : Int), v]
set_option maxRecDepth 100000 in
theorem infoPk : (Tryz.prog.info? 50).map (·.size) = some 6 := by kernel_rfl
theorem ldPk {W w : World} {l : List HProp} {b : Nat} {cs : Array Value} (hs : cs.size = 6) (h : Sts W (blkP b (.cells cs 50 (0, 0)) :: l) w) : (loadVar 50 ⟨b, 0, none⟩).run Tryz.prog w = .ok (.agg cs) w := by
  have hb : w.heap[b]? = some (.cells cs 50 (0, 0)) := by obtain ⟨F, hF⟩ := h.head; exact hF.1
  exact run_loadVar_row (P := Tryz.prog) w b 50 50 cs (0, 0) _ hb Tryz.underlying50 rfl (by rw [infoPk, hs])
set_option maxRecDepth 100000 in
theorem cPkFlag (w : World) (b : Bool) (v : Nat) : Calls Tryz.prog 199 #[.bool b, .int .i64 (v : Int)] w fun e w' => e = .returned (.int .i64 ((Cmd.fl b v : Nat) : Int)) ∧ w = w' := by
  cases b
  all_goals
    go_enter Tryz.func199, Tryz.ntmps199
    go_wp2_with fail
    go_ret
    exact ⟨rfl, rfl⟩
section
variable (b1 b2 : Bool) (apid fg cnt n : Nat) (a : Option Addr) (cap : Nat) (w : World) (h1 : apid ≤ 2046) (h2 : fg ≤ 3) (h3 : cnt ≤ 16383) (h4 : 1 ≤ n) (h5 : n ≤ 4090)
include h1 h2 h3 h4 h5
set_option maxRecDepth 100000 in
theorem cPkValid : Calls Tryz.prog 198 #[.agg (pkV b1 b2 apid fg cnt (.slice a n cap))] w fun e w' => e = .returned (.bool true) ∧ Below w.heap.size w w' := by
  have HB : Hid (Below w.heap.size w (w.alloc (.cells (pkV b1 b2 apid fg cnt (.slice a n cap)) 50))) := hid ((Below.refl _ _).alloc (Nat.le_refl _) _)
  have d1 : decide ((apid : Int) < 0) = false := decide_eq_false (by omega)
  have d2 : decide (2047 < (apid : Int)) = false := decide_eq_false (by omega)
  have d3 : decide ((fg : Int) < 0) = false := decide_eq_false (by omega)
  have d4 : decide (3 < (fg : Int)) = false := decide_eq_false (by omega)
  have d5 : decide ((cnt : Int) < 0) = false := decide_eq_false (by omega)
  have d6 : decide (16383 < (cnt : Int)) = false := decide_eq_false (by omega)
  have d7 : decide ((n : Int) < 1) = false := decide_eq_false (by omega)
  have d8 : decide (4090 < (n : Int)) = false := decide_eq_false (by omega)
  have d9 : ((apid : Int) != 2047) = true := by rw [bne_iff_ne]; omega
  clear h1 h2 h3 h4 h5
  unfold pkV at *
  go_enter Tryz.func198, Tryz.ntmps198
  go_wp2_with fail
  go_ret
  exact ⟨rfl, HB.out⟩
end
set_option maxRecDepth 100000 in
set_option maxHeartbeats 2000000 in
theorem cPkEncode (b1 b2 : Bool) (apid fg cnt : Nat) (a : Option Addr) (cap : Nat) (d : List Nat) (w : World) (h1 : apid ≤ 2046) (h2 : fg ≤ 3) (h3 : cnt ≤ 16383) (h4 : 1 ≤ d.length) (h5 : d.length ≤ 4090) (hd : Rd w (.slice a d.length cap) (u8s d)) (hv : NilOk (.slice a d.length cap)) :
    Calls Tryz.prog 116 #[.agg (pkV b1 b2 apid fg cnt (.slice a d.length cap))] w fun e w' => ∃ r, e = .returned (.tuple #[r, .int .i64 0]) ∧ New w w' 5 r (u8s (Cmd.pkB b1 b2 apid fg cnt d)) := by
  have HS : Hid (Sts w (blkP w.heap.size (.cells (pkV b1 b2 apid fg cnt (.slice a d.length cap)) 50 (0, 0)) :: []) (w.alloc (.cells (pkV b1 b2 apid fg cnt (.slice a d.length cap)) 50))) := hid (Sts.alloc stab0 (Sts.nil w) _)
  have HLB : Hid (∀ B ∈ [blkP w.heap.size (.cells (pkV b1 b2 apid fg cnt (.slice a d.length cap)) 50 (0, 0))], Stable B) := hid (stabC (blkP_stable _ _) stab0)
  have KV := hid (fun w => cPkValid b1 b2 apid fg cnt d.length a cap w h1 h2 h3 h4 h5)
  have HD := hid hd
  have HNK := hid hv
  have hF := Cmd.pkF_lt b1 b2 apid (by omega)
  have hS := Cmd.pkS_lt fg cnt h2 h3
  have HE : Hid (∀ F S n1 : Nat, F = Cmd.pkF b1 b2 apid → S = Cmd.pkS fg cnt → n1 = d.length - 1 → [F / 256, F % 256, S / 256, S % 256, n1 / 256, n1 % 256] ++ d = Cmd.pkB b1 b2 apid fg cnt d) := hid (by rintro F S n1 rfl rfl rfl; rfl)
  have f1 := Cmd.fl_lt b1 (show 4096 < 8192 by decide)
  have f2 := Cmd.fl_lt b2 (show 2048 < 8192 by decide)
  have K1 := hid (fun w => cPkFlag w b1 4096)
  have K2 := hid (fun w => cPkFlag w b2 2048)
  have hFe : Cmd.pkF b1 b2 apid = (Cmd.fl b1 4096 ||| Cmd.fl b2 2048) ||| apid := rfl
  have hSe : Cmd.pkS fg cnt = fg * 16384 ||| cnt := rfl
  generalize Cmd.fl b1 4096 = x1 at *
  generalize Cmd.fl b2 2048 = x2 at *
  obtain ⟨x3, hx3⟩ : ∃ x3, x3 = x1 ||| x2 := ⟨_, rfl⟩
  have f3 : x3 < 8192 := by rw [hx3]; exact Nat.or_lt_two_pow (n := 13) f1 f2
  obtain ⟨F, hFF⟩ : ∃ F, F = Cmd.pkF b1 b2 apid := ⟨_, rfl⟩
  obtain ⟨S, hSS⟩ : ∃ S, S = Cmd.pkS fg cnt := ⟨_, rfl⟩
  obtain ⟨n1, hn1⟩ : ∃ n1, n1 = d.length - 1 := ⟨_, rfl⟩
  have HE2 := hid (HE.out F S n1 hFF hSS hn1)
  have g1 : bits .or .i64 (x1 : Int) (x2 : Int) = (x3 : Int) := by rw [i64_or _ _ (by omega) (by omega), hx3]
  have g2 : bits .or .i64 (x3 : Int) (apid : Int) = (F : Int) := by rw [i64_or _ _ (by omega) (by omega), hFF, hFe, hx3]
  obtain ⟨y, hy⟩ : ∃ y, y = fg * 16384 := ⟨_, rfl⟩
  have g3 : wrap64 ((fg : Int) * 16384) = (y : Int) := by unfold wrap64; omega
  have g4 : bits .or .i64 (y : Int) (cnt : Int) = (S : Int) := by rw [i64_or _ _ (by omega) (by omega), hSS, hSe, hy]
  have g5 : wrap64 ((d.length : Int) - 1) = (n1 : Int) := by unfold wrap64; omega
  rw [← hFF] at hF
  rw [← hSS] at hS
  obtain ⟨F0, hF0⟩ : ∃ F0, F0 = F / 256 := ⟨_, rfl⟩
  obtain ⟨F1, hF1⟩ : ∃ F1, F1 = F % 256 := ⟨_, rfl⟩
  obtain ⟨S0, hS0⟩ : ∃ S0, S0 = S / 256 := ⟨_, rfl⟩
  obtain ⟨S1, hS1⟩ : ∃ S1, S1 = S % 256 := ⟨_, rfl⟩
  obtain ⟨N0, hN0⟩ : ∃ N0, N0 = n1 / 256 := ⟨_, rfl⟩
  obtain ⟨N1, hN1⟩ : ∃ N1, N1 = n1 % 256 := ⟨_, rfl⟩
  have k1 : (F : Int) / 256 = (F0 : Int) := by omega
  have k2 : (F : Int) % 256 = (F1 : Int) := by omega
  have k3 : (F0 : Int) % 256 = (F0 : Int) := by omega
  have k4 : (S : Int) / 256 = (S0 : Int) := by omega
  have k5 : (S : Int) % 256 = (S1 : Int) := by omega
  have k6 : (S0 : Int) % 256 = (S0 : Int) := by omega
  have k7 : (n1 : Int) / 256 = (N0 : Int) := by omega
  have k8 : (n1 : Int) % 256 = (N1 : Int) := by omega
  have k9 : (N0 : Int) % 256 = (N0 : Int) := by omega
  have HE3 : Hid ([F0, F1, S0, S1, N0, N1] ++ d = Cmd.pkB b1 b2 apid fg cnt d) := hid (by rw [← HE2.out, hF0, hF1, hS0, hS1, hN0, hN1])
  have H5 := hid h5
  clear hd hv h1 h2 h3 h4 h5 hF hS HE HE2 f1 f2 f3 hFe hSe hx3 hFF hSS hn1 hy hF0 hF1 hS0 hS1 hN0 hN1
  have HLD := hid (fun (y : World) (h : Sts w (blkP w.heap.size (.cells (pkV b1 b2 apid fg cnt (.slice a d.length cap)) 50 (0, 0)) :: []) y) => ldPk (cs := pkV b1 b2 apid fg cnt (.slice a d.length cap)) rfl h)
  go_enter Tryz.func116, Tryz.ntmps116
  go_wp2_with (first
    | (refine wpList_ldS rfl (.tmp 1) 50 rfl rfl (.agg (pkV b1 b2 apid fg cnt (.slice a d.length cap))) (HLD.out _ HS.out) ?_)
    | (go_at_call 198; refine (KV.out _).mono ?_; rintro e w1 ⟨rfl, hb1⟩; have H1 := hid (HS.out.quiet HLB.out hb1); clear hb1))
  refine wp_region_ordQ (.pure 0 (.pure 1 (.pure 3 (.pure 4 (.pure 7 (.pure 8 (.pure 2 (.pure 5 (.pure 6 (.pure 9 (.pure 10 .nil))))))))))) (fun y => y.cell? ⟨w.heap.size, 0, none⟩ = some (.bool b1) ∧ y.cell? ⟨w.heap.size, 1, none⟩ = some (.bool b2) ∧ y.cell? ⟨w.heap.size, 2, none⟩ = some (.int .i64 (apid : Int))) (fun y => Sts w [blkP w.heap.size (.cells (pkV b1 b2 apid fg cnt (.slice a d.length cap)) 50 (0, 0))] y) (by kernel_rfl) (by kernel_rfl) (H1.out.drew HLB.out) (fun y hy => ⟨(Sts.boxCell hy 0 _ rfl).1, (Sts.boxCell hy 1 _ rfl).1, (Sts.boxCell hy 2 _ rfl).1⟩) ?_
  iterate 6
    (apply ordq_pure (ho := rfl)
     · go_simp
     · intro x hx; obtain ⟨q0, q1, q2⟩ := hx; go_simp; rfl
     apply ordq_norm
     · go_simp; rfl)
  apply ordq_call (ho := rfl) (f := 199) (args := #[.bool b1, .int .i64 ((4096 : Nat) : Int)]) (v := .int .i64 (x1 : Int)) (h2 := fun x _ => K1.out x)
  · go_simp
  · intro x hx; go_simp
  apply ordq_norm
  · go_simp; rfl
  apply ordq_call (ho := rfl) (f := 199) (args := #[.bool b2, .int .i64 ((2048 : Nat) : Int)]) (v := .int .i64 (x2 : Int)) (h2 := fun x _ => K2.out x)
  · go_simp
  · intro x hx; go_simp
  apply ordq_norm
  · go_simp; rfl
  iterate 3
    (apply ordq_pure (ho := rfl)
     · go_simp
     · intro x hx; go_simp; rfl
     apply ordq_norm
     · go_simp; rfl)
  refine ordq_nil fun z hz => ?_
  have HZ := hid hz
  have c3 : z.cell? ⟨w.heap.size, 3, none⟩ = some (.int .i64 (fg : Int)) := (Sts.boxCell hz 3 _ rfl).1
  have c4 : z.cell? ⟨w.heap.size, 4, none⟩ = some (.int .i64 (cnt : Int)) := (Sts.boxCell hz 4 _ rfl).1
  have c5 : z.cell? ⟨w.heap.size, 5, none⟩ = some (.slice a d.length cap) := (Sts.boxCell hz 5 _ rfl).1
  have h2 := Sts.alloc HLB.out hz (.cells #[.int .u8 (F0 : Int), .int .u8 (F1 : Int), .int .u8 (S0 : Int), .int .u8 (S1 : Int), .int .u8 (N0 : Int), .int .u8 (N1 : Int)] 5)
  have e5 : (z.alloc (.cells #[.int .u8 (F0 : Int), .int .u8 (F1 : Int), .int .u8 (S0 : Int), .int .u8 (S1 : Int), .int .u8 (N0 : Int), .int .u8 (N1 : Int)] 5)).cell? ⟨w.heap.size, 5, none⟩ = some (.slice a d.length cap) := (Sts.boxCell h2.tail 5 _ rfl).1
  have H2 : Hid (Sts w (rowP 5 1 (.slice (some ⟨z.heap.size, 0, none⟩) 6 6) 6 (u8s [F0, F1, S0, S1, N0, N1]) :: [blkP w.heap.size (.cells (pkV b1 b2 apid fg cnt (.slice a d.length cap)) 50 (0, 0))]) (z.alloc (.cells #[.int .u8 (F0 : Int), .int .u8 (F1 : Int), .int .u8 (S0 : Int), .int .u8 (S1 : Int), .int .u8 (N0 : Int), .int .u8 (N1 : Int)] 5))) := hid (h2.weaken (fun F h => blkP.row h (show 6 ≤ 1000000 by decide)))
  have HR := hid (HD.out.below H2.out.below)
  clear hz h2
  go_wp2_with (first
    | (at_builtin; refine wpList_app8 (l := [F0, F1, S0, S1, N0, N1]) rfl (.tmp 47) (.tmp 49) rfl H2.out HLB.out rfl rfl HR.out HNK.out (by have := H5.out; simp; omega) ?_; intro v1 w4 h3; have HN := hid (New.of_sts (h3.swap.tail) (by rw [u8s_len, List.length_append])); clear h3))
  go_ret2
  exact ⟨_, rfl, by rw [← HE3.out]; exact HN.out⟩
end Go.Proofs.YtnklmadmenkdoaaGreat
namespace Go.Proofs.YtnklmadmenkdoaaGreat
open Go.RowKit Go.Proofs.Num
/-- The sending end as cells. -/
def fopC (size : Int) (units : Value) (acked flight front : Int) (craft chan to re state now timer reps : Int) : Array Value :=
  #[.int .i64 size, units, .int .i64 acked, .int .i64 flight, .int .i64 front, .bool true, .int .i64 craft, .int .i64 chan, .int .i64 to, .int .i64 re, .int .i64 state, .slice none 0 0, .int .i64 now, .int .i64 timer, .int .i64 reps]
section
variable {W w : World} {l : List HProp} (q : Nat) (size : Int) (units : Value) (acked flight front : Int) (craft chan to re state now timer reps : Int) (hs : Sts W (blkP q (.cells (fopC size units acked flight front craft chan to re state now timer reps) 216 (0, 0)) :: l) w)
include hs
set_option maxRecDepth 100000 in
theorem cFopUsable : Calls Tryz.prog 129 #[.pointer (some ⟨q, 0, none⟩)] w fun e w' => e = .returned (.bool true) ∧ w = w' := by
  have k5 : w.cell? ⟨q, 5, none⟩ = some (.bool true) := (Sts.boxCell hs 5 _ rfl).1
  clear hs
  go_enter Tryz.func129, Tryz.ntmps129
  go_wp2_with fail
  go_ret
  exact ⟨rfl, rfl⟩
set_option maxRecDepth 100000 in
theorem cFopState : Calls Tryz.prog 51 #[.pointer (some ⟨q, 0, none⟩)] w fun e w' => e = .returned (.int .i64 state) ∧ w = w' := by
  have k10 : w.cell? ⟨q, 10, none⟩ = some (.int .i64 state) := (Sts.boxCell hs 10 _ rfl).1
  have HU := hid (cFopUsable q size units acked flight front craft chan to re state now timer reps hs)
  clear hs
  go_enter Tryz.func51, Tryz.ntmps51
  go_wp2_with (first | (go_at_call 129; refine HU.out.mono ?_; rintro e w2 ⟨rfl, rfl⟩))
  go_ret
  exact ⟨rfl, rfl⟩
end
section
variable {W w : World} {l : List HProp} (q : Nat) (size : Int) (ua : Option Addr) (n uc : Nat) (acked flight front : Int) (craft chan to re state now timer reps : Int) (hs : Sts W (blkP q (.cells (fopC size (.slice ua n uc) acked flight front craft chan to re state now timer reps) 216 (0, 0)) :: l) w)
include hs
set_option maxRecDepth 100000 in
theorem cFopQueued : Calls Tryz.prog 53 #[.pointer (some ⟨q, 0, none⟩)] w fun e w' => e = .returned (.int .i64 (n : Int)) ∧ w = w' := by
  have k1 : w.cell? ⟨q, 1, none⟩ = some (.slice ua n uc) := (Sts.boxCell hs 1 _ rfl).1
  have HU := hid (cFopUsable q size (.slice ua n uc) acked flight front craft chan to re state now timer reps hs)
  clear hs
  go_enter Tryz.func53, Tryz.ntmps53
  go_wp2_with (first | (go_at_call 129; refine HU.out.mono ?_; rintro e w2 ⟨rfl, rfl⟩))
  go_ret
  exact ⟨rfl, rfl⟩
end
end Go.Proofs.YtnklmadmenkdoaaGreat
namespace Go.Proofs.Num
open Go.RowKit
/-- Byte strings, each in a row of its own. -/
def rowsP (t : TypeId) : List Value → List (List Nat) → HProp
  | [], [] => emp
  | v :: vs, u :: us => star (rowP t 1 v u.length (u8s u)) (rowsP t vs us)
  | _, _ => fun _ _ => False
theorem rowsP_stable (t : TypeId) : ∀ (vs : List Value) (us : List (List Nat)), Stable (rowsP t vs us)
  | [], [] => emp_stable
  | v :: vs, u :: us => star_stable (rowP_stable _ _ _ _ _) (rowsP_stable t vs us)
  | [], _ :: _ => ⟨fun h => h.elim, fun h => h.elim⟩
  | _ :: _, [] => ⟨fun h => h.elim, fun h => h.elim⟩
theorem rowsP_len {t : TypeId} : ∀ {vs : List Value} {us : List (List Nat)} {w : World} {F : Nat → Prop}, rowsP t vs us w F → vs.length = us.length
  | [], [], _, _, _ => rfl
  | v :: vs, u :: us, _, _, ⟨_, _, _, h, _⟩ => by simp [rowsP_len h]
  | [], _ :: _, _, _, h => h.elim
  | _ :: _, [], _, _, h => h.elim
theorem rowsP_snoc {t : TypeId} : ∀ {vs : List Value} {us : List (List Nat)} {v : Value} {u : List Nat} {w : World} {F : Nat → Prop}, star (rowP t 1 v u.length (u8s u)) (rowsP t vs us) w F → rowsP t (vs ++ [v]) (us ++ [u]) w F
  | [], [], v, u, w, F, h => h
  | v0 :: vs, u0 :: us, v, u, w, F, h => star_mono (fun _ h => h) (fun _ h => rowsP_snoc h) (star_left h)
  | [], _ :: _, _, _, _, _, ⟨_, _, _, h, _⟩ => h.elim
  | _ :: _, [], _, _, _, _, ⟨_, _, _, h, _⟩ => h.elim
/-- Each of them can be read. -/
theorem rowsP_rd {t : TypeId} : ∀ {vs : List Value} {us : List (List Nat)} {w : World} {F : Nat → Prop}, rowsP t vs us w F → ∀ i, (h : i < us.length) → ∃ v, vs[i]? = some v ∧ Rd w v (u8s us[i]) ∧ ∀ c, v = .slice none 0 c → c = 0
  | v0 :: vs, u0 :: us, w, F, ⟨F1, F2, a, b, _⟩, 0, h => ⟨v0, rfl, Rd.of_own a.1 (u8s_len u0), fun c hc => by
      rcases a.1.2 with ⟨h1, _⟩ | ⟨g, cap, cur, hv, _⟩
      · rw [h1] at hc; injection hc with _ _ h3; exact h3.symm
      · rw [hv] at hc; cases hc⟩
  | v0 :: vs, u0 :: us, w, F, ⟨F1, F2, a, b, _⟩, i + 1, h => by
    obtain ⟨v, h1, h2⟩ := rowsP_rd b i (by simpa using h)
    exact ⟨v, by simpa using h1, by simpa using h2⟩
  | [], _ :: _, _, _, h, _, _ => h.elim
  | _, [], _, _, _, i, h => by simp at h
end Go.Proofs.Num
namespace Go.Proofs.YtnklmadmenkdoaaGreat
open Go.RowKit Go.Proofs.Num
/-- An append of one cell to the row at the head. -/
theorem app1_run {W w : World} {L : List HProp} {v : Value} {l : List Value} {n : Nat} (hn : l.length = n) (t e : TypeId) (z : Value) (by' : Nat) (ht : Tryz.prog.underlying t = some (.slice e)) (hinfo : (Tryz.prog.info? e).map (fun i => (i.zero, i.size, i.bytes)) = some (some z, 1, by')) (hzs : z.cells.size = 1) (hby : by' ≤ 64)
    (ty : TypeId) (g : Nat) (x : Value) (hS : Sts W (rowP e 1 v n l :: L) w) (hL : ∀ B ∈ L, Stable B) (hb : w.cell? ⟨g, 0, none⟩ = some x) (h1 : x.oneCell' = true) (hlen : n < 100000000) :
    ∃ v' w', (Builtin.append_ #[t, t] ty #[v, .slice (some ⟨g, 0, none⟩) 1 1]).run Tryz.prog w = .ok v' w' ∧ Sts W (rowP e 1 v' (n + 1) (l ++ [x]) :: L) w' := by
  obtain ⟨i0, hi, hz0, hz1, hz2⟩ := info_parts hinfo
  have hnews : ∀ j u, ([x] : List Value)[j]? = some u → w.cell? ((⟨g, 0, none⟩ : Addr).add j) = some u := by
    intro j u hj
    cases j with
    | zero => simp at hj; subst hj; exact hb
    | succ j => simp at hj
  obtain ⟨v', w', hrun, hown, hgr, _, hbl⟩ := run_append_own_at (P := Tryz.prog) w 0 t ty e i0 z 1 by' ht hi hz0 hz1 hz2 hzs (by decide) v n l (Sts.rowOwn hS) ⟨g, 0, none⟩ 1 1 [x] rfl hnews (by simpa using h1) (by unfold maxLen; omega) (by
    have := Nat.mul_le_mul_left (n + 1) hby
    omega) (Nat.zero_le _)
  have hS2 := Sts.grown hL hS hgr hown (by
    intro k hk
    rcases hbl with h | h
    · exact Or.inl (h ▸ hk)
    · rw [h] at hk; injection hk with hk; exact Or.inr (by omega))
  exact ⟨v', w', hrun, hS2⟩
theorem eff_app1 {W w : World} {o : Oper} {a : Act} {D : WP} {K : Act → WP → WP → Prop} {v : Value} {l : List Value} {n : Nat} {L : List HProp} {X : Prop} (hn : l.length = n) (t e : TypeId) (z : Value) (by' : Nat) (ht : Tryz.prog.underlying t = some (.slice e)) (hinfo : (Tryz.prog.info? e).map (fun i => (i.zero, i.size, i.bytes)) = some (some z, 1, by')) (hzs : z.cells.size = 1) (hby : by' ≤ 64)
    (hL : ∀ B ∈ L, Stable B) (hS : Sts W (rowP e 1 v n l :: L) w) (s y : Operand) (ho : o.op = .call { callee := .builtin .append, args := #[s, y], argTypes := #[t, t] }) (g : Nat) (x : Value) (hs : a.eval s = v) (hy : a.eval y = .slice (some ⟨g, 0, none⟩) 1 1) (hb : w.cell? ⟨g, 0, none⟩ = some x) (h1 : x.oneCell' = true) (hlen : n < 100000000) (hD : ∀ y v', Sts W (rowP e 1 v' (n + 1) (l ++ [x]) :: L) y → D y)
    (hk : ∀ v', K (a.put o.dst v') D (fun y => Sts W (rowP e 1 v' (n + 1) (l ++ [x]) :: L) y)) : effUpon Tryz.prog X o.dst a D K ((execOp a.eval o).run Tryz.prog w) := by
  obtain ⟨v', w', hrun, hS2⟩ := app1_run hn t e z by' ht hinfo hzs hby o.type g x hS hL hb h1 hlen
  have hr : (execOp a.eval o).run Tryz.prog w = .ok (.value v') w' := by
    simp [execOp, ho, resolve, invoke, builtin, hs, hy, hrun, Result.andThen]
  exact eff_value D (fun y => Sts W (rowP e 1 v' (n + 1) (l ++ [x]) :: L) y) hr hS2 (fun y hy => hD y v' hy) (fun _ h => h) (hk v')
theorem wpList_app1 {ops : Array Oper} {rest : List Oper} {o : Oper} {a : Act} {Q : Exit → Act → World → Prop} {W w : World} {L : List HProp} {v : Value} {l : List Value} {n : Nat} (hn : l.length = n) (t e : TypeId) (z : Value) (by' : Nat) (ht : Tryz.prog.underlying t = some (.slice e)) (hinfo : (Tryz.prog.info? e).map (fun i => (i.zero, i.size, i.bytes)) = some (some z, 1, by')) (hzs : z.cells.size = 1) (hby : by' ≤ 64)
    (hgd : o.guard = none) (s y : Operand) (ho : o.op = .call { callee := .builtin .append, args := #[s, y], argTypes := #[t, t] }) (hS : Sts W (rowP e 1 v n l :: L) w) (hL : ∀ B ∈ L, Stable B)
    (g : Nat) (x : Value) (hs : a.eval s = v) (hy : a.eval y = .slice (some ⟨g, 0, none⟩) 1 1) (hb : w.cell? ⟨g, 0, none⟩ = some x) (h1 : x.oneCell' = true) (hlen : n < 100000000)
    (h : ∀ v' w', Sts W (rowP e 1 v' (n + 1) (l ++ [x]) :: L) w' → wpList Tryz.prog ops Q rest (a.put o.dst v') w') : wpList Tryz.prog ops Q (o :: rest) a w := by
  refine wpList_plain hgd fun K hK => ?_
  obtain ⟨v', w', hrun, hS2⟩ := app1_run hn t e z by' ht hinfo hzs hby o.type g x hS hL hb h1 hlen
  unfold Oper.wp
  simp [execOp, ho, resolve, invoke, builtin, hs, hy, hrun, Result.andThen]
  exact hK _ _ (h v' w' hS2)
theorem infoS8 : (Tryz.prog.info? 35).map (fun i => (i.zero, i.size, i.bytes)) = some (some (.slice none 0 0), 1, 24) := by kernel_rfl
/-- The sending end with its units. -/
def fopA (fl fr now tm : Nat) (uv : Value) : Array Value := fopC 16 uv 0 (fl : Int) (fr : Int) 5 0 20 10 1 (now : Int) (tm : Int) 0
def fopO (fq : Nat) (us : List (List Nat)) (fl fr now tm : Nat) (uv : Value) (vs : List Value) : List HProp := [blkP fq (.cells (fopA fl fr now tm uv) 216 (0, 0)), rowP 35 1 uv us.length vs, rowsP 5 vs us]
def fopP (fq : Nat) (us : List (List Nat)) (fl fr now tm : Nat) : HProp := fun w F => ∃ uv vs, star (blkP fq (.cells (fopA fl fr now tm uv) 216 (0, 0))) (star (rowP 35 1 uv us.length vs) (rowsP 5 vs us)) w F
theorem fopP_stable (fq : Nat) (us : List (List Nat)) (fl fr now tm : Nat) : Stable (fopP fq us fl fr now tm) where
  dom := by rintro w F ⟨uv, vs, h⟩; exact (star_stable (blkP_stable _ _) (star_stable (rowP_stable _ _ _ _ _) (rowsP_stable _ _ _))).dom h
  keep := by rintro w w' F S ⟨uv, vs, h⟩ hk hS; exact ⟨uv, vs, (star_stable (blkP_stable _ _) (star_stable (rowP_stable _ _ _ _ _) (rowsP_stable _ _ _))).keep h hk hS⟩
theorem Sts.openF {W w : World} {fq fl fr now tm : Nat} {us : List (List Nat)} {l : List HProp} (h : Sts W (fopP fq us fl fr now tm :: l) w) : ∃ uv vs, Sts W (fopO fq us fl fr now tm uv vs ++ l) w := by
  obtain ⟨F, ⟨F1, F2, ⟨uv, vs, a⟩, r⟩, hb, hn⟩ := h
  have h1 : Sts W (star (blkP fq (.cells (fopA fl fr now tm uv) 216 (0, 0))) (star (rowP 35 1 uv us.length vs) (rowsP 5 vs us)) :: l) w := ⟨F, ⟨F1, F2, a, r⟩, hb, hn⟩
  have h2 := Sts.split h1
  exact ⟨uv, vs, (Sts.split h2.swap).perm ((List.perm_middle (l₁ := [_, _])))⟩
theorem Sts.closeF {W w : World} {fq fl fr now tm : Nat} {us : List (List Nat)} {uv : Value} {vs : List Value} {l : List HProp} (h : Sts W (fopO fq us fl fr now tm uv vs ++ l) w) : Sts W (fopP fq us fl fr now tm :: l) w := by
  have h1 : Sts W (blkP fq (.cells (fopA fl fr now tm uv) 216 (0, 0)) :: rowP 35 1 uv us.length vs :: rowsP 5 vs us :: l) w := h
  have h2 : Sts W (star (rowP 35 1 uv us.length vs) (rowsP 5 vs us) :: blkP fq (.cells (fopA fl fr now tm uv) 216 (0, 0)) :: l) w := Sts.join (Sts.third' h1) (fun F hF => hF)
  exact Sts.join h2.swap (fun F hF => ⟨uv, vs, hF⟩)
end Go.Proofs.YtnklmadmenkdoaaGreat
