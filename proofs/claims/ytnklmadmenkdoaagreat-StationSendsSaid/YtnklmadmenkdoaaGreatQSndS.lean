/- The ground segment sends data in a packet; a command. The ground segment takes a command. The sending end hands out units. -/
import Derived.Test.YtnklmadmenkdoaaGreatQSndP
set_option linter.unusedVariables false
set_option linter.unusedSimpArgs false
namespace Go.Proofs.YtnklmadmenkdoaaGreat
open Go.RowKit Go.Proofs.Num
/-- The ground segment as a value. -/
def staC (fi u0 u1 u2 ar tq c fq mp now next : Nat) : Array Value := #[.pointer (some ⟨fi, 0, none⟩), .pointer (some ⟨u0, 0, none⟩), .pointer (some ⟨u1, 0, none⟩), .pointer (some ⟨u2, 0, none⟩), .pointer (some ⟨ar, 0, none⟩), .pointer (some ⟨tq, 0, none⟩), .pointer (some ⟨c, 0, none⟩), .bool true, .int .i64 5, .int .i64 (now : Int), .pointer (some ⟨fq, 0, none⟩), .int .i64 (next : Int), .map (some mp)]
theorem exec_look {o : Oper} {a : Act} {w : World} (x y : Operand) (t : TypeId) (ho : o.op = .lookup t x y false) (m k v : Value) (hx : a.eval x = m) (hy : a.eval y = k) (hr : (Instr.lookup t m k false).run Tryz.prog w = .ok v w) : (execOp a.eval o).run Tryz.prog w = .ok (.value v) w := by
  unfold execOp
  simp only [ho, hx, hy]
  simp [Sem.run_bind, hr, Result.andThen]
theorem exec_upd {o : Oper} {a : Act} {w w' : World} (x y z : Operand) (t : TypeId) (ho : o.op = .mapUpdate t x y z) (m k v : Value) (hx : a.eval x = m) (hy : a.eval y = k) (hz : a.eval z = v) (hr : (Instr.mapUpdate t m k v).run Tryz.prog w = .ok () w') : (execOp a.eval o).run Tryz.prog w = .ok .skip w' := by
  unfold execOp
  simp only [ho, hx, hy, hz]
  simp [Sem.run_bind, hr, Result.andThen]
theorem wpList_look {ops : Array Oper} {rest : List Oper} {o : Oper} {a : Act} {Q : Exit → Act → World → Prop} {w : World} (hgd : o.guard = none) (x y : Operand) (t : TypeId) (ho : o.op = .lookup t x y false) (m k v : Value) (hx : a.eval x = m) (hy : a.eval y = k)
    (hr : (Instr.lookup t m k false).run Tryz.prog w = .ok v w) (h : wpList Tryz.prog ops Q rest (a.put o.dst v) w) : wpList Tryz.prog ops Q (o :: rest) a w := by
  refine wpList_plain hgd fun K hK => ?_
  have hr2 : (execOp a.eval o).run Tryz.prog w = .ok (.value v) w := by
    unfold execOp
    simp only [ho, hx, hy]
    simp [Sem.run_bind, hr, Result.andThen]
  unfold Oper.wp
  rw [hr2]
  exact hK _ _ h
theorem wpList_upd {ops : Array Oper} {rest : List Oper} {o : Oper} {a : Act} {Q : Exit → Act → World → Prop} {w w' : World} (hgd : o.guard = none) (x y z : Operand) (t : TypeId) (ho : o.op = .mapUpdate t x y z) (m k v : Value) (hx : a.eval x = m) (hy : a.eval y = k) (hz : a.eval z = v)
    (hr : (Instr.mapUpdate t m k v).run Tryz.prog w = .ok () w') (h : wpList Tryz.prog ops Q rest (a.put o.dst undef) w') : wpList Tryz.prog ops Q (o :: rest) a w := by
  refine wpList_plain hgd fun K hK => ?_
  have hr2 : (execOp a.eval o).run Tryz.prog w = .ok .skip w' := by
    unfold execOp
    simp only [ho, hx, hy, hz]
    simp [Sem.run_bind, hr, Result.andThen]
  unfold Oper.wp
  rw [hr2]
  exact hK _ _ h
section
variable {W w : World} {l : List HProp} (hl : ∀ B ∈ l, Stable B) (g fi u0 u1 u2 ar tq c fq mp now next k : Nat) (us : List (List Nat)) (fl fr fnow tm : Nat)
include hl
set_option maxRecDepth 100000 in
set_option maxHeartbeats 2000000 in
theorem cSend (hs : Sts W (blkP g (.cells (staC fi u0 u1 u2 ar tq c fq mp now next) 119 (0, 0)) :: blkP mp (cntO k) :: fopP fq us fl fr fnow tm :: l) w)
    (a : Option Addr) (cap : Nat) (d : List Nat) (hR : Rds W l (.slice a d.length cap) (u8s d)) (hv : NilOk (.slice a d.length cap)) (h1 : 1 ≤ d.length) (h2 : d.length ≤ 1000) (hk : k < 100) (hn : us.length < 100) :
    Calls Tryz.prog 44 #[.pointer (some ⟨g, 0, none⟩), .int .i64 10, .slice a d.length cap] w fun e w' => e = .returned (.int .i64 0) ∧ Sts W (blkP g (.cells (staC fi u0 u1 u2 ar tq c fq mp now next) 119 (0, 0)) :: blkP mp (cntO (k + 1)) :: fopP fq (us ++ [Cmd.pkB true false 10 3 k d]) fl fr fnow tm :: l) w' := by
  have HS := hid hs
  have HL := hid hl
  have HL2 := hid (show ∀ B ∈ blkP g (.cells (staC fi u0 u1 u2 ar tq c fq mp now next) 119 (0, 0)) :: blkP mp (cntO k) :: fopP fq us fl fr fnow tm :: l, Stable B from stabC (blkP_stable _ _) (stabC (blkP_stable _ _) (stabC (fopP_stable _ _ _ _ _ _) hl)))
  have c10 : w.cell? ⟨g, 10, none⟩ = some (.pointer (some ⟨fq, 0, none⟩)) := (Sts.boxCell hs 10 _ rfl).1
  have c12 : w.cell? ⟨g, 12, none⟩ = some (.map (some mp)) := (Sts.boxCell hs 12 _ rfl).1
  have HM : Hid (w.heap[mp]? = some (cntO k)) := hid (by obtain ⟨F, hF⟩ := hs.tail.head; exact hF.1)
  have HRW : Hid (Rd w (.slice a d.length cap) (u8s d)) := hid (hR _ _ hs.tail.tail)
  have HV := hid hv
  have e1 : ((k : Int) + 1) % 16384 = ((k + 1 : Nat) : Int) := by omega
  have e2 : wrap64 ((k : Int) + 1) = (k : Int) + 1 := by unfold wrap64; omega
  have e3 : ((k : Int) + 1).tmod 16384 = (k : Int) + 1 := by rw [Int.tmod_eq_emod_of_nonneg (by omega)]; omega
  have e4 : IntKind.i64.wrap ((k : Int) + 1) = (k : Int) + 1 := by rw [IntKind.wrap_i64]; omega
  have HP := hid (fun (w : World) (h : Rd w (.slice a d.length cap) (u8s d)) => cPkEncode true false 10 3 k a cap d w (by omega) (by omega) (by omega) h1 (by omega) h hv)
  have HD := hid h2
  have HN := hid hn
  clear hs hl hR hv h1 h2 hk hn
  go_enter Tryz.func44, Tryz.ntmps44
  go_wp2_with (first
    | (refine wpList_look rfl (.tmp 15) (.tmp 16) 115 rfl _ _ (.int .i64 (k : Int)) rfl rfl (cnt_lookup HM.out) ?_)
    | (go_at_call 116; refine (HP.out _ HRW.out).mono ?_; rintro e w1 ⟨r, rfl, hN⟩
       have h4 := Sts.new HL2.out HS.out hN
       rw [u8s_len] at h4
       have hpl := Cmd.pkB_len true false 10 3 k d
       obtain ⟨P, hP⟩ : ∃ P, P = Cmd.pkB true false 10 3 k d := ⟨_, rfl⟩
       rw [← hP] at h4 hpl
       obtain ⟨ra, rc, rfl⟩ := own_slice h4.rowOwn
       have H4 := hid h4
       have HPE := hid hP
       have hpl2 : 1 ≤ P.length ∧ P.length ≤ 1017 := by have := HD.out; omega
       have d10 : w1.cell? ⟨g, 10, none⟩ = some (.pointer (some ⟨fq, 0, none⟩)) := (Sts.boxCell h4.tail 10 _ rfl).1
       clear h4 hN hP hpl)
    | (go_at_call 117; refine (cFopSend (stabC (rowP_stable _ _ _ _ _) (stabC (blkP_stable _ _) (stabC (blkP_stable _ _) HL.out))) fq us fl fr fnow tm (H4.out.perm (List.perm_middle (l₁ := [_, _, _]))) ra rc P (Rds.row (u8s_len P) (List.mem_cons_self)) (NilOk.own H4.out.rowOwn) hpl2.1 hpl2.2 (by have := HN.out; omega)).mono ?_
       rintro e w2 ⟨rfl, h5⟩
       have h6 : Sts W (blkP g (.cells (staC fi u0 u1 u2 ar tq c fq mp now next) 119 (0, 0)) :: blkP mp (cntO k) :: fopP fq (us ++ [P]) fl fr fnow tm :: rowP 5 1 (.slice ra P.length rc) P.length (u8s P) :: l) w2 := h5.perm ((List.perm_append_comm (l₁ := [_, _]) (l₂ := [_, _])).append_right l)
       have H6 := hid h6
       clear h5 h6))
  have HL4 := hid (show ∀ B ∈ blkP g (.cells (staC fi u0 u1 u2 ar tq c fq mp now next) 119 (0, 0)) :: fopP fq (us ++ [P]) fl fr fnow tm :: rowP 5 1 (.slice ra P.length rc) P.length (u8s P) :: l, Stable B from stabC (blkP_stable _ _) (stabC (fopP_stable _ _ _ _ _ _) (stabC (rowP_stable _ _ _ _ _) HL.out)))
  refine wp_region_ordQS (fun i => i == 13) (.pure 0 (.pure 1 (.pure 2 (.pure 3 (.pure 4 (.pure 5 (.pure 6 (.pure 7 (.pure 8 (.pure 9 (.pure 10 (.pure 11 (.pure 12 (.eff 13 .nil)))))))))))))) (fun y => y.cell? ⟨g, 12, none⟩ = some (.map (some mp)) ∧ y.heap[mp]? = some (cntO k)) (fun y => Sts W (blkP mp (cntO k) :: blkP g (.cells (staC fi u0 u1 u2 ar tq c fq mp now next) 119 (0, 0)) :: fopP fq (us ++ [P]) fl fr fnow tm :: rowP 5 1 (.slice ra P.length rc) P.length (u8s P) :: l) y) (by kernel_rfl) (by kernel_rfl) (H6.out.swap.drew (stabC (blkP_stable _ _) HL4.out)) (fun y hy => ⟨(Sts.boxCell hy.tail 12 _ rfl).1, by obtain ⟨F, hF⟩ := hy.head; exact hF.1⟩) ?_
  iterate 10
    (apply ordq_pure (ho := rfl)
     · go_simp
     · intro x hx; obtain ⟨k0, k1⟩ := hx; go_simp; rfl
     apply ordq_norm
     · go_simp; rfl)
  apply ordq_pure (ho := rfl)
  · go_simp
  · intro x hx; exact exec_look (.tmp 43) (.tmp 44) 115 rfl _ _ (.int .i64 (k : Int)) rfl rfl (cnt_lookup hx.2)
  apply ordq_norm
  · go_simp; rfl
  iterate 2
    (apply ordq_pure (ho := rfl)
     · go_simp
     · intro x hx; obtain ⟨k0, k1⟩ := hx; go_simp; rfl
     apply ordq_norm
     · go_simp; rfl)
  apply ordq_eff (ho := rfl)
  · go_simp
  intro y hy
  obtain ⟨w3, g1, g2⟩ := cnt_update HL4.out hy
  refine effS_skip (fun _ => True) (fun y => Sts W (blkP mp (cntO (k + 1)) :: blkP g (.cells (staC fi u0 u1 u2 ar tq c fq mp now next) 119 (0, 0)) :: fopP fq (us ++ [P]) fl fr fnow tm :: rowP 5 1 (.slice ra P.length rc) P.length (u8s P) :: l) y) rfl (exec_upd (.tmp 38) (.tmp 39) (.tmp 47) 115 rfl _ _ (.int .i64 ((k + 1 : Nat) : Int)) rfl rfl ?_ g1) g2 (fun _ _ => trivial) ?_
  · go_simp
  apply ordq_norm
  · go_simp; rfl
  refine ordq_nil fun z hz => ?_
  have HU2 := hid hz
  clear hz g1 g2 hy y w3
  go_wp2_with fail
  go_ret
  refine ⟨rfl, ?_⟩
  rw [← HPE.out]
  have h7 : Sts W (blkP mp (cntO (k + 1)) :: blkP g (.cells (staC fi u0 u1 u2 ar tq c fq mp now next) 119 (0, 0)) :: fopP fq (us ++ [P]) fl fr fnow tm :: rowP 5 1 (.slice ra P.length rc) P.length (u8s P) :: l) z := HU2.out
  exact ((h7.swap.perm (List.perm_middle (l₁ := [_, _, _]))).tail)
end
end Go.Proofs.YtnklmadmenkdoaaGreat
namespace Cmd
theorem enc_len (src num s : Nat) (args : List Int) (data : List Nat) (h : cmdOk (s : Int) args data.length = true) : 4 ≤ (enc src num s args data).length ∧ (enc src num s args data).length ≤ 600 := by
  unfold cmdOk at h
  simp only [Bool.and_eq_true, decide_eq_true_eq] at h
  obtain ⟨h1, h2, h3, h4⟩ := h
  have h5 := argsB_len args (List.all_eq_true.1 h3)
  have h6 := argN_le (s : Int)
  unfold enc
  simp only [List.length_append, Oct.be_len]
  by_cases hd : datN (s : Int) = 1
  · rw [if_pos hd] at h4 ⊢
    simp only [Bool.and_eq_true, decide_eq_true_eq] at h4
    have := blobB_len data (by omega)
    omega
  · rw [if_neg hd]; simp; omega
end Cmd
namespace Go.Proofs.YtnklmadmenkdoaaGreat
open Go.RowKit Go.Proofs.Num
section
variable {W w : World} {l : List HProp} (hl : ∀ B ∈ l, Stable B) (g fi u0 u1 u2 ar tq c fq mp k : Nat) (us : List (List Nat)) (fl fr fnow tm : Nat)
/-- The ground segment at the time 0, after k commands. -/
def stL (g fi u0 u1 u2 ar tq c fq mp k : Nat) (us : List (List Nat)) (fl fr fnow tm : Nat) : List HProp := [blkP g (.cells (staC fi u0 u1 u2 ar tq c fq mp 0 (k + 1)) 119 (0, 0)), blkP mp (cntO k), fopP fq us fl fr fnow tm, trkP tq k]
theorem stL_stable (hl : ∀ B ∈ l, Stable B) : ∀ B ∈ stL g fi u0 u1 u2 ar tq c fq mp k us fl fr fnow tm ++ l, Stable B := stabC (blkP_stable _ _) (stabC (blkP_stable _ _) (stabC (fopP_stable _ _ _ _ _ _) (stabC (trkP_stable _ _) hl)))
set_option maxRecDepth 100000 in
theorem cStaUsable {now next : Nat} (hs : Sts W (blkP g (.cells (staC fi u0 u1 u2 ar tq c fq mp now next) 119 (0, 0)) :: l) w) : Calls Tryz.prog 42 #[.pointer (some ⟨g, 0, none⟩)] w fun e w' => e = .returned (.bool true) ∧ w = w' := by
  have c7 : w.cell? ⟨g, 7, none⟩ = some (.bool true) := (Sts.boxCell hs 7 _ rfl).1
  clear hs
  go_enter Tryz.func42, Tryz.ntmps42
  go_wp2_with fail
  go_ret
  exact ⟨rfl, rfl⟩
include hl
set_option maxRecDepth 100000 in
set_option maxHeartbeats 2000000 in
theorem cCommandNo (hs : Sts W (stL g fi u0 u1 u2 ar tq c fq mp k us fl fr fnow tm ++ l) w) (s : Int) (aa : Option Addr) (ca : Nat) (args : List Int) (ad : Option Addr) (cd n : Nat) (h3 : -9223372036854775808 ≤ s ∧ s < 9223372036854775808) (hR : Rd w (.slice aa args.length ca) (i64s args)) (hN : n < 1000000) (hk : k < 12) (hno : Cmd.cmdOk s args n = false) :
    Calls Tryz.prog 11 #[.pointer (some ⟨g, 0, none⟩), .int .i64 s, .slice aa args.length ca, .slice ad n cd] w fun e w' => e = .returned (.tuple #[.int .i64 0, .int .i64 1]) ∧ Sts W (stL g fi u0 u1 u2 ar tq c fq mp k us fl fr fnow tm ++ l) w' := by
  have HS := hid hs
  have HL2 := hid (stL_stable g fi u0 u1 u2 ar tq c fq mp k us fl fr fnow tm hl)
  have HU := hid (cStaUsable g fi u0 u1 u2 ar tq c fq mp hs)
  obtain ⟨nx, hnx⟩ : ∃ nx, nx = k + 1 := ⟨_, rfl⟩
  have c11 : w.cell? ⟨g, 11, none⟩ = some (.int .i64 (nx : Int)) := by rw [hnx]; exact (Sts.boxCell hs 11 _ rfl).1
  have hE := cCmdEncodeNo w 1 (nx : Int) s aa ca args ad cd n (by omega) (by omega) h3 hR hN hno
  have HE := hid hE
  have d1 : decide (65535 < (nx : Int)) = false := decide_eq_false (by omega)
  clear hs hl h3 hR hN hk hno hE hnx
  go_enter Tryz.func11, Tryz.ntmps11
  go_wp2_with (first
    | (go_at_call 42; refine HU.out.mono ?_; rintro e w1 ⟨rfl, rfl⟩)
    | (go_at_call 43; refine HE.out.mono ?_; rintro e w1 ⟨rfl, hb⟩; have H1 := hid (HS.out.quiet HL2.out hb); clear hb))
  go_ret2
  exact ⟨rfl, H1.out⟩
set_option maxRecDepth 100000 in
set_option maxHeartbeats 4000000 in
theorem cCommandOk (hs : Sts W (stL g fi u0 u1 u2 ar tq c fq mp k us fl fr fnow tm ++ l) w) (sv : Nat) (aa : Option Addr) (ca : Nat) (args : List Int) (ad : Option Addr) (cd : Nat) (data : List Nat) (hR : Rd w (.slice aa args.length ca) (i64s args)) (hD : RdB w (.slice ad data.length cd) data) (hN : data.length < 100000) (hnl : ad = none → cd = 0) (hk : k < 12) (hus : us.length < 100) (hok : Cmd.cmdOk (sv : Int) args data.length = true) :
    Calls Tryz.prog 11 #[.pointer (some ⟨g, 0, none⟩), .int .i64 (sv : Int), .slice aa args.length ca, .slice ad data.length cd] w fun e w' => e = .returned (.tuple #[.int .i64 ((k + 1 : Nat) : Int), .int .i64 0]) ∧ Sts W (stL g fi u0 u1 u2 ar tq c fq mp (k + 1) (us ++ [Cmd.pkB true false 10 3 k (Cmd.enc 1 (k + 1) sv args data)]) fl fr fnow tm ++ l) w' := by
  have HS := hid hs
  have HL := hid hl
  have HL2 := hid (stL_stable g fi u0 u1 u2 ar tq c fq mp k us fl fr fnow tm hl)
  have HU := hid (cStaUsable g fi u0 u1 u2 ar tq c fq mp hs)
  obtain ⟨nx, hnx⟩ : ∃ nx, nx = k + 1 := ⟨_, rfl⟩
  have c11 : w.cell? ⟨g, 11, none⟩ = some (.int .i64 (nx : Int)) := by rw [hnx]; exact (Sts.boxCell hs 11 _ rfl).1
  have hE := cCmdEncode w 1 nx sv aa ca args ad cd data (by omega) (by omega) hR hD hN hnl hok
  have hln := Cmd.enc_len 1 nx sv args data hok
  have HE := hid hE
  have d1 : decide (65535 < (nx : Int)) = false := decide_eq_false (by omega)
  have HNX := hid hnx
  have HK := hid hk
  have HUS := hid hus
  clear hs hl hR hD hN hnl hk hok hE hnx hus
  obtain ⟨B, hB⟩ : ∃ B, B = Cmd.enc 1 nx sv args data := ⟨_, rfl⟩
  rw [← hB] at HE hln
  have HBE := hid hB
  have hl4 : 1 ≤ B.length := by omega
  have hl6 : B.length ≤ 1000 := by omega
  clear hB hln
  go_enter Tryz.func11, Tryz.ntmps11
  go_wp2_with (first
    | (go_at_call 42; refine HU.out.mono ?_; rintro e w1 ⟨rfl, rfl⟩)
    | (go_at_call 43; refine HE.out.mono ?_; rintro e w1 ⟨r, rfl, hN⟩
       have h4 := Sts.new HL2.out HS.out hN
       rw [u8s_len] at h4
       obtain ⟨ra, rc, rfl⟩ := own_slice h4.rowOwn
       have H4 := hid h4
       clear h4 hN)
    | (go_at_call 44; refine (cSend (l := trkP tq k :: rowP 5 1 (.slice ra B.length rc) B.length (u8s B) :: l) (stabC (trkP_stable _ _) (stabC (rowP_stable _ _ _ _ _) HL.out)) g fi u0 u1 u2 ar tq c fq mp 0 (k + 1) k us fl fr fnow tm (H4.out.perm (List.perm_append_comm (l₁ := [_]) (l₂ := [_, _, _, _]) |>.append_right l)) ra rc B (Rds.row (u8s_len B) (List.mem_cons_of_mem _ List.mem_cons_self)) (NilOk.own H4.out.rowOwn) hl4 hl6 (by have := HK.out; omega) HUS.out).mono ?_
       rintro e w2 ⟨rfl, h5⟩
       have H5 := hid h5
       have e11 : w2.cell? ⟨g, 11, none⟩ = some (.int .i64 (nx : Int)) := by rw [HNX.out]; exact (Sts.boxCell h5 11 _ rfl).1
       have e2 : wrap64 ((nx : Int) + 1) = (nx : Int) + 1 := by have h1 := HNX.out; have h2 := HK.out; unfold wrap64; omega
       have e3 : IntKind.i64.wrap ((nx : Int) + 1) = (nx : Int) + 1 := by have h1 := HNX.out; have h2 := HK.out; rw [IntKind.wrap_i64]; omega
       clear h5)
    | (refine wpList_cellS H5.out (stabC (blkP_stable _ _) (stabC (fopP_stable _ _ _ _ _ _) (stabC (trkP_stable _ _) (stabC (rowP_stable _ _ _ _ _) HL.out)))) rfl (.tmp 55) (.tmp 53) 3 rfl 11 (.int .i64 ((nx : Int) + 1)) rfl rfl szInt (show 11 < 13 by decide) rfl ?_; intro w3 h6
       have H6 : Hid (Sts W (blkP g (.cells (staC fi u0 u1 u2 ar tq c fq mp 0 (k + 1 + 1)) 119 (0, 0)) :: blkP mp (cntO (k + 1)) :: fopP fq (us ++ [Cmd.pkB true false 10 3 k B]) fl fr fnow tm :: trkP tq k :: rowP 5 1 (.slice ra B.length rc) B.length (u8s B) :: l) w3) := hid (by
         have h7 : ((nx : Int) + 1) = ((k + 1 + 1 : Nat) : Int) := by rw [HNX.out]; omega
         rw [h7] at h6
         exact h6)
       clear h6 H5 H4))
  have HLR := hid (show ∀ B' ∈ blkP g (.cells (staC fi u0 u1 u2 ar tq c fq mp 0 (k + 1 + 1)) 119 (0, 0)) :: blkP mp (cntO (k + 1)) :: fopP fq (us ++ [Cmd.pkB true false 10 3 k B]) fl fr fnow tm :: rowP 5 1 (.slice ra B.length rc) B.length (u8s B) :: l, Stable B' from stabC (blkP_stable _ _) (stabC (blkP_stable _ _) (stabC (fopP_stable _ _ _ _ _ _) (stabC (rowP_stable _ _ _ _ _) HL.out))))
  refine wp_region_ordQ (.pure 0 (.pure 1 (.pure 2 (.pure 3 (.pure 4 (.pure 5 (.pure 6 (.pure 7 (.pure 8 (.pure 9 (.eff 10 .nil))))))))))) (fun y => y.cell? ⟨g, 5, none⟩ = some (.pointer (some ⟨tq, 0, none⟩)) ∧ y.cell? ⟨g, 9, none⟩ = some (.int .i64 0)) (fun y => Sts W (trkP tq k :: blkP g (.cells (staC fi u0 u1 u2 ar tq c fq mp 0 (k + 1 + 1)) 119 (0, 0)) :: blkP mp (cntO (k + 1)) :: fopP fq (us ++ [Cmd.pkB true false 10 3 k B]) fl fr fnow tm :: rowP 5 1 (.slice ra B.length rc) B.length (u8s B) :: l) y) (by kernel_rfl) (by kernel_rfl) ((H6.out.perm (List.perm_middle (l₁ := [_, _, _]))).drew (stabC (trkP_stable _ _) HLR.out)) (fun y hy => ⟨(Sts.boxCell hy.tail 5 _ rfl).1, (Sts.boxCell hy.tail 9 _ rfl).1⟩) ?_
  iterate 10
    (apply ordq_pure (ho := rfl)
     · go_simp
     · intro x hx; obtain ⟨k0, k1⟩ := hx; go_simp; rfl
     apply ordq_norm
     · go_simp; rfl)
  apply ordq_eff (ho := rfl)
  · go_simp
  intro y hy
  have hI := cIssue HLR.out tq k HK.out hy
  rw [← HNX.out] at hI
  refine eff_call (f := 45) (by go_simp) hI ?_
  rintro e w4 ⟨rfl, h8⟩
  rw [HNX.out] at h8
  refine ⟨_, rfl, (fun y => y.cell? ⟨g, 5, none⟩ = some (.pointer (some ⟨tq, 0, none⟩)) ∧ y.cell? ⟨g, 9, none⟩ = some (.int .i64 0)), (fun y => Sts W (trkP tq (k + 1) :: blkP g (.cells (staC fi u0 u1 u2 ar tq c fq mp 0 (k + 1 + 1)) 119 (0, 0)) :: blkP mp (cntO (k + 1)) :: fopP fq (us ++ [Cmd.pkB true false 10 3 k B]) fl fr fnow tm :: rowP 5 1 (.slice ra B.length rc) B.length (u8s B) :: l) y), h8, (fun y hy => ⟨(Sts.boxCell hy.tail 5 _ rfl).1, (Sts.boxCell hy.tail 9 _ rfl).1⟩), (fun _ h => h), ?_⟩
  apply ordq_norm
  · go_simp; rfl
  refine ordq_nil fun z hz => ?_
  have HZ := hid hz
  clear hz h8 hy y w4 hI
  go_wp2_with fail
  go_ret2
  refine ⟨by rw [show ((k + 1 : Nat) : Int) = (nx : Int) by rw [HNX.out]]; rfl, ?_⟩
  have h9 : Sts W (trkP tq (k + 1) :: blkP g (.cells (staC fi u0 u1 u2 ar tq c fq mp 0 (k + 1 + 1)) 119 (0, 0)) :: blkP mp (cntO (k + 1)) :: fopP fq (us ++ [Cmd.pkB true false 10 3 k B]) fl fr fnow tm :: rowP 5 1 (.slice ra B.length rc) B.length (u8s B) :: l) z := HZ.out
  rw [HBE.out, HNX.out] at h9
  exact (((h9.perm (List.perm_append_comm (l₁ := [_]) (l₂ := [_, _, _]) |>.append_right _)).perm (List.perm_middle (l₁ := [_, _, _, _]))).tail)
end
end Go.Proofs.YtnklmadmenkdoaaGreat
namespace Go.Proofs.YtnklmadmenkdoaaGreat
open Go.RowKit Go.Proofs.Num
section
variable {W w : World} {l : List HProp} (hl : ∀ B ∈ l, Stable B) (fq : Nat) (us : List (List Nat)) (fl fr now tm : Nat)
include hl
set_option maxRecDepth 100000 in
theorem cFopClock {uv : Value} (hs : Sts W (blkP fq (.cells (fopA fl fr now tm uv) 216 (0, 0)) :: l) w) (n : Nat) (h1 : now ≤ n) (h2 : n ≤ 1000000) :
    Calls Tryz.prog 130 #[.pointer (some ⟨fq, 0, none⟩), .int .i64 (n : Int)] w fun e w' => e = .returned (.tuple #[]) ∧ Sts W (blkP fq (.cells (fopA fl fr n tm uv) 216 (0, 0)) :: l) w' := by
  have c12 : w.cell? ⟨fq, 12, none⟩ = some (.int .i64 (now : Int)) := (Sts.boxCell hs 12 _ rfl).1
  have d1 : decide ((n : Int) ≤ 1099511627776) = true := decide_eq_true (by omega)
  have HS := hid hs
  have HL := hid hl
  rcases Nat.lt_or_ge now n with hlt | hge
  · have m1 : (now : Int) < (n : Int) := by omega
    have m2 : decide ((now : Int) < (n : Int)) = true := decide_eq_true m1
    have m3 : max (now : Int) (n : Int) = (n : Int) := by omega
    clear hs hl h1 h2 hlt
    go_enter Tryz.func130, Tryz.ntmps130
    go_wp2_with (refine wpList_cellS HS.out HL.out rfl (.tmp 14) (.tmp 12) 3 rfl 12 (.int .i64 (n : Int)) rfl rfl szInt (show 12 < 15 by decide) rfl ?_; intro w2 h2; have H2 := hid h2; clear h2)
    refine bodyPost_end (results_none rfl _ _ _) rfl ?_
    exact ⟨rfl, H2.out⟩
  · obtain rfl : n = now := by omega
    have m1 : ¬ (n : Int) < (n : Int) := by omega
    have m2 : decide ((n : Int) < (n : Int)) = false := decide_eq_false m1
    have m3 : max (n : Int) (n : Int) = (n : Int) := by omega
    clear hs hl h1 h2 hge
    go_enter Tryz.func130, Tryz.ntmps130
    go_wp2_with (refine wpList_cellS HS.out HL.out rfl (.tmp 14) (.tmp 12) 3 rfl 12 (.int .i64 (n : Int)) rfl rfl szInt (show 12 < 15 by decide) rfl ?_; intro w2 h2; have H2 := hid h2; clear h2)
    refine bodyPost_end (results_none rfl _ _ _) rfl ?_
    exact ⟨rfl, H2.out⟩
omit hl in
set_option maxRecDepth 100000 in
theorem cFopWaiting {ua : Option Addr} {uc : Nat} (hs : Sts W (blkP fq (.cells (fopA fl fr now tm (.slice ua us.length uc)) 216 (0, 0)) :: l) w) (h1 : us.length < 16) :
    Calls Tryz.prog 149 #[.pointer (some ⟨fq, 0, none⟩)] w fun e w' => e = .returned (.bool (decide (fl < us.length))) ∧ ∃ m, w' = w.drewN m := by
  have c3 : w.cell? ⟨fq, 3, none⟩ = some (.int .i64 (fl : Int)) := (Sts.boxCell hs 3 _ rfl).1
  have c0 : w.cell? ⟨fq, 0, none⟩ = some (.int .i64 16) := (Sts.boxCell hs 0 _ rfl).1
  have c1 : w.cell? ⟨fq, 1, none⟩ = some (.slice ua us.length uc) := (Sts.boxCell hs 1 _ rfl).1
  have m1 : min (16 : Int) (us.length : Int) = (us.length : Int) := by omega
  have m2 : decide ((16 : Int) < (us.length : Int)) = false := decide_eq_false (by omega)
  have m3 : decide ((us.length : Int) < 16) = true := decide_eq_true (by omega)
  have m4 : ¬ (16 : Int) ≤ (us.length : Int) := by omega
  have m5 : ¬ (16 : Int) < (us.length : Int) := by omega
  have m6 : (us.length : Int) < 16 := by omega
  have m7 : (us.length : Int) ≤ 16 := by omega
  clear hs h1
  go_enter Tryz.func149, Tryz.ntmps149
  go_wp2_with fail
  go_quiet (fail)
  go_wp2_with fail
  go_ret
  exact ⟨rfl, _, rfl⟩
set_option maxRecDepth 100000 in
set_option maxHeartbeats 4000000 in
theorem cFopTake (hs : Sts W (fopP fq us fl fl now tm :: l) w) (hf : fl < us.length) (h1 : us.length ≤ 16) (hu : ∀ u ∈ us, 1 ≤ u.length ∧ u.length ≤ 1017) :
    Calls Tryz.prog 150 #[.pointer (some ⟨fq, 0, none⟩)] w fun e w' => ∃ ra rc, e = .returned (.tuple #[.int .i64 (fl : Int), .slice ra us[fl].length rc]) ∧ Sts W (fopP fq us (fl + 1) (fl + 1) now tm :: rowP 5 1 (.slice ra us[fl].length rc) us[fl].length (u8s us[fl]) :: l) w' := by
  obtain ⟨uv, vs, h0⟩ := Sts.openF hs
  obtain ⟨ub, uc, hue⟩ := own_pos h0.tail.rowOwn (by omega)
  subst hue
  have hul := hu us[fl] (List.getElem_mem hf)
  obtain ⟨u, hu0⟩ : ∃ u, u = us[fl] := ⟨_, rfl⟩
  rw [← hu0] at hul ⊢
  obtain ⟨v, hv1, hv2, hv3⟩ : ∃ v, vs[fl]? = some v ∧ Rd w v (u8s u) ∧ ∀ c, v = .slice none 0 c → c = 0 := by
    obtain ⟨F, hF⟩ := h0.tail.tail.head
    rw [hu0]
    exact rowsP_rd hF fl hf
  obtain ⟨va, vc, hve⟩ := hv2.eq
  rw [u8s_len] at hve
  have HVR : Hid (∀ y : World, Sts W (rowsP 5 vs us :: l) y → Rd y v (u8s u)) := hid (by
    intro y h
    obtain ⟨F, hF⟩ := h.head
    obtain ⟨v', q1, q2, _⟩ := rowsP_rd hF fl hf
    rw [hv1] at q1
    injection q1 with q1
    rw [← q1, ← hu0] at q2
    exact q2)
  have HVN := hid hv3
  have HV1 := hid hv1
  have HFL := hid hf
  have HUL := hid hul
  have H1 := hid h1
  have HL := hid hl
  have HLU := hid (show ∀ B ∈ rowP 35 1 (.slice (some ⟨ub, 0, none⟩) us.length uc) us.length vs :: rowsP 5 vs us :: l, Stable B from stabC (rowP_stable _ _ _ _ _) (stabC (rowsP_stable _ _ _) hl))
  have H0 := hid h0
  have e1 : wrap64 ((0 : Int) + (fl : Int)) = (fl : Int) := by unfold wrap64; omega
  have e2 : IntKind.i64.wrap (fl : Int) = (fl : Int) := by rw [IntKind.wrap_i64]; omega
  have e3 : (fl : Int).tmod 256 = (fl : Int) := by rw [Int.tmod_eq_emod_of_nonneg (by omega)]; omega
  have e4 : (fl : Int) % 256 = (fl : Int) := by omega
  have e5 : (fl : Int) < (us.length : Int) := by omega
  have e6 : wrap64 ((fl : Int) + 1) = (fl : Int) + 1 := by unfold wrap64; omega
  have e7 : IntKind.i64.wrap ((fl : Int) + 1) = (fl : Int) + 1 := by rw [IntKind.wrap_i64]; omega
  have e8 : max (fl : Int) ((fl : Int) + 1) = (fl : Int) + 1 := by omega
  have e9 : (fl : Int) < (fl : Int) + 1 := by omega
  subst hve
  clear hs h0 hv1 hv2 hv3 h1 hu hul hu0 hl
  go_enter Tryz.func150, Tryz.ntmps150
  go_wp2_with fail
  refine wp_region_ordQ (.pure 0 (.pure 1 (.pure 2 (.pure 3 (.pure 4 (.pure 5 (.pure 6 (.pure 7 (.pure 8 (.pure 9 (.pure 10 (.pure 11 (.pure 12 (.pure 13 (.pure 14 (.pure 15 (.pure 16 (.pure 17 (.pure 18 (.pure 19 (.eff 20 (.pure 21 (.pure 22 .nil))))))))))))))))))))))) (fun y => y.cell? ⟨fq, 1, none⟩ = some (.slice (some ⟨ub, 0, none⟩) us.length uc) ∧ y.cell? ⟨fq, 2, none⟩ = some (.int .i64 0) ∧ y.cell? ⟨fq, 3, none⟩ = some (.int .i64 (fl : Int)) ∧ y.cell? ⟨ub, fl, none⟩ = some (.slice va u.length vc)) (fun y => Sts W (blkP fq (.cells (fopA fl fl now tm (.slice (some ⟨ub, 0, none⟩) us.length uc)) 216 (0, 0)) :: rowP 35 1 (.slice (some ⟨ub, 0, none⟩) us.length uc) us.length vs :: rowsP 5 vs us :: l) y) (by kernel_rfl) (by kernel_rfl) (H0.out.drew (stabC (blkP_stable _ _) HLU.out)) (fun y hy => ⟨(Sts.boxCell hy 1 _ rfl).1, (Sts.boxCell hy 2 _ rfl).1, (Sts.boxCell hy 3 _ rfl).1, Sts.rowCell hy.tail fl HFL.out _ HV1.out⟩) ?_
  iterate 20
    (apply ordq_pure (ho := rfl)
     · go_simp
     · intro x hx; obtain ⟨k1, k2, k3, k4⟩ := hx; go_simp; rfl
     apply ordq_norm
     · go_simp; rfl)
  apply ordq_eff (ho := rfl)
  · go_simp
  intro y hy
  refine eff_call (f := 148) (by go_simp) (cClone8 y _ u (HVR.out y hy.tail.tail) HVN.out (by have := HUL.out; omega)) ?_
  rintro e w3 ⟨r, rfl, hN, -⟩
  have h4 := Sts.new (stabC (blkP_stable _ _) HLU.out) hy hN
  rw [u8s_len] at h4
  obtain ⟨ra, rc, hre⟩ := own_slice h4.rowOwn
  subst hre
  refine ⟨_, rfl, (fun y => y.cell? ⟨fq, 1, none⟩ = some (.slice (some ⟨ub, 0, none⟩) us.length uc) ∧ y.cell? ⟨fq, 2, none⟩ = some (.int .i64 0) ∧ y.cell? ⟨fq, 3, none⟩ = some (.int .i64 (fl : Int)) ∧ y.cell? ⟨ub, fl, none⟩ = some (.slice va u.length vc)), (fun y => Sts W (rowP 5 1 (.slice ra u.length rc) u.length (u8s u) :: blkP fq (.cells (fopA fl fl now tm (.slice (some ⟨ub, 0, none⟩) us.length uc)) 216 (0, 0)) :: rowP 35 1 (.slice (some ⟨ub, 0, none⟩) us.length uc) us.length vs :: rowsP 5 vs us :: l) y), h4, (fun y hy => ⟨(Sts.boxCell hy.tail 1 _ rfl).1, (Sts.boxCell hy.tail 2 _ rfl).1, (Sts.boxCell hy.tail 3 _ rfl).1, Sts.rowCell hy.tail.tail fl HFL.out _ HV1.out⟩), (fun _ h => h), ?_⟩
  clear h4 hN hy y
  apply ordq_norm
  · go_simp; rfl
  iterate 2
    (apply ordq_pure (ho := rfl)
     · go_simp
     · intro x hx; go_simp; rfl
     apply ordq_norm
     · go_simp; rfl)
  refine ordq_nil fun z hz => ?_
  have HZ := hid hz.swap
  have z3 : z.cell? ⟨fq, 3, none⟩ = some (.int .i64 (fl : Int)) := (Sts.boxCell hz.tail 3 _ rfl).1
  have HLD := hid (show ∀ B ∈ rowP 5 1 (.slice ra u.length rc) u.length (u8s u) :: rowP 35 1 (.slice (some ⟨ub, 0, none⟩) us.length uc) us.length vs :: rowsP 5 vs us :: l, Stable B from stabC (rowP_stable _ _ _ _ _) HLU.out)
  clear hz
  go_wp2_with (refine wpList_cellS HZ.out HLD.out rfl (.tmp 31) (.tmp 29) 3 rfl 3 (.int .i64 ((fl : Int) + 1)) rfl rfl szInt (show 3 < 15 by decide) rfl ?_; intro w5 h5
               have H5 : Hid (Sts W (blkP fq (.cells (fopA (fl + 1) fl now tm (.slice (some ⟨ub, 0, none⟩) us.length uc)) 216 (0, 0)) :: rowP 5 1 (.slice ra u.length rc) u.length (u8s u) :: rowP 35 1 (.slice (some ⟨ub, 0, none⟩) us.length uc) us.length vs :: rowsP 5 vs us :: l) w5) := hid h5
               clear h5)
  refine wp_region_ordQS (fun i => i == 12) (.pure 0 (.pure 1 (.pure 2 (.pure 3 (.pure 4 (.pure 5 (.pure 6 (.pure 7 (.pure 8 (.pure 9 (.pure 10 (.pure 11 (.eff 12 .nil))))))))))))) (fun y => y.cell? ⟨fq, 3, none⟩ = some (.int .i64 ((fl : Int) + 1)) ∧ y.cell? ⟨fq, 4, none⟩ = some (.int .i64 (fl : Int))) (fun y => Sts W (blkP fq (.cells (fopA (fl + 1) fl now tm (.slice (some ⟨ub, 0, none⟩) us.length uc)) 216 (0, 0)) :: rowP 5 1 (.slice ra u.length rc) u.length (u8s u) :: rowP 35 1 (.slice (some ⟨ub, 0, none⟩) us.length uc) us.length vs :: rowsP 5 vs us :: l) y) (by kernel_rfl) (by kernel_rfl) (H5.out.drew (stabC (blkP_stable _ _) HLD.out)) (fun y hy => ⟨(Sts.boxCell hy 3 _ rfl).1, (Sts.boxCell hy 4 _ rfl).1⟩) ?_
  iterate 12
    (apply ordq_pure (ho := rfl)
     · go_simp
     · intro x hx; obtain ⟨k1, k2⟩ := hx; go_simp; rfl
     apply ordq_norm
     · go_simp; rfl)
  apply ordq_eff (ho := rfl)
  · go_simp
  intro y hy
  refine effS_cellS rfl hy HLD.out (.tmp 43) (.tmp 41) 3 rfl 4 (.int .i64 ((fl : Int) + 1)) ?_ ?_ szInt (show 4 < 15 by decide) rfl (fun y' => Sts W (fopP fq us (fl + 1) (fl + 1) now tm :: rowP 5 1 (.slice ra u.length rc) u.length (u8s u) :: l) y') ?_ ?_
  · go_simp
  · go_simp
  · intro w' h7
    replace h7 : Sts W (blkP fq (.cells (fopA (fl + 1) (fl + 1) now tm (.slice (some ⟨ub, 0, none⟩) us.length uc)) 216 (0, 0)) :: rowP 5 1 (.slice ra u.length rc) u.length (u8s u) :: rowP 35 1 (.slice (some ⟨ub, 0, none⟩) us.length uc) us.length vs :: rowsP 5 vs us :: l) w' := h7
    exact Sts.closeF (uv := .slice (some ⟨ub, 0, none⟩) us.length uc) (vs := vs) ((h7.perm (List.perm_append_comm (l₁ := [_, _]) (l₂ := [_, _]) |>.append_right l)).perm (((List.perm_append_comm (l₁ := [_, _]) (l₂ := [_])).trans (List.Perm.refl _)).append_right (_ :: l)))
  apply ordq_norm
  · go_simp; rfl
  refine ordq_nil fun z hz => ?_
  have HZ2 := hid hz
  clear hz hy y
  go_wp2_with fail
  go_ret2
  exact ⟨ra, rc, rfl, HZ2.out⟩
end
end Go.Proofs.YtnklmadmenkdoaaGreat
