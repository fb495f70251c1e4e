/- A tick of the ground segment in which frames of telemetry arrive. -/
import Derived.Test.YtnklmadmenkdoaaGreatQStdC
import Derived.Test.YtnklmadmenkdoaaGreatQSnrA
set_option linter.unusedVariables false
set_option linter.unusedSimpArgs false
namespace Go.Proofs.YtnklmadmenkdoaaGreat
open Go.RowKit Go.Proofs.Num
/-- The receiving end of the ground segment. -/
def dnP (fi u0 ar tq i : Nat) (A : Arc.Arch) (n : Nat) (ts : List (Int × Int)) : HProp := star (finP fi) (star (unpS u0 i) (rcvP ar tq A n ts))
theorem dnP_stable (fi u0 ar tq i : Nat) (A : Arc.Arch) (n : Nat) (ts : List (Int × Int)) : Stable (dnP fi u0 ar tq i A n ts) := star_stable (finP_stable _) (star_stable (unpS_stable _ _) (rcvP_stable _ _ _ _ _))
section
variable {W w : World} {l : List HProp}
theorem Sts.openDn {fi u0 ar tq i n : Nat} {A : Arc.Arch} {ts : List (Int × Int)} (h : Sts W (dnP fi u0 ar tq i A n ts :: l) w) : Sts W (finP fi :: unpS u0 i :: rcvP ar tq A n ts :: l) w :=
  ((Sts.split ((Sts.split h).swap)).perm (List.perm_middle (l₁ := [_, _])))
theorem Sts.closeDn {fi u0 ar tq i n : Nat} {A : Arc.Arch} {ts : List (Int × Int)} (h : Sts W (finP fi :: unpS u0 i :: rcvP ar tq A n ts :: l) w) : Sts W (dnP fi u0 ar tq i A n ts :: l) w :=
  Sts.join ((Sts.join h.third' (fun F hF => hF)).swap) (fun F hF => hF)
theorem Sts.moreDn {fi u0 ar tq i n m : Nat} {A : Arc.Arch} {ts : List (Int × Int)} (hn : n ≤ m) (h : Sts W (dnP fi u0 ar tq i A n ts :: l) w) : Sts W (dnP fi u0 ar tq i A m ts :: l) w :=
  h.weaken (fun F hF => star_mono (fun _ h => h) (fun _ h => star_mono (fun _ h => h) (fun _ h => star_mono (fun _ h => h) (fun _ ⟨now, h1, h2⟩ => ⟨now, Nat.le_trans h1 hn, h2⟩) h) h) hF)
theorem cRcvFrame (hl : ∀ B ∈ l, Stable B) (g fi u0 u1 u2 ar tq cq fq mp now next : Nat) (A : Arc.Arch) (NA : Nat) (hA : Arc.ok NA A) (hNA : NA ≤ 900) (ts : List (Int × Int)) (hts : ts.length < 1000) (n0 : Nat) (hn0 : n0 ≤ now) (hnow : now ≤ 1000000)
    (r : Dn.Rep) (hr : r.ok) (i : Nat) (hi : i < 100) (fb fo fc : Nat) (hR : RdsB W l (.slice (some ⟨fb, fo, none⟩) 244 fc) r.dat) (hs : Sts W (blkP g (.cells (staC fi u0 u1 u2 ar tq cq fq mp now next) 119 (0, 0)) :: unpS u0 i :: rcvP ar tq A n0 ts :: l) w) :
    Calls Tryz.prog 50 #[.pointer (some ⟨g, 0, none⟩), .agg (tmV i (.slice (some ⟨fb, fo, none⟩) 244 fc)), .int .i64 (now : Int)] w fun e w' => e = .returned (.tuple #[]) ∧ Sts W (blkP g (.cells (staC fi u0 u1 u2 ar tq cq fq mp now next) 119 (0, 0)) :: unpS u0 (i + 1) :: rcvP ar tq (r.arc A) now (r.tk ts) :: l) w' := by
  have h2 := hr.hd2
  have h1 := hr.hd1
  refine cRcvFrameG hl g fi u0 u1 u2 ar tq cq fq mp now next i hi r.a r.c r.m r.pay (6 + r.d.length) (6 + r.d.length + 6) r.pay_len rfl (Dn.Rep.a_lt hr) hr.hc (by omega) (by omega) (by unfold Dn.Rep.m; omega) (by unfold Dn.Rep.m; omega) (Dn.Rep.pay_lt hr) _ _ (rcvP_stable _ _ _ _ _) (rcvP_stable _ _ _ _ _) ?_ fb fo fc hR hs
  intro y l' hl' rb ro rc hR' hy
  exact cRcvPacket hl' g fi u0 u1 u2 ar tq cq fq mp now next A NA hA hNA ts hts n0 hn0 hnow r hr rb ro rc _ rfl hR' hy
end
/-- What a tick leaves: the frames that went out. -/
def stepDPost (W : World) (l : List HProp) (g fi u0 u1 u2 ar tq c fq mp next k : Nat) (us : List (List Nat)) (fl t i : Nat) (A : Arc.Arch) (ts : List (Int × Int)) (e : Ending) (w' : World) : Prop :=
  ∃ ov ovs j fn' tm', e = .returned ov ∧ j = min 4 (us.length - fl) ∧ fn' ≤ t + 1 ∧ tm' ≤ t + 1 ∧ Sts W (fopP fq us (fl + j) (fl + j) fn' tm' :: blkP g (.cells (staC fi u0 u1 u2 ar tq c fq mp (t + 1) next) 119 (0, 0)) :: blkP mp (cntO k) :: dnP fi u0 ar tq i A (t + 1) ts :: couP c (t + 1) :: rowP 35 1 ov j ovs :: rowsP 5 ovs (frs us fl j) :: l) w'
/-- Frames as they arrive. -/
def DownAt (y : World) (da : Option Addr) (i0 : Nat) (rs : List Dn.Rep) : Prop := ∀ p (hp : p < rs.length), ∃ db va vc, da = some ⟨db, 0, none⟩ ∧ y.cell? ⟨db, p, none⟩ = some (.slice va 260 vc) ∧ RdB y (.slice va 260 vc) (rs[p].up (i0 + p))
theorem up_len (i : Nat) {r : Dn.Rep} (h : r.ok) : (r.frm i).length = 256 := tmB_len i _ (Dn.Rep.dat_len h)
theorem frm_lt (i : Nat) (hi : i < 200) {r : Dn.Rep} (h : r.ok) : ∀ x ∈ r.frm i, x < 256 := by
  unfold Dn.Rep.frm tmB
  refine Cmd.crcB_lt _ ?_
  intro x hx
  rcases List.mem_append.1 hx with hx | hx
  · rcases List.mem_append.1 hx with hx | hx
    · simp only [Tmh.hd, List.mem_cons, List.not_mem_nil, or_false] at hx
      omega
    · exact Dn.Rep.dat_lt h x hx
  · simp only [List.mem_cons, List.not_mem_nil, or_false] at hx
    omega
theorem arcAll_ok : ∀ (rs : List Dn.Rep) (N : Nat) (A : Arc.Arch), (∀ r ∈ rs, r.ok) → Arc.ok N A → Arc.ok (N + rs.length) (Dn.arcAll rs A)
  | [], N, A, _, h => h
  | r :: rs, N, A, hr, h => by
    have := arcAll_ok rs (N + 1) (r.arc A) (fun x hx => hr x (List.mem_cons_of_mem _ hx)) (Dn.Rep.arc_ok (hr r (List.mem_cons_self ..)) h)
    rw [List.length_cons, show N + (rs.length + 1) = N + 1 + rs.length by omega]
    exact this
theorem take_fold {α β : Type} (f : β → α → β) (l : List α) (p : Nat) (hp : p < l.length) (b : β) : (l.take (p + 1)).foldl f b = f ((l.take p).foldl f b) l[p] := by
  rw [List.take_succ_eq_append_getElem hp, List.foldl_append]; rfl
theorem wrap_succ (t n : Nat) (ht : t < 19) (hn : n = t + 1) : wrap64 ((t : Int) + 1) = (n : Int) ∧ IntKind.i64.wrap ((t : Int) + 1) = (n : Int) := by
  constructor
  · unfold wrap64; omega
  · rw [IntKind.wrap_i64]; omega
section
variable {W w : World} {l : List HProp} (hl : ∀ B ∈ l, Stable B) (g fi u0 u1 u2 ar tq c fq mp next k : Nat) (us : List (List Nat)) (fl fnow0 tm t : Nat)
include hl
set_option maxRecDepth 100000 in
set_option maxHeartbeats 16000000 in
theorem cStepD (i0 : Nat) (A : Arc.Arch) (NA : Nat) (hA : Arc.ok NA A) (hNA : NA + 20 ≤ 900) (ts : List (Int × Int)) (hts : ts.length < 1000) (rs : List Dn.Rep) (hrs : ∀ r ∈ rs, r.ok) (hi0 : i0 + rs.length ≤ 15) (da : Option Addr) (dc : Nat) (hdc : rs.length ≤ dc) (hdown : ∀ B y, Sts W (B :: l) y → DownAt y da i0 rs)
    (hs : Sts W (blkP g (.cells (staC fi u0 u1 u2 ar tq c fq mp t next) 119 (0, 0)) :: blkP mp (cntO k) :: fopP fq us fl fl fnow0 tm :: dnP fi u0 ar tq i0 A t ts :: couP c t :: l) w) (ht : t < 19) (hft : fnow0 ≤ t + 1) (htm : tm ≤ t + 1) (hfl : fl ≤ us.length) (hus : us.length < 16) (hu : ∀ u ∈ us, 1 ≤ u.length ∧ u.length ≤ 1017) (hub : ∀ u ∈ us, ∀ x ∈ u, x < 256) :
    Calls Tryz.prog 13 #[.pointer (some ⟨g, 0, none⟩), .slice da rs.length dc] w (stepDPost W l g fi u0 u1 u2 ar tq c fq mp next k us fl t (i0 + rs.length) (Dn.arcAll rs A) (Dn.tkAll rs ts)) := by
  have HUSE := hid (cStaUsable g fi u0 u1 u2 ar tq c fq mp hs)
  have HS := hid hs
  have HL := hid hl
  obtain ⟨n, hn⟩ : ∃ n, n = t + 1 := ⟨_, rfl⟩
  have c9 : w.cell? ⟨g, 9, none⟩ = some (.int .i64 (t : Int)) := (Sts.boxCell hs 9 _ rfl).1
  have b1 : ((t : Int) == 1099511627776) = false := by rw [beq_eq_false_iff_ne]; omega
  have HN := hid hn
  have HT := hid ht
  have HTM := hid htm
  have HFL := hid hfl
  have HUS := hid hus
  have HU := hid hu
  have HUB := hid hub
  have HFT0 := hid hft
  have HN9 : Hid (n ≤ 1000000) := hid (by omega)
  have HFL9 : Hid (fl ≤ 1000) := hid (by omega)
  obtain ⟨m, hm⟩ : ∃ m, m = rs.length := ⟨_, rfl⟩
  have HM := hid hm
  have HI0 : Hid (i0 + m ≤ 15) := hid (by omega)
  have HDC : Hid (m ≤ dc) := hid (by omega)
  have HDN := hid hdown
  have HRS := hid hrs
  have HAO := hid (show ∀ p, p ≤ m → Arc.ok (NA + p) (Dn.arcAll (rs.take p) A) from fun p hp => by
    have := arcAll_ok (rs.take p) NA A (fun r hr => hrs r (List.mem_of_mem_take hr)) hA
    rw [List.length_take, Nat.min_eq_left (by omega)] at this
    exact this)
  have HTS := hid (show ∀ p, (Dn.tkAll (rs.take p) ts).length < 1000 from fun p => by rw [Dn.tkAll_len]; exact hts)
  have HNA := hid hNA
  rw [← hm]
  have HLR := hid (show ∀ B ∈ blkP mp (cntO k) :: fopP fq us fl fl fnow0 tm :: dnP fi u0 ar tq i0 A t ts :: couP c t :: l, Stable B from stabC (blkP_stable _ _) (stabC (fopP_stable _ _ _ _ _ _) (stabC (dnP_stable _ _ _ _ _ _ _ _) (stabC (couP_stable _ _) (hl)))))
  have HCN := hid (show ∀ (l' : List HProp) (_ : ∀ B ∈ l', Stable B) (y : World) (_ : Sts W (couP c t :: l') y), Calls Tryz.prog 54 #[.pointer (some ⟨c, 0, none⟩), .int .i64 (n : Int)] y fun e w' => e = .returned (.tuple #[.agg pdu0, .bool false]) ∧ Sts W (couP c n :: l') w' from by intro l' hl' y hy; rw [hn]; exact cCouNext hl' c t (by omega) hy)
  obtain ⟨e1, e2⟩ := wrap_succ t n ht hn
  clear hs hl ht hft htm hfl hus hu hub hn hm hdc hdown hrs hA hNA hts hi0
  go_enter Tryz.func13, Tryz.ntmps13
  go_wp2_with (first
    | (go_at_call 42; refine HUSE.out.mono ?_; rintro e w1 ⟨rfl, rfl⟩)
    | (refine wpList_cellS HS.out HLR.out rfl (.tmp 37) (.tmp 35) 3 rfl 9 (.int .i64 (n : Int)) rfl rfl szInt (show 9 < 13 by decide) rfl ?_; intro w2 h2
       have H2 : Hid (Sts W (finP fi :: unpS u0 (i0 + 0) :: rcvP ar tq (Dn.arcAll (rs.take 0) A) n (Dn.tkAll (rs.take 0) ts) :: blkP g (.cells (staC fi u0 u1 u2 ar tq c fq mp n next) 119 (0, 0)) :: blkP mp (cntO k) :: fopP fq us fl fl fnow0 tm :: couP c t :: l) w2) := hid (Sts.openDn (Sts.moreDn (show t ≤ n by have := HN.out; omega) ((h2).perm (List.perm_middle (l₁ := [_, _, _])))))
       clear h2))
  go_loopw [40] (fun ix wr => ∃ p fnow, p ≤ m ∧ ix = .int .i64 (p : Int) ∧ fnow ≤ n ∧ Sts W (finP fi :: unpS u0 (i0 + p) :: rcvP ar tq (Dn.arcAll (rs.take p) A) n (Dn.tkAll (rs.take p) ts) :: blkP g (.cells (staC fi u0 u1 u2 ar tq c fq mp n next) 119 (0, 0)) :: blkP mp (cntO k) :: fopP fq us fl fl fnow tm :: couP c t :: l) wr) (fun ix _ => m - (intOf ix).toNat)
  case atStart => exact ⟨0, fnow0, Nat.zero_le _, rfl, by have := HN.out; have := HFT0.out; omega, H2.out⟩
  case round =>
    clear H2 HS HLR c9 HUSE
    obtain ⟨p, fnow, hp, rfl, hfn, h⟩ := hrel
    by_cases hlt : p < m
    · have hrl : p < rs.length := by rw [← HM.out]; exact hlt
      have hM := HM.out
      obtain ⟨db, va, vc, rfl, hcell, hrd⟩ := HDN.out _ _ (Sts.sub (h) (.cons _ (.cons _ (.cons _ (.cons _ (.cons _ (.cons _ (.cons_cons _ (List.Sublist.refl _))))))))) p hrl
      obtain ⟨r, hr⟩ : ∃ r, r = rs[p] := ⟨_, rfl⟩
      rw [← hr] at hrd
      have HRO : Hid r.ok := hid (by rw [hr]; exact HRS.out _ (List.getElem_mem _))
      obtain ⟨i, hi⟩ : ∃ i, i = i0 + p := ⟨_, rfl⟩
      rw [← hi] at hrd h
      have hi15 : i < 15 := by have := HI0.out; omega
      obtain ⟨A1, hA1⟩ : ∃ A1, A1 = Dn.arcAll (rs.take p) A := ⟨_, rfl⟩
      obtain ⟨ts1, hts1⟩ : ∃ ts1, ts1 = Dn.tkAll (rs.take p) ts := ⟨_, rfl⟩
      obtain ⟨A2, hA2⟩ : ∃ A2, A2 = r.arc A1 := ⟨_, rfl⟩
      obtain ⟨ts2, hts2⟩ : ∃ ts2, ts2 = r.tk ts1 := ⟨_, rfl⟩
      rw [← hA1, ← hts1] at h
      have HE2 : Hid (A2 = Dn.arcAll (rs.take (p + 1)) A ∧ ts2 = Dn.tkAll (rs.take (p + 1)) ts) := hid (by
        rw [hA2, hts2, hA1, hts1, hr]
        exact ⟨(take_fold (fun A r => Dn.Rep.arc r A) rs p hrl A).symm, (take_fold (fun ts r => Dn.Rep.tk r ts) rs p hrl ts).symm⟩)
      have HAK : Hid (Arc.ok (NA + p) A1) := hid (by rw [hA1]; exact HAO.out p hp)
      have HTK1 : Hid (ts1.length < 1000) := hid (by rw [hts1]; exact HTS.out p)
      have HNP : Hid (NA + p ≤ 900) := hid (by have := HNA.out; have := HI0.out; omega)
      have HI := hid hi
      obtain ⟨XS, hXS⟩ : ∃ XS, XS = r.frm i := ⟨_, rfl⟩
      obtain ⟨DT, hDT⟩ : ∃ DT, DT = r.dat := ⟨_, rfl⟩
      have HXL : Hid (XS.length = 256) := hid (by rw [hXS]; exact up_len i HRO.out)
      have HX8 : Hid (∀ x ∈ XS, x < 256) := hid (by rw [hXS]; exact frm_lt i (by omega) HRO.out)
      have HDL : Hid (DT.length = 244) := hid (by rw [hDT]; exact Dn.Rep.dat_len HRO.out)
      have HD8 : Hid (∀ x ∈ DT, x < 256) := hid (by rw [hDT]; exact Dn.Rep.dat_lt HRO.out)
      have hXD : XS = tmB i DT := by rw [hXS, hDT]; rfl
      have hrd2 : RdB wr (.slice va 260 vc) (Scr.mark ++ Scr.mix XS XS.length) := by rw [hXS]; exact hrd
      have KF := hid (cFeedP (stabC (unpS_stable _ _) (stabC (rcvP_stable _ _ _ _ _) (stabC (blkP_stable _ _) (stabC (blkP_stable _ _) (stabC (fopP_stable _ _ _ _ _ _) (stabC (couP_stable _ _) (HL.out))))))) fi (.slice va 260 vc) XS h hrd2 HXL.out HX8.out)
      have KF2 : Hid (Calls Tryz.prog 47 #[.pointer (some ⟨fi, 0, none⟩), .slice va 260 vc] wr fun e w' => ∃ ob oc xb xc, e = .returned (.slice (some ⟨ob, 0, none⟩) 1 oc) ∧ Sts W (finP fi :: rowP 35 1 (.slice (some ⟨ob, 0, none⟩) 1 oc) 1 [.slice (some ⟨xb, 0, none⟩) 256 xc] :: rowP 5 1 (.slice (some ⟨xb, 0, none⟩) 256 xc) 256 (u8s XS) :: unpS u0 i :: rcvP ar tq A1 n ts1 :: blkP g (.cells (staC fi u0 u1 u2 ar tq c fq mp n next) 119 (0, 0)) :: blkP mp (cntO k) :: fopP fq us fl fl fnow tm :: couP c t :: l) w') := hid (by
        refine KF.out.mono ?_
        rintro e w' ⟨oa, oc, xa, xc, rfl, h3⟩
        obtain ⟨ob, c1, e1⟩ := own_pos h3.tail.rowOwn (by decide)
        obtain ⟨xb, c2, e2⟩ := own_pos h3.tail.tail.rowOwn (by decide)
        injection e1 with i1 i2 i3
        injection e2 with j1 j2 j3
        subst i1; subst j1
        exact ⟨ob, oc, xb, xc, rfl, h3⟩)
      have KD := hid (show ∀ (y : World) (xb xc : Nat), RdB y (.slice (some ⟨xb, 0, none⟩) 256 xc) XS → Calls Tryz.prog 48 #[.slice (some ⟨xb, 0, none⟩) 256 xc] y fun e w' => ∃ pb pc, e = .returned (.tuple #[.agg #[.int .i64 5, .int .i64 0, .int .i64 (i : Int), .int .i64 (i : Int), .int .i64 0, .slice (some ⟨pb, 0, none⟩) 244 pc, .int .i64 0, .bool false, .bool false, .bool false, .int .i64 0, .int .i64 0], .int .i64 0]) ∧ New y w' 5 (.slice (some ⟨pb, 0, none⟩) 244 pc) (u8s DT) from fun y xb xc hy => by
        refine (cTmDecode i xb 0 xc DT y (by omega) HDL.out (by rw [← hXD]; exact hy)).mono ?_
        rintro e w' ⟨ra, rc, rfl, hN⟩
        obtain ⟨pb, c1, e1⟩ := own_pos hN.own (by rw [u8s_len, HDL.out]; decide)
        injection e1 with i1 i2 i3
        subst i1
        exact ⟨pb, rc, rfl, hN⟩)
      have HKF := hid (show ∀ (y : World) (l' : List HProp), (∀ B ∈ l', Stable B) → ∀ fb fo fc, RdsB W l' (.slice (some ⟨fb, fo, none⟩) 244 fc) DT → Sts W (blkP g (.cells (staC fi u0 u1 u2 ar tq c fq mp n next) 119 (0, 0)) :: unpS u0 i :: rcvP ar tq A1 n ts1 :: l') y → Calls Tryz.prog 50 #[.pointer (some ⟨g, 0, none⟩), .agg #[.int .i64 5, .int .i64 0, .int .i64 (i : Int), .int .i64 (i : Int), .int .i64 0, .slice (some ⟨fb, fo, none⟩) 244 fc, .int .i64 0, .bool false, .bool false, .bool false, .int .i64 0, .int .i64 0], .int .i64 (n : Int)] y fun e w' => e = .returned (.tuple #[]) ∧ Sts W (blkP g (.cells (staC fi u0 u1 u2 ar tq c fq mp n next) 119 (0, 0)) :: unpS u0 (i + 1) :: rcvP ar tq A2 n ts2 :: l') w' from fun y l' hl' fb fo fc hR hy => by
        rw [hA2, hts2]
        exact cRcvFrame hl' g fi u0 u1 u2 ar tq c fq mp n next A1 (NA + p) HAK.out HNP.out ts1 HTK1.out n (Nat.le_refl _) HN9.out r HRO.out i (by omega) fb fo fc (by rw [← hDT]; exact hR) hy)
      have HFN := hid hfn
      have HRPT := hid (show ∀ (y : World) (l' : List HProp), (∀ B ∈ l', Stable B) → Sts W (fopP fq us fl fl fnow tm :: l') y → Calls Tryz.prog 49 #[.pointer (some ⟨fq, 0, none⟩), .agg #[.int .i64 0, .bool false, .bool false, .bool false, .int .i64 0, .int .i64 0], .int .i64 (n : Int)] y fun e w' => e = .returned (.int .i64 0) ∧ Sts W (fopP fq us fl fl n tm :: l') w' from fun y l' hl' hy => cFopReport hl' fq us fl fl fnow tm hy n hfn HN9.out HFL9.out HFL9.out)
      have HP := hid hlt
      have hc0 : wr.cell? ⟨g, 0, none⟩ = some (.pointer (some ⟨fi, 0, none⟩)) := (Sts.boxCell h.tail.tail.tail 0 _ rfl).1
      have p0 : (0 : Int) ≤ (p : Int) := Int.natCast_nonneg _
      have p1 : (p : Int) < (m : Int) := by omega
      have HXU : Hid ((u8s XS).length = 256) := hid (by rw [u8s_len, HXL.out])
      have HDU : Hid ((u8s DT).length = 244) := hid (by rw [u8s_len, HDL.out])
      clear h hrd hrd2 KF hfn hp hM hrl hr hi hi15 hA1 hts1 hA2 hts2 hXS hDT hXD HAK HTK1 HNP
      go_wp2_with fail
      refine KF2.out.mono ?_
      rintro e w3 ⟨ob, oc, xb, xc, rfl, h3⟩
      have H1 := hid h3
      clear h3 KF2 hcell hc0
      go_wp2_with fail
      go_loopw [52] (fun j wt => (j = .int .i64 0 ∧ Sts W (finP fi :: rowP 35 1 (.slice (some ⟨ob, 0, none⟩) 1 oc) 1 [.slice (some ⟨xb, 0, none⟩) 256 xc] :: rowP 5 1 (.slice (some ⟨xb, 0, none⟩) 256 xc) 256 (u8s XS) :: unpS u0 i :: rcvP ar tq A1 n ts1 :: blkP g (.cells (staC fi u0 u1 u2 ar tq c fq mp n next) 119 (0, 0)) :: blkP mp (cntO k) :: fopP fq us fl fl fnow tm :: couP c t :: l) wt) ∨ (j = .int .i64 1 ∧ Sts W (finP fi :: unpS u0 (i + 1) :: rcvP ar tq A2 n ts2 :: blkP g (.cells (staC fi u0 u1 u2 ar tq c fq mp n next) 119 (0, 0)) :: blkP mp (cntO k) :: fopP fq us fl fl n tm :: couP c t :: l) wt)) (fun j _ => 1 - (intOf j).toNat)
      case atStart => exact Or.inl ⟨rfl, H1.out⟩
      case round =>
        clear H1
        rcases hrel with ⟨rfl, h⟩ | ⟨rfl, h⟩
        · have q0 : wr.cell? ⟨ob, 0, none⟩ = some (.slice (some ⟨xb, 0, none⟩) 256 xc) := Sts.rowCell h.tail 0 (by decide) _ rfl
          have KD2 := hid (KD.out wr xb xc ⟨Sts.rdRow h.tail.tail HXU.out, HX8.out⟩)
          have H := hid h
          clear h
          go_wp2_with fail
          refine KD2.out.mono ?_
          rintro e w1 ⟨pb, pc, rfl, hN⟩
          have h2 := Sts.new (stabC (finP_stable _) (stabC (rowP_stable _ _ _ _ _) (stabC (rowP_stable _ _ _ _ _) (stabC (unpS_stable _ _) (stabC (rcvP_stable _ _ _ _ _) (stabC (blkP_stable _ _) (stabC (blkP_stable _ _) (stabC (fopP_stable _ _ _ _ _ _) (stabC (couP_stable _ _) (HL.out)))))))))) H.out hN
          rw [HDU.out] at h2
          have h3 := Sts.alloc (stabC (rowP_stable _ _ _ _ _) (stabC (finP_stable _) (stabC (rowP_stable _ _ _ _ _) (stabC (rowP_stable _ _ _ _ _) (stabC (unpS_stable _ _) (stabC (rcvP_stable _ _ _ _ _) (stabC (blkP_stable _ _) (stabC (blkP_stable _ _) (stabC (fopP_stable _ _ _ _ _ _) (stabC (couP_stable _ _) (HL.out))))))))))) h2 (.cells #[.int .i64 5, .int .i64 0, .int .i64 (i : Int), .int .i64 (i : Int), .int .i64 0, .slice (some ⟨pb, 0, none⟩) 244 pc, .int .i64 0, .bool false, .bool false, .bool false, .int .i64 0, .int .i64 0] 74)
          have H3 : Hid (Sts W (blkP w1.heap.size (.cells #[.int .i64 5, .int .i64 0, .int .i64 (i : Int), .int .i64 (i : Int), .int .i64 0, .slice (some ⟨pb, 0, none⟩) 244 pc, .int .i64 0, .bool false, .bool false, .bool false, .int .i64 0, .int .i64 0] 74 (0, 0)) :: rowP 5 1 (.slice (some ⟨pb, 0, none⟩) 244 pc) 244 (u8s DT) :: finP fi :: rowP 35 1 (.slice (some ⟨ob, 0, none⟩) 1 oc) 1 [.slice (some ⟨xb, 0, none⟩) 256 xc] :: rowP 5 1 (.slice (some ⟨xb, 0, none⟩) 256 xc) 256 (u8s XS) :: unpS u0 i :: rcvP ar tq A1 n ts1 :: blkP g (.cells (staC fi u0 u1 u2 ar tq c fq mp n next) 119 (0, 0)) :: blkP mp (cntO k) :: fopP fq us fl fl fnow tm :: couP c t :: l) (w1.alloc (.cells #[.int .i64 5, .int .i64 0, .int .i64 (i : Int), .int .i64 (i : Int), .int .i64 0, .slice (some ⟨pb, 0, none⟩) 244 pc, .int .i64 0, .bool false, .bool false, .bool false, .int .i64 0, .int .i64 0] 74))) := hid h3
          have HRW := hid (show ∀ L : List HProp, RdsB W (blkP w1.heap.size (.cells #[.int .i64 5, .int .i64 0, .int .i64 (i : Int), .int .i64 (i : Int), .int .i64 0, .slice (some ⟨pb, 0, none⟩) 244 pc, .int .i64 0, .bool false, .bool false, .bool false, .int .i64 0, .int .i64 0] 74 (0, 0)) :: rowP 5 1 (.slice (some ⟨pb, 0, none⟩) 244 pc) 244 (u8s DT) :: L) (.slice (some ⟨pb, 0, none⟩) 244 pc) DT from fun L => ⟨Rds.row HDU.out (List.mem_cons_of_mem _ (List.mem_cons_self ..)), HD8.out⟩)
          clear h2 h3 hN H KD2 q0
          go_wp2_with fail
          refine wp_region_ordQ (.pure 0 (.pure 1 (.pure 2 (.pure 3 (.pure 4 (.pure 5 (.pure 6 (.pure 7 (.pure 8 (.pure 9 (.pure 10 .nil))))))))))) (fun y => y.cell? ⟨w1.heap.size, 0, none⟩ = some (.int .i64 5) ∧ y.cell? ⟨g, 8, none⟩ = some (.int .i64 5)) (fun y => Sts W (blkP w1.heap.size (.cells #[.int .i64 5, .int .i64 0, .int .i64 (i : Int), .int .i64 (i : Int), .int .i64 0, .slice (some ⟨pb, 0, none⟩) 244 pc, .int .i64 0, .bool false, .bool false, .bool false, .int .i64 0, .int .i64 0] 74 (0, 0)) :: rowP 5 1 (.slice (some ⟨pb, 0, none⟩) 244 pc) 244 (u8s DT) :: finP fi :: rowP 35 1 (.slice (some ⟨ob, 0, none⟩) 1 oc) 1 [.slice (some ⟨xb, 0, none⟩) 256 xc] :: rowP 5 1 (.slice (some ⟨xb, 0, none⟩) 256 xc) 256 (u8s XS) :: unpS u0 i :: rcvP ar tq A1 n ts1 :: blkP g (.cells (staC fi u0 u1 u2 ar tq c fq mp n next) 119 (0, 0)) :: blkP mp (cntO k) :: fopP fq us fl fl fnow tm :: couP c t :: l) y) (by kernel_rfl) (by kernel_rfl) (H3.out.drew (stabC (blkP_stable _ _) (stabC (rowP_stable _ _ _ _ _) (stabC (finP_stable _) (stabC (rowP_stable _ _ _ _ _) (stabC (rowP_stable _ _ _ _ _) (stabC (unpS_stable _ _) (stabC (rcvP_stable _ _ _ _ _) (stabC (blkP_stable _ _) (stabC (blkP_stable _ _) (stabC (fopP_stable _ _ _ _ _ _) (stabC (couP_stable _ _) (HL.out))))))))))))) (fun y hy => ⟨(Sts.boxCell hy 0 _ rfl).1, (Sts.boxCell hy.tail.tail.tail.tail.tail.tail.tail 8 _ rfl).1⟩) ?_
          iterate 11
            (apply ordq_pure (ho := rfl)
             · go_simp
             · intro x hx; obtain ⟨x1, x2⟩ := hx; go_simp; rfl
             apply ordq_norm
             · go_simp; rfl)
          refine ordq_nil fun z hz => ?_
          have HA := hid hz
          clear hz H3
          go_wp2_with fail
          refine wp_region_ordQ (.pure 0 (.pure 1 (.pure 2 (.pure 3 (.pure 4 (.pure 5 (.pure 6 (.pure 7 (.pure 8 (.pure 9 (.eff 10 .nil))))))))))) (fun y => y.cell? ⟨g, 10, none⟩ = some (.pointer (some ⟨fq, 0, none⟩)) ∧ y.cell? ⟨g, 9, none⟩ = some (.int .i64 (n : Int)) ∧ y.cell? ⟨w1.heap.size, 6, none⟩ = some (.int .i64 0) ∧ y.cell? ⟨w1.heap.size, 7, none⟩ = some (.bool false) ∧ y.cell? ⟨w1.heap.size, 8, none⟩ = some (.bool false) ∧ y.cell? ⟨w1.heap.size, 9, none⟩ = some (.bool false) ∧ y.cell? ⟨w1.heap.size, 10, none⟩ = some (.int .i64 0) ∧ y.cell? ⟨w1.heap.size, 11, none⟩ = some (.int .i64 0)) (fun y => Sts W (fopP fq us fl fl fnow tm :: blkP w1.heap.size (.cells #[.int .i64 5, .int .i64 0, .int .i64 (i : Int), .int .i64 (i : Int), .int .i64 0, .slice (some ⟨pb, 0, none⟩) 244 pc, .int .i64 0, .bool false, .bool false, .bool false, .int .i64 0, .int .i64 0] 74 (0, 0)) :: rowP 5 1 (.slice (some ⟨pb, 0, none⟩) 244 pc) 244 (u8s DT) :: finP fi :: rowP 35 1 (.slice (some ⟨ob, 0, none⟩) 1 oc) 1 [.slice (some ⟨xb, 0, none⟩) 256 xc] :: rowP 5 1 (.slice (some ⟨xb, 0, none⟩) 256 xc) 256 (u8s XS) :: unpS u0 i :: rcvP ar tq A1 n ts1 :: blkP g (.cells (staC fi u0 u1 u2 ar tq c fq mp n next) 119 (0, 0)) :: blkP mp (cntO k) :: couP c t :: l) y) (by kernel_rfl) (by kernel_rfl) (((HA.out).perm (List.perm_middle (l₁ := [_, _, _, _, _, _, _, _, _]))).drew (stabC (fopP_stable _ _ _ _ _ _) (stabC (blkP_stable _ _) (stabC (rowP_stable _ _ _ _ _) (stabC (finP_stable _) (stabC (rowP_stable _ _ _ _ _) (stabC (rowP_stable _ _ _ _ _) (stabC (unpS_stable _ _) (stabC (rcvP_stable _ _ _ _ _) (stabC (blkP_stable _ _) (stabC (blkP_stable _ _) (stabC (couP_stable _ _) (HL.out))))))))))))) (fun y hy => ⟨(Sts.boxCell hy.tail.tail.tail.tail.tail.tail.tail.tail 10 _ rfl).1, (Sts.boxCell hy.tail.tail.tail.tail.tail.tail.tail.tail 9 _ rfl).1, (Sts.boxCell hy.tail 6 _ rfl).1, (Sts.boxCell hy.tail 7 _ rfl).1, (Sts.boxCell hy.tail 8 _ rfl).1, (Sts.boxCell hy.tail 9 _ rfl).1, (Sts.boxCell hy.tail 10 _ rfl).1, (Sts.boxCell hy.tail 11 _ rfl).1⟩) ?_
          iterate 10
            (apply ordq_pure (ho := rfl)
             · go_simp
             · intro x hx; obtain ⟨x1, x2, x3, x4, x5, x6, x7, x8⟩ := hx; go_simp; rfl
             apply ordq_norm
             · go_simp; rfl)
          apply ordq_eff (ho := rfl)
          · go_simp
          intro y hy
          refine eff_call (f := 49) (by go_simp) (HRPT.out y _ (stabC (blkP_stable _ _) (stabC (rowP_stable _ _ _ _ _) (stabC (finP_stable _) (stabC (rowP_stable _ _ _ _ _) (stabC (rowP_stable _ _ _ _ _) (stabC (unpS_stable _ _) (stabC (rcvP_stable _ _ _ _ _) (stabC (blkP_stable _ _) (stabC (blkP_stable _ _) (stabC (couP_stable _ _) (HL.out))))))))))) hy) ?_
          rintro e w3 ⟨rfl, h3⟩
          refine ⟨_, rfl, (fun y => y.cell? ⟨g, 10, none⟩ = some (.pointer (some ⟨fq, 0, none⟩)) ∧ y.cell? ⟨g, 9, none⟩ = some (.int .i64 (n : Int)) ∧ y.cell? ⟨w1.heap.size, 6, none⟩ = some (.int .i64 0) ∧ y.cell? ⟨w1.heap.size, 7, none⟩ = some (.bool false) ∧ y.cell? ⟨w1.heap.size, 8, none⟩ = some (.bool false) ∧ y.cell? ⟨w1.heap.size, 9, none⟩ = some (.bool false) ∧ y.cell? ⟨w1.heap.size, 10, none⟩ = some (.int .i64 0) ∧ y.cell? ⟨w1.heap.size, 11, none⟩ = some (.int .i64 0)), (fun y => Sts W (fopP fq us fl fl n tm :: blkP w1.heap.size (.cells #[.int .i64 5, .int .i64 0, .int .i64 (i : Int), .int .i64 (i : Int), .int .i64 0, .slice (some ⟨pb, 0, none⟩) 244 pc, .int .i64 0, .bool false, .bool false, .bool false, .int .i64 0, .int .i64 0] 74 (0, 0)) :: rowP 5 1 (.slice (some ⟨pb, 0, none⟩) 244 pc) 244 (u8s DT) :: finP fi :: rowP 35 1 (.slice (some ⟨ob, 0, none⟩) 1 oc) 1 [.slice (some ⟨xb, 0, none⟩) 256 xc] :: rowP 5 1 (.slice (some ⟨xb, 0, none⟩) 256 xc) 256 (u8s XS) :: unpS u0 i :: rcvP ar tq A1 n ts1 :: blkP g (.cells (staC fi u0 u1 u2 ar tq c fq mp n next) 119 (0, 0)) :: blkP mp (cntO k) :: couP c t :: l) y), h3, (fun y hy => ⟨(Sts.boxCell hy.tail.tail.tail.tail.tail.tail.tail.tail 10 _ rfl).1, (Sts.boxCell hy.tail.tail.tail.tail.tail.tail.tail.tail 9 _ rfl).1, (Sts.boxCell hy.tail 6 _ rfl).1, (Sts.boxCell hy.tail 7 _ rfl).1, (Sts.boxCell hy.tail 8 _ rfl).1, (Sts.boxCell hy.tail 9 _ rfl).1, (Sts.boxCell hy.tail 10 _ rfl).1, (Sts.boxCell hy.tail 11 _ rfl).1⟩), (fun _ h => h), ?_⟩
          clear h3 hy y 
          apply ordq_norm
          · go_simp; rfl
          refine ordq_nil fun z hz => ?_
          have HB := hid hz
          clear hz HA
          go_wp2_with fail
          refine wp_region_ordQ (.pure 0 (.pure 1 (.pure 2 (.pure 3 (.pure 4 (.pure 5 (.pure 6 (.pure 7 (.eff 8 .nil))))))))) (fun y => y.cell? ⟨g, 9, none⟩ = some (.int .i64 (n : Int)) ∧ (loadVar 74 ⟨w1.heap.size, 0, none⟩).run Tryz.prog y = .ok (.agg #[.int .i64 5, .int .i64 0, .int .i64 (i : Int), .int .i64 (i : Int), .int .i64 0, .slice (some ⟨pb, 0, none⟩) 244 pc, .int .i64 0, .bool false, .bool false, .bool false, .int .i64 0, .int .i64 0]) y) (fun y => Sts W (blkP g (.cells (staC fi u0 u1 u2 ar tq c fq mp n next) 119 (0, 0)) :: unpS u0 i :: rcvP ar tq A1 n ts1 :: blkP w1.heap.size (.cells #[.int .i64 5, .int .i64 0, .int .i64 (i : Int), .int .i64 (i : Int), .int .i64 0, .slice (some ⟨pb, 0, none⟩) 244 pc, .int .i64 0, .bool false, .bool false, .bool false, .int .i64 0, .int .i64 0] 74 (0, 0)) :: rowP 5 1 (.slice (some ⟨pb, 0, none⟩) 244 pc) 244 (u8s DT) :: finP fi :: rowP 35 1 (.slice (some ⟨ob, 0, none⟩) 1 oc) 1 [.slice (some ⟨xb, 0, none⟩) 256 xc] :: rowP 5 1 (.slice (some ⟨xb, 0, none⟩) 256 xc) 256 (u8s XS) :: blkP mp (cntO k) :: fopP fq us fl fl n tm :: couP c t :: l) y) (by kernel_rfl) (by kernel_rfl) (((((((((((HB.out).perm (List.perm_middle (l₁ := [_, _, _, _, _, _, _, _]))).perm (.cons _ (List.perm_middle (l₁ := [_, _, _, _, _, _])))).perm (.cons _ (.cons _ (List.perm_middle (l₁ := [_, _, _, _, _, _]))))).perm (.cons _ (.cons _ (.cons _ (List.perm_middle (l₁ := [_])))))).perm (.cons _ (.cons _ (.cons _ (.cons _ (List.perm_middle (l₁ := [_]))))))).perm (.cons _ (.cons _ (.cons _ (.cons _ (.cons _ (List.perm_middle (l₁ := [_])))))))).perm (.cons _ (.cons _ (.cons _ (.cons _ (.cons _ (.cons _ (List.perm_middle (l₁ := [_]))))))))).perm (.cons _ (.cons _ (.cons _ (.cons _ (.cons _ (.cons _ (.cons _ (List.perm_middle (l₁ := [_])))))))))).perm (.cons _ (.cons _ (.cons _ (.cons _ (.cons _ (.cons _ (.cons _ (.cons _ (List.perm_middle (l₁ := [_]))))))))))).drew (stabC (blkP_stable _ _) (stabC (unpS_stable _ _) (stabC (rcvP_stable _ _ _ _ _) (stabC (blkP_stable _ _) (stabC (rowP_stable _ _ _ _ _) (stabC (finP_stable _) (stabC (rowP_stable _ _ _ _ _) (stabC (rowP_stable _ _ _ _ _) (stabC (blkP_stable _ _) (stabC (fopP_stable _ _ _ _ _ _) (stabC (couP_stable _ _) (HL.out))))))))))))) (fun y hy => ⟨(Sts.boxCell hy 9 _ rfl).1, ldTm rfl hy.tail.tail.tail⟩) ?_
          iterate 3
            (apply ordq_pure (ho := rfl)
             · go_simp
             · intro x hx; obtain ⟨x1, x2⟩ := hx; go_simp; rfl
             apply ordq_norm
             · go_simp; rfl)
          apply ordq_pure (ho := rfl)
          · go_simp
          · exact fun x hx => exec_ldS (.tmp 9) 74 rfl rfl hx.2
          apply ordq_norm
          · go_simp; rfl
          iterate 4
            (apply ordq_pure (ho := rfl)
             · go_simp
             · intro x hx; obtain ⟨x1, x2⟩ := hx; go_simp; rfl
             apply ordq_norm
             · go_simp; rfl)
          apply ordq_eff (ho := rfl)
          · go_simp
          intro y hy
          refine eff_call (f := 50) (by go_simp) (HKF.out y _ (stabC (blkP_stable _ _) (stabC (rowP_stable _ _ _ _ _) (stabC (finP_stable _) (stabC (rowP_stable _ _ _ _ _) (stabC (rowP_stable _ _ _ _ _) (stabC (blkP_stable _ _) (stabC (fopP_stable _ _ _ _ _ _) (stabC (couP_stable _ _) (HL.out))))))))) pb 0 pc (HRW.out _) hy) ?_
          rintro e w3 ⟨rfl, h3⟩
          refine ⟨_, rfl, (fun y => y.cell? ⟨g, 9, none⟩ = some (.int .i64 (n : Int)) ∧ (loadVar 74 ⟨w1.heap.size, 0, none⟩).run Tryz.prog y = .ok (.agg #[.int .i64 5, .int .i64 0, .int .i64 (i : Int), .int .i64 (i : Int), .int .i64 0, .slice (some ⟨pb, 0, none⟩) 244 pc, .int .i64 0, .bool false, .bool false, .bool false, .int .i64 0, .int .i64 0]) y), (fun y => Sts W (blkP g (.cells (staC fi u0 u1 u2 ar tq c fq mp n next) 119 (0, 0)) :: unpS u0 (i + 1) :: rcvP ar tq A2 n ts2 :: blkP w1.heap.size (.cells #[.int .i64 5, .int .i64 0, .int .i64 (i : Int), .int .i64 (i : Int), .int .i64 0, .slice (some ⟨pb, 0, none⟩) 244 pc, .int .i64 0, .bool false, .bool false, .bool false, .int .i64 0, .int .i64 0] 74 (0, 0)) :: rowP 5 1 (.slice (some ⟨pb, 0, none⟩) 244 pc) 244 (u8s DT) :: finP fi :: rowP 35 1 (.slice (some ⟨ob, 0, none⟩) 1 oc) 1 [.slice (some ⟨xb, 0, none⟩) 256 xc] :: rowP 5 1 (.slice (some ⟨xb, 0, none⟩) 256 xc) 256 (u8s XS) :: blkP mp (cntO k) :: fopP fq us fl fl n tm :: couP c t :: l) y), h3, (fun y hy => ⟨(Sts.boxCell hy 9 _ rfl).1, ldTm rfl hy.tail.tail.tail⟩), (fun _ h => h), ?_⟩
          clear h3 hy y 
          apply ordq_norm
          · go_simp; rfl
          refine ordq_nil fun z hz => ?_
          have HC := hid hz
          clear hz HB
          have H4 : Hid (Sts W (finP fi :: unpS u0 (i + 1) :: rcvP ar tq A2 n ts2 :: blkP g (.cells (staC fi u0 u1 u2 ar tq c fq mp n next) 119 (0, 0)) :: blkP mp (cntO k) :: fopP fq us fl fl n tm :: couP c t :: l) z) := hid (Sts.sub (((((((HC.out).perm (List.perm_middle (l₁ := [_, _, _, _, _]))).perm (.cons _ (List.perm_middle (l₁ := [_])))).perm (.cons _ (.cons _ (List.perm_middle (l₁ := [_]))))).perm (.cons _ (.cons _ (.cons _ (.cons _ (List.perm_middle (l₁ := [_, _, _, _]))))))).perm (.cons _ (.cons _ (.cons _ (.cons _ (.cons _ (List.perm_middle (l₁ := [_, _, _, _])))))))).perm (.cons _ (.cons _ (.cons _ (.cons _ (.cons _ (.cons _ (List.perm_middle (l₁ := [_, _, _, _]))))))))) (.cons_cons _ (.cons_cons _ (.cons_cons _ (.cons_cons _ (.cons_cons _ (.cons_cons _ (.cons_cons _ (.cons _ (.cons _ (.cons _ (.cons _ (List.Sublist.refl _)))))))))))))
          clear HC
          go_wp2_with fail
          go_roundw
          case rel => exact Or.inr ⟨rfl, H4.out⟩
          case measure => simp [intOf]
        · have H := hid h
          clear h
          have hp15 : p < 15 := by have h1 := HI0.out; have h2 := HP.out; clear e1 e2; omega
          go_wp2_with fail
          clear e1 e2
          go_roundw
          case rel =>
            refine ⟨p + 1, n, HP.out, by first | rfl | go_num, Nat.le_refl _, ?_⟩
            rw [← HE2.out.1, ← HE2.out.2, ← Nat.add_assoc, ← HI.out]
            exact H.out
          case measure => simp [intOf]; have := HP.out; omega
    · obtain rfl : p = m := by omega
      have e9 : rs.take p = rs := by rw [HM.out]; exact List.take_length
      rw [e9] at h
      have H := hid (show Sts W (blkP g (.cells (staC fi u0 u1 u2 ar tq c fq mp n next) 119 (0, 0)) :: blkP mp (cntO k) :: fopP fq us fl fl fnow tm :: dnP fi u0 ar tq (i0 + p) (Dn.arcAll rs A) n (Dn.tkAll rs ts) :: couP c t :: l) wr from (((Sts.closeDn h).perm (List.perm_middle (l₁ := [_]))).perm (.cons _ (List.perm_middle (l₁ := [_])))).perm (.cons _ (.cons _ (List.perm_middle (l₁ := [_])))))
      have HFT : Hid (fnow ≤ t + 1) := hid (by have := HN.out; omega)
      have hpm : decide ((p : Int) < (p : Int)) = false := decide_eq_false (by omega)
      have c10 : wr.cell? ⟨g, 10, none⟩ = some (.pointer (some ⟨fq, 0, none⟩)) := (Sts.boxCell H.out 10 _ rfl).1
      clear h hfn hp hlt e9
      have HFOP := hid (show Sts W (fopP fq us fl fl fnow tm :: blkP g (.cells (staC fi u0 u1 u2 ar tq c fq mp n next) 119 (0, 0)) :: blkP mp (cntO k) :: dnP fi u0 ar tq (i0 + p) (Dn.arcAll rs A) n (Dn.tkAll rs ts) :: couP c t :: l) wr from H.out.third)
      have HST := hid (cFopStateP HFOP.out)
      have HQU := hid (cFopQueuedP HFOP.out)
      have dq : decide (248 < (us.length : Int)) = false := decide_eq_false (by have := HUS.out; omega)
      have H3 := hid (show Sts W (couP c t :: blkP g (.cells (staC fi u0 u1 u2 ar tq c fq mp n next) 119 (0, 0)) :: blkP mp (cntO k) :: fopP fq us fl fl fnow tm :: dnP fi u0 ar tq (i0 + p) (Dn.arcAll rs A) n (Dn.tkAll rs ts) :: l) wr from H.out.perm (List.perm_middle (l₁ := [_, _, _, _])))
      have HL3 := hid (show ∀ B ∈ blkP g (.cells (staC fi u0 u1 u2 ar tq c fq mp n next) 119 (0, 0)) :: blkP mp (cntO k) :: fopP fq us fl fl fnow tm :: dnP fi u0 ar tq (i0 + p) (Dn.arcAll rs A) n (Dn.tkAll rs ts) :: l, Stable B from stabC (blkP_stable _ _) (stabC (blkP_stable _ _) (stabC (fopP_stable _ _ _ _ _ _) (stabC (dnP_stable _ _ _ _ _ _ _ _) HL.out))))
      go_wp2_with (first
        | (go_at_call 51; refine HST.out.mono ?_; rintro e w1 ⟨rfl, rfl⟩))
      go_loopw [114] (fun i wr' => i = .int .i64 0 ∧ wr' = wr) (fun _ _ => 0)
      case atStart => exact ⟨rfl, rfl⟩
      case round =>
        obtain ⟨rfl, rfl⟩ := hrel
        go_wp2_with (first
          | (go_at_call 53; refine HQU.out.mono ?_; rintro e w1 ⟨rfl, rfl⟩))
        apply share1 (fun gp z => Sts W (blkP gp (.cells pdu0 135 (0, 0)) :: couP c n :: blkP g (.cells (staC fi u0 u1 u2 ar tq c fq mp n next) 119 (0, 0)) :: blkP mp (cntO k) :: fopP fq us fl fl fnow tm :: dnP fi u0 ar tq (i0 + p) (Dn.arcAll rs A) n (Dn.tkAll rs ts) :: l) z)
        · intro key
          refine wp_region_ordQ (.pure 0 (.pure 1 (.pure 2 (.pure 3 (.pure 4 (.pure 5 (.pure 6 (.pure 7 (.pure 8 (.eff2 9 13 (.pure 10 (.pure 11 (.pure 12 (.eff 13 (.eff 14 (.pure 15 .nil)))))) (.eff 9 (.pure 10 (.pure 11 (.pure 12 (.eff 14 (.pure 15 .nil)))))))))))))))) (fun y => y.cell? ⟨g, 6, none⟩ = some (.pointer (some ⟨c, 0, none⟩)) ∧ y.cell? ⟨g, 9, none⟩ = some (.int .i64 (n : Int))) (fun y => Sts W (couP c t :: blkP g (.cells (staC fi u0 u1 u2 ar tq c fq mp n next) 119 (0, 0)) :: blkP mp (cntO k) :: fopP fq us fl fl fnow tm :: dnP fi u0 ar tq (i0 + p) (Dn.arcAll rs A) n (Dn.tkAll rs ts) :: l) y) (by kernel_rfl) (by kernel_rfl) (H3.out.drew (stabC (couP_stable _ _) HL3.out)) (fun y hy => ⟨(Sts.boxCell hy.tail 6 _ rfl).1, (Sts.boxCell hy.tail 9 _ rfl).1⟩) ?_
          iterate 9
            (apply ordq_pure (ho := rfl)
             · go_simp
             · intro x hx; obtain ⟨k0, k1⟩ := hx; go_simp; rfl
             apply ordq_norm
             · go_simp; rfl)
          refine ordq_eff2 ?_ ?_
          · apply ordq_eff (ho := rfl)
            · go_simp
            intro y hy
            refine eff_call (f := 54) (by go_simp) (HCN.out _ HL3.out y hy) ?_
            rintro e w4 ⟨rfl, h5⟩
            refine ⟨_, rfl, (fun y => y.cell? ⟨g, 6, none⟩ = some (.pointer (some ⟨c, 0, none⟩)) ∧ y.cell? ⟨g, 9, none⟩ = some (.int .i64 (n : Int))), (fun y => Sts W (couP c n :: blkP g (.cells (staC fi u0 u1 u2 ar tq c fq mp n next) 119 (0, 0)) :: blkP mp (cntO k) :: fopP fq us fl fl fnow tm :: dnP fi u0 ar tq (i0 + p) (Dn.arcAll rs A) n (Dn.tkAll rs ts) :: l) y), h5, (fun y hy => ⟨(Sts.boxCell hy.tail 6 _ rfl).1, (Sts.boxCell hy.tail 9 _ rfl).1⟩), (fun _ h => h), ?_⟩
            clear h5 hy y
            apply ordq_norm
            · go_simp; rfl
            iterate 3
              (apply ordq_pure (ho := rfl)
               · go_simp
               · intro x hx; go_simp; rfl
               apply ordq_norm
               · go_simp; rfl)
            apply ordq_eff (ho := rfl)
            · go_simp
            intro y hy
            refine eff_allocPdu (stabC (couP_stable _ _) HL3.out) hy rfl (fun z gp hz => ⟨(Sts.boxCell hz.tail.tail 6 _ rfl).1, (Sts.boxCell hz.tail.tail 9 _ rfl).1⟩) ?_
            intro gp
            apply ordq_norm
            · go_simp; rfl
            clear hy y
            apply ordq_eff (ho := rfl)
            · go_simp
            intro y hy
            refine eff_aggS hy (stabC (couP_stable _ _) HL3.out) (.tmp 12) (.tmp 133) 135 rfl pdu0 ?_ ?_ szPduS rfl rfl (fun y => y.cell? ⟨g, 6, none⟩ = some (.pointer (some ⟨c, 0, none⟩)) ∧ y.cell? ⟨g, 9, none⟩ = some (.int .i64 (n : Int))) (fun z hz => ⟨(Sts.boxCell hz.tail.tail 6 _ rfl).1, (Sts.boxCell hz.tail.tail 9 _ rfl).1⟩) ?_
            · go_simp
            · go_simp
            apply ordq_norm
            · go_simp; rfl
            clear hy y
            iterate 1
              (apply ordq_pure (ho := rfl)
               · go_simp
               · intro x hx; go_simp; rfl
               apply ordq_norm
               · go_simp; rfl)
            refine ordq_nil fun z hz => ?_
            exact key gp z hz
          · apply ordq_eff (ho := rfl)
            · go_simp
            intro y hy
            refine eff_allocPdu (stabC (couP_stable _ _) HL3.out) hy rfl (fun z gp hz => ⟨(Sts.boxCell hz.tail.tail 6 _ rfl).1, (Sts.boxCell hz.tail.tail 9 _ rfl).1⟩) ?_
            intro gp
            apply ordq_norm
            · go_simp; rfl
            clear hy y
            apply ordq_eff (ho := rfl)
            · go_simp
            intro y hy
            refine eff_call (f := 54) (by go_simp) (HCN.out _ (stabC (blkP_stable gp (.cells pdu0 135 (0, 0))) HL3.out) y hy.swap) ?_
            rintro e w4 ⟨rfl, h5⟩
            refine ⟨_, rfl, (fun y => y.cell? ⟨g, 6, none⟩ = some (.pointer (some ⟨c, 0, none⟩)) ∧ y.cell? ⟨g, 9, none⟩ = some (.int .i64 (n : Int))), (fun y => Sts W (couP c n :: blkP gp (.cells pdu0 135 (0, 0)) :: blkP g (.cells (staC fi u0 u1 u2 ar tq c fq mp n next) 119 (0, 0)) :: blkP mp (cntO k) :: fopP fq us fl fl fnow tm :: dnP fi u0 ar tq (i0 + p) (Dn.arcAll rs A) n (Dn.tkAll rs ts) :: l) y), h5, (fun y hy => ⟨(Sts.boxCell hy.tail.tail 6 _ rfl).1, (Sts.boxCell hy.tail.tail 9 _ rfl).1⟩), (fun _ h => h), ?_⟩
            clear h5 hy y
            apply ordq_norm
            · go_simp; rfl
            iterate 3
              (apply ordq_pure (ho := rfl)
               · go_simp
               · intro x hx; go_simp; rfl
               apply ordq_norm
               · go_simp; rfl)
            apply ordq_eff (ho := rfl)
            · go_simp
            intro y hy
            refine eff_aggS hy.swap (stabC (couP_stable _ _) HL3.out) (.tmp 12) (.tmp 133) 135 rfl pdu0 ?_ ?_ szPduS rfl rfl (fun y => y.cell? ⟨g, 6, none⟩ = some (.pointer (some ⟨c, 0, none⟩)) ∧ y.cell? ⟨g, 9, none⟩ = some (.int .i64 (n : Int))) (fun z hz => ⟨(Sts.boxCell hz.tail.tail 6 _ rfl).1, (Sts.boxCell hz.tail.tail 9 _ rfl).1⟩) ?_
            · go_simp
            · go_simp
            apply ordq_norm
            · go_simp; rfl
            clear hy y
            iterate 1
              (apply ordq_pure (ho := rfl)
               · go_simp
               · intro x hx; go_simp; rfl
               apply ordq_norm
               · go_simp; rfl)
            refine ordq_nil fun z hz => ?_
            exact key gp z hz
        · intro gp z hz
          have HZ := hid (show Sts W (blkP g (.cells (staC fi u0 u1 u2 ar tq c fq mp n next) 119 (0, 0)) :: blkP mp (cntO k) :: fopP fq us fl fl fnow tm :: dnP fi u0 ar tq (i0 + p) (Dn.arcAll rs A) n (Dn.tkAll rs ts) :: couP c n :: l) z from hz.tail.perm (List.perm_append_comm (l₁ := [_]) (l₂ := [_, _, _, _]) |>.append_right l))
          clear hz H3 HQU HST HFOP H c10
          go_wp2_with fail
          go_loopw [16, 148] (fun o i wr => ∃ j fn' tm' ovs, j ≤ 4 ∧ i = .int .i64 ((j : Nat) : Int) ∧ fl + j ≤ us.length ∧ fn' ≤ n ∧ tm' ≤ n ∧ Sts W (fopP fq us (fl + j) (fl + j) fn' tm' :: blkP g (.cells (staC fi u0 u1 u2 ar tq c fq mp n next) 119 (0, 0)) :: blkP mp (cntO k) :: dnP fi u0 ar tq (i0 + p) (Dn.arcAll rs A) n (Dn.tkAll rs ts) :: couP c n :: rowP 35 1 o j ovs :: rowsP 5 ovs (frs us fl j) :: l) wr) (fun _ i _ => 4 - (intOf i).toNat)
          case atStart =>
            refine ⟨0, fnow, tm, [], by decide, rfl, HFL.out, by have := HN.out; have := HFT.out; omega, by have := HN.out; have := HTM.out; omega, ?_⟩
            have h1 := ((Sts.rowNil 35 (Sts.withEmp HZ.out)).perm (List.perm_append_comm (l₁ := [_, _]) (l₂ := [_, _, _, _, _]) |>.append_right l))
            exact h1.perm (List.Perm.trans ((List.Perm.swap _ _ _).trans (List.Perm.refl _) |>.cons _ |> fun h => h) (List.Perm.swap _ _ _))
          case round =>
            obtain ⟨j, fn', tm', ovs, hj, rfl, hfj, hfn, htm', hs⟩ := hrel
            obtain ⟨oa, oc, hoe⟩ := own_slice (hs.perm (List.perm_middle (l₁ := [_, _, _, _, _]))).rowOwn
            subst hoe
            have hovs : ovs.length = j := by obtain ⟨F, hF⟩ := (hs.tail.tail.tail.tail.tail.tail).head; have := rowsP_len hF; simpa [frs] using this
            by_cases h4 : j < 4
            · have hjb : (j : Int) < 4 := by omega
              by_cases hlt : fl + j < us.length
              · have hjn : ((fl + j : Nat) : Int) = (fl : Int) + (j : Int) := by omega
                obtain ⟨u, hu0⟩ : ∃ u, u = us[fl + j] := ⟨_, rfl⟩
                have hul := HU.out us[fl + j] (List.getElem_mem hlt)
                have hub := HUB.out us[fl + j] (List.getElem_mem hlt)
                rw [← hu0] at hul hub
                have hug : us.getD (fl + j) [] = u := by rw [List.getD_eq_getElem?_getD, List.getElem?_eq_getElem hlt, hu0]; rfl
                have HNX := hid (show ∀ (l' : List HProp) (_ : ∀ B ∈ l', Stable B) (y : World) (_ : Sts W (fopP fq us (fl + j) (fl + j) fn' tm' :: l') y), Calls Tryz.prog 56 #[.pointer (some ⟨fq, 0, none⟩), .int .i64 (n : Int)] y fun e w' => ∃ ra rc, e = .returned (.tuple #[.agg (tcV false false 5 0 (fl + j) (.slice ra u.length rc)), .bool true]) ∧ Sts W (fopP fq us (fl + j + 1) (fl + j + 1) n n :: rowP 5 1 (.slice ra u.length rc) u.length (u8s u) :: l') w' from by
                  intro l' hl' y hy
                  have h := cFopNextSend hl' fq us (fl + j) fn' tm' hy n hfn (by have h1 := HT.out; have h2 := HN.out; omega) hlt HUS.out HU.out
                  rw [← hu0] at h
                  exact h)
                have HUL := hid hul
                have HUBB := hid hub
                have HUG := hid hug
                have HJ := hid h4
                have HOV := hid hovs
                have HS0 := hid hs
                have hj4 : decide ((j : Int) < 4) = true := decide_eq_true (by omega)
                have HFN := hid hfn
                have HLT := hid hlt
                clear hul hub hug hu0 hs hfn htm' hovs hjn hfj hlt h4
                go_wp2_with fail
                apply share4 (fun gp ra rc z => Sts W (blkP gp (.cells (tcV false false 5 0 (fl + j) (.slice ra u.length rc)) 46 (0, 0)) :: fopP fq us (fl + j + 1) (fl + j + 1) n n :: rowP 5 1 (.slice ra u.length rc) u.length (u8s u) :: blkP g (.cells (staC fi u0 u1 u2 ar tq c fq mp n next) 119 (0, 0)) :: blkP mp (cntO k) :: dnP fi u0 ar tq (i0 + p) (Dn.arcAll rs A) n (Dn.tkAll rs ts) :: couP c n :: rowP 35 1 (.slice oa j oc) j ovs :: rowsP 5 ovs (frs us fl j) :: l) z)
                · intro key
                  refine wp_region_ordQ (.pure 0 (.pure 1 (.pure 2 (.pure 3 (.pure 4 (.pure 5 (.pure 6 (.pure 7 (.eff2 8 12 (.pure 9 (.pure 10 (.pure 11 (.eff 12 (.eff 13 (.pure 14 .nil)))))) (.eff 8 (.pure 9 (.pure 10 (.pure 11 (.eff 13 (.pure 14 .nil))))))))))))))) (fun y => y.cell? ⟨g, 10, none⟩ = some (.pointer (some ⟨fq, 0, none⟩)) ∧ y.cell? ⟨g, 9, none⟩ = some (.int .i64 (n : Int))) (fun y => Sts W (fopP fq us (fl + j) (fl + j) fn' tm' :: blkP g (.cells (staC fi u0 u1 u2 ar tq c fq mp n next) 119 (0, 0)) :: blkP mp (cntO k) :: dnP fi u0 ar tq (i0 + p) (Dn.arcAll rs A) n (Dn.tkAll rs ts) :: couP c n :: rowP 35 1 (.slice oa j oc) j ovs :: rowsP 5 ovs (frs us fl j) :: l) y) (by kernel_rfl) (by kernel_rfl) (HS0.out.drew (stabC (fopP_stable _ _ _ _ _ _) (stabC (blkP_stable _ _) (stabC (blkP_stable _ _) (stabC (dnP_stable _ _ _ _ _ _ _ _) (stabC (couP_stable _ _) (stabC (rowP_stable _ _ _ _ _) (stabC (rowsP_stable _ _ _) HL.out)))))))) (fun y hy => ⟨(Sts.boxCell hy.tail 10 _ rfl).1, (Sts.boxCell hy.tail 9 _ rfl).1⟩) ?_
                  iterate 8
                    (apply ordq_pure (ho := rfl)
                     · go_simp
                     · intro x hx; obtain ⟨k0, k1⟩ := hx; go_simp; rfl
                     apply ordq_norm
                     · go_simp; rfl)
                  refine ordq_eff2 ?_ ?_
                  · apply ordq_eff (ho := rfl)
                    · go_simp
                    intro y hy
                    refine eff_call (f := 56) (by go_simp) (HNX.out _ (stabC (blkP_stable _ _) (stabC (blkP_stable _ _) (stabC (dnP_stable _ _ _ _ _ _ _ _) (stabC (couP_stable _ _) (stabC (rowP_stable _ _ _ _ _) (stabC (rowsP_stable _ _ _) HL.out)))))) y hy) ?_
                    rintro e w4 ⟨ra, rc, rfl, h5⟩
                    refine ⟨_, rfl, (fun y => y.cell? ⟨g, 10, none⟩ = some (.pointer (some ⟨fq, 0, none⟩)) ∧ y.cell? ⟨g, 9, none⟩ = some (.int .i64 (n : Int))), (fun y => Sts W (fopP fq us (fl + j + 1) (fl + j + 1) n n :: rowP 5 1 (.slice ra u.length rc) u.length (u8s u) :: blkP g (.cells (staC fi u0 u1 u2 ar tq c fq mp n next) 119 (0, 0)) :: blkP mp (cntO k) :: dnP fi u0 ar tq (i0 + p) (Dn.arcAll rs A) n (Dn.tkAll rs ts) :: couP c n :: rowP 35 1 (.slice oa j oc) j ovs :: rowsP 5 ovs (frs us fl j) :: l) y), h5, (fun y hy => ⟨(Sts.boxCell hy.tail.tail 10 _ rfl).1, (Sts.boxCell hy.tail.tail 9 _ rfl).1⟩), (fun _ h => h), ?_⟩
                    clear h5 hy y
                    apply ordq_norm
                    · go_simp; rfl
                    iterate 3
                      (apply ordq_pure (ho := rfl)
                       · go_simp
                       · intro x hx; go_simp; rfl
                       apply ordq_norm
                       · go_simp; rfl)
                    apply ordq_eff (ho := rfl)
                    · go_simp
                    intro y hy
                    refine eff_allocTc (stabC (fopP_stable _ _ _ _ _ _) (stabC (rowP_stable _ _ _ _ _) (stabC (blkP_stable _ _) (stabC (blkP_stable _ _) (stabC (dnP_stable _ _ _ _ _ _ _ _) (stabC (couP_stable _ _) (stabC (rowP_stable _ _ _ _ _) (stabC (rowsP_stable _ _ _) HL.out)))))))) hy rfl (fun z gp hz => ⟨(Sts.boxCell hz.tail.tail.tail 10 _ rfl).1, (Sts.boxCell hz.tail.tail.tail 9 _ rfl).1⟩) ?_
                    intro gp
                    apply ordq_norm
                    · go_simp; rfl
                    clear hy y
                    apply ordq_eff (ho := rfl)
                    · go_simp
                    intro y hy
                    refine eff_aggS hy (stabC (fopP_stable _ _ _ _ _ _) (stabC (rowP_stable _ _ _ _ _) (stabC (blkP_stable _ _) (stabC (blkP_stable _ _) (stabC (dnP_stable _ _ _ _ _ _ _ _) (stabC (couP_stable _ _) (stabC (rowP_stable _ _ _ _ _) (stabC (rowsP_stable _ _ _) HL.out)))))))) (.tmp 17) (.tmp 160) 46 rfl (tcV false false 5 0 (fl + j) (.slice ra u.length rc)) ?_ ?_ szTc rfl rfl (fun y => y.cell? ⟨g, 10, none⟩ = some (.pointer (some ⟨fq, 0, none⟩)) ∧ y.cell? ⟨g, 9, none⟩ = some (.int .i64 (n : Int))) (fun z hz => ⟨(Sts.boxCell hz.tail.tail.tail 10 _ rfl).1, (Sts.boxCell hz.tail.tail.tail 9 _ rfl).1⟩) ?_
                    · go_simp
                    · go_simp
                    apply ordq_norm
                    · go_simp; rfl
                    clear hy y
                    iterate 1
                      (apply ordq_pure (ho := rfl)
                       · go_simp
                       · intro x hx; go_simp; rfl
                       apply ordq_norm
                       · go_simp; rfl)
                    refine ordq_nil fun z hz => ?_
                    exact key gp ra rc z hz
                  · apply ordq_eff (ho := rfl)
                    · go_simp
                    intro y hy
                    refine eff_allocTc (stabC (fopP_stable _ _ _ _ _ _) (stabC (blkP_stable _ _) (stabC (blkP_stable _ _) (stabC (dnP_stable _ _ _ _ _ _ _ _) (stabC (couP_stable _ _) (stabC (rowP_stable _ _ _ _ _) (stabC (rowsP_stable _ _ _) HL.out))))))) hy rfl (fun z gp hz => ⟨(Sts.boxCell hz.tail.tail 10 _ rfl).1, (Sts.boxCell hz.tail.tail 9 _ rfl).1⟩) ?_
                    intro gp
                    apply ordq_norm
                    · go_simp; rfl
                    clear hy y
                    apply ordq_eff (ho := rfl)
                    · go_simp
                    intro y hy
                    refine eff_call (f := 56) (by go_simp) (HNX.out _ (stabC (blkP_stable gp (.cells zeroTc 46 (0, 0))) (stabC (blkP_stable _ _) (stabC (blkP_stable _ _) (stabC (dnP_stable _ _ _ _ _ _ _ _) (stabC (couP_stable _ _) (stabC (rowP_stable _ _ _ _ _) (stabC (rowsP_stable _ _ _) HL.out))))))) y hy.swap) ?_
                    rintro e w4 ⟨ra, rc, rfl, h5⟩
                    refine ⟨_, rfl, (fun y => y.cell? ⟨g, 10, none⟩ = some (.pointer (some ⟨fq, 0, none⟩)) ∧ y.cell? ⟨g, 9, none⟩ = some (.int .i64 (n : Int))), (fun y => Sts W (fopP fq us (fl + j + 1) (fl + j + 1) n n :: rowP 5 1 (.slice ra u.length rc) u.length (u8s u) :: blkP gp (.cells zeroTc 46 (0, 0)) :: blkP g (.cells (staC fi u0 u1 u2 ar tq c fq mp n next) 119 (0, 0)) :: blkP mp (cntO k) :: dnP fi u0 ar tq (i0 + p) (Dn.arcAll rs A) n (Dn.tkAll rs ts) :: couP c n :: rowP 35 1 (.slice oa j oc) j ovs :: rowsP 5 ovs (frs us fl j) :: l) y), h5, (fun y hy => ⟨(Sts.boxCell hy.tail.tail.tail 10 _ rfl).1, (Sts.boxCell hy.tail.tail.tail 9 _ rfl).1⟩), (fun _ h => h), ?_⟩
                    clear h5 hy y
                    apply ordq_norm
                    · go_simp; rfl
                    iterate 3
                      (apply ordq_pure (ho := rfl)
                       · go_simp
                       · intro x hx; go_simp; rfl
                       apply ordq_norm
                       · go_simp; rfl)
                    apply ordq_eff (ho := rfl)
                    · go_simp
                    intro y hy
                    refine eff_aggS hy.third (stabC (fopP_stable _ _ _ _ _ _) (stabC (rowP_stable _ _ _ _ _) (stabC (blkP_stable _ _) (stabC (blkP_stable _ _) (stabC (dnP_stable _ _ _ _ _ _ _ _) (stabC (couP_stable _ _) (stabC (rowP_stable _ _ _ _ _) (stabC (rowsP_stable _ _ _) HL.out)))))))) (.tmp 17) (.tmp 160) 46 rfl (tcV false false 5 0 (fl + j) (.slice ra u.length rc)) ?_ ?_ szTc rfl rfl (fun y => y.cell? ⟨g, 10, none⟩ = some (.pointer (some ⟨fq, 0, none⟩)) ∧ y.cell? ⟨g, 9, none⟩ = some (.int .i64 (n : Int))) (fun z hz => ⟨(Sts.boxCell hz.tail.tail.tail 10 _ rfl).1, (Sts.boxCell hz.tail.tail.tail 9 _ rfl).1⟩) ?_
                    · go_simp
                    · go_simp
                    apply ordq_norm
                    · go_simp; rfl
                    clear hy y
                    iterate 1
                      (apply ordq_pure (ho := rfl)
                       · go_simp
                       · intro x hx; go_simp; rfl
                       apply ordq_norm
                       · go_simp; rfl)
                    refine ordq_nil fun z hz => ?_
                    exact key gp ra rc z hz
                · intro gp ra rc z hz
                  have HZ2 := hid hz
                  clear hz HS0
                  have HEN := hid (cTcEncode false false 5 0 (fl + j) ra rc u z (by decide) (by decide) (by have h1 := HLT.out; have h2 := HUS.out; omega) HUL.out.1 HUL.out.2 (Or.inr rfl) ⟨Sts.rdRow HZ2.out.tail.tail (u8s_len u), HUBB.out⟩ (NilOk.own HZ2.out.tail.tail.rowOwn))
                  obtain ⟨P, hP⟩ : ∃ P, P = tcB false false 5 0 (fl + j) u := ⟨_, rfl⟩
                  rw [← hP] at HEN
                  have HP := hid hP
                  clear hP
                  go_wp2_with (first
                    | (refine wpList_ldS rfl (.tmp 17) 46 rfl rfl (.agg (tcV false false 5 0 (fl + j) (.slice ra u.length rc))) (ldTc rfl HZ2.out) ?_)
                    | (go_at_call 57; refine HEN.out.mono ?_; rintro e w7 ⟨r, rfl, hN⟩
                       have h7 := Sts.new (stabC (blkP_stable _ _) (stabC (fopP_stable _ _ _ _ _ _) (stabC (rowP_stable _ _ _ _ _) (stabC (blkP_stable _ _) (stabC (blkP_stable _ _) (stabC (dnP_stable _ _ _ _ _ _ _ _) (stabC (couP_stable _ _) (stabC (rowP_stable _ _ _ _ _) (stabC (rowsP_stable _ _ _) HL.out))))))))) HZ2.out hN
                       rw [u8s_len] at h7
                       obtain ⟨pa, pc, rfl⟩ := own_slice h7.rowOwn
                       have h8 := Sts.alloc (stabC (rowP_stable _ _ _ _ _) (stabC (blkP_stable _ _) (stabC (fopP_stable _ _ _ _ _ _) (stabC (rowP_stable _ _ _ _ _) (stabC (blkP_stable _ _) (stabC (blkP_stable _ _) (stabC (dnP_stable _ _ _ _ _ _ _ _) (stabC (couP_stable _ _) (stabC (rowP_stable _ _ _ _ _) (stabC (rowsP_stable _ _ _) HL.out)))))))))) h7 (.cells #[.slice pa P.length pc] 35)
                       have hc := (Sts.boxCell h8 0 _ rfl).1
                       have HC := hid hc
                       have H8 := hid ((h8).perm (List.perm_middle (l₁ := [_, _, _, _, _, _, _, _, _])))
                       clear h7 h8 hN hc)
                    | (at_builtin; refine wpList_app1 HOV.out 43 35 (.slice none 0 0) 24 Tryz.underlying43 infoS8 rfl (by decide) rfl (.tmp 171) (.tmp 173) rfl H8.out (stabC (blkP_stable _ _) (stabC (rowP_stable _ _ _ _ _) (stabC (blkP_stable _ _) (stabC (fopP_stable _ _ _ _ _ _) (stabC (rowP_stable _ _ _ _ _) (stabC (blkP_stable _ _) (stabC (blkP_stable _ _) (stabC (dnP_stable _ _ _ _ _ _ _ _) (stabC (couP_stable _ _) (stabC (rowsP_stable _ _ _) HL.out)))))))))) w7.heap.size (.slice pa P.length pc) rfl rfl HC.out rfl (by have := HJ.out; omega) ?_; intro v1 w8 h9
                       have h10 := (((((((Sts.sub h9 (.cons_cons _ (.cons _ (.cons_cons _ (.cons _ (.cons_cons _ (.cons _ (.cons_cons _ (.cons_cons _ (.cons_cons _ (.cons_cons _ (.cons_cons _ (List.Sublist.refl _))))))))))))).perm (List.perm_middle (l₁ := [_, _, _, _, _, _]))).perm (List.perm_middle (l₁ := [_, _, _, _, _, _]))).perm (List.perm_middle (l₁ := [_, _, _, _, _, _]))).perm (List.perm_middle (l₁ := [_, _, _, _, _, _]))).perm (List.perm_middle (l₁ := [_, _, _, _, _, _]))).perm (List.perm_middle (l₁ := [_, _, _, _, _, _, _]))).perm (List.perm_middle (l₁ := [_, _, _, _, _, _, _]))
                       have h11 : Sts W (rowsP 5 (ovs ++ [.slice pa P.length pc]) (frs us fl j ++ [P]) :: fopP fq us (fl + j + 1) (fl + j + 1) n n :: blkP g (.cells (staC fi u0 u1 u2 ar tq c fq mp n next) 119 (0, 0)) :: blkP mp (cntO k) :: dnP fi u0 ar tq (i0 + p) (Dn.arcAll rs A) n (Dn.tkAll rs ts) :: couP c n :: rowP 35 1 v1 (j + 1) (ovs ++ [.slice pa P.length pc]) :: l) w8 := Sts.join h10 (fun F hF => rowsP_snoc hF)
                       have H11 := hid (((((((h11).perm (List.perm_middle (l₁ := [_, _, _, _, _, _]))).perm (List.perm_middle (l₁ := [_, _, _, _, _, _]))).perm (List.perm_middle (l₁ := [_, _, _, _, _, _]))).perm (List.perm_middle (l₁ := [_, _, _, _, _, _]))).perm (List.perm_middle (l₁ := [_, _, _, _, _, _]))).perm (List.perm_middle (l₁ := [_, _, _, _, _, _])))
                       clear h9 h10 h11))
                  go_roundw
                  case rel =>
                    refine ⟨j + 1, n, n, ovs ++ [.slice pa P.length pc], by have := HJ.out; omega, by first | rfl | go_num, by have := HLT.out; omega, Nat.le_refl _, Nat.le_refl _, ?_⟩
                    rw [frs_succ, HUG.out, ← HP.out]
                    exact H11.out
                  case measure => simp [intOf]; have := HJ.out; omega
              · have HNX := hid (show ∀ (l' : List HProp) (_ : ∀ B ∈ l', Stable B) (y : World) (_ : Sts W (fopP fq us (fl + j) (fl + j) fn' tm' :: l') y), Calls Tryz.prog 56 #[.pointer (some ⟨fq, 0, none⟩), .int .i64 (n : Int)] y fun e w' => e = .returned (.tuple #[.agg zeroTc, .bool false]) ∧ Sts W (fopP fq us (fl + j) (fl + j) n tm' :: l') w' from by
                  intro l' hl' y hy
                  have h1 := HT.out
                  have h2 := HN.out
                  have h3 := HUS.out
                  by_cases h0 : us.length = 0
                  · exact cFopNextNo hl' fq us (fl + j) fn' tm' hy n hfn (by omega) h0
                  · exact cFopNextWait hl' fq us (fl + j) fn' tm' hy n hfn (by omega) (by omega) h3 (by omega) (by omega) (by omega))
                have HJE := hid (show j = min 4 (us.length - fl) by omega)
                have HTM1 := hid htm'
                have HS0 := hid hs
                have hj4 : decide ((j : Int) < 4) = true := decide_eq_true (by omega)
                clear hs hfn htm' hovs hfj hlt h4
                go_wp2_with fail
                apply share1 (fun gp z => Sts W (blkP gp (.cells zeroTc 46 (0, 0)) :: fopP fq us (fl + j) (fl + j) n tm' :: blkP g (.cells (staC fi u0 u1 u2 ar tq c fq mp n next) 119 (0, 0)) :: blkP mp (cntO k) :: dnP fi u0 ar tq (i0 + p) (Dn.arcAll rs A) n (Dn.tkAll rs ts) :: couP c n :: rowP 35 1 (.slice oa j oc) j ovs :: rowsP 5 ovs (frs us fl j) :: l) z)
                · intro key
                  refine wp_region_ordQ (.pure 0 (.pure 1 (.pure 2 (.pure 3 (.pure 4 (.pure 5 (.pure 6 (.pure 7 (.eff2 8 12 (.pure 9 (.pure 10 (.pure 11 (.eff 12 (.eff 13 (.pure 14 .nil)))))) (.eff 8 (.pure 9 (.pure 10 (.pure 11 (.eff 13 (.pure 14 .nil))))))))))))))) (fun y => y.cell? ⟨g, 10, none⟩ = some (.pointer (some ⟨fq, 0, none⟩)) ∧ y.cell? ⟨g, 9, none⟩ = some (.int .i64 (n : Int))) (fun y => Sts W (fopP fq us (fl + j) (fl + j) fn' tm' :: blkP g (.cells (staC fi u0 u1 u2 ar tq c fq mp n next) 119 (0, 0)) :: blkP mp (cntO k) :: dnP fi u0 ar tq (i0 + p) (Dn.arcAll rs A) n (Dn.tkAll rs ts) :: couP c n :: rowP 35 1 (.slice oa j oc) j ovs :: rowsP 5 ovs (frs us fl j) :: l) y) (by kernel_rfl) (by kernel_rfl) (HS0.out.drew (stabC (fopP_stable _ _ _ _ _ _) (stabC (blkP_stable _ _) (stabC (blkP_stable _ _) (stabC (dnP_stable _ _ _ _ _ _ _ _) (stabC (couP_stable _ _) (stabC (rowP_stable _ _ _ _ _) (stabC (rowsP_stable _ _ _) HL.out)))))))) (fun y hy => ⟨(Sts.boxCell hy.tail 10 _ rfl).1, (Sts.boxCell hy.tail 9 _ rfl).1⟩) ?_
                  iterate 8
                    (apply ordq_pure (ho := rfl)
                     · go_simp
                     · intro x hx; obtain ⟨k0, k1⟩ := hx; go_simp; rfl
                     apply ordq_norm
                     · go_simp; rfl)
                  refine ordq_eff2 ?_ ?_
                  · apply ordq_eff (ho := rfl)
                    · go_simp
                    intro y hy
                    refine eff_call (f := 56) (by go_simp) (HNX.out _ (stabC (blkP_stable _ _) (stabC (blkP_stable _ _) (stabC (dnP_stable _ _ _ _ _ _ _ _) (stabC (couP_stable _ _) (stabC (rowP_stable _ _ _ _ _) (stabC (rowsP_stable _ _ _) HL.out)))))) y hy) ?_
                    rintro e w4 ⟨rfl, h5⟩
                    refine ⟨_, rfl, (fun y => y.cell? ⟨g, 10, none⟩ = some (.pointer (some ⟨fq, 0, none⟩)) ∧ y.cell? ⟨g, 9, none⟩ = some (.int .i64 (n : Int))), (fun y => Sts W (fopP fq us (fl + j) (fl + j) n tm' :: blkP g (.cells (staC fi u0 u1 u2 ar tq c fq mp n next) 119 (0, 0)) :: blkP mp (cntO k) :: dnP fi u0 ar tq (i0 + p) (Dn.arcAll rs A) n (Dn.tkAll rs ts) :: couP c n :: rowP 35 1 (.slice oa j oc) j ovs :: rowsP 5 ovs (frs us fl j) :: l) y), h5, (fun y hy => ⟨(Sts.boxCell hy.tail 10 _ rfl).1, (Sts.boxCell hy.tail 9 _ rfl).1⟩), (fun _ h => h), ?_⟩
                    clear h5 hy y
                    apply ordq_norm
                    · go_simp; rfl
                    iterate 3
                      (apply ordq_pure (ho := rfl)
                       · go_simp
                       · intro x hx; go_simp; rfl
                       apply ordq_norm
                       · go_simp; rfl)
                    apply ordq_eff (ho := rfl)
                    · go_simp
                    intro y hy
                    refine eff_allocTc (stabC (fopP_stable _ _ _ _ _ _) (stabC (blkP_stable _ _) (stabC (blkP_stable _ _) (stabC (dnP_stable _ _ _ _ _ _ _ _) (stabC (couP_stable _ _) (stabC (rowP_stable _ _ _ _ _) (stabC (rowsP_stable _ _ _) HL.out))))))) hy rfl (fun z gp hz => ⟨(Sts.boxCell hz.tail.tail 10 _ rfl).1, (Sts.boxCell hz.tail.tail 9 _ rfl).1⟩) ?_
                    intro gp
                    apply ordq_norm
                    · go_simp; rfl
                    clear hy y
                    apply ordq_eff (ho := rfl)
                    · go_simp
                    intro y hy
                    refine eff_aggS hy (stabC (fopP_stable _ _ _ _ _ _) (stabC (blkP_stable _ _) (stabC (blkP_stable _ _) (stabC (dnP_stable _ _ _ _ _ _ _ _) (stabC (couP_stable _ _) (stabC (rowP_stable _ _ _ _ _) (stabC (rowsP_stable _ _ _) HL.out))))))) (.tmp 17) (.tmp 160) 46 rfl zeroTc ?_ ?_ szTc rfl rfl (fun y => y.cell? ⟨g, 10, none⟩ = some (.pointer (some ⟨fq, 0, none⟩)) ∧ y.cell? ⟨g, 9, none⟩ = some (.int .i64 (n : Int))) (fun z hz => ⟨(Sts.boxCell hz.tail.tail 10 _ rfl).1, (Sts.boxCell hz.tail.tail 9 _ rfl).1⟩) ?_
                    · go_simp
                    · go_simp
                    apply ordq_norm
                    · go_simp; rfl
                    clear hy y
                    iterate 1
                      (apply ordq_pure (ho := rfl)
                       · go_simp
                       · intro x hx; go_simp; rfl
                       apply ordq_norm
                       · go_simp; rfl)
                    refine ordq_nil fun z hz => ?_
                    exact key gp z hz
                  · apply ordq_eff (ho := rfl)
                    · go_simp
                    intro y hy
                    refine eff_allocTc (stabC (fopP_stable _ _ _ _ _ _) (stabC (blkP_stable _ _) (stabC (blkP_stable _ _) (stabC (dnP_stable _ _ _ _ _ _ _ _) (stabC (couP_stable _ _) (stabC (rowP_stable _ _ _ _ _) (stabC (rowsP_stable _ _ _) HL.out))))))) hy rfl (fun z gp hz => ⟨(Sts.boxCell hz.tail.tail 10 _ rfl).1, (Sts.boxCell hz.tail.tail 9 _ rfl).1⟩) ?_
                    intro gp
                    apply ordq_norm
                    · go_simp; rfl
                    clear hy y
                    apply ordq_eff (ho := rfl)
                    · go_simp
                    intro y hy
                    refine eff_call (f := 56) (by go_simp) (HNX.out _ (stabC (blkP_stable gp (.cells zeroTc 46 (0, 0))) (stabC (blkP_stable _ _) (stabC (blkP_stable _ _) (stabC (dnP_stable _ _ _ _ _ _ _ _) (stabC (couP_stable _ _) (stabC (rowP_stable _ _ _ _ _) (stabC (rowsP_stable _ _ _) HL.out))))))) y hy.swap) ?_
                    rintro e w4 ⟨rfl, h5⟩
                    refine ⟨_, rfl, (fun y => y.cell? ⟨g, 10, none⟩ = some (.pointer (some ⟨fq, 0, none⟩)) ∧ y.cell? ⟨g, 9, none⟩ = some (.int .i64 (n : Int))), (fun y => Sts W (fopP fq us (fl + j) (fl + j) n tm' :: blkP gp (.cells zeroTc 46 (0, 0)) :: blkP g (.cells (staC fi u0 u1 u2 ar tq c fq mp n next) 119 (0, 0)) :: blkP mp (cntO k) :: dnP fi u0 ar tq (i0 + p) (Dn.arcAll rs A) n (Dn.tkAll rs ts) :: couP c n :: rowP 35 1 (.slice oa j oc) j ovs :: rowsP 5 ovs (frs us fl j) :: l) y), h5, (fun y hy => ⟨(Sts.boxCell hy.tail.tail 10 _ rfl).1, (Sts.boxCell hy.tail.tail 9 _ rfl).1⟩), (fun _ h => h), ?_⟩
                    clear h5 hy y
                    apply ordq_norm
                    · go_simp; rfl
                    iterate 3
                      (apply ordq_pure (ho := rfl)
                       · go_simp
                       · intro x hx; go_simp; rfl
                       apply ordq_norm
                       · go_simp; rfl)
                    apply ordq_eff (ho := rfl)
                    · go_simp
                    intro y hy
                    refine eff_aggS hy.swap (stabC (fopP_stable _ _ _ _ _ _) (stabC (blkP_stable _ _) (stabC (blkP_stable _ _) (stabC (dnP_stable _ _ _ _ _ _ _ _) (stabC (couP_stable _ _) (stabC (rowP_stable _ _ _ _ _) (stabC (rowsP_stable _ _ _) HL.out))))))) (.tmp 17) (.tmp 160) 46 rfl zeroTc ?_ ?_ szTc rfl rfl (fun y => y.cell? ⟨g, 10, none⟩ = some (.pointer (some ⟨fq, 0, none⟩)) ∧ y.cell? ⟨g, 9, none⟩ = some (.int .i64 (n : Int))) (fun z hz => ⟨(Sts.boxCell hz.tail.tail 10 _ rfl).1, (Sts.boxCell hz.tail.tail 9 _ rfl).1⟩) ?_
                    · go_simp
                    · go_simp
                    apply ordq_norm
                    · go_simp; rfl
                    clear hy y
                    iterate 1
                      (apply ordq_pure (ho := rfl)
                       · go_simp
                       · intro x hx; go_simp; rfl
                       apply ordq_norm
                       · go_simp; rfl)
                    refine ordq_nil fun z hz => ?_
                    exact key gp z hz
                · intro gp z hz
                  have HZ2 := hid hz.tail
                  clear hz HS0
                  go_wp2_with fail
                  go_ret
                  exact ⟨_, ovs, j, n, tm', rfl, HJE.out, Nat.le_of_eq HN.out, HN.out ▸ HTM1.out, HN.out ▸ HZ2.out⟩
            · obtain rfl : j = 4 := by omega
              have HJE := hid (show 4 = min 4 (us.length - fl) by omega)
              have HFN := hid hfn
              have HTM1 := hid htm'
              have HS0 := hid hs
              clear hs hfn htm' hovs hfj h4
              go_wp2_with fail
              go_ret
              exact ⟨_, ovs, 4, fn', tm', rfl, HJE.out, HN.out ▸ HFN.out, HN.out ▸ HTM1.out, HN.out ▸ HS0.out⟩
end
end Go.Proofs.YtnklmadmenkdoaaGreat
