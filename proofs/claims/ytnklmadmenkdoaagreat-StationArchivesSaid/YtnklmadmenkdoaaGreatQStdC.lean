/- The receiving end takes a frame. -/
import Derived.Test.YtnklmadmenkdoaaGreatQStdB
set_option linter.unusedVariables false
set_option linter.unusedSimpArgs false
namespace Go.Proofs.YtnklmadmenkdoaaGreat
open Go.RowKit Go.Proofs.Num
/-- The archive and the tracker behind the receiving end. -/
def rcvP (ar tq : Nat) (A : Arc.Arch) (n : Nat) (ts : List (Int × Int)) : HProp := star (arcP ar A) (tkP tq n ts)
theorem rcvP_stable (ar tq : Nat) (A : Arc.Arch) (n : Nat) (ts : List (Int × Int)) : Stable (rcvP ar tq A n ts) := star_stable (arcP_stable _ _) (tkP_stable _ _ _)
section
variable {W w : World} {l : List HProp}
theorem cRcvPacket (hl : ∀ B ∈ l, Stable B) (g fi u0 u1 u2 ar tq cq fq mp now next : Nat) (A : Arc.Arch) (NA : Nat) (hA : Arc.ok NA A) (hNA : NA ≤ 900) (ts : List (Int × Int)) (hts : ts.length < 1000) (n0 : Nat) (hn0 : n0 ≤ now) (hnow : now ≤ 1000000)
    (r : Dn.Rep) (hr : r.ok) (rb ro rc N : Nat) (hN : N = 6 + r.d.length) (hR : RdsB W l (.slice (some ⟨rb, ro, none⟩) N rc) r.pay) (hs : Sts W (blkP g (.cells (staC fi u0 u1 u2 ar tq cq fq mp now next) 119 (0, 0)) :: rcvP ar tq A n0 ts :: l) w) :
    Calls Tryz.prog 137 #[.pointer (some ⟨g, 0, none⟩), .agg (pkV false true r.a 3 r.c (.slice (some ⟨rb, ro, none⟩) N rc)), .int .i64 (now : Int)] w fun e w' => e = .returned (.tuple #[]) ∧ Sts W (blkP g (.cells (staC fi u0 u1 u2 ar tq cq fq mp now next) 119 (0, 0)) :: rcvP ar tq (r.arc A) now (r.tk ts) :: l) w' := by
  have h1 := (Sts.split hs.swap).third
  have key : ∀ (w' : World) (A' : Arc.Arch) (ts' : List (Int × Int)), Sts W (blkP g (.cells (staC fi u0 u1 u2 ar tq cq fq mp now next) 119 (0, 0)) :: arcP ar A' :: tkP tq now ts' :: l) w' → Sts W (blkP g (.cells (staC fi u0 u1 u2 ar tq cq fq mp now next) 119 (0, 0)) :: rcvP ar tq A' now ts' :: l) w' := fun w' A' ts' h9 => (Sts.join h9.third' (fun F hF => hF)).swap
  by_cases h : r.a = 1
  · obtain ⟨hd, hok⟩ := hr.hk h
    obtain ⟨a, c, t, d, s, n, st, co⟩ := r
    simp only at h hd hok hN
    subst h
    subst hd
    obtain rfl : N = 11 := hN
    refine (cRcvPacketK hl g fi u0 u1 u2 ar tq cq fq mp now next A NA hA hNA ts hts n0 hn0 hnow s n st co c t hr.hc hr.ht hok rb ro rc hR h1).mono ?_
    rintro e w' ⟨he, h9⟩
    exact ⟨he, key _ _ _ h9⟩
  · have ha : r.a = 2 ∨ r.a = 3 ∨ r.a = 5 := by rcases hr.ha with e | e | e | e <;> omega
    refine (cRcvPacketO hl g fi u0 u1 u2 ar tq cq fq mp now next A NA hA hNA ts hts n0 hn0 hnow r.a r.c r.t r.d.length r.d ha hr.hc hr.ht hr.hd1 hr.hd2 rb ro rc N rfl hN hR h1).mono ?_
    rintro e w' ⟨he, h9⟩
    refine ⟨he, ?_⟩
    have e0 : r.tk ts = ts := by unfold Dn.Rep.tk; rw [if_neg h]
    rw [e0]
    exact key _ _ _ h9
set_option maxRecDepth 100000 in
set_option maxHeartbeats 8000000 in
theorem cRcvFrameG (hl : ∀ B ∈ l, Stable B) (g fi u0 u1 u2 ar tq cq fq mp now next : Nat) (i : Nat) (hi : i < 100) (a c m : Nat) (P : List Nat) (N M : Nat) (hNl : P.length = N) (hM : M = N + 6) (ha : a < 256) (hc : c ≤ 16383) (hN1 : 1 ≤ N) (hN2 : N ≤ 220) (hm0 : 1 ≤ m) (hdm : N + 6 + (m + 6) = 244) (hP8 : ∀ x ∈ P, x < 256) (Q Q' : HProp) (hQ : Stable Q) (hQ' : Stable Q')
    (KP : ∀ (y : World) (l' : List HProp), (∀ B ∈ l', Stable B) → ∀ rb ro rc, RdsB W l' (.slice (some ⟨rb, ro, none⟩) N rc) P → Sts W (blkP g (.cells (staC fi u0 u1 u2 ar tq cq fq mp now next) 119 (0, 0)) :: Q :: l') y → Calls Tryz.prog 137 #[.pointer (some ⟨g, 0, none⟩), .agg #[.bool false, .bool true, .int .i64 (a : Int), .int .i64 3, .int .i64 (c : Int), .slice (some ⟨rb, ro, none⟩) N rc], .int .i64 (now : Int)] y fun e w' => e = .returned (.tuple #[]) ∧ Sts W (blkP g (.cells (staC fi u0 u1 u2 ar tq cq fq mp now next) 119 (0, 0)) :: Q' :: l') w')
    (fb fo fc : Nat) (hR : RdsB W l (.slice (some ⟨fb, fo, none⟩) 244 fc) (Pkt.tel a c P ++ Pkt.idl m)) (hs : Sts W (blkP g (.cells (staC fi u0 u1 u2 ar tq cq fq mp now next) 119 (0, 0)) :: unpS u0 i :: Q :: l) w) :
    Calls Tryz.prog 50 #[.pointer (some ⟨g, 0, none⟩), .agg (tmV i (.slice (some ⟨fb, fo, none⟩) 244 fc)), .int .i64 (now : Int)] w fun e w' => e = .returned (.tuple #[]) ∧ Sts W (blkP g (.cells (staC fi u0 u1 u2 ar tq cq fq mp now next) 119 (0, 0)) :: unpS u0 (i + 1) :: Q' :: l) w' := by
  have HL := hid hl
  have HQ := hid hQ
  have HQ' := hid hQ'
  have HS : Hid (Sts W (unpS u0 i :: blkP w.heap.size (.cells (tmV i (.slice (some ⟨fb, fo, none⟩) 244 fc)) 74 (0, 0)) :: blkP g (.cells (staC fi u0 u1 u2 ar tq cq fq mp now next) 119 (0, 0)) :: Q :: l) (w.alloc (.cells (tmV i (.slice (some ⟨fb, fo, none⟩) 244 fc)) 74))) := hid ((Sts.alloc (stabC (blkP_stable _ _) (stabC (unpS_stable _ _) (stabC hQ hl))) hs (.cells (tmV i (.slice (some ⟨fb, fo, none⟩) 244 fc)) 74)).third)
  have KT := hid (show ∀ y : World, Sts W (unpS u0 i :: blkP w.heap.size (.cells (tmV i (.slice (some ⟨fb, fo, none⟩) 244 fc)) 74 (0, 0)) :: blkP g (.cells (staC fi u0 u1 u2 ar tq cq fq mp now next) 119 (0, 0)) :: Q :: l) y → Calls Tryz.prog 135 #[.pointer (some ⟨u0, 0, none⟩), .int .i64 (i : Int), .int .i64 0, .slice (some ⟨fb, fo, none⟩) 244 fc] y fun e w' => ∃ ob oc xb xc, e = .returned (.slice (some ⟨ob, 0, none⟩) 1 oc) ∧ Sts W (unpS u0 (i + 1) :: rowP 35 1 (.slice (some ⟨ob, 0, none⟩) 1 oc) 1 [.slice (some ⟨xb, 0, none⟩) M xc] :: rowP 5 1 (.slice (some ⟨xb, 0, none⟩) M xc) M (u8s (Pkt.tel a c P)) :: blkP w.heap.size (.cells (tmV i (.slice (some ⟨fb, fo, none⟩) 244 fc)) 74 (0, 0)) :: blkP g (.cells (staC fi u0 u1 u2 ar tq cq fq mp now next) 119 (0, 0)) :: Q :: l) w' from fun y hy => by
    have h := cUnpTake (stabC (blkP_stable _ _) (stabC (blkP_stable _ _) (stabC hQ hl))) u0 i hi a c m P ha hc (by omega) (by omega) hm0 (by omega) hP8 fb fo fc (RdsB.app (m := [blkP w.heap.size (.cells (tmV i (.slice (some ⟨fb, fo, none⟩) 244 fc)) 74 (0, 0)), blkP g (.cells (staC fi u0 u1 u2 ar tq cq fq mp now next) 119 (0, 0)), Q]) hR) hy
    refine h.mono ?_
    rintro e w' ⟨oa, oc, xa, xc, rfl, h3⟩
    rw [hNl, ← hM] at h3
    obtain ⟨ob, c1, e1⟩ := own_pos h3.tail.rowOwn (by decide)
    obtain ⟨xb, c2, e2⟩ := own_pos h3.tail.tail.rowOwn (by omega)
    injection e1 with i1 i2 i3
    injection e2 with j1 j2 j3
    subst i1; subst j1
    exact ⟨ob, oc, xb, xc, rfl, h3⟩)
  have KD := hid (show ∀ (y : World) (xb xc : Nat), RdB y (.slice (some ⟨xb, 0, none⟩) M xc) (Pkt.tel a c P) → Calls Tryz.prog 136 #[.slice (some ⟨xb, 0, none⟩) M xc] y fun e w' => ∃ pb pc, e = .returned (.tuple #[.agg #[.bool false, .bool true, .int .i64 (a : Int), .int .i64 3, .int .i64 (c : Int), .slice (some ⟨pb, 0, none⟩) N pc], .int .i64 (M : Int), .int .i64 0]) ∧ New y w' 5 (.slice (some ⟨pb, 0, none⟩) N pc) (u8s P) from fun y xb xc hy => by
    refine (cPkDecode y a c P xb 0 xc M ha hc (by omega) (by omega) (by omega) hy).mono ?_
    rintro e w' ⟨ra, rc, rfl, hN⟩
    rw [hNl] at hN ⊢
    obtain ⟨pb, c1, e1⟩ := own_pos hN.own (by rw [u8s_len]; omega)
    injection e1 with i1 i2 i3
    subst i1
    exact ⟨pb, rc, rfl, hN⟩)
  have HKP := hid KP
  have HP8 := hid (show ∀ x ∈ Pkt.tel a c P, x < 256 from Pkt.tel_lt a c P ha hc hP8 (by omega))
  have HTL : Hid ((u8s (Pkt.tel a c P)).length = M) := hid (by rw [u8s_len, Pkt.tel_len, hNl, hM])
  have HPL : Hid ((u8s P).length = N) := hid (by rw [u8s_len, hNl])
  have HP0 := hid hP8
  have c1 : (w.alloc (.cells (tmV i (.slice (some ⟨fb, fo, none⟩) 244 fc)) 74)).cell? ⟨w.heap.size, 1, none⟩ = some (.int .i64 0) := (Sts.boxCell HS.out.tail 1 _ rfl).1
  have c4 : (w.alloc (.cells (tmV i (.slice (some ⟨fb, fo, none⟩) 244 fc)) 74)).cell? ⟨w.heap.size, 4, none⟩ = some (.int .i64 0) := (Sts.boxCell HS.out.tail 4 _ rfl).1
  clear hs hR KP hQ hQ' hl hi hNl hM ha hc hN1 hN2 hm0 hdm hP8
  go_enter Tryz.func50, Tryz.ntmps50
  go_wp2_with fail
  refine wp_region_ordQ (.pure 0 (.pure 1 (.pure 2 (.pure 3 (.pure 4 (.pure 5 (.pure 6 (.pure 7 (.pure 8 (.pure 9 (.pure 10 (.pure 11 (.pure 12 (.pure 15 (.eff 13 (.pure 14 .nil)))))))))))))))) (fun y => y.cell? ⟨g, 1, none⟩ = some (.pointer (some ⟨u0, 0, none⟩)) ∧ y.cell? ⟨w.heap.size, 1, none⟩ = some (.int .i64 0) ∧ y.cell? ⟨w.heap.size, 3, none⟩ = some (.int .i64 (i : Int)) ∧ y.cell? ⟨w.heap.size, 4, none⟩ = some (.int .i64 0) ∧ y.cell? ⟨w.heap.size, 5, none⟩ = some (.slice (some ⟨fb, fo, none⟩) 244 fc)) (fun y => Sts W (unpS u0 i :: blkP w.heap.size (.cells (tmV i (.slice (some ⟨fb, fo, none⟩) 244 fc)) 74 (0, 0)) :: blkP g (.cells (staC fi u0 u1 u2 ar tq cq fq mp now next) 119 (0, 0)) :: Q :: l) y) (by kernel_rfl) (by kernel_rfl) (HS.out.drew (stabC (unpS_stable _ _) (stabC (blkP_stable _ _) (stabC (blkP_stable _ _) (stabC HQ.out (HL.out)))))) (fun y hy => ⟨(Sts.boxCell hy.tail.tail 1 _ rfl).1, (Sts.boxCell hy.tail 1 _ rfl).1, (Sts.boxCell hy.tail 3 _ rfl).1, (Sts.boxCell hy.tail 4 _ rfl).1, (Sts.boxCell hy.tail 5 _ rfl).1⟩) ?_
  iterate 14
    (apply ordq_pure (ho := rfl)
     · go_simp
     · intro x hx; obtain ⟨x1, x2, x3, x4, x5⟩ := hx; go_simp; rfl
     apply ordq_norm
     · go_simp; rfl)
  apply ordq_eff (ho := rfl)
  · go_simp
  intro y hy
  refine eff_call (f := 135) (by go_simp) (KT.out y hy) ?_
  rintro e w3 ⟨ob, oc, xb, xc, rfl, h3⟩
  refine ⟨_, rfl, (fun y => y.cell? ⟨g, 1, none⟩ = some (.pointer (some ⟨u0, 0, none⟩)) ∧ y.cell? ⟨w.heap.size, 1, none⟩ = some (.int .i64 0) ∧ y.cell? ⟨w.heap.size, 3, none⟩ = some (.int .i64 (i : Int)) ∧ y.cell? ⟨w.heap.size, 4, none⟩ = some (.int .i64 0) ∧ y.cell? ⟨w.heap.size, 5, none⟩ = some (.slice (some ⟨fb, fo, none⟩) 244 fc)), (fun y => Sts W (unpS u0 (i + 1) :: rowP 35 1 (.slice (some ⟨ob, 0, none⟩) 1 oc) 1 [.slice (some ⟨xb, 0, none⟩) M xc] :: rowP 5 1 (.slice (some ⟨xb, 0, none⟩) M xc) M (u8s (Pkt.tel a c P)) :: blkP w.heap.size (.cells (tmV i (.slice (some ⟨fb, fo, none⟩) 244 fc)) 74 (0, 0)) :: blkP g (.cells (staC fi u0 u1 u2 ar tq cq fq mp now next) 119 (0, 0)) :: Q :: l) y), h3, (fun y hy => ⟨(Sts.boxCell hy.tail.tail.tail.tail 1 _ rfl).1, (Sts.boxCell hy.tail.tail.tail 1 _ rfl).1, (Sts.boxCell hy.tail.tail.tail 3 _ rfl).1, (Sts.boxCell hy.tail.tail.tail 4 _ rfl).1, (Sts.boxCell hy.tail.tail.tail 5 _ rfl).1⟩), (fun _ h => h), ?_⟩
  clear h3 hy y 
  apply ordq_norm
  · go_simp; rfl
  iterate 1
    (apply ordq_pure (ho := rfl)
     · go_simp
     · intro x hx; go_simp; rfl
     apply ordq_norm
     · go_simp; rfl)
  refine ordq_nil fun z hz => ?_
  have HZ := hid hz
  clear hz HS
  clear c1 c4
  go_wp2_with fail
  go_loopw [34] (fun j wr => (j = .int .i64 0 ∧ Sts W (unpS u0 (i + 1) :: rowP 35 1 (.slice (some ⟨ob, 0, none⟩) 1 oc) 1 [.slice (some ⟨xb, 0, none⟩) M xc] :: rowP 5 1 (.slice (some ⟨xb, 0, none⟩) M xc) M (u8s (Pkt.tel a c P)) :: blkP w.heap.size (.cells (tmV i (.slice (some ⟨fb, fo, none⟩) 244 fc)) 74 (0, 0)) :: blkP g (.cells (staC fi u0 u1 u2 ar tq cq fq mp now next) 119 (0, 0)) :: Q :: l) wr) ∨ (j = .int .i64 1 ∧ Sts W (blkP g (.cells (staC fi u0 u1 u2 ar tq cq fq mp now next) 119 (0, 0)) :: unpS u0 (i + 1) :: Q' :: l) wr)) (fun j _ => 1 - (intOf j).toNat)
  case atStart => exact Or.inl ⟨rfl, HZ.out⟩
  case round =>
    clear HZ
    rcases hrel with ⟨rfl, h⟩ | ⟨rfl, h⟩
    · have q0 : wr.cell? ⟨ob, 0, none⟩ = some (.slice (some ⟨xb, 0, none⟩) M xc) := Sts.rowCell h.tail 0 (by decide) _ rfl
      have KD2 := hid (KD.out wr xb xc ⟨Sts.rdRow h.tail.tail HTL.out, HP8.out⟩)
      have H := hid h
      clear h
      go_wp2_with fail
      refine KD2.out.mono ?_
      rintro e w1 ⟨pb, pc, rfl, hN⟩
      have h2 := Sts.new (stabC (unpS_stable _ _) (stabC (rowP_stable _ _ _ _ _) (stabC (rowP_stable _ _ _ _ _) (stabC (blkP_stable _ _) (stabC (blkP_stable _ _) (stabC HQ.out (HL.out))))))) H.out hN
      rw [HPL.out] at h2
      have h3 := Sts.alloc (stabC (rowP_stable _ _ _ _ _) (stabC (unpS_stable _ _) (stabC (rowP_stable _ _ _ _ _) (stabC (rowP_stable _ _ _ _ _) (stabC (blkP_stable _ _) (stabC (blkP_stable _ _) (stabC HQ.out (HL.out)))))))) h2 (.cells #[.bool false, .bool true, .int .i64 (a : Int), .int .i64 3, .int .i64 (c : Int), .slice (some ⟨pb, 0, none⟩) N pc] 50)
      have H3 : Hid (Sts W (blkP g (.cells (staC fi u0 u1 u2 ar tq cq fq mp now next) 119 (0, 0)) :: Q :: rowP 5 1 (.slice (some ⟨pb, 0, none⟩) N pc) N (u8s P) :: unpS u0 (i + 1) :: l) (w1.alloc (.cells #[.bool false, .bool true, .int .i64 (a : Int), .int .i64 3, .int .i64 (c : Int), .slice (some ⟨pb, 0, none⟩) N pc] 50))) := hid (Sts.sub (h3.perm (by
        have p1 := List.perm_append_comm (l₁ := [blkP w1.heap.size (.cells #[.bool false, .bool true, .int .i64 (a : Int), .int .i64 3, .int .i64 (c : Int), .slice (some ⟨pb, 0, none⟩) N pc] 50 (0, 0)), rowP 5 1 (.slice (some ⟨pb, 0, none⟩) N pc) N (u8s P), unpS u0 (i + 1), rowP 35 1 (.slice (some ⟨ob, 0, none⟩) 1 oc) 1 [.slice (some ⟨xb, 0, none⟩) M xc], rowP 5 1 (.slice (some ⟨xb, 0, none⟩) M xc) M (u8s (Pkt.tel a c P)), blkP w.heap.size (.cells (tmV i (.slice (some ⟨fb, fo, none⟩) 244 fc)) 74 (0, 0))]) (l₂ := [blkP g (.cells (staC fi u0 u1 u2 ar tq cq fq mp now next) 119 (0, 0)), Q]) |>.append_right l
        refine p1.trans (.cons _ (.cons _ ?_))
        exact (List.Perm.swap _ _ _).trans (.cons _ (.swap _ _ _)))) (.cons_cons _ (.cons_cons _ (.cons_cons _ (.cons_cons _ (.cons _ (.cons _ (.cons _ (.cons _ (List.Sublist.refl _))))))))))
      have HRP := hid (show RdsB W (rowP 5 1 (.slice (some ⟨pb, 0, none⟩) N pc) N (u8s P) :: unpS u0 (i + 1) :: l) (.slice (some ⟨pb, 0, none⟩) N pc) P from ⟨Rds.row HPL.out (List.mem_cons_self ..), HP0.out⟩)
      clear h2 h3 hN H KD2 q0
      go_wp2_with fail
      refine (HKP.out _ _ (stabC (rowP_stable _ _ _ _ _) (stabC (unpS_stable _ _) (HL.out))) pb 0 pc HRP.out H3.out).mono ?_
      rintro e w4 ⟨rfl, h4⟩
      have H4 : Hid (Sts W (blkP g (.cells (staC fi u0 u1 u2 ar tq cq fq mp now next) 119 (0, 0)) :: unpS u0 (i + 1) :: Q' :: l) w4) := hid (Sts.sub (h4.perm (.cons _ (List.perm_middle (l₁ := [_, _])))) (.cons_cons _ (.cons_cons _ (.cons_cons _ (.cons _ (List.Sublist.refl _))))))
      clear h4
      go_wp2_with fail
      go_roundw
      case rel => exact Or.inr ⟨rfl, H4.out⟩
      case measure => simp [intOf]
    · have H := hid h
      clear h
      go_wp2_with fail
      go_end0
      exact ⟨rfl, H.out⟩
end
end Go.Proofs.YtnklmadmenkdoaaGreat
