/- Transmissions of the downlink, made by the law. -/
import Derived.Test.YtnklmadmenkdoaaGreatQLdE
import Derived.Test.YtnklmadmenkdoaaGreatQLdC
import Derived.Test.YtnklmadmenkdoaaGreatQStdB
import Derived.Test.YtnklmadmenkdoaaGreatQStdD
set_option linter.unusedVariables false
set_option linter.unusedSimpArgs false
namespace Go.Proofs.YtnklmadmenkdoaaGreat
open Go.RowKit Go.Proofs.Num Go.ChangeShapes
/-- The transmissions of reports, numbered from i on. -/
def ups : Nat → List Dn.Rep → List (List Nat)
  | _, [] => []
  | i, r :: l => r.up i :: ups (i + 1) l
theorem ups_snoc : ∀ (l : List Dn.Rep) (i : Nat) (r : Dn.Rep), ups i (l ++ [r]) = ups i l ++ [r.up (i + l.length)]
  | [], i, r => by simp [ups]
  | x :: l, i, r => by simp only [List.cons_append, ups, ups_snoc l, List.length_cons]; rw [show i + 1 + l.length = i + (l.length + 1) by omega]
theorem ups_len : ∀ (l : List Dn.Rep) (i : Nat), (ups i l).length = l.length
  | [], _ => rfl
  | x :: l, i => by simp [ups, ups_len l]
theorem ups_get : ∀ (l : List Dn.Rep) (i k : Nat) (hk : k < l.length), (ups i l)[k]? = some (l[k].up (i + k))
  | [], _, _, hk => by simp at hk
  | x :: l, i, 0, hk => by simp [ups]
  | x :: l, i, k + 1, hk => by
    have := ups_get l (i + 1) k (by simpa using hk)
    simp only [ups, List.getElem?_cons_succ, List.getElem_cons_succ, this]
    rw [show i + 1 + k = i + (k + 1) by omega]
set_option maxRecDepth 100000 in
set_option maxHeartbeats 16000000 in
theorem cPackets (w : World) (v : Value) (S : List RepA) (hS : RepsAt w v S) (hok : ∀ x ∈ S, x.ok) (h15 : S.length ≤ 15) :
    Calls Tryz.prog 20 #[v] w fun e w' => ∃ oa oc ovs, e = .returned (.slice oa S.length oc) ∧ ovs.length = S.length ∧ Sts w [rowP 35 1 (.slice oa S.length oc) S.length ovs, rowsP 5 ovs (ups 0 (S.map RepA.rep))] w' := by
  obtain ⟨aa, acap, rfl, hcap, hX⟩ := hS
  have HX := hid hX
  have HOK := hid hok
  have H15 := hid h15
  have HS : Hid (Sts w [rowP 35 1 (.slice none 0 0) 0 [], rowsP 5 [] (ups 0 ((S.take 0).map RepA.rep))] w) := hid (Sts.rowNilS 35 1 (Sts.withEmp (Sts.nil w)))
  have HSL : Hid (∀ k, k ≤ S.length → (ups 0 ((S.take k).map RepA.rep)).length = k) := hid (fun k hk => by rw [ups_len, List.length_map, List.length_take, Nat.min_eq_left hk])
  clear hX hok h15 hcap
  go_enter Tryz.func20, Tryz.ntmps20
  go_wp2_with fail
  go_loopw [3, 4] (fun o i wr => ∃ k ovs, k ≤ S.length ∧ i = .int .i64 (k : Int) ∧ Sts w [rowP 35 1 o k ovs, rowsP 5 ovs (ups 0 ((S.take k).map RepA.rep))] wr) (fun _ i _ => S.length - (intOf i).toNat)
  case atStart => exact ⟨0, [], Nat.zero_le _, rfl, HS.out⟩
  case round =>
    clear HS
    obtain ⟨k, ovs, hk, rfl, hs⟩ := hrel
    obtain ⟨oa, oc, rfl⟩ := own_slice (Sts.rowOwn hs)
    obtain ⟨UK, hUK⟩ : ∃ UK, UK = ups 0 ((S.take k).map RepA.rep) := ⟨_, rfl⟩
    rw [← hUK] at hs
    have hov : ovs.length = k := by
      obtain ⟨F, hF⟩ := hs.tail.head
      rw [rowsP_len hF, hUK]
      exact HSL.out k hk
    by_cases hlt : k < S.length
    · have hSl := H15.out
      obtain ⟨ab, aoff, cs, rfl, hab, hcl, hcell, hE⟩ := HX.out k hlt
      obtain ⟨x, hx⟩ : ∃ x, x = S[k] := ⟨_, rfl⟩
      rw [← hx] at hE
      obtain ⟨rfl, hD, hnl⟩ := hE
      have hxo : x.ok := by rw [hx]; exact HOK.out _ (List.getElem_mem _)
      obtain ⟨r, hr⟩ : ∃ r, r = x.rep := ⟨_, rfl⟩
      have hro : r.ok := by rw [hr]; exact RepA.rep_ok hxo hD.2
      obtain ⟨a, ha⟩ : ∃ a : Nat, x.a = (a : Int) := ⟨x.a.toNat, by have := hxo.ha; omega⟩
      obtain ⟨c, hc⟩ : ∃ c : Nat, x.c = (c : Int) := ⟨x.c.toNat, by have := hxo.hc; omega⟩
      obtain ⟨t, ht⟩ : ∃ t : Nat, x.t = (t : Int) := ⟨x.t.toNat, by have := hxo.ht; omega⟩
      have hra : r.a = a := by rw [hr]; show x.a.toNat = a; omega
      have hrc : r.c = c := by rw [hr]; show x.c.toNat = c; omega
      have hrt : r.t = t := by rw [hr]; show x.t.toNat = t; omega
      have ha256 : a < 256 := by have := hxo.ha; omega
      have hc3 : c ≤ 16383 := by have := hxo.hc; omega
      have ht3 : t < 1099511627776 := by have := hxo.ht; omega
      have HC3 := hid (show ∀ y : World, Below w.heap.size w y → y.cell? ⟨ab, aoff + k * 8, none⟩ = some (.int .i64 (a : Int)) ∧ y.cell? ⟨ab, aoff + k * 8 + 1, none⟩ = some (.int .i64 (c : Int)) ∧ y.cell? ⟨ab, aoff + k * 8 + 2, none⟩ = some (.int .i64 (t : Int)) from fun y hy => ⟨(hy.cell hab).trans (by rw [← ha]; exact hcell 0 (by simp)), (hy.cell hab).trans (by rw [← hc]; exact hcell 1 (by simp)), (hy.cell hab).trans (by rw [← ht]; exact hcell 2 (by simp))⟩)
      have q0 := (HC3.out _ hs.below).1
      have q7 : wr.cell? ⟨ab, aoff + k * 8 + 7, none⟩ = some (.slice x.da x.d.length x.dc) := (hs.below.cell hab).trans (hcell 7 (by simp))
      have p0 : (0 : Int) ≤ (k : Int) := Int.natCast_nonneg _
      have p1 : (k : Int) < ((S.length : Nat) : Int) := by omega
      have HOV := hid hov
      by_cases ha1 : a = 1
      · have d1 : ((a : Int) == 1) = true := by rw [ha1]; rfl
        have hok := hxo.hk (by omega)
        have hv := (Ver.ok_iff _ _ _ _).1 hok
        obtain ⟨s, hs0⟩ : ∃ s : Nat, x.s = (s : Int) := ⟨x.s.toNat, by omega⟩
        obtain ⟨n, hn0⟩ : ∃ n : Nat, x.n = (n : Int) := ⟨x.n.toNat, by omega⟩
        obtain ⟨st, hst0⟩ : ∃ st : Nat, x.st = (st : Int) := ⟨x.st.toNat, by omega⟩
        obtain ⟨co, hco0⟩ : ∃ co : Nat, x.co = (co : Int) := ⟨x.co.toNat, by omega⟩
        have q3 : wr.cell? ⟨ab, aoff + k * 8 + 3, none⟩ = some (.int .i64 (s : Int)) := (hs.below.cell hab).trans (by rw [← hs0]; exact hcell 3 (by simp))
        have q4 : wr.cell? ⟨ab, aoff + k * 8 + 4, none⟩ = some (.int .i64 (n : Int)) := (hs.below.cell hab).trans (by rw [← hn0]; exact hcell 4 (by simp))
        have q5 : wr.cell? ⟨ab, aoff + k * 8 + 5, none⟩ = some (.int .i64 (st : Int)) := (hs.below.cell hab).trans (by rw [← hst0]; exact hcell 5 (by simp))
        have q6 : wr.cell? ⟨ab, aoff + k * 8 + 6, none⟩ = some (.int .i64 (co : Int)) := (hs.below.cell hab).trans (by rw [← hco0]; exact hcell 6 (by simp))
        rw [hs0, hn0, hst0, hco0] at hok
        have KAC := hid (show Calls Tryz.prog 35 #[.agg #[.int .i64 (s : Int), .int .i64 (n : Int), .int .i64 (st : Int), .int .i64 (co : Int)]] wr fun e w' => ∃ r, e = .returned r ∧ New wr w' 5 r (u8s (ackB s n st co)) from cR56Ack wr s n st co hok)
        obtain ⟨D, hDD⟩ : ∃ D, D = ackB s n st co := ⟨_, rfl⟩
        rw [← hDD] at KAC
        obtain ⟨m, hm5⟩ : ∃ m, m = 5 := ⟨_, rfl⟩
        have hDm : D.length = m := by rw [hDD, hm5]; rfl
        have hm1 : 1 ≤ m := by omega
        have hm2 : m ≤ 100 := by omega
        have hrD : r.d = D := by
          rw [hr, hDD]
          show (if x.a = 1 then ackB x.s.toNat x.n.toNat x.st.toNat x.co.toNat else x.d) = _
          rw [if_pos (by omega), hs0, hn0, hst0, hco0]
          rfl
        have hD8 : ∀ y ∈ D, y < 256 := by rw [← hrD]; exact hro.h8
        have hdat : Pkt.tel a c (tcC t ++ D) ++ Pkt.idl (226 - m) = r.dat := by rw [← hra, ← hrc, ← hrt, ← hrD, ← hDm, ← hrD]; rfl
        have HDU : Hid ((u8s D).length = m) := hid (by rw [u8s_len, hDm])
        have HD8 := hid hD8
        obtain ⟨TL, hTL⟩ : ∃ TL, TL = Pkt.tel a c (tcC t ++ D) := ⟨_, rfl⟩
        obtain ⟨ID, hID⟩ : ∃ ID, ID = Pkt.idl (226 - m) := ⟨_, rfl⟩
        obtain ⟨N, hN⟩ : ∃ N, N = 12 + m := ⟨_, rfl⟩
        obtain ⟨I, hI⟩ : ∃ I, I = 232 - m := ⟨_, rfl⟩
        have hTLl : TL.length = N := by rw [hTL, Pkt.tel_len, List.length_append, hDm, hN]; show 6 + m + 6 = _; omega
        have hIDl : ID.length = I := by rw [hID, Pkt.idl_len, hI]; omega
        have HTLL := hid hTLl
        have HTLU : Hid ((u8s TL).length = N) := hid (by rw [u8s_len, hTLl])
        have HIDU : Hid ((u8s ID).length = I) := hid (by rw [u8s_len, hIDl])
        have HLA : Hid (([] : List Nat).length + TL.length < 1000000000) := hid (by rw [hTLl]; show 0 + N < _; omega)
        have HLB : Hid (TL.length + ID.length < 1000000000) := hid (by rw [hTLl, hIDl]; omega)
        obtain ⟨DT, hDT⟩ : ∃ DT, DT = TL ++ ID := ⟨_, rfl⟩
        have HDT : Hid (TL ++ ID = DT) := hid hDT.symm
        have hDTl : DT.length = 244 := by rw [hDT, List.length_append, hTLl, hIDl]; omega
        have HDTL := hid hDTl
        have HDTU : Hid ((u8s DT).length = 244) := hid (by rw [u8s_len, hDTl])
        have hrd : DT = r.dat := by rw [hDT, hTL, hID]; exact hdat
        have HDT8 : Hid (∀ y ∈ DT, y < 256) := hid (by rw [hrd]; exact Dn.Rep.dat_lt hro)
        obtain ⟨FR, hFR⟩ : ∃ FR, FR = tmB k DT := ⟨_, rfl⟩
        have hFRl : FR.length = 256 := by rw [hFR]; exact tmB_len k DT hDTl
        have HFRU : Hid ((u8s FR).length = 256) := hid (by rw [u8s_len, hFRl])
        have HFR8 : Hid (∀ y ∈ FR, y < 256) := hid (by rw [hFR, hrd]; exact frm_lt k (by omega) hro)
        obtain ⟨UP, hUP⟩ : ∃ UP, UP = Scr.mark ++ Scr.mix FR FR.length := ⟨_, rfl⟩
        have hUPl : UP.length = 260 := by rw [hUP, List.length_append, Scr.mix_len, hFRl]; rfl
        have HUPL := hid hUPl
        have HUPU : Hid ((u8s UP).length = 260) := hid (by rw [u8s_len, hUPl])
        have HUS : Hid (ups 0 ((S.take (k + 1)).map RepA.rep) = UK ++ [UP]) := hid (by
          rw [List.take_succ_eq_append_getElem hlt, List.map_append, List.map_cons, List.map_nil, ups_snoc, hUK, List.length_map, List.length_take, Nat.min_eq_left (by omega), Nat.zero_add, hUP, hFR, hrd]
          show _ ++ [S[k].rep.up k] = _
          rw [← hx, ← hr]; rfl)
        have KTL := hid (fun (y : World) (xa : Option Addr) (xc : Nat) (hy : RdB y (.slice xa m xc) D) (hv : NilOk (.slice xa m xc)) => cTelemetry y a c t D xa xc m ha256 hc3 ht3 (by omega) hDm hy hv)
        rw [← hTL] at KTL
        have KID := hid (fun y : World => cPkIdle y I (226 - m) (by omega) (by omega) (by omega))
        rw [← hID] at KID
        have KENC := hid (show ∀ (ua : Option Addr) (uc : Nat) (y : World), Rd y (.slice ua 244 uc) (u8s DT) → Calls Tryz.prog 70 #[.agg #[.int .i64 5, .int .i64 0, .int .i64 (k : Int), .int .i64 (k : Int), .int .i64 0, .slice ua 244 uc, .int .i64 0, .bool false, .bool false, .bool false, .int .i64 0, .int .i64 0]] y fun e w' => ∃ r, e = .returned (.tuple #[r, .int .i64 0]) ∧ New y w' 5 r (u8s FR) from fun ua uc y hy => by
          rw [hFR]
          exact cTmEncode k ua uc DT y (by omega) hDTl ⟨hy, HDT8.out⟩)
        have KWRP := hid (show ∀ (y : World) (fa : Option Addr) (fc : Nat), Rd y (.slice fa 256 fc) (u8s FR) → Calls Tryz.prog 71 #[.slice fa 256 fc] y fun e w' => ∃ r, e = .returned r ∧ New y w' 5 r (u8s UP) from fun y fa fc hy => by
          rw [hUP]
          exact cWrap y (.slice fa 256 fc) FR ⟨hy, HFR8.out⟩ (by rw [hFRl]; decide))
        have HK9 : Hid (k < 100000000) := hid (by omega)
        have HK1 : Hid (k + 1 ≤ S.length) := hid hlt
        have HK16 : Hid (k < 15) := hid (by omega)
        have HE8 : Hid (wrap64 ((k : Int) + 1) = ((k + 1 : Nat) : Int)) := hid (by unfold wrap64; omega)
        have e9 : wrap64 (244 - (N : Int)) = (I : Int) := by unfold wrap64; omega
        have HS := hid hs
        clear hs hcell hD hnl hxo ha hc ht hra hrc hrt hov hok hv hs0 hn0 hst0 hco0 hDD hm5 hrD hD8 ha1 hTL hID hN hI hTLl hIDl hDT hDTl hrd hFR hFRl hUP hUPl hUK hx hr hdat hro hDm hm1 hm2 ha256 hc3 ht3 hlt hk hSl
        go_wp2_with fail
        refine KAC.out.mono ?_
        rintro e w4 ⟨rr, rfl, hN⟩
        have h5 := Sts.new (stabC (rowP_stable _ _ _ _ _) (stabC (rowsP_stable _ _ _) (stab0))) HS.out hN
        rw [HDU.out] at h5
        obtain ⟨xa, xc, rfl⟩ := own_slice h5.rowOwn
        have H5 := hid h5
        clear h5 hN HS KAC q0 q7 q3 q4 q5 q6
        have q0 := True.intro
        go_wp2_with fail
        refine wp_region_ordQ (.pure 0 (.pure 1 (.pure 2 (.pure 3 (.pure 4 (.pure 5 (.pure 6 (.pure 7 (.pure 8 (.pure 9 (.pure 10 (.pure 11 (.pure 12 (.pure 13 (.pure 14 (.pure 15 (.eff 16 (.pure 17 .nil)))))))))))))))))) (fun y => y.cell? ⟨ab, aoff + k * 8, none⟩ = some (.int .i64 (a : Int)) ∧ y.cell? ⟨ab, aoff + k * 8 + 1, none⟩ = some (.int .i64 (c : Int)) ∧ y.cell? ⟨ab, aoff + k * 8 + 2, none⟩ = some (.int .i64 (t : Int))) (fun y => Sts w (rowP 5 1 (.slice xa m xc) m (u8s D) :: rowP 35 1 (.slice oa k oc) k ovs :: rowsP 5 ovs UK :: []) y) (by kernel_rfl) (by kernel_rfl) (H5.out.drew (stabC (rowP_stable _ _ _ _ _) (stabC (rowP_stable _ _ _ _ _) (stabC (rowsP_stable _ _ _) (stab0))))) (fun y hy => HC3.out y hy.below) ?_
        iterate 16
          (apply ordq_pure (ho := rfl)
           · go_simp
           · intro x hx; obtain ⟨x1, x2, x3⟩ := hx; go_simp; rfl
           apply ordq_norm
           · go_simp; rfl)
        apply ordq_eff (ho := rfl)
        · go_simp
        intro y hy
        refine eff_call (f := 68) (by go_simp) (KTL.out y _ _ (⟨Sts.rdRow hy HDU.out, HD8.out⟩) (NilOk.own hy.rowOwn)) ?_
        rintro e w3 ⟨r, rfl, hN⟩
        have h4 := Sts.new (stabC (rowP_stable _ _ _ _ _) (stabC (rowP_stable _ _ _ _ _) (stabC (rowsP_stable _ _ _) (stab0)))) hy hN
        rw [HTLU.out] at h4
        obtain ⟨ta, tc, rfl⟩ := own_slice h4.rowOwn
        refine ⟨_, rfl, (fun y => y.cell? ⟨ab, aoff + k * 8, none⟩ = some (.int .i64 (a : Int)) ∧ y.cell? ⟨ab, aoff + k * 8 + 1, none⟩ = some (.int .i64 (c : Int)) ∧ y.cell? ⟨ab, aoff + k * 8 + 2, none⟩ = some (.int .i64 (t : Int))), (fun y => Sts w (rowP 5 1 (.slice ta N tc) N (u8s TL) :: rowP 5 1 (.slice xa m xc) m (u8s D) :: rowP 35 1 (.slice oa k oc) k ovs :: rowsP 5 ovs UK :: []) y), h4, (fun y hy => HC3.out y hy.below), (fun _ h => h), ?_⟩
        clear h4 hy y hN
        apply ordq_norm
        · go_simp; rfl
        iterate 1
          (apply ordq_pure (ho := rfl)
           · go_simp
           · intro x hx; go_simp; rfl
           apply ordq_norm
           · go_simp; rfl)
        refine ordq_nil fun z hz => ?_
        have H6 := hid hz
        clear hz H5
        have h6 := Sts.sub (H6.out) (.cons_cons _ (.cons _ (.cons_cons _ (.cons_cons _ (List.Sublist.refl _)))))
        have H6 := hid h6
        clear h6 q0
        go_wp2_with fail
        refine (KID.out _).mono ?_
        rintro e w6 ⟨r, rfl, hN⟩
        have h7 := Sts.new (stabC (rowP_stable _ _ _ _ _) (stabC (rowP_stable _ _ _ _ _) (stabC (rowsP_stable _ _ _) (stab0)))) H6.out hN
        rw [HIDU.out] at h7
        obtain ⟨ia, ic, rfl⟩ := own_slice h7.rowOwn
        have h8 := Sts.lit0 5 (stabC (rowP_stable _ _ _ _ _) (stabC (rowP_stable _ _ _ _ _) (stabC (rowP_stable _ _ _ _ _) (stabC (rowsP_stable _ _ _) (stab0))))) h7
        have HRT := hid (Sts.rdRow (h8.tail.tail) HTLU.out)
        have HNT := hid (NilOk.own h8.tail.tail.rowOwn)
        have H8 := hid h8
        clear h7 h8 hN H6
        go_wp2_with (first
          | (at_builtin; refine wpList_app8 (l := []) rfl (.tmp 61) (.tmp 62) rfl H8.out (stabC (rowP_stable _ _ _ _ _) (stabC (rowP_stable _ _ _ _ _) (stabC (rowP_stable _ _ _ _ _) (stabC (rowsP_stable _ _ _) (stab0))))) rfl rfl HRT.out HNT.out HLA.out ?_; intro v1 w7 h9
             rw [← List.length_append, List.nil_append, HTLL.out] at h9
             obtain ⟨ja, jc, rfl⟩ := own_slice h9.rowOwn
             have HRI := hid (Sts.rdRow h9.tail HIDU.out)
             have HNI := hid (NilOk.own h9.tail.rowOwn)
             have H9 := hid h9
             clear h9 H8 HRT HNT)
          | (at_builtin; refine wpList_app8 (l := TL) rfl (.tmp 63) (.tmp 64) rfl (by rw [HTLL.out]; exact H9.out) (stabC (rowP_stable _ _ _ _ _) (stabC (rowP_stable _ _ _ _ _) (stabC (rowP_stable _ _ _ _ _) (stabC (rowsP_stable _ _ _) (stab0))))) rfl rfl HRI.out HNI.out HLB.out ?_; intro v2 w8 h10
             rw [← List.length_append, HDT.out, HDTL.out] at h10
             obtain ⟨ua, uc, rfl⟩ := own_slice h10.rowOwn
             have h10' := Sts.sub (h10) (.cons_cons _ (.cons _ (.cons _ (.cons_cons _ (.cons_cons _ (List.Sublist.refl _))))))
             have H10 := hid h10'
             have KEN := hid (KENC.out ua uc w8 (Sts.rdRow h10' HDTU.out))
             clear h10 h10' H9 HRI HNI)
          | (go_at_call 70; refine KEN.out.mono ?_; rintro e w9 ⟨r, rfl, hN⟩
             have h11 := Sts.new (stabC (rowP_stable _ _ _ _ _) (stabC (rowP_stable _ _ _ _ _) (stabC (rowsP_stable _ _ _) (stab0)))) H10.out hN
             rw [HFRU.out] at h11
             obtain ⟨fa, fc, rfl⟩ := own_slice h11.rowOwn
             have KWR := hid (KWRP.out w9 fa fc (Sts.rdRow h11 HFRU.out))
             have H11 := hid (Sts.sub (h11) (.cons_cons _ (.cons _ (.cons_cons _ (.cons_cons _ (List.Sublist.refl _))))))
             clear h11 hN H10 KEN)
          | (go_at_call 71; refine KWR.out.mono ?_; rintro e w10 ⟨r, rfl, hN⟩
             have h12 := Sts.new (stabC (rowP_stable _ _ _ _ _) (stabC (rowP_stable _ _ _ _ _) (stabC (rowsP_stable _ _ _) (stab0)))) H11.out hN
             rw [HUPU.out] at h12
             obtain ⟨va, vc, rfl⟩ := own_slice h12.rowOwn
             have h13 := Sts.alloc (stabC (rowP_stable _ _ _ _ _) (stabC (rowP_stable _ _ _ _ _) (stabC (rowP_stable _ _ _ _ _) (stabC (rowsP_stable _ _ _) (stab0))))) h12 (.cells #[.slice va 260 vc] 35)
             have hc0 := (Sts.boxCell h13 0 _ rfl).1
             have HC0 := hid hc0
             have H13 := hid (Sts.sub (((h13).perm (List.perm_middle (l₁ := [_, _, _]))).perm (.cons _ (.cons _ (.cons _ (List.perm_middle (l₁ := [_])))))) (.cons_cons _ (.cons_cons _ (.cons_cons _ (.cons_cons _ (.cons _ (List.Sublist.refl _)))))))
             clear h12 h13 hN hc0 H11 KWR)
          | (at_builtin; refine wpList_app1 HOV.out 43 35 (.slice none 0 0) 24 Tryz.underlying43 infoS8 rfl (by decide) rfl (.tmp 70) (.tmp 73) rfl H13.out (stabC (blkP_stable _ _) (stabC (rowP_stable _ _ _ _ _) (stabC (rowsP_stable _ _ _) (stab0)))) w10.heap.size (.slice va 260 vc) rfl rfl HC0.out rfl HK9.out ?_; intro v3 w11 h14
             have h16 := Sts.sub (((h14).perm (List.perm_middle (l₁ := [_, _]))).perm (.cons _ (List.perm_middle (l₁ := [_, _])))) (.cons_cons _ (.cons_cons _ (.cons_cons _ (.cons _ (List.Sublist.refl _)))))
             have h17 := (Sts.join h16 (fun F hF => rowsP_snoc (u := UP) (by rw [HUPL.out]; exact hF))).swap
             rw [← HUS.out] at h17
             have H15 := hid h17
             clear h14 h16 h17 H13 HC0))
        clear e9
        have hk15 := HK16.out
        go_roundw
        case rel => exact ⟨k + 1, ovs ++ [.slice va 260 vc], HK1.out, congrArg (Value.int .i64) HE8.out, H15.out⟩
        case measure =>
          rw [HE8.out]
          have := HK1.out
          simp [intOf]
          omega
      · have d1 : ((a : Int) == 1) = false := beq_eq_false_iff_ne.2 (by omega)
        obtain ⟨D, hDD⟩ : ∃ D, D = x.d := ⟨_, rfl⟩
        obtain ⟨m, hm⟩ : ∃ m, m = x.d.length := ⟨_, rfl⟩
        have hDm : D.length = m := by rw [hDD, hm]
        have hm1 : 1 ≤ m := by have := hxo.hd; omega
        have hm2 : m ≤ 100 := by have := hxo.hd; omega
        have hrD : r.d = D := by
          rw [hr, hDD]
          show (if x.a = 1 then ackB x.s.toNat x.n.toNat x.st.toNat x.co.toNat else x.d) = _
          rw [if_neg (by omega)]
        have hdat : Pkt.tel a c (tcC t ++ D) ++ Pkt.idl (226 - m) = r.dat := by rw [← hra, ← hrc, ← hrt, ← hrD, ← hDm, ← hrD]; rfl
        rw [← hm] at q7
        obtain ⟨da, hda⟩ : ∃ da, da = x.da := ⟨_, rfl⟩
        obtain ⟨dc, hdc⟩ : ∃ dc, dc = x.dc := ⟨_, rfl⟩
        rw [← hda, ← hdc] at q7
        have HRD := hid (show ∀ y : World, Below w.heap.size w y → RdB y (.slice da m dc) D from fun y hy => by rw [hda, hm, hdc, hDD]; exact hD.below hy)
        have HNK : Hid (NilOk (.slice da m dc)) := hid (by
          intro c' hc'
          injection hc' with h1 h2 h3
          rw [← h3, hdc]
          exact hnl (by rw [← hda, h1]))
        obtain ⟨TL, hTL⟩ : ∃ TL, TL = Pkt.tel a c (tcC t ++ D) := ⟨_, rfl⟩
        obtain ⟨ID, hID⟩ : ∃ ID, ID = Pkt.idl (226 - m) := ⟨_, rfl⟩
        obtain ⟨N, hN⟩ : ∃ N, N = 12 + m := ⟨_, rfl⟩
        obtain ⟨I, hI⟩ : ∃ I, I = 232 - m := ⟨_, rfl⟩
        have hTLl : TL.length = N := by rw [hTL, Pkt.tel_len, List.length_append, hDm, hN]; show 6 + m + 6 = _; omega
        have hIDl : ID.length = I := by rw [hID, Pkt.idl_len, hI]; omega
        have HTLL := hid hTLl
        have HTLU : Hid ((u8s TL).length = N) := hid (by rw [u8s_len, hTLl])
        have HIDU : Hid ((u8s ID).length = I) := hid (by rw [u8s_len, hIDl])
        have HLA : Hid (([] : List Nat).length + TL.length < 1000000000) := hid (by rw [hTLl]; show 0 + N < _; omega)
        have HLB : Hid (TL.length + ID.length < 1000000000) := hid (by rw [hTLl, hIDl]; omega)
        obtain ⟨DT, hDT⟩ : ∃ DT, DT = TL ++ ID := ⟨_, rfl⟩
        have HDT : Hid (TL ++ ID = DT) := hid hDT.symm
        have hDTl : DT.length = 244 := by rw [hDT, List.length_append, hTLl, hIDl]; omega
        have HDTL := hid hDTl
        have HDTU : Hid ((u8s DT).length = 244) := hid (by rw [u8s_len, hDTl])
        have hrd : DT = r.dat := by rw [hDT, hTL, hID]; exact hdat
        have HDT8 : Hid (∀ y ∈ DT, y < 256) := hid (by rw [hrd]; exact Dn.Rep.dat_lt hro)
        obtain ⟨FR, hFR⟩ : ∃ FR, FR = tmB k DT := ⟨_, rfl⟩
        have hFRl : FR.length = 256 := by rw [hFR]; exact tmB_len k DT hDTl
        have HFRU : Hid ((u8s FR).length = 256) := hid (by rw [u8s_len, hFRl])
        have HFR8 : Hid (∀ y ∈ FR, y < 256) := hid (by rw [hFR, hrd]; exact frm_lt k (by omega) hro)
        obtain ⟨UP, hUP⟩ : ∃ UP, UP = Scr.mark ++ Scr.mix FR FR.length := ⟨_, rfl⟩
        have hUPl : UP.length = 260 := by rw [hUP, List.length_append, Scr.mix_len, hFRl]; rfl
        have HUPL := hid hUPl
        have HUPU : Hid ((u8s UP).length = 260) := hid (by rw [u8s_len, hUPl])
        have HUS : Hid (ups 0 ((S.take (k + 1)).map RepA.rep) = UK ++ [UP]) := hid (by
          rw [List.take_succ_eq_append_getElem hlt, List.map_append, List.map_cons, List.map_nil, ups_snoc, hUK, List.length_map, List.length_take, Nat.min_eq_left (by omega), Nat.zero_add, hUP, hFR, hrd]
          show _ ++ [S[k].rep.up k] = _
          rw [← hx, ← hr]; rfl)
        have KTL := hid (fun (y : World) (xa : Option Addr) (xc : Nat) (hy : RdB y (.slice xa m xc) D) (hv : NilOk (.slice xa m xc)) => cTelemetry y a c t D xa xc m ha256 hc3 ht3 (by omega) hDm hy hv)
        rw [← hTL] at KTL
        have KID := hid (fun y : World => cPkIdle y I (226 - m) (by omega) (by omega) (by omega))
        rw [← hID] at KID
        have KENC := hid (show ∀ (ua : Option Addr) (uc : Nat) (y : World), Rd y (.slice ua 244 uc) (u8s DT) → Calls Tryz.prog 70 #[.agg #[.int .i64 5, .int .i64 0, .int .i64 (k : Int), .int .i64 (k : Int), .int .i64 0, .slice ua 244 uc, .int .i64 0, .bool false, .bool false, .bool false, .int .i64 0, .int .i64 0]] y fun e w' => ∃ r, e = .returned (.tuple #[r, .int .i64 0]) ∧ New y w' 5 r (u8s FR) from fun ua uc y hy => by
          rw [hFR]
          exact cTmEncode k ua uc DT y (by omega) hDTl ⟨hy, HDT8.out⟩)
        have KWRP := hid (show ∀ (y : World) (fa : Option Addr) (fc : Nat), Rd y (.slice fa 256 fc) (u8s FR) → Calls Tryz.prog 71 #[.slice fa 256 fc] y fun e w' => ∃ r, e = .returned r ∧ New y w' 5 r (u8s UP) from fun y fa fc hy => by
          rw [hUP]
          exact cWrap y (.slice fa 256 fc) FR ⟨hy, HFR8.out⟩ (by rw [hFRl]; decide))
        have HK9 : Hid (k < 100000000) := hid (by omega)
        have HK1 : Hid (k + 1 ≤ S.length) := hid hlt
        have HK16 : Hid (k < 15) := hid (by omega)
        have HE8 : Hid (wrap64 ((k : Int) + 1) = ((k + 1 : Nat) : Int)) := hid (by unfold wrap64; omega)
        have e9 : wrap64 (244 - (N : Int)) = (I : Int) := by unfold wrap64; omega
        have H5 := hid hs
        clear hs hcell hD hnl hxo ha hc ht hra hrc hrt hov hDD hm hda hdc hrD ha1 hTL hID hN hI hTLl hIDl hDT hDTl hrd hFR hFRl hUP hUPl hUK hx hr hdat hro hDm hm1 hm2 ha256 hc3 ht3 hlt hk hSl
        go_wp2_with fail
        clear q7
        refine wp_region_ordQ (.pure 0 (.pure 1 (.pure 2 (.pure 3 (.pure 4 (.pure 5 (.pure 6 (.pure 7 (.pure 8 (.pure 9 (.pure 10 (.pure 11 (.pure 12 (.pure 13 (.pure 14 (.pure 15 (.eff 16 (.pure 17 .nil)))))))))))))))))) (fun y => y.cell? ⟨ab, aoff + k * 8, none⟩ = some (.int .i64 (a : Int)) ∧ y.cell? ⟨ab, aoff + k * 8 + 1, none⟩ = some (.int .i64 (c : Int)) ∧ y.cell? ⟨ab, aoff + k * 8 + 2, none⟩ = some (.int .i64 (t : Int))) (fun y => Sts w (rowP 35 1 (.slice oa k oc) k ovs :: rowsP 5 ovs UK :: []) y) (by kernel_rfl) (by kernel_rfl) (H5.out.drew (stabC (rowP_stable _ _ _ _ _) (stabC (rowsP_stable _ _ _) (stab0)))) (fun y hy => HC3.out y hy.below) ?_
        iterate 16
          (apply ordq_pure (ho := rfl)
           · go_simp
           · intro x hx; obtain ⟨x1, x2, x3⟩ := hx; go_simp; rfl
           apply ordq_norm
           · go_simp; rfl)
        apply ordq_eff (ho := rfl)
        · go_simp
        intro y hy
        refine eff_call (f := 68) (by go_simp) (KTL.out y _ _ (HRD.out y hy.below) (HNK.out)) ?_
        rintro e w3 ⟨r, rfl, hN⟩
        have h4 := Sts.new (stabC (rowP_stable _ _ _ _ _) (stabC (rowsP_stable _ _ _) (stab0))) hy hN
        rw [HTLU.out] at h4
        obtain ⟨ta, tc, rfl⟩ := own_slice h4.rowOwn
        refine ⟨_, rfl, (fun y => y.cell? ⟨ab, aoff + k * 8, none⟩ = some (.int .i64 (a : Int)) ∧ y.cell? ⟨ab, aoff + k * 8 + 1, none⟩ = some (.int .i64 (c : Int)) ∧ y.cell? ⟨ab, aoff + k * 8 + 2, none⟩ = some (.int .i64 (t : Int))), (fun y => Sts w (rowP 5 1 (.slice ta N tc) N (u8s TL) :: rowP 35 1 (.slice oa k oc) k ovs :: rowsP 5 ovs UK :: []) y), h4, (fun y hy => HC3.out y hy.below), (fun _ h => h), ?_⟩
        clear h4 hy y hN
        apply ordq_norm
        · go_simp; rfl
        iterate 1
          (apply ordq_pure (ho := rfl)
           · go_simp
           · intro x hx; go_simp; rfl
           apply ordq_norm
           · go_simp; rfl)
        refine ordq_nil fun z hz => ?_
        have H6 := hid hz
        clear hz H5
        have h6 := H6.out
        have H6 := hid h6
        clear h6 q0
        go_wp2_with fail
        refine (KID.out _).mono ?_
        rintro e w6 ⟨r, rfl, hN⟩
        have h7 := Sts.new (stabC (rowP_stable _ _ _ _ _) (stabC (rowP_stable _ _ _ _ _) (stabC (rowsP_stable _ _ _) (stab0)))) H6.out hN
        rw [HIDU.out] at h7
        obtain ⟨ia, ic, rfl⟩ := own_slice h7.rowOwn
        have h8 := Sts.lit0 5 (stabC (rowP_stable _ _ _ _ _) (stabC (rowP_stable _ _ _ _ _) (stabC (rowP_stable _ _ _ _ _) (stabC (rowsP_stable _ _ _) (stab0))))) h7
        have HRT := hid (Sts.rdRow (h8.tail.tail) HTLU.out)
        have HNT := hid (NilOk.own h8.tail.tail.rowOwn)
        have H8 := hid h8
        clear h7 h8 hN H6
        go_wp2_with (first
          | (at_builtin; refine wpList_app8 (l := []) rfl (.tmp 61) (.tmp 62) rfl H8.out (stabC (rowP_stable _ _ _ _ _) (stabC (rowP_stable _ _ _ _ _) (stabC (rowP_stable _ _ _ _ _) (stabC (rowsP_stable _ _ _) (stab0))))) rfl rfl HRT.out HNT.out HLA.out ?_; intro v1 w7 h9
             rw [← List.length_append, List.nil_append, HTLL.out] at h9
             obtain ⟨ja, jc, rfl⟩ := own_slice h9.rowOwn
             have HRI := hid (Sts.rdRow h9.tail HIDU.out)
             have HNI := hid (NilOk.own h9.tail.rowOwn)
             have H9 := hid h9
             clear h9 H8 HRT HNT)
          | (at_builtin; refine wpList_app8 (l := TL) rfl (.tmp 63) (.tmp 64) rfl (by rw [HTLL.out]; exact H9.out) (stabC (rowP_stable _ _ _ _ _) (stabC (rowP_stable _ _ _ _ _) (stabC (rowP_stable _ _ _ _ _) (stabC (rowsP_stable _ _ _) (stab0))))) rfl rfl HRI.out HNI.out HLB.out ?_; intro v2 w8 h10
             rw [← List.length_append, HDT.out, HDTL.out] at h10
             obtain ⟨ua, uc, rfl⟩ := own_slice h10.rowOwn
             have h10' := Sts.sub (h10) (.cons_cons _ (.cons _ (.cons _ (.cons_cons _ (.cons_cons _ (List.Sublist.refl _))))))
             have H10 := hid h10'
             have KEN := hid (KENC.out ua uc w8 (Sts.rdRow h10' HDTU.out))
             clear h10 h10' H9 HRI HNI)
          | (go_at_call 70; refine KEN.out.mono ?_; rintro e w9 ⟨r, rfl, hN⟩
             have h11 := Sts.new (stabC (rowP_stable _ _ _ _ _) (stabC (rowP_stable _ _ _ _ _) (stabC (rowsP_stable _ _ _) (stab0)))) H10.out hN
             rw [HFRU.out] at h11
             obtain ⟨fa, fc, rfl⟩ := own_slice h11.rowOwn
             have KWR := hid (KWRP.out w9 fa fc (Sts.rdRow h11 HFRU.out))
             have H11 := hid (Sts.sub (h11) (.cons_cons _ (.cons _ (.cons_cons _ (.cons_cons _ (List.Sublist.refl _))))))
             clear h11 hN H10 KEN)
          | (go_at_call 71; refine KWR.out.mono ?_; rintro e w10 ⟨r, rfl, hN⟩
             have h12 := Sts.new (stabC (rowP_stable _ _ _ _ _) (stabC (rowP_stable _ _ _ _ _) (stabC (rowsP_stable _ _ _) (stab0)))) H11.out hN
             rw [HUPU.out] at h12
             obtain ⟨va, vc, rfl⟩ := own_slice h12.rowOwn
             have h13 := Sts.alloc (stabC (rowP_stable _ _ _ _ _) (stabC (rowP_stable _ _ _ _ _) (stabC (rowP_stable _ _ _ _ _) (stabC (rowsP_stable _ _ _) (stab0))))) h12 (.cells #[.slice va 260 vc] 35)
             have hc0 := (Sts.boxCell h13 0 _ rfl).1
             have HC0 := hid hc0
             have H13 := hid (Sts.sub (((h13).perm (List.perm_middle (l₁ := [_, _, _]))).perm (.cons _ (.cons _ (.cons _ (List.perm_middle (l₁ := [_])))))) (.cons_cons _ (.cons_cons _ (.cons_cons _ (.cons_cons _ (.cons _ (List.Sublist.refl _)))))))
             clear h12 h13 hN hc0 H11 KWR)
          | (at_builtin; refine wpList_app1 HOV.out 43 35 (.slice none 0 0) 24 Tryz.underlying43 infoS8 rfl (by decide) rfl (.tmp 70) (.tmp 73) rfl H13.out (stabC (blkP_stable _ _) (stabC (rowP_stable _ _ _ _ _) (stabC (rowsP_stable _ _ _) (stab0)))) w10.heap.size (.slice va 260 vc) rfl rfl HC0.out rfl HK9.out ?_; intro v3 w11 h14
             have h16 := Sts.sub (((h14).perm (List.perm_middle (l₁ := [_, _]))).perm (.cons _ (List.perm_middle (l₁ := [_, _])))) (.cons_cons _ (.cons_cons _ (.cons_cons _ (.cons _ (List.Sublist.refl _)))))
             have h17 := (Sts.join h16 (fun F hF => rowsP_snoc (u := UP) (by rw [HUPL.out]; exact hF))).swap
             rw [← HUS.out] at h17
             have H15 := hid h17
             clear h14 h16 h17 H13 HC0))
        clear e9
        have hk15 := HK16.out
        go_roundw
        case rel => exact ⟨k + 1, ovs ++ [.slice va 260 vc], HK1.out, congrArg (Value.int .i64) HE8.out, H15.out⟩
        case measure =>
          rw [HE8.out]
          have := HK1.out
          simp [intOf]
          omega
    · obtain rfl : k = S.length := by omega
      have H := hid hs
      have HOV := hid hov
      have hUK2 : UK = ups 0 (S.map RepA.rep) := by rw [hUK, List.take_length]
      have HU := hid hUK2
      have dk : decide (((S.length : Nat) : Int) < ((S.length : Nat) : Int)) = false := decide_eq_false (by omega)
      clear hs hov hUK hUK2 hk hlt
      go_wp2_with fail
      go_ret
      refine ⟨oa, oc, ovs, rfl, HOV.out, ?_⟩
      rw [← HU.out]
      exact H.out
end Go.Proofs.YtnklmadmenkdoaaGreat
