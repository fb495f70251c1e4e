/- The unpacker takes packets out. The unpacker takes a frame's data. -/
import Derived.Test.YtnklmadmenkdoaaGreatQSdpU
set_option linter.unusedVariables false
set_option linter.unusedSimpArgs false
namespace Go.Proofs.YtnklmadmenkdoaaGreat
open Go.RowKit Go.Proofs.Num
def lenC : Option Value → Nat
  | some (.slice _ n _) => n
  | _ => 0
theorem app_get1 (P I : List Nat) (j : Nat) (x : Nat) (h : P[j]? = some x) : (u8s (P ++ I))[j]? = some (.int .u8 (x : Int)) := by
  have hl := (List.getElem?_eq_some_iff.1 h).1
  simp only [u8s, List.getElem?_map]
  rw [List.getElem?_append_left hl, h]; rfl
theorem app_get2 (P I : List Nat) (j p : Nat) (x : Nat) (hp : P.length = p) (h : I[j]? = some x) : (u8s (P ++ I))[p + j]? = some (.int .u8 (x : Int)) := by
  simp only [u8s, List.getElem?_map]
  rw [List.getElem?_append_right (by omega), show p + j - P.length = j by omega, h]; rfl
theorem idl_word : bits .or .i64 (IntKind.i64.wrap (IntKind.i64.wrap (bits .and .u8 7 7) * 256)) (IntKind.i64.wrap 255) = 2047 := by
  rw [show bits .and .u8 7 7 = ((7 : Nat) : Int) by decide]
  exact word_or 7 255 (by decide) (by decide)
theorem tel_word (a : Nat) (ha : a < 256) : bits .or .i64 (IntKind.i64.wrap (IntKind.i64.wrap (bits .and .u8 8 7) * 256)) (IntKind.i64.wrap (a : Int)) = (a : Int) := by
  rw [show bits .and .u8 8 7 = ((0 : Nat) : Int) by decide]
  have h := word_or 0 a (by decide) ha
  rw [h]; simp
section
variable {W w : World} {l : List HProp} (hl : ∀ B ∈ l, Stable B) (q n g gc : Nat)
include hl
set_option maxRecDepth 100000 in
set_option maxHeartbeats 8000000 in
theorem cUnpPackets (a c m : Nat) (d : List Nat) (ha : a < 256) (hc : c ≤ 16383) (hd0 : 1 ≤ d.length) (hd : d.length ≤ 220) (hm0 : 1 ≤ m) (hdm : d.length + 6 + (m + 6) = 244) (hd8 : ∀ x ∈ d, x < 256)
    (hs : Sts W (blkP q (unpO true true n (.slice (some ⟨g, 0, none⟩) 244 gc)) :: rowP 5 1 (.slice (some ⟨g, 0, none⟩) 244 gc) 244 (u8s (Pkt.tel a c d ++ Pkt.idl m)) :: l) w) :
    Calls Tryz.prog 209 #[.pointer (some ⟨q, 0, none⟩)] w fun e w' => ∃ oa oc xa xc va vc, e = .returned (.slice oa 1 oc) ∧ (NilOk (.slice va 0 vc) ∧ vc ≤ maxLen) ∧ Sts W (blkP q (unpO true true n (.slice va 0 vc)) :: rowP 35 1 (.slice oa 1 oc) 1 [.slice xa (d.length + 6) xc] :: rowP 5 1 (.slice xa (d.length + 6) xc) (d.length + 6) (u8s (Pkt.tel a c d)) :: l) w' := by
  obtain ⟨P, hP⟩ : ∃ P, P = Pkt.tel a c d := ⟨_, rfl⟩
  obtain ⟨I, hI⟩ : ∃ I, I = Pkt.idl m := ⟨_, rfl⟩
  obtain ⟨p, hp⟩ : ∃ p, p = d.length + 6 := ⟨_, rfl⟩
  have hPl : P.length = p := by rw [hP, Pkt.tel_len, hp]
  have hIl : I.length = 244 - p := by rw [hI, Pkt.idl_len]; omega
  have hP8 : ∀ x ∈ P, x < 256 := by rw [hP]; exact Pkt.tel_lt a c d ha hc hd8 (by omega)
  have hI8 : ∀ x ∈ I, x < 256 := by rw [hI]; exact Pkt.idl_lt m (by omega)
  obtain ⟨x4, hx4⟩ : ∃ x, x = (d.length - 1) / 256 := ⟨_, rfl⟩
  obtain ⟨x5, hx5⟩ : ∃ x, x = (d.length - 1) % 256 := ⟨_, rfl⟩
  obtain ⟨y4, hy4⟩ : ∃ x, x = (m - 1) / 256 := ⟨_, rfl⟩
  obtain ⟨y5, hy5⟩ : ∃ x, x = (m - 1) % 256 := ⟨_, rfl⟩
  have P0 : P[0]? = some 8 := by rw [hP]; rfl
  have P1 : P[1]? = some a := by rw [hP]; rfl
  have P4 : P[4]? = some x4 := by rw [hP, hx4]; rfl
  have P5 : P[5]? = some x5 := by rw [hP, hx5]; rfl
  have I0 : I[0]? = some 7 := by rw [hI]; rfl
  have I1 : I[1]? = some 255 := by rw [hI]; rfl
  have I4 : I[4]? = some y4 := by rw [hI, hy4]; rfl
  have I5 : I[5]? = some y5 := by rw [hI, hy5]; rfl
  rw [← hP, ← hI] at hs
  rw [← hP, ← hp]
  have hcap := (Rd.cap (Sts.rdRow hs.tail (by rw [u8s_len, List.length_append, hPl, hIl]; omega))).2
  have PP := hid (show ∀ y : World, Sts W (blkP q (unpO true true n (.slice (some ⟨g, 0, none⟩) 244 gc)) :: rowP 5 1 (.slice (some ⟨g, 0, none⟩) 244 gc) 244 (u8s (P ++ I)) :: l) y → y.cell? ⟨g, 0, none⟩ = some (.int .u8 ((8 : Nat) : Int)) ∧ y.cell? ⟨g, 0 + 4, none⟩ = some (.int .u8 (x4 : Int)) ∧ y.cell? ⟨g, 0 + 5, none⟩ = some (.int .u8 (x5 : Int)) from fun y hy => ⟨Sts.rowCell hy.tail 0 (by decide) _ (app_get1 P I 0 8 P0), Sts.rowCell hy.tail (0 + 4) (by decide) _ (app_get1 P I 4 x4 P4), Sts.rowCell hy.tail (0 + 5) (by decide) _ (app_get1 P I 5 x5 P5)⟩)
  have KL := hid (show ∀ y : World, Sts W (blkP q (unpO true true n (.slice (some ⟨g, 0, none⟩) 244 gc)) :: rowP 5 1 (.slice (some ⟨g, 0, none⟩) 244 gc) 244 (u8s (P ++ I)) :: l) y → Calls Tryz.prog 257 #[.slice (some ⟨g, 0, none⟩) 244 gc] y fun e w' => e = .returned (.tuple #[.int .i64 (p : Int), .bool true]) ∧ ∃ k, w' = y.drewN k from fun y hy => by
    obtain ⟨q0, q4, q5⟩ := PP.out y hy
    have h := cUnpLen y g 0 244 gc 8 x4 x5 (by decide) (by decide) (by omega) (by omega) (by omega) (by omega) q0 q4 q5
    rw [show 256 * x4 + x5 + 7 = p by omega] at h
    exact h)
  have KL2 := hid (show ∀ (y : World) (L : List HProp), Sts W (rowP 5 1 (.slice (some ⟨g, 0, none⟩) 244 gc) 244 (u8s (P ++ I)) :: L) y → Calls Tryz.prog 257 #[.slice (some ⟨g, p, none⟩) (244 - p) (gc - p)] y fun e w' => e = .returned (.tuple #[.int .i64 ((244 - p : Nat) : Int), .bool true]) ∧ ∃ k, w' = y.drewN k from fun y L hy => by
    have h := cUnpLen y g p (244 - p) (gc - p) 7 y4 y5 (by omega) (by decide) (by omega) (by omega) (by omega) (by omega) (by have := Sts.rowCell hy (p + 0) (by omega) _ (app_get2 P I 0 p 7 hPl I0); exact this) (Sts.rowCell hy (p + 4) (by omega) _ (app_get2 P I 4 p y4 hPl I4)) (Sts.rowCell hy (p + 5) (by omega) _ (app_get2 P I 5 p y5 hPl I5))
    rw [show 256 * y4 + y5 + 7 = 244 - p by omega] at h
    exact h)
  have HRP := hid (show ∀ (y : World) (L : List HProp), Sts W (rowP 5 1 (.slice (some ⟨g, 0, none⟩) 244 gc) 244 (u8s (P ++ I)) :: L) y → Rd y (.slice (some ⟨g, 0, none⟩) p gc) (u8s P) from fun y L hy => by
    have h := Rd.take (Sts.rdRow hy (by rw [u8s_len, List.length_append, hPl, hIl]; omega)) p (by rw [u8s_len, List.length_append, hPl]; omega) gc ⟨by omega, hcap.2⟩
    have e : (u8s (P ++ I)).take p = u8s P := by unfold u8s; rw [← List.map_take, ← hPl, List.take_left]
    rw [e] at h; exact h)
  have HRI := hid (show ∀ (y : World) (L : List HProp), Sts W (rowP 5 1 (.slice (some ⟨g, 0, none⟩) 244 gc) 244 (u8s (P ++ I)) :: L) y → Rd y (.slice (some ⟨g, p, none⟩) (244 - p) (gc - p)) (u8s I) from fun y L hy => by
    have hx : RdB y (.slice (some ⟨g, 0, none⟩) 244 gc) (P ++ I ++ []) := ⟨by rw [List.append_nil]; exact Sts.rdRow hy (by rw [u8s_len, List.length_append, hPl, hIl]; omega), by
      intro x hx
      simp only [List.append_nil, List.mem_append] at hx
      rcases hx with h | h
      · exact hP8 x h
      · exact hI8 x h⟩
    have h := (RdB.mid hx (gc - p) (by rw [hIl]; unfold maxLen at *; omega)).1
    rw [hIl, hPl, Nat.zero_add] at h
    exact h)
  have HPL := hid hPl
  have HIL := hid hIl
  have HP8 := hid hP8
  have F0 := hid P0
  have F1 := hid P1
  have J0 := hid I0
  have J1 := hid I1
  have HS := hid hs
  have HL := hid hl
  have hpl : p < 244 - 6 := by omega
  have hp6 : 13 ≤ p + 6 := by omega
  have hp7 : 7 ≤ p := by omega
  have hgc : 244 ≤ gc := hcap.1
  have HCAP := hid hcap
  have d1 : decide ((244 : Int) < (p : Int)) = false := decide_eq_false (by omega)
  have d2 : decide ((6 : Int) ≤ ((244 - p : Nat) : Int)) = true := decide_eq_true (by omega)
  have d3 : decide (((244 - p : Nat) : Int) < ((244 - p : Nat) : Int)) = false := decide_eq_false (by omega)
  have s1 : (p : Int) ≤ (gc : Int) := by omega
  have s2 : ¬ gc = p := by omega
  have s3 : (p : Int) ≤ 244 := by omega
  have s4 : ((244 - p : Nat) : Int) ≤ ((gc - p : Nat) : Int) := by omega
  have HW1 := hid (tel_word a ha)
  have hne : ((a : Int) != 2047) = true := by rw [bne_iff_ne]; omega
  clear hs hl hP hI hp hPl hIl hP8 hI8 hx4 hx5 hy4 hy5 P0 P1 P4 P5 I0 I1 I4 I5 hcap hdm hd hd0 hm0 hd8 ha hc
  go_enter Tryz.func209, Tryz.ntmps209
  go_wp2_with fail
  go_loopw [3] (fun o wr => (o = .slice none 0 0 ∧ Sts W (blkP q (unpO true true n (.slice (some ⟨g, 0, none⟩) 244 gc)) :: rowP 5 1 (.slice (some ⟨g, 0, none⟩) 244 gc) 244 (u8s (P ++ I)) :: l) wr) ∨ (∃ oa oc xa xc, o = .slice oa 1 oc ∧ Sts W (blkP q (unpO true true n (.slice (some ⟨g, p, none⟩) (244 - p) (gc - p))) :: rowP 35 1 (.slice oa 1 oc) 1 [.slice xa p xc] :: rowP 5 1 (.slice xa p xc) p (u8s P) :: rowP 5 1 (.slice (some ⟨g, 0, none⟩) 244 gc) 244 (u8s (P ++ I)) :: l) wr) ∨ (∃ oa oc xa xc va vc, o = .slice oa 1 oc ∧ (NilOk (.slice va 0 vc) ∧ vc ≤ maxLen) ∧ Sts W (blkP q (unpO true true n (.slice va 0 vc)) :: rowP 35 1 (.slice oa 1 oc) 1 [.slice xa p xc] :: rowP 5 1 (.slice xa p xc) p (u8s P) :: l) wr)) (fun _ wr => lenC (wr.cell? ⟨q, 5, none⟩))
  case atStart => exact Or.inl ⟨rfl, HS.out⟩
  case round =>
    clear HS
    rcases hrel with ⟨rfl, hs⟩ | ⟨oa, oc, xa, xc, rfl, hs⟩ | ⟨oa, oc, xa, xc, va, vc, rfl, hvc, hs⟩
    · have c5 : wr.cell? ⟨q, 5, none⟩ = some (.slice (some ⟨g, 0, none⟩) 244 gc) := (Sts.boxCell hs 5 _ rfl).1
      have K1 := hid (KL.out _ hs)
      have HS0 := hid hs
      have C5 := hid c5
      clear hs
      go_wp2_with (go_at_call 257; refine K1.out.mono ?_; rintro e w1 ⟨rfl, k, rfl⟩)
      have h1 := HS0.out.quiet (stabC (blkP_stable _ _) (stabC (rowP_stable _ _ _ _ _) HL.out)) (below_drewN (Below.refl wr.heap.size wr) k)
      refine (cClone8 _ _ P (HRP.out _ _ h1.swap) (NilOk.some _ _ _) (by have := HPL.out; omega)).mono ?_
      rintro e w2 ⟨r, rfl, hN, -⟩
      have h2 := Sts.new (stabC (blkP_stable _ _) (stabC (rowP_stable _ _ _ _ _) HL.out)) h1 hN
      rw [u8s_len, HPL.out] at h2
      obtain ⟨gx, xc, hxv⟩ := own_pos h2.rowOwn (by omega)
      subst hxv
      have c5' : w2.cell? ⟨q, 5, none⟩ = some (.slice (some ⟨g, 0, none⟩) 244 gc) := (Sts.boxCell h2.tail 5 _ rfl).1
      have H2 := hid h2.swap
      clear h1 h2 hN c5 K1
      have i0 : 0 < p := by omega
      have i0' : (0 : Int) < (p : Int) := by omega
      have i1 : (1 : Int) < (p : Int) := by omega
      go_wp2_with (first
        | (refine wpList_cellS H2.out (stabC (rowP_stable _ _ _ _ _) (stabC (rowP_stable _ _ _ _ _) HL.out)) rfl (.tmp 51) (.tmp 49) 35 rfl 5 (.slice (some ⟨g, p, none⟩) (244 - p) (gc - p)) rfl rfl szSl8 (show 5 < 6 by decide) rfl ?_; intro w3 h3
           have h3' : Sts W (blkP q (unpO true true n (.slice (some ⟨g, p, none⟩) (244 - p) (gc - p))) :: rowP 5 1 (.slice (some ⟨gx, 0, none⟩) p xc) p (u8s P) :: rowP 5 1 (.slice (some ⟨g, 0, none⟩) 244 gc) 244 (u8s (P ++ I)) :: l) w3 := h3
           have x0 : w3.cell? ⟨gx, 0, none⟩ = some (.int .u8 8) := Sts.rowCell h3'.tail 0 (by omega) _ (by simp [u8s, F0.out])
           have x1 : w3.cell? ⟨gx, 1, none⟩ = some (.int .u8 (a : Int)) := Sts.rowCell h3'.tail 1 (by omega) _ (by simp [u8s, F1.out])
           have H3 := hid h3'
           clear h3 h3'))
      go_quiet (fail)
      rw [HW1.out]
      have h4 := H3.out.quiet (stabC (blkP_stable _ _) (stabC (rowP_stable _ _ _ _ _) (stabC (rowP_stable _ _ _ _ _) HL.out))) (below_drewN (Below.refl w3.heap.size w3) nq)
      have h5 := Sts.rowNil 35 (Sts.alloc (stabC (blkP_stable _ _) (stabC (rowP_stable _ _ _ _ _) (stabC (rowP_stable _ _ _ _ _) HL.out))) h4 (.cells #[.slice (some ⟨gx, 0, none⟩) p xc] 35))
      have HC := hid (Sts.boxCell h5.tail 0 _ rfl).1
      have H5 := hid h5
      clear h4 h5 x0 x1
      go_wp2_with (at_builtin; refine wpList_app1 rfl 43 35 (.slice none 0 0) 24 Tryz.underlying43 infoS8 rfl (by decide) rfl (.tmp 64) (.tmp 66) rfl H5.out (stabC (blkP_stable _ _) (stabC (blkP_stable _ _) (stabC (rowP_stable _ _ _ _ _) (stabC (rowP_stable _ _ _ _ _) HL.out)))) _ (.slice (some ⟨gx, 0, none⟩) p xc) rfl rfl HC.out rfl (by decide) ?_; intro v1 w8 h9
                   obtain ⟨oa, oc, rfl⟩ := own_slice h9.rowOwn
                   have H9 := hid ((Sts.sub h9 (.cons_cons _ (.cons _ (List.Sublist.refl _)))).swap)
                   clear h9)
      refine ⟨Or.inr (Or.inl ⟨oa, oc, some ⟨gx, 0, none⟩, xc, rfl, H9.out⟩), ?_⟩
      rw [show wr.cell? ⟨q, 5, none⟩ = some (.slice (some ⟨g, 0, none⟩) 244 gc) from C5.out, (Sts.boxCell H9.out 5 _ rfl).1]
      show 244 - p < 244
      omega
    · have c5 : wr.cell? ⟨q, 5, none⟩ = some (.slice (some ⟨g, p, none⟩) (244 - p) (gc - p)) := (Sts.boxCell hs 5 _ rfl).1
      have K1 := hid (KL2.out _ _ (hs.perm (List.perm_middle (l₁ := [_, _, _]))))
      have HS0 := hid hs
      have C5 := hid c5
      have s5 : ¬ gc - p = 0 := by omega
      clear hs
      go_wp2_with (go_at_call 257; refine K1.out.mono ?_; rintro e w1 ⟨rfl, k, rfl⟩)
      have h1 := HS0.out.quiet (stabC (blkP_stable _ _) (stabC (rowP_stable _ _ _ _ _) (stabC (rowP_stable _ _ _ _ _) (stabC (rowP_stable _ _ _ _ _) HL.out)))) (below_drewN (Below.refl wr.heap.size wr) k)
      have hci := cClone8 (wr.drewN k) (.slice (some ⟨g, p, none⟩) (244 - p) (gc - p)) I (HRI.out _ _ (h1.perm (List.perm_middle (l₁ := [_, _, _])))) (NilOk.some _ _ _) (by have := HIL.out; omega)
      refine hci.mono ?_
      rintro e w2 ⟨r, rfl, hN, -⟩
      have h2 := Sts.new (stabC (blkP_stable _ _) (stabC (rowP_stable _ _ _ _ _) (stabC (rowP_stable _ _ _ _ _) (stabC (rowP_stable _ _ _ _ _) HL.out)))) h1 hN
      rw [u8s_len, HIL.out] at h2
      obtain ⟨gx, yc, hxv⟩ := own_pos h2.rowOwn (by omega)
      subst hxv
      have c5' : w2.cell? ⟨q, 5, none⟩ = some (.slice (some ⟨g, p, none⟩) (244 - p) (gc - p)) := (Sts.boxCell h2.tail 5 _ rfl).1
      have H2 := hid h2.swap
      clear h1 h2 hN c5 K1 hci
      have i0 : 0 < 244 - p := by omega
      have i0' : (0 : Int) < ((244 - p : Nat) : Int) := by omega
      have i1 : (1 : Int) < ((244 - p : Nat) : Int) := by omega
      have HW7 := hid idl_word
      have HST2 := hid (show ∀ B ∈ rowP 5 1 (.slice (some ⟨gx, 0, none⟩) (244 - p) yc) (244 - p) (u8s I) :: rowP 35 1 (.slice oa 1 oc) 1 [.slice xa p xc] :: rowP 5 1 (.slice xa p xc) p (u8s P) :: rowP 5 1 (.slice (some ⟨g, 0, none⟩) 244 gc) 244 (u8s (P ++ I)) :: l, Stable B from stabC (rowP_stable _ _ _ _ _) (stabC (rowP_stable _ _ _ _ _) (stabC (rowP_stable _ _ _ _ _) (stabC (rowP_stable _ _ _ _ _) HL.out))))
      by_cases hgc2 : gc - p = 244 - p
      · have C5 := C5
        go_wp2_with (first
          | (refine wpList_cellS H2.out HST2.out rfl (.tmp 51) (.tmp 49) 35 rfl 5 (.slice (some ⟨g, p, none⟩) 0 (0)) rfl rfl szSl8 (show 5 < 6 by decide) rfl ?_; intro w3 h3
             have h3' : Sts W (blkP q (unpO true true n (.slice (some ⟨g, p, none⟩) 0 (0))) :: rowP 5 1 (.slice (some ⟨gx, 0, none⟩) (244 - p) yc) (244 - p) (u8s I) :: rowP 35 1 (.slice oa 1 oc) 1 [.slice xa p xc] :: rowP 5 1 (.slice xa p xc) p (u8s P) :: rowP 5 1 (.slice (some ⟨g, 0, none⟩) 244 gc) 244 (u8s (P ++ I)) :: l) w3 := h3
             have x0 : w3.cell? ⟨gx, 0, none⟩ = some (.int .u8 7) := Sts.rowCell h3'.tail 0 (by omega) _ (by simp [u8s, J0.out])
             have x1 : w3.cell? ⟨gx, 1, none⟩ = some (.int .u8 255) := Sts.rowCell h3'.tail 1 (by omega) _ (by simp [u8s, J1.out])
             have H3 := hid h3'
             clear h3 h3'))
        go_quiet (fail)
        rw [HW7.out]
        go_wp2_with fail
        have h4 := H3.out.quiet (stabC (blkP_stable _ _) HST2.out) (below_drewN (Below.refl w3.heap.size w3) nq)
        have h5 : Sts W (blkP q (unpO true true n (.slice (some ⟨g, p, none⟩) 0 (0))) :: rowP 35 1 (.slice oa 1 oc) 1 [.slice xa p xc] :: rowP 5 1 (.slice xa p xc) p (u8s P) :: l) (w3.drewN nq) := Sts.sub h4 (.cons_cons _ (.cons _ (.cons_cons _ (.cons_cons _ (.cons _ (List.Sublist.refl _))))))
        refine ⟨Or.inr (Or.inr ⟨oa, oc, xa, xc, _, _, rfl, ⟨NilOk.some _ _ _, by decide⟩, h5⟩), ?_⟩
        rw [show wr.cell? ⟨q, 5, none⟩ = some (.slice (some ⟨g, p, none⟩) (244 - p) (gc - p)) from C5.out, (Sts.boxCell h5 5 _ rfl).1]
        show 0 < 244 - p
        omega
      · go_wp2_with (first
          | (refine wpList_cellS H2.out HST2.out rfl (.tmp 51) (.tmp 49) 35 rfl 5 (.slice (some ⟨g, p + (244 - p), none⟩) 0 (gc - p - (244 - p))) rfl rfl szSl8 (show 5 < 6 by decide) rfl ?_; intro w3 h3
             have h3' : Sts W (blkP q (unpO true true n (.slice (some ⟨g, p + (244 - p), none⟩) 0 (gc - p - (244 - p)))) :: rowP 5 1 (.slice (some ⟨gx, 0, none⟩) (244 - p) yc) (244 - p) (u8s I) :: rowP 35 1 (.slice oa 1 oc) 1 [.slice xa p xc] :: rowP 5 1 (.slice xa p xc) p (u8s P) :: rowP 5 1 (.slice (some ⟨g, 0, none⟩) 244 gc) 244 (u8s (P ++ I)) :: l) w3 := h3
             have x0 : w3.cell? ⟨gx, 0, none⟩ = some (.int .u8 7) := Sts.rowCell h3'.tail 0 (by omega) _ (by simp [u8s, J0.out])
             have x1 : w3.cell? ⟨gx, 1, none⟩ = some (.int .u8 255) := Sts.rowCell h3'.tail 1 (by omega) _ (by simp [u8s, J1.out])
             have H3 := hid h3'
             clear h3 h3'))
        go_quiet (fail)
        rw [HW7.out]
        go_wp2_with fail
        have h4 := H3.out.quiet (stabC (blkP_stable _ _) HST2.out) (below_drewN (Below.refl w3.heap.size w3) nq)
        have h5 : Sts W (blkP q (unpO true true n (.slice (some ⟨g, p + (244 - p), none⟩) 0 (gc - p - (244 - p)))) :: rowP 35 1 (.slice oa 1 oc) 1 [.slice xa p xc] :: rowP 5 1 (.slice xa p xc) p (u8s P) :: l) (w3.drewN nq) := Sts.sub h4 (.cons_cons _ (.cons _ (.cons_cons _ (.cons_cons _ (.cons _ (List.Sublist.refl _))))))
        refine ⟨Or.inr (Or.inr ⟨oa, oc, xa, xc, _, _, rfl, ⟨NilOk.some _ _ _, by have := HCAP.out; omega⟩, h5⟩), ?_⟩
        rw [show wr.cell? ⟨q, 5, none⟩ = some (.slice (some ⟨g, p, none⟩) (244 - p) (gc - p)) from C5.out, (Sts.boxCell h5 5 _ rfl).1]
        show 0 < 244 - p
        omega
    · have c5 : wr.cell? ⟨q, 5, none⟩ = some (.slice va 0 vc) := (Sts.boxCell hs 5 _ rfl).1
      have HS0 := hid hs
      have HVC := hid hvc
      clear hs hvc
      go_wp2_with fail
      go_ret
      exact ⟨oa, oc, xa, xc, va, vc, rfl, HVC.out, HS0.out⟩
end
end Go.Proofs.YtnklmadmenkdoaaGreat
namespace Go.Proofs.YtnklmadmenkdoaaGreat
open Go.RowKit Go.Proofs.Num
set_option maxRecDepth 100000 in
theorem cUnpFit (w : World) (va da : Option Addr) (vc dc : Nat) : Calls Tryz.prog 207 #[.slice va 0 vc, .slice da 244 dc] w fun e w' => e = .returned (.tuple #[.int .i64 0, .bool true]) ∧ w = w' := by
  go_enter Tryz.func207, Tryz.ntmps207
  go_wp2_with fail
  go_ret2
  exact ⟨rfl, rfl⟩
/-- An unpacker that has taken i frames. -/
def unpS (q i : Nat) : HProp := fun w F => ∃ va vc, (NilOk (.slice va 0 vc) ∧ vc ≤ maxLen) ∧ blkP q (unpO (decide (0 < i)) (decide (0 < i)) i (.slice va 0 vc)) w F
theorem unpS_stable (q i : Nat) : Stable (unpS q i) where
  dom := by rintro w F ⟨va, vc, _, h⟩; exact (blkP_stable _ _).dom h
  keep := by rintro w w' F S ⟨va, vc, h0, h⟩ hk hS; exact ⟨va, vc, h0, (blkP_stable _ _).keep h hk hS⟩
theorem Sts.openU {W w : World} {q i : Nat} {l : List HProp} (h : Sts W (unpS q i :: l) w) : ∃ va vc, (NilOk (.slice va 0 vc) ∧ vc ≤ maxLen) ∧ Sts W (blkP q (unpO (decide (0 < i)) (decide (0 < i)) i (.slice va 0 vc)) :: l) w := by
  obtain ⟨F, ⟨F1, F2, ⟨va, vc, h0, a⟩, r⟩, hb, hn⟩ := h
  exact ⟨va, vc, h0, F, ⟨F1, F2, a, r⟩, hb, hn⟩
theorem Sts.closeU {W w : World} {q i : Nat} {va : Option Addr} {vc : Nat} {l : List HProp} (h : Sts W (blkP q (unpO (decide (0 < i)) (decide (0 < i)) i (.slice va 0 vc)) :: l) w) (h0 : NilOk (.slice va 0 vc) ∧ vc ≤ maxLen) : Sts W (unpS q i :: l) w :=
  h.weaken (fun F hF => ⟨va, vc, h0, hF⟩)
section
variable {W w : World} {l : List HProp} (hl : ∀ B ∈ l, Stable B) (q i : Nat)
include hl
set_option maxRecDepth 100000 in
set_option maxHeartbeats 4000000 in
theorem cUnpTake (hi : i < 100) (a c m : Nat) (d : List Nat) (ha : a < 256) (hc : c ≤ 16383) (hd0 : 1 ≤ d.length) (hd : d.length ≤ 220) (hm0 : 1 ≤ m) (hdm : d.length + 6 + (m + 6) = 244) (hd8 : ∀ x ∈ d, x < 256) (db doff dc : Nat)
    (hR : RdsB W l (.slice (some ⟨db, doff, none⟩) 244 dc) (Pkt.tel a c d ++ Pkt.idl m)) (hs : Sts W (unpS q i :: l) w) :
    Calls Tryz.prog 135 #[.pointer (some ⟨q, 0, none⟩), .int .i64 (i : Int), .int .i64 0, .slice (some ⟨db, doff, none⟩) 244 dc] w fun e w' => ∃ oa oc xa xc, e = .returned (.slice oa 1 oc) ∧ Sts W (unpS q (i + 1) :: rowP 35 1 (.slice oa 1 oc) 1 [.slice xa (d.length + 6) xc] :: rowP 5 1 (.slice xa (d.length + 6) xc) (d.length + 6) (u8s (Pkt.tel a c d)) :: l) w' := by
  obtain ⟨va, vc, hv0, hs⟩ := Sts.openU hs
  obtain ⟨M, hM⟩ : ∃ M, M = Pkt.tel a c d ++ Pkt.idl m := ⟨_, rfl⟩
  have hMl : M.length = 244 := by rw [hM, List.length_append, Pkt.tel_len, Pkt.idl_len]; omega
  have HL := hid hl
  have KP := hid (show ∀ (y : World) (g gc n : Nat), Sts W (blkP q (unpO true true n (.slice (some ⟨g, 0, none⟩) 244 gc)) :: rowP 5 1 (.slice (some ⟨g, 0, none⟩) 244 gc) 244 (u8s M) :: l) y → _ from fun y g gc n hy => cUnpPackets hl q n g gc a c m d ha hc hd0 hd hm0 hdm hd8 (by rw [← hM]; exact hy))
  rw [← hM] at hR
  have hcap := (Rd.cap (hR.at hs).1).2
  have s0 : ¬ dc = 0 := by omega
  have HR := hid hR
  have HV := hid hv0
  have HML := hid hMl
  have d1 : decide ((255 : Int) < (i : Int)) = false := decide_eq_false (by omega)
  have d2 : decide ((i : Int) < 0) = false := decide_eq_false (by omega)
  rcases Nat.eq_zero_or_pos i with h0 | h0
  · subst h0
    have hs0 : Sts W (blkP q (unpO false false 0 (.slice va 0 vc)) :: l) w := hs
    have c0 : w.cell? ⟨q, 0, none⟩ = some (.bool true) := (Sts.boxCell hs0 0 _ rfl).1
    have KC := hid (cUnpCount0 hl q (.slice va 0 vc) hs0)
    have HS := hid hs0
    clear hs hs0 hl hM hMl hR hcap hv0 hd8 hdm hd hd0 hm0 hc ha hi
    go_enter Tryz.func135, Tryz.ntmps135
    go_wp2_with fail
    refine KC.out.mono ?_
    rintro e w1 ⟨rfl, h1⟩
    have c2 : w1.cell? ⟨q, 2, none⟩ = some (.bool false) := (Sts.boxCell h1 2 _ rfl).1
    have KCL := hid (cClone8 w1 (.slice (some ⟨db, doff, none⟩) 244 dc) M (HR.out.at h1).1 (NilOk.some _ _ _) (by have := HML.out; omega))
    have H1 := hid h1
    clear h1
    go_wp2_with fail
    refine KCL.out.mono ?_
    rintro e w2 ⟨r, rfl, hN, -⟩
    have h2 := Sts.new (stabC (blkP_stable _ _) HL.out) H1.out hN
    rw [u8s_len, HML.out] at h2
    obtain ⟨g, gc, hxv⟩ := own_pos h2.rowOwn (by decide)
    subst hxv
    have H2 := hid h2.swap
    clear h2 hN H1 KCL
    go_wp2_with (first
      | (refine wpList_cellS H2.out (stabC (rowP_stable _ _ _ _ _) HL.out) rfl (.tmp 78) (.tmp 76) 35 rfl 5 (.slice (some ⟨g, 0, none⟩) 244 gc) rfl rfl szSl8 (show 5 < 6 by decide) rfl ?_; intro w3 h3
         have H3 : Hid (Sts W (blkP q (unpO true false 1 (.slice (some ⟨g, 0, none⟩) 244 gc)) :: rowP 5 1 (.slice (some ⟨g, 0, none⟩) 244 gc) 244 (u8s M) :: l) w3) := hid h3
         clear h3)
      | (refine wpList_cellS H3.out (stabC (rowP_stable _ _ _ _ _) HL.out) rfl (.tmp 80) (.const (.bool true)) 4 rfl 2 (.bool true) rfl rfl szBool (show 2 < 6 by decide) rfl ?_; intro w4 h4
         have H4 : Hid (Sts W (blkP q (unpO true true 1 (.slice (some ⟨g, 0, none⟩) 244 gc)) :: rowP 5 1 (.slice (some ⟨g, 0, none⟩) 244 gc) 244 (u8s M) :: l) w4) := hid h4
         clear h4)
      | (go_at_call 209; refine (KP.out _ g gc 1 H4.out).mono ?_; rintro e w5 ⟨oa, oc, xa, xc, ua, uc, rfl, hu, h5⟩; have H5 := hid h5; have HU := hid hu; clear h5 hu))
    go_ret
    exact ⟨oa, oc, xa, xc, rfl, Sts.closeU (i := 0 + 1) H5.out HU.out⟩
  · have hd : decide (0 < i) = true := decide_eq_true h0
    have hd1 : decide (0 < i + 1) = true := decide_eq_true (Nat.succ_pos i)
    rw [hd] at hs
    have c0 : w.cell? ⟨q, 0, none⟩ = some (.bool true) := (Sts.boxCell hs 0 _ rfl).1
    have KC := hid (cUnpCountN hl q (.slice va 0 vc) i h0 (by omega) hs)
    have HS := hid hs
    have HD1 := hid hd1
    have KF := hid (fun y => cUnpFit y va (some ⟨db, doff, none⟩) vc dc)
    obtain ⟨n, hn⟩ : ∃ n, n = i + 1 := ⟨_, rfl⟩
    rw [← hn] at KC
    have HNI := hid hn
    clear hs hl hM hMl hR hcap hv0 hd8 hdm hd hd0 hm0 hc ha hi h0 hd1 hn
    go_enter Tryz.func135, Tryz.ntmps135
    go_wp2_with fail
    refine KC.out.mono ?_
    rintro e w1 ⟨rfl, h1⟩
    have c2 : w1.cell? ⟨q, 2, none⟩ = some (.bool true) := (Sts.boxCell h1 2 _ rfl).1
    have c5 : w1.cell? ⟨q, 5, none⟩ = some (.slice va 0 vc) := (Sts.boxCell h1 5 _ rfl).1
    have H1 := hid h1
    clear h1
    go_wp2_with (first
      | (go_at_call 207; refine (KF.out _).mono ?_; rintro e w2 ⟨rfl, rfl⟩)
      | (refine wpList_cellS H1.out HL.out rfl (.tmp 70) (.tmp 68) 4 rfl 2 (.bool true) rfl rfl szBool (show 2 < 6 by decide) rfl ?_; intro w3 h3
         have h3' : Sts W (blkP q (unpO true true n (.slice va 0 vc)) :: l) w3 := h3
         have c2' : w3.cell? ⟨q, 2, none⟩ = some (.bool true) := (Sts.boxCell h3' 2 _ rfl).1
         have c5' : w3.cell? ⟨q, 5, none⟩ = some (.slice va 0 vc) := (Sts.boxCell h3' 5 _ rfl).1
         have h4 := Sts.alloc (stabC (blkP_stable _ _) HL.out) h3' (.cells #[.slice va 0 vc, .slice (some ⟨db, doff, none⟩) 244 dc] 35)
         have h5 : Sts W (blkP q (unpO true true n (.slice va 0 vc)) :: l) _ := Sts.sub h4 (.cons _ (List.Sublist.refl _))
         have KCC := hid (cConcat2 _ _ va (some ⟨db, doff, none⟩) vc dc [] M (Sts.boxCell h4 0 _ rfl).1 (by have := (Sts.boxCell h4 1 _ rfl).1; rw [HML.out]; exact this) (Rd.nil _ _ _ HV.out.2) (by rw [HML.out]; exact (HR.out.at h5).1) HV.out.1 (by rw [HML.out]; exact NilOk.some _ _ _) (by rw [HML.out]; decide) (by rw [HML.out]; decide))
         have H4 := hid h5
         clear h3 h3' h4 h5)
      | (go_at_call 208; refine KCC.out.mono ?_; rintro e w5 ⟨r, rfl, hN⟩
         have h2 := Sts.new (stabC (blkP_stable _ _) HL.out) H4.out hN
         rw [List.nil_append, u8s_len, HML.out] at h2
         obtain ⟨g, gc, hxv⟩ := own_pos h2.rowOwn (by decide)
         subst hxv
         have H5 := hid h2.swap
         clear h2 hN)
      | (refine wpList_cellS H5.out (stabC (rowP_stable _ _ _ _ _) HL.out) rfl (.tmp 95) (.tmp 93) 35 rfl 5 (.slice (some ⟨g, 0, none⟩) 244 gc) rfl rfl szSl8 (show 5 < 6 by decide) rfl ?_; intro w6 h3
         have H6 : Hid (Sts W (blkP q (unpO true true n (.slice (some ⟨g, 0, none⟩) 244 gc)) :: rowP 5 1 (.slice (some ⟨g, 0, none⟩) 244 gc) 244 (u8s M) :: l) w6) := hid h3
         clear h3)
      | (go_at_call 209; refine (KP.out _ g gc n H6.out).mono ?_; rintro e w7 ⟨oa, oc, xa, xc, ua, uc, rfl, hu, h5⟩; have H7 := hid h5; have HU := hid hu; clear h5 hu))
    go_ret
    refine ⟨oa, oc, xa, xc, rfl, Sts.closeU (va := ua) (vc := uc) (i := i + 1) ?_ HU.out⟩
    rw [HD1.out, ← HNI.out]
    exact H7.out
end
end Go.Proofs.YtnklmadmenkdoaaGreat
