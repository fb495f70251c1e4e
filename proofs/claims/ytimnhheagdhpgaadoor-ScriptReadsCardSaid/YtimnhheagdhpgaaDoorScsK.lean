/- The specification's line of a command. -/
import Derived.Test.YtimnhheagdhpgaaDoorScsH
set_option linter.unusedVariables false
set_option linter.unusedSimpArgs false
namespace Go.Proofs.YtimnhheagdhpgaaDoor
open Go.RowKit Go.Proofs.Num
open Scr (Str bs numV numsV small svcV fltV nameV bytesV oneV fileV faultV orderV tailV flts parseL parseV b8 textV textL svcs svcN fltN ixOf valC digR pairR bytesR rnum magR splitW hexC hexB hexV lineV lineL joinW)
def J (l : List Str) : Str := (l.map (fun x => 32 :: x)).flatten
theorem J_app (l m : List Str) : J (l ++ m) = J l ++ J m := by simp [J]
theorem joinW_J : ∀ (a : Str) (l : List Str), joinW (a :: l) = a ++ J l
  | a, [] => by simp [joinW, J]
  | a, b :: l => by rw [Scr.joinW_cons a (by simp), joinW_J b l]; simp [J]
def cmdV (svc : Int) (l : List Int) (d : List UInt8) : Option Str := if (∀ n ∈ l, small n = true) ∧ l.length ≤ 8 ∧ d.length ≤ 512 ∧ svcN svc ≠ [] then some (joinW (b8 "command" :: svcN svc :: (l.map Lib.itoa ++ if d = [] then [] else [hexV d]))) else none
theorem cmdV_small {svc : Int} {l : List Int} {d : List UInt8} {k : Nat} (hk : k < l.length) (h : small l[k] = false) : cmdV svc l d = none := by
  unfold cmdV; rw [if_neg]; rintro ⟨h1, -⟩; rw [h1 _ (List.getElem_mem hk)] at h; cases h
theorem cmdV_few {svc : Int} {l : List Int} {d : List UInt8} (h : 8 < l.length) : cmdV svc l d = none := by
  unfold cmdV; rw [if_neg]; rintro ⟨-, h1, -⟩; omega
theorem cmdV_data {svc : Int} {l : List Int} {d : List UInt8} (h : 512 < d.length) : cmdV svc l d = none := by
  unfold cmdV; rw [if_neg]; rintro ⟨-, -, h1, -⟩; omega
theorem cmdV_name {svc : Int} {l : List Int} {d : List UInt8} (h : svcN svc = []) : cmdV svc l d = none := by
  unfold cmdV; rw [if_neg]; rintro ⟨-, -, -, h1⟩; exact h1 h
theorem cmdV_ok {svc : Int} {l : List Int} {d : List UInt8} (h1 : ∀ j (h : j < l.length), small l[j] = true) (h2 : l.length ≤ 8) (h3 : d.length ≤ 512) (h4 : svcN svc ≠ []) : cmdV svc l d = some ((b8 "command" ++ 32 :: svcN svc) ++ J (l.map Lib.itoa) ++ (if d = [] then [] else 32 :: hexV d)) := by
  unfold cmdV
  rw [if_pos ⟨fun n hn => by obtain ⟨j, hj, rfl⟩ := List.getElem_of_mem hn; exact h1 j hj, h2, h3, h4⟩, joinW_J]
  congr 1
  rw [show svcN svc :: (l.map Lib.itoa ++ if d = [] then [] else [hexV d]) = [svcN svc] ++ (l.map Lib.itoa ++ if d = [] then [] else [hexV d]) from rfl, J_app, J_app]
  split <;> simp [J]
section
variable {w : World}
set_option maxRecDepth 100000 in
set_option maxHeartbeats 16000000 in
theorem cCommandR (src num svc : Int) (aa ba : Option Addr) (ca bc : Nat) (l : List Int) (d : List UInt8) (hl : l.length < 1000000) (hd : d.length < 100000000) (hi : ∀ n ∈ l, i64 n) (ha : Rd w (.slice aa l.length ca) (intsV l)) (hb : Rd w (.slice ba d.length bc) (u8v d)) :
    Calls Tryd.prog 29 #[.agg #[.int .i64 src, .int .i64 num, .int .i64 svc, .slice aa l.length ca, .slice ba d.length bc]] w fun e w' => lineE w w' (cmdV svc l d) e := by
  have HB0 := (Sts.nil w).alloc stab0 (.cells #[.int .i64 src, .int .i64 num, .int .i64 svc, .slice aa l.length ca, .slice ba d.length bc] 25)
  have HC := hid (show ∀ x, Up (w.alloc (.cells #[.int .i64 src, .int .i64 num, .int .i64 svc, .slice aa l.length ca, .slice ba d.length bc] 25)) x → x.cell? ⟨w.heap.size, 2, none⟩ = some (.int .i64 svc) ∧ x.cell? ⟨w.heap.size, 3, none⟩ = some (.slice aa l.length ca) ∧ x.cell? ⟨w.heap.size, 4, none⟩ = some (.slice ba d.length bc) from fun x hx => ⟨cell_below hx (Sts.boxCell HB0 2 _ rfl).1, cell_below hx (Sts.boxCell HB0 3 _ rfl).1, cell_below hx (Sts.boxCell HB0 4 _ rfl).1⟩)
  have HB := hid HB0.below
  have HX := hid (fun x (hx : Up (w.alloc (.cells #[.int .i64 src, .int .i64 num, .int .i64 svc, .slice aa l.length ca, .slice ba d.length bc] 25)) x) => cHexR (w := x) ba bc d (hb.below (below_step HB.out hx)) hd)
  have HNM := hid (fun x : World => cRNameOf (w := x) svc)
  have HDG := hid (fun n (hn : n ∈ l) (x : World) => cDigits (w := x) n (hi n hn))
  have HSM := hid (fun (n : Int) (x : World) => cSmall (w := x) n)
  have HA := hid ha
  clear HB0 ha hb hi
  obtain ⟨T, hT⟩ : ∃ T, T = l.length := ⟨_, rfl⟩
  obtain ⟨N, hN⟩ : ∃ N, N = d.length := ⟨_, rfl⟩
  rw [← hT, ← hN] at HC HB ⊢
  rw [← hN, ← hT] at HX
  rw [← hT] at hl HA
  rw [← hN] at hd
  have HT := hid hT
  have HN := hid hN
  clear hT hN
  obtain ⟨cs, hcs⟩ : ∃ cs : Array Value, cs = #[.int .i64 src, .int .i64 num, .int .i64 svc, .slice aa T ca, .slice ba N bc] := ⟨_, rfl⟩
  rw [← hcs] at HC HB HX ⊢
  clear hcs
  obtain ⟨res, hres⟩ : ∃ res, res = cmdV svc l d := ⟨_, rfl⟩
  rw [← hres]
  have HRES := hid hres
  clear hres
  obtain ⟨sn, hsn⟩ : ∃ sn, sn = svcN svc := ⟨_, rfl⟩
  rw [← hsn] at HNM
  have HSN := hid hsn
  clear hsn
  have k2 := (HC.out _ (Below.refl _ _)).1
  go_enter Tryd.func29, Tryd.ntmps29
  go_wp2_with (first | (go_at_call 49; refine (HNM.out _).mono ?_; rintro e w1 ⟨⟨S0, rfl, hS0, hS1⟩, hb⟩; have H1 := hid (show Up (w.alloc (.cells cs 25)) w1 from hb); have HS0 := hid hS0; have f0 : ¬ 9223372036854775807 < 8 + S0.size := (by omega); clear hb hS0))
  go_loopw [4, 5] (fun v i wr => ∃ (k : Nat) (s : ByteArray), k ≤ T ∧ k ≤ 9 ∧ i = .int .i64 k ∧ v = .string s ∧ s.size ≤ 28 + 22 * k ∧ Hid (bs s = (b8 "command" ++ 32 :: sn) ++ J ((l.take k).map Lib.itoa)) ∧ Hid (∀ j (h : j < l.length), j < k → small l[j] = true) ∧ Hid (Up (w.alloc (.cells cs 25)) wr)) (fun _ i _ => 9 - (intOf i).toNat)
  case atStart => exact ⟨0, _, by omega, by omega, rfl, rfl, by rw [ByteArray.size_append]; show 8 + S0.size ≤ _; omega, hid (by rw [bs_app, HS0.out]; simp [J]; rfl), hid (fun j h1 h2 => by omega), H1⟩
  case round =>
    obtain ⟨k, s, hk, hk9, rfl, rfl, hss, HS, HI, HW⟩ := hrel
    obtain ⟨c2, c3, c4⟩ := HC.out wr HW.out
    by_cases hlt : k < T ∧ k < 9
    · obtain ⟨hlt, hlt9⟩ := hlt
      have hka : k < l.length := by rw [← HT.out]; exact hlt
      obtain ⟨b, off, rfl, hcell⟩ := ints_cell HA.out (below_step HB.out HW.out) hka
      have HMT := hid (map_take l k hka)
      have HDI := hid (HDG.out l[k] (List.getElem_mem hka))
      have HSI := hid (HSM.out l[k])
      have HNO := hid (fun h => cmdV_small (svc := svc) (d := d) hka h)
      have HYES := hid (show small l[k] = true → ∀ j (h : j < l.length), j < k + 1 → small l[j] = true from fun hy j h1 h2 => by
        by_cases e : j = k
        · subst e; exact hy
        · exact HI.out j h1 (by omega))
      obtain ⟨n, hn⟩ : ∃ n, n = l[k] := ⟨_, rfl⟩
      rw [← hn] at hcell HMT HDI HSI HNO HYES
      clear hn
      obtain ⟨sm, hsm⟩ : ∃ sm, sm = small n := ⟨_, rfl⟩
      rw [← hsm] at HSI HNO HYES
      clear hsm
      have f1 : ¬ 9223372036854775807 < s.size + 1 := by omega
      cases sm with
      | false =>
        have HR0 := hid (show res = none by rw [HRES.out]; exact HNO.out rfl)
        go_wp2_with (first | (go_at_call 28; refine (HSI.out _).mono ?_; rintro e w2 ⟨rfl, hw2⟩; rw [hw2]))
        all_goals (go_ret2; exact ⟨⟨_, by rw [HR0.out]; rfl, fun t ht => by rw [HR0.out] at ht; cases ht⟩, below_step HB.out HW.out⟩)
      | true =>
        go_wp2_with (first | (go_at_call 28; refine (HSI.out _).mono ?_; rintro e w2 ⟨rfl, hw2⟩; rw [hw2]) | (go_at_call 27; refine (HDI.out _).mono ?_; rintro e w3 ⟨I, rfl, ⟨hI, hI2⟩, hb⟩; have HIB := hid hI; have H3 := hid (below_step HW.out hb); have f2 : ¬ 9223372036854775807 < s.size + 1 + I.size := (by omega); clear hb hI))
        all_goals (go_roundw
                   case rel => exact ⟨k + 1, _, by omega, by omega, by simp, rfl, by rw [ByteArray.size_append, ByteArray.size_append]; show s.size + 1 + I.size ≤ _; omega, hid (by rw [bs_app, bs_app, HS.out, HIB.out, HMT.out, J_app]; simp [J]; rfl), hid (HYES.out (by trivial)), H3⟩
                   case measure => first | (simp [intOf]; done) | (simp [intOf]; omega))
    · have HL := hid hlt
      have g0 : (decide ((k : Int) < (T : Int)) && decide ((k : Int) < 9)) = false := by
        rw [Bool.eq_false_iff]; simp; omega
      have g1 : ¬ ((k : Int) < (T : Int) ∧ (k : Int) < 9) := by omega
      have key : (k = T ∨ (k < T ∧ k = 9)) := by omega
      clear hlt
      by_cases hN5 : 512 < N
      · have HR0 := hid (show res = none by rw [HRES.out]; exact cmdV_data (by rw [← HN.out]; exact hN5))
        have d1 : decide (512 < (N : Int)) = true := decide_eq_true (by omega)
        rcases key with rfl | ⟨q1, rfl⟩
        all_goals (
          go_wp2_with fail
          go_ret2
          exact ⟨⟨_, by rw [HR0.out]; rfl, fun t ht => by rw [HR0.out] at ht; cases ht⟩, below_step HB.out HW.out⟩)
      · have d1 : decide (512 < (N : Int)) = false := decide_eq_false (by omega)
        have d2 : ¬ 512 < (N : Int) := by omega
        by_cases hT8 : 8 < T
        · have HR0 := hid (show res = none by rw [HRES.out]; exact cmdV_few (by rw [← HT.out]; exact hT8))
          have e1 : decide (8 < (T : Int)) = true := decide_eq_true (by omega)
          have e2 : (8 : Int) < (T : Int) := by omega
          rcases key with rfl | ⟨q1, rfl⟩
          all_goals (
            go_wp2_with fail
            go_ret2
            exact ⟨⟨_, by rw [HR0.out]; rfl, fun t ht => by rw [HR0.out] at ht; cases ht⟩, below_step HB.out HW.out⟩)
        · have e1 : decide (8 < (T : Int)) = false := decide_eq_false (by omega)
          have e2 : ¬ (8 : Int) < (T : Int) := by omega
          obtain rfl : k = T := by omega
          by_cases hs0 : sn = []
          · have HR0 := hid (show res = none by rw [HRES.out]; exact cmdV_name (by rw [← HSN.out]; exact hs0))
            subst hs0
            go_wp2_with (first | (go_at_call 49; refine (HNM.out _).mono ?_; rintro e w1 ⟨⟨S2, rfl, hS2, hS3⟩, hb⟩; obtain rfl : S2 = ⟨#[]⟩ := (by rw [← Scr.mk_bs S2, hS2]); have H2 := hid (below_step HW.out hb); clear hb hS2))
            all_goals (go_ret2; exact ⟨⟨_, by rw [HR0.out]; rfl, fun t ht => by rw [HR0.out] at ht; cases ht⟩, below_step HB.out H2.out⟩)
          · have HR0 := hid (show res = some ((b8 "command" ++ 32 :: sn) ++ J (l.map Lib.itoa) ++ (if d = [] then [] else 32 :: hexV d)) by
              rw [HRES.out, HSN.out]; exact cmdV_ok (fun j h => HI.out j h (by rw [HT.out]; exact h)) (by rw [← HT.out]; omega) (by rw [← HN.out]; omega) (by rw [← HSN.out]; exact hs0))
            have HS9 := hid (show bs s = (b8 "command" ++ 32 :: sn) ++ J (l.map Lib.itoa) by have := HS.out; rw [HT.out, List.take_length] at this; exact this)
            have HS0N := hid hs0
            have f1 : ¬ 9223372036854775807 < s.size + 1 := by omega
            clear hs0
            by_cases hN0 : N = 0
            · have HD0 := hid (show d = [] from List.length_eq_zero_iff.1 (by rw [← HN.out]; exact hN0))
              subst hN0
              go_wp2_with (first | (go_at_call 49; refine (HNM.out _).mono ?_; rintro e w1 ⟨⟨S2, rfl, hS2, hS3⟩, hb⟩; have hn1 : (S2.toList == ([] : List UInt8)) = false := (by rw [ByteArray.toList_eq]; simp only [beq_eq_false_iff_ne]; intro e; exact HS0N.out (by rw [← hS2]; exact e)); have H2 := hid (below_step HW.out hb); clear hb hS2; obtain ⟨_, _, t4⟩ := HC.out w1 H2.out))
              all_goals (go_ret2; exact ⟨⟨_, by rw [HR0.out]; rfl, fun t ht => by rw [HR0.out] at ht; injection ht with ht; rw [← ht, HS9.out, HD0.out]; simp⟩, below_step HB.out H2.out⟩)
            · have HD0 := hid (show ¬ d = [] from fun e => hN0 (by rw [HN.out, e]; rfl))
              have h0 : (0 : Int) < (N : Int) := by omega
              have HHL := hid (show ∀ X : ByteArray, bs X = hexV d → X.size ≤ 1100 from fun X hX => by rw [Scr.bs_size, hX]; have := HN.out; simp [hexV, Scr.hexB_len]; omega)
              go_wp2_with (first | (go_at_call 49; refine (HNM.out _).mono ?_; rintro e w1 ⟨⟨S2, rfl, hS2, hS3⟩, hb⟩; have hn1 : (S2.toList == ([] : List UInt8)) = false := (by rw [ByteArray.toList_eq]; simp only [beq_eq_false_iff_ne]; intro e; exact HS0N.out (by rw [← hS2]; exact e)); have H2 := hid (below_step HW.out hb); clear hb hS2; obtain ⟨_, _, t4⟩ := HC.out w1 H2.out) | (go_at_call 31; refine (HX.out _ H2.out).mono ?_; rintro e w4 ⟨X, rfl, hX, hb⟩; have hXS := HHL.out X hX; have f2 : ¬ 9223372036854775807 < s.size + 1 + X.size := (by omega); have HXB := hid hX; have H4 := hid (below_step H2.out hb); clear hb hX hXS))
              all_goals (go_ret2; exact ⟨⟨_, by rw [HR0.out]; rfl, fun t ht => by rw [HR0.out] at ht; injection ht with ht; rw [← ht, bs_app, bs_app, HS9.out, HXB.out, if_neg HD0.out, List.append_assoc (_ ++ _)]; rfl⟩, below_step HB.out H4.out⟩)
end
end Go.Proofs.YtimnhheagdhpgaaDoor
