/- Which commands are valid: the program's answer. The encoding of commands. -/
import Derived.Test.YtnklmadmenkdoaaGreatQFndA
import Derived.Test.YtnklmadmenkdoaaGreatQCrcMath
import Derived.Test.YtnklmadmenkdoaaGreatQSndI
set_option linter.unusedVariables false
set_option linter.unusedSimpArgs false
namespace Cmd
def inR (a : Int) : Bool := decide (-1099511627776 ≤ a) && decide (a ≤ 1099511627776)
def cmdOk (s : Int) (args : List Int) (n : Nat) : Bool := isS s && (decide (args.length = argN s) && (args.all inR && (if datN s = 1 then decide (1 ≤ n) && decide (n ≤ 512) else decide (n = 0))))
end Cmd
namespace Go.Proofs.Num
open Go.RowKit
def i64s (l : List Int) : List Value := l.map fun x => .int .i64 x
theorem i64s_len (l : List Int) : (i64s l).length = l.length := by simp [i64s]
end Go.Proofs.Num
namespace Go.Proofs.YtnklmadmenkdoaaGreat
open Go.RowKit Go.Proofs.Num
def zeroRow : Array Value := #[.string ⟨#[]⟩, .int .i64 0, .bool false, .int .i64 0, .int .i64 0]
set_option maxRecDepth 100000 in
theorem szRow : ∀ w, (Go.sizeOf 222).run Tryz.prog w = .ok 5 w := fun w => by first | rfl | simp [go_sem] | kernel_rfl
theorem one5 {a b c : Value} {x : Int} {d : Bool} (h1 : a.oneCell' = true) (h2 : b.oneCell' = true) (h3 : c.oneCell' = true) : (#[a, .int .i64 x, .bool d, b, c] : Array Value).toList.all (fun v => v.oneCell') = true := by
  simp only [List.all_cons, List.all_nil, h1, h2, h3]; rfl
/-- A command as a value. -/
def cmdV (src num s : Int) (va vd : Value) : Array Value := #[.int .i64 src, .int .i64 num, .int .i64 s, va, vd]
section
variable (w : World) (src num s : Int) (aa : Option Addr) (ca : Nat) (args : List Int) (ad : Option Addr) (cd n : Nat)
  (h1 : 0 ≤ src ∧ src ≤ 15) (h2 : 0 ≤ num ∧ num ≤ 65535) (h3 : -9223372036854775808 ≤ s ∧ s < 9223372036854775808)
include h1 h2 h3
omit h1 h2 in
set_option maxRecDepth 100000 in
theorem cValidNo (hb : Cmd.isS s = false) : Calls Tryz.prog 109 #[.agg (cmdV src num s (.slice aa args.length ca) (.slice ad n cd))] w fun e w' => e = .returned (.bool false) ∧ Below w.heap.size w w' := by
  have HS : Hid (Sts w (blkP w.heap.size (.cells (cmdV src num s (.slice aa args.length ca) (.slice ad n cd)) 39 (0, 0)) :: []) (w.alloc (.cells (cmdV src num s (.slice aa args.length ca) (.slice ad n cd)) 39))) := hid (Sts.alloc stab0 (Sts.nil w) _)
  have HLB : Hid (∀ B ∈ [blkP w.heap.size (.cells (cmdV src num s (.slice aa args.length ca) (.slice ad n cd)) 39 (0, 0))], Stable B) := hid (stabC (blkP_stable _ _) stab0)
  have hf := cFind (w.alloc (.cells (cmdV src num s (.slice aa args.length ca) (.slice ad n cd)) 39)) s h3.1 h3.2
  rw [hb] at hf
  obtain ⟨A, hA⟩ : ∃ A, A = Cmd.argN s := ⟨_, rfl⟩
  obtain ⟨D, hD⟩ : ∃ D, D = Nat.beq (Cmd.datN s) 1 := ⟨_, rfl⟩
  rw [← hA, ← hD] at hf
  have HF := hid hf
  clear hf hA hD h3 hb
  unfold cmdV at *
  go_enter Tryz.func109, Tryz.ntmps109
  go_wp2_with (first
    | (go_at_call 113; refine HF.out.mono ?_; rintro e w1 ⟨nm, lo, hi, rfl, ⟨n1, n2, n3⟩, hb⟩
       have H1 := hid ((HS.out.quiet HLB.out hb).alloc HLB.out (.cells zeroRow 222))
       have N1 : Hid ((#[nm, .int .i64 (A : Int), .bool D, lo, hi] : Array Value).toList.all (fun v => v.oneCell') = true) := hid (one5 n1 n2 n3)
       clear hb n1 n2 n3)
    | (refine wpList_aggS H1.out HLB.out rfl (.tmp 3) (.tmp 11) 222 rfl #[nm, .int .i64 (A : Int), .bool D, lo, hi] rfl rfl szRow rfl N1.out ?_; intro w2 h2; have H2 := hid h2; have q1 := (Sts.boxCell h2 1 _ rfl).1; have q2 := (Sts.boxCell h2 2 _ rfl).1; have c0 := (Sts.boxCell h2.tail 0 _ rfl).1; have c1 := (Sts.boxCell h2.tail 1 _ rfl).1; have c3 := (Sts.boxCell h2.tail 3 _ rfl).1; have c4 := (Sts.boxCell h2.tail 4 _ rfl).1; clear h2 H1))
  go_ret
  exact ⟨rfl, H2.out.below⟩
set_option maxRecDepth 100000 in
theorem cValidLen (hb : Cmd.isS s = true) (hn : args.length ≠ Cmd.argN s) : Calls Tryz.prog 109 #[.agg (cmdV src num s (.slice aa args.length ca) (.slice ad n cd))] w fun e w' => e = .returned (.bool false) ∧ Below w.heap.size w w' := by
  have HS : Hid (Sts w (blkP w.heap.size (.cells (cmdV src num s (.slice aa args.length ca) (.slice ad n cd)) 39 (0, 0)) :: []) (w.alloc (.cells (cmdV src num s (.slice aa args.length ca) (.slice ad n cd)) 39))) := hid (Sts.alloc stab0 (Sts.nil w) _)
  have HLB : Hid (∀ B ∈ [blkP w.heap.size (.cells (cmdV src num s (.slice aa args.length ca) (.slice ad n cd)) 39 (0, 0))], Stable B) := hid (stabC (blkP_stable _ _) stab0)
  have hf := cFind (w.alloc (.cells (cmdV src num s (.slice aa args.length ca) (.slice ad n cd)) 39)) s h3.1 h3.2
  rw [hb] at hf
  have d1 : decide (src < 0) = false := decide_eq_false (by omega)
  have d2 : decide (15 < src) = false := decide_eq_false (by omega)
  have d3 : decide (num < 0) = false := decide_eq_false (by omega)
  have d4 : decide (65535 < num) = false := decide_eq_false (by omega)
  obtain ⟨A, hA⟩ : ∃ A, A = Cmd.argN s := ⟨_, rfl⟩
  obtain ⟨D, hD⟩ : ∃ D, D = Nat.beq (Cmd.datN s) 1 := ⟨_, rfl⟩
  rw [← hA, ← hD] at hf
  have hq : (((args.length : Nat) : Int) == (A : Int)) = false := by rw [beq_eq_false_iff_ne]; omega
  have HF := hid hf
  clear hf hA hD h1 h2 h3 hb hn
  unfold cmdV at *
  go_enter Tryz.func109, Tryz.ntmps109
  go_wp2_with (first
    | (go_at_call 113; refine HF.out.mono ?_; rintro e w1 ⟨nm, lo, hi, rfl, ⟨n1, n2, n3⟩, hb⟩
       have H1 := hid ((HS.out.quiet HLB.out hb).alloc HLB.out (.cells zeroRow 222))
       have N1 : Hid ((#[nm, .int .i64 (A : Int), .bool D, lo, hi] : Array Value).toList.all (fun v => v.oneCell') = true) := hid (one5 n1 n2 n3)
       clear hb n1 n2 n3)
    | (refine wpList_aggS H1.out HLB.out rfl (.tmp 3) (.tmp 11) 222 rfl #[nm, .int .i64 (A : Int), .bool D, lo, hi] rfl rfl szRow rfl N1.out ?_; intro w2 h2; have H2 := hid h2; have q1 := (Sts.boxCell h2 1 _ rfl).1; have q2 := (Sts.boxCell h2 2 _ rfl).1; have c0 := (Sts.boxCell h2.tail 0 _ rfl).1; have c1 := (Sts.boxCell h2.tail 1 _ rfl).1; have c3 := (Sts.boxCell h2.tail 3 _ rfl).1; have c4 := (Sts.boxCell h2.tail 4 _ rfl).1; clear h2 H1))
  go_ret
  exact ⟨rfl, H2.out.below⟩
set_option maxRecDepth 100000 in
set_option maxHeartbeats 1000000 in
theorem cValidArgs (hb : Cmd.isS s = true) (hn : args.length = Cmd.argN s) (hR : Rd w (.slice aa args.length ca) (i64s args)) (hN : n < 1000000) : Calls Tryz.prog 109 #[.agg (cmdV src num s (.slice aa args.length ca) (.slice ad n cd))] w fun e w' => e = .returned (.bool (Cmd.cmdOk s args n)) ∧ Below w.heap.size w w' := by
  have HS : Hid (Sts w (blkP w.heap.size (.cells (cmdV src num s (.slice aa args.length ca) (.slice ad n cd)) 39 (0, 0)) :: []) (w.alloc (.cells (cmdV src num s (.slice aa args.length ca) (.slice ad n cd)) 39))) := hid (Sts.alloc stab0 (Sts.nil w) _)
  have HLB : Hid (∀ B ∈ [blkP w.heap.size (.cells (cmdV src num s (.slice aa args.length ca) (.slice ad n cd)) 39 (0, 0))], Stable B) := hid (stabC (blkP_stable _ _) stab0)
  have hf := cFind (w.alloc (.cells (cmdV src num s (.slice aa args.length ca) (.slice ad n cd)) 39)) s h3.1 h3.2
  rw [hb] at hf
  have d1 : decide (src < 0) = false := decide_eq_false (by omega)
  have d2 : decide (15 < src) = false := decide_eq_false (by omega)
  have d3 : decide (num < 0) = false := decide_eq_false (by omega)
  have d4 : decide (65535 < num) = false := decide_eq_false (by omega)
  have hA3 := Cmd.argN_le s
  have HE : Hid (Cmd.cmdOk s args n = (args.all Cmd.inR && (if Cmd.datN s = 1 then decide (1 ≤ n) && decide (n ≤ 512) else decide (n = 0)))) := hid (by unfold Cmd.cmdOk; rw [hb, decide_eq_true hn]; rfl)
  obtain ⟨A, hA⟩ : ∃ A, A = Cmd.argN s := ⟨_, rfl⟩
  obtain ⟨D, hD⟩ : ∃ D, D = Nat.beq (Cmd.datN s) 1 := ⟨_, rfl⟩
  have HD : Hid (∀ X Y : Bool, (if Cmd.datN s = 1 then X else Y) = (if D = true then X else Y)) := hid (by
    intro X Y
    by_cases h : Cmd.datN s = 1
    · rw [if_pos h, if_pos (by rw [hD, h]; rfl)]
    · rw [if_neg h, if_neg (by rw [hD]; intro hh; exact h (Nat.eq_of_beq_eq_true hh))])
  rw [← hD] at hf
  have hq : (((args.length : Nat) : Int) == (A : Int)) = true := by rw [hA, hn]; exact beq_self_eq_true _
  rw [← hn] at hA3
  rw [← hA] at hf
  have HF := hid hf
  have HR := hid hR
  have HA3 := hid hA3
  clear hf hA hD h1 h2 h3 hb hn hR hA3
  generalize Cmd.cmdOk s args n = R at *
  unfold cmdV at *
  go_enter Tryz.func109, Tryz.ntmps109
  go_wp2_with (first
    | (go_at_call 113; refine HF.out.mono ?_; rintro e w1 ⟨nm, lo, hi, rfl, ⟨n1, n2, n3⟩, hb⟩
       have H1 := hid ((HS.out.quiet HLB.out hb).alloc HLB.out (.cells zeroRow 222))
       have N1 : Hid ((#[nm, .int .i64 (A : Int), .bool D, lo, hi] : Array Value).toList.all (fun v => v.oneCell') = true) := hid (one5 n1 n2 n3)
       clear hb n1 n2 n3)
    | (refine wpList_aggS H1.out HLB.out rfl (.tmp 3) (.tmp 11) 222 rfl #[nm, .int .i64 (A : Int), .bool D, lo, hi] rfl rfl szRow rfl N1.out ?_; intro w2 h2; have H2 := hid h2; have q1 := (Sts.boxCell h2 1 _ rfl).1; have q2 := (Sts.boxCell h2 2 _ rfl).1; have c0 := (Sts.boxCell h2.tail 0 _ rfl).1; have c1 := (Sts.boxCell h2.tail 1 _ rfl).1; have c3 := (Sts.boxCell h2.tail 3 _ rfl).1; have c4 := (Sts.boxCell h2.tail 4 _ rfl).1; clear h2 H1))
  have HR2 := hid (HR.out.below H2.out.below)
  go_loop [46] (fun i => ∃ k : Nat, k ≤ args.length ∧ i = .int .i64 (k : Int) ∧ ∀ x ∈ args.take k, Cmd.inR x = true) (fun i => args.length - (intOf i).toNat)
  case atStart => exact ⟨0, Nat.zero_le _, rfl, by simp⟩
  case round =>
    obtain ⟨k, hk, rfl, hall⟩ := hrel
    by_cases hlt : k < args.length
    · obtain ⟨a0, c9, e0, hc0, hx⟩ := HR2.out
      obtain ⟨b0, off, e1, hb0, hx0⟩ := hx k (by rw [i64s_len]; exact hlt)
      injection e0 with e2 e3 e4
      subst e2
      subst e1
      have hcell : w2.cell? ⟨b0, off + k, none⟩ = some (.int .i64 args[k]) := by rw [hx0]; simp [i64s]
      have hmem : args[k] ∈ args := List.getElem_mem hlt
      have htk : args.take (k + 1) = args.take k ++ [args[k]] := List.take_succ_eq_append_getElem hlt
      clear hx hx0 e3 e4 hc0
      generalize args[k] = x at *
      have hk0 : (0 : Int) ≤ (k : Int) := Int.natCast_nonneg _
      have hk1 : (k : Int) < ((args.length : Nat) : Int) := by omega
      have hkk : k < 100 := by have := HA3.out; omega
      by_cases g1 : x < -1099511627776
      · have HRf : Hid (R = false) := hid (by
          rw [HE.out, List.all_eq_false.2 ⟨x, hmem, by unfold Cmd.inR; rw [decide_eq_false (by omega)]; simp⟩]; rfl)
        clear hmem htk hall
        go_wp2_with fail
        go_ret
        exact ⟨ret_bool HRf.out.symm, H2.out.below⟩
      · by_cases g2 : 1099511627776 < x
        · have HRf : Hid (R = false) := hid (by
            rw [HE.out, List.all_eq_false.2 ⟨x, hmem, by unfold Cmd.inR; rw [decide_eq_false (show ¬ x ≤ 1099511627776 by omega)]; simp⟩]; rfl)
          clear hmem htk hall
          go_wp2_with fail
          go_ret
          exact ⟨ret_bool HRf.out.symm, H2.out.below⟩
        · have HT : Hid (∀ y ∈ args.take (k + 1), Cmd.inR y = true) := hid (by
            rw [htk]
            intro y hy
            rcases List.mem_append.1 hy with h | h
            · exact hall y h
            · rw [List.mem_singleton] at h; subst h; unfold Cmd.inR; rw [decide_eq_true (by omega), decide_eq_true (by omega)]; rfl)
          have z1 : decide (x < -1099511627776) = false := decide_eq_false g1
          have z2 : decide (1099511627776 < x) = false := decide_eq_false g2
          clear hmem htk hall
          go_wp2_with fail
          go_round
          case rel => exact ⟨k + 1, by omega, by go_num, HT.out⟩
          case measure => simp [intOf]; omega
    · have HRf : Hid (R = (if D = true then decide (1 ≤ n) && decide (n ≤ 512) else decide (n = 0))) := hid (by
        rw [HE.out, HD.out, List.all_eq_true.2 (fun x hx => hall x (by rw [List.take_of_length_le (by omega)]; exact hx)), Bool.true_and])
      clear hall
      cases D
      · have HRg : Hid (R = decide (n = 0)) := hid HRf.out
        have z1 : (((n : Nat) : Int) == 0) = decide (n = 0) := by
          by_cases h : n = 0
          · subst h; rfl
          · rw [decide_eq_false h, beq_eq_false_iff_ne]; omega
        rw [← HRg.out] at z1
        go_wp2_with fail
        go_ret
        exact ⟨rfl, H2.out.below⟩
      · have HRg : Hid (R = (decide (1 ≤ n) && decide (n ≤ 512))) := hid HRf.out
        by_cases g1 : 1 ≤ n
        · have z1 : decide (1 ≤ ((n : Nat) : Int)) = true := decide_eq_true (by omega)
          have z2 : decide (((n : Nat) : Int) ≤ 512) = decide (n ≤ 512) := by
            by_cases h : n ≤ 512
            · rw [decide_eq_true h, decide_eq_true (by omega)]
            · rw [decide_eq_false h, decide_eq_false (by omega)]
          rw [show decide (n ≤ 512) = R by rw [HRg.out, decide_eq_true g1, Bool.true_and]] at z2
          go_wp2_with fail
          go_ret
          exact ⟨rfl, H2.out.below⟩
        · have z1 : decide (1 ≤ ((n : Nat) : Int)) = false := decide_eq_false (by omega)
          have HRh : Hid (R = false) := hid (by rw [HRg.out, decide_eq_false g1, Bool.false_and])
          go_wp2_with fail
          go_ret
          exact ⟨ret_bool HRh.out.symm, H2.out.below⟩
end
/-- Which commands are valid. -/
theorem cCmdValid (w : World) (src num s : Int) (aa : Option Addr) (ca : Nat) (args : List Int) (ad : Option Addr) (cd n : Nat) (h1 : 0 ≤ src ∧ src ≤ 15) (h2 : 0 ≤ num ∧ num ≤ 65535) (h3 : -9223372036854775808 ≤ s ∧ s < 9223372036854775808) (hR : Rd w (.slice aa args.length ca) (i64s args)) (hN : n < 1000000) :
    Calls Tryz.prog 109 #[.agg (cmdV src num s (.slice aa args.length ca) (.slice ad n cd))] w fun e w' => e = .returned (.bool (Cmd.cmdOk s args n)) ∧ Below w.heap.size w w' := by
  cases hb : Cmd.isS s with
  | false => rw [show Cmd.cmdOk s args n = false by unfold Cmd.cmdOk; rw [hb]; rfl]; exact cValidNo w src num s aa ca args ad cd n h3 hb
  | true =>
    by_cases hn : args.length = Cmd.argN s
    · exact cValidArgs w src num s aa ca args ad cd n h1 h2 h3 hb hn hR hN
    · rw [show Cmd.cmdOk s args n = false by unfold Cmd.cmdOk; rw [hb, decide_eq_false hn]; rfl]; exact cValidLen w src num s aa ca args ad cd n h1 h2 h3 hb hn
end Go.Proofs.YtnklmadmenkdoaaGreat
namespace Cmd
/-- The bytes of a valid command. -/
def enc (src num s : Nat) (args : List Int) (data : List Nat) : List Nat := Oct.be 1 src ++ Oct.be 2 num ++ Oct.be 1 s ++ argsB args ++ (if datN (s : Int) = 1 then blobB data else [])
theorem argsB_len (l : List Int) (h : ∀ a ∈ l, inR a = true) : (argsB l).length ≤ 6 * l.length := by
  induction l with
  | nil => simp [argsB]
  | cons a l ih =>
    have ha := h a (by simp)
    unfold inR at ha
    simp only [Bool.and_eq_true, decide_eq_true_eq] at ha
    have h1 := vint_len 5 _ (show zig a < 128 ^ (5 + 1) by have := zig_lt a ha.1 ha.2; omega)
    have h2 := ih (fun x hx => h x (by simp [hx]))
    simp only [argsB, List.length_append, List.length_cons]
    omega
theorem inR_iff {a : Int} (h : inR a = true) : -1099511627776 ≤ a ∧ a ≤ 1099511627776 := by
  unfold inR at h
  simpa using h
theorem blobB_len (d : List Nat) (h : d.length ≤ 100000) : (blobB d).length ≤ d.length + 6 := by
  have h1 := vint_len 5 _ (show zig (d.length : Int) < 128 ^ (5 + 1) by have := zig_lt (d.length : Int) (by omega) (by omega); omega)
  unfold blobB; rw [List.length_append]; omega
end Cmd
namespace Go.Proofs.YtnklmadmenkdoaaGreat
open Go.RowKit Go.Proofs.Num
set_option maxRecDepth 100000 in
theorem infoCmd : (Tryz.prog.info? 39).map (·.size) = some 5 := by kernel_rfl
theorem ldCmd {W w : World} {l : List HProp} {b : Nat} {cs : Array Value} (hs : cs.size = 5) (h : Sts W (blkP b (.cells cs 39 (0, 0)) :: l) w) : (loadVar 39 ⟨b, 0, none⟩).run Tryz.prog w = .ok (.agg cs) w := by
  have hb : w.heap[b]? = some (.cells cs 39 (0, 0)) := by obtain ⟨F, hF⟩ := h.head; exact hF.1
  exact run_loadVar_row (P := Tryz.prog) w b 39 39 cs (0, 0) _ hb Tryz.underlying39 rfl (by rw [infoCmd, hs])
set_option maxRecDepth 100000 in
set_option maxHeartbeats 4000000 in
theorem cCmdEncode (w : World) (src num sv : Nat) (aa : Option Addr) (ca : Nat) (args : List Int) (ad : Option Addr) (cd : Nat) (data : List Nat) (h1 : src ≤ 15) (h2 : num ≤ 65535) (hR : Rd w (.slice aa args.length ca) (i64s args)) (hD : RdB w (.slice ad data.length cd) data) (hN : data.length < 100000) (hnl : ad = none → cd = 0) (hok : Cmd.cmdOk (sv : Int) args data.length = true) :
    Calls Tryz.prog 43 #[.agg (cmdV (src : Int) (num : Int) (sv : Int) (.slice aa args.length ca) (.slice ad data.length cd))] w fun e w' => ∃ r, e = .returned (.tuple #[r, .int .i64 0]) ∧ New w w' 5 r (u8s (Cmd.enc src num sv args data)) := by
  have HS : Hid (Sts w (blkP w.heap.size (.cells (cmdV (src : Int) (num : Int) (sv : Int) (.slice aa args.length ca) (.slice ad data.length cd)) 39 (0, 0)) :: []) (w.alloc (.cells (cmdV (src : Int) (num : Int) (sv : Int) (.slice aa args.length ca) (.slice ad data.length cd)) 39))) := hid (Sts.alloc stab0 (Sts.nil w) _)
  have HLB : Hid (∀ B ∈ [blkP w.heap.size (.cells (cmdV (src : Int) (num : Int) (sv : Int) (.slice aa args.length ca) (.slice ad data.length cd)) 39 (0, 0))], Stable B) := hid (stabC (blkP_stable _ _) stab0)
  have hok2 := hok
  unfold Cmd.cmdOk Cmd.isS at hok2
  simp only [Bool.and_eq_true, decide_eq_true_eq] at hok2
  obtain ⟨⟨hs1, hs2⟩, hlen, hall, hdat⟩ := hok2
  have hA3 := Cmd.argN_le (sv : Int)
  rw [← hlen] at hA3
  have hv := cCmdValid (w.alloc (.cells (cmdV (src : Int) (num : Int) (sv : Int) (.slice aa args.length ca) (.slice ad data.length cd)) 39)) (src : Int) (num : Int) (sv : Int) aa ca args ad cd data.length (by omega) (by omega) (by omega) (hR.below HS.out.below) (by omega)
  rw [hok] at hv
  have hsN : sv ≤ 28 := by omega
  have HF := hid (fun w => cFind w (sv : Int) (by omega) (by omega))
  have HV := hid hv
  have HALL : Hid (∀ a ∈ args, Cmd.inR a = true) := hid (List.all_eq_true.1 hall)
  have HLD := hid (ldCmd (cs := cmdV (src : Int) (num : Int) (sv : Int) (.slice aa args.length ca) (.slice ad data.length cd)) rfl HS.out)
  have HR := hid hR
  have HDD := hid hD
  have HNL := hid hnl
  have HNN := hid hN
  have HA3 := hid hA3
  have g1 : IntKind.u64.wrap (src : Int) = (src : Int) := by rw [IntKind.wrap_u64]; omega
  have g2 : IntKind.u64.wrap (num : Int) = (num : Int) := by rw [IntKind.wrap_u64]; omega
  have g3 : IntKind.u64.wrap (sv : Int) = (sv : Int) := by rw [IntKind.wrap_u64]; omega
  clear hv hR hD hnl hok hlen hall hdat hs1 hs2 hA3 hN
  go_enter Tryz.func43, Tryz.ntmps43
  go_wp2_with (first
    | (refine wpList_ldS rfl (.tmp 1) 39 rfl rfl (.agg (cmdV (src : Int) (num : Int) (sv : Int) (.slice aa args.length ca) (.slice ad data.length cd))) HLD.out ?_)
    | (go_at_call 109; refine HV.out.mono ?_; rintro e w1 ⟨rfl, hb1⟩; have H1 := hid (HS.out.quiet HLB.out hb1); clear hb1)
    | (go_at_call 110; refine (wNewWriter HLB.out H1.out).mono ?_; rintro e w2 ⟨q, rfl, h2⟩; have H2 := hid h2; clear h2))
  refine wp_region_ordQ (.pure 0 (.pure 1 (.pure 2 (.pure 3 (.pure 5 (.pure 6 (.pure 7 (.pure 9 (.pure 10 (.pure 11 (.eff 4 (.eff 8 (.eff 12 .nil))))))))))))) (fun y => y.cell? ⟨w.heap.size, 0, none⟩ = some (.int .i64 (src : Int)) ∧ y.cell? ⟨w.heap.size, 1, none⟩ = some (.int .i64 (num : Int)) ∧ y.cell? ⟨w.heap.size, 2, none⟩ = some (.int .i64 (sv : Int))) (fun y => Sts w (writerP q [] :: [blkP w.heap.size (.cells (cmdV (src : Int) (num : Int) (sv : Int) (.slice aa args.length ca) (.slice ad data.length cd)) 39 (0, 0))]) y) (by kernel_rfl) (by kernel_rfl) (H2.out.drew (stabC (writerP_stable _ _) HLB.out)) (fun y hy => ⟨(Sts.boxCell hy.tail 0 _ rfl).1, (Sts.boxCell hy.tail 1 _ rfl).1, (Sts.boxCell hy.tail 2 _ rfl).1⟩) ?_
  iterate 10
    (apply ordq_pure (ho := rfl)
     · go_simp
     · intro x hx; obtain ⟨k0, k1, k2⟩ := hx; go_simp; rfl
     apply ordq_norm
     · go_simp; rfl)
  apply ordq_eff (ho := rfl)
  · go_simp
  intro y hy
  refine eff_call (f := 111) (by go_simp) (wUint HLB.out hy (src) 1 (by omega) (by decide) (by decide) (by decide)) ?_
  rintro e w3 ⟨rfl, h3⟩
  refine ⟨_, rfl, (fun y => y.cell? ⟨w.heap.size, 0, none⟩ = some (.int .i64 (src : Int)) ∧ y.cell? ⟨w.heap.size, 1, none⟩ = some (.int .i64 (num : Int)) ∧ y.cell? ⟨w.heap.size, 2, none⟩ = some (.int .i64 (sv : Int))), (fun y => Sts w (writerP q ([] ++ Oct.be 1 src) :: [blkP w.heap.size (.cells (cmdV (src : Int) (num : Int) (sv : Int) (.slice aa args.length ca) (.slice ad data.length cd)) 39 (0, 0))]) y), h3, (fun y hy => ⟨(Sts.boxCell hy.tail 0 _ rfl).1, (Sts.boxCell hy.tail 1 _ rfl).1, (Sts.boxCell hy.tail 2 _ rfl).1⟩), (fun _ h => h), ?_⟩
  clear h3 hy y
  apply ordq_norm
  · go_simp; rfl
  apply ordq_eff (ho := rfl)
  · go_simp
  intro y hy
  refine eff_call (f := 111) (by go_simp) (wUint HLB.out hy (num) 2 (by omega) (by decide) (by decide) (by simp [Oct.be_len])) ?_
  rintro e w3 ⟨rfl, h3⟩
  refine ⟨_, rfl, (fun y => y.cell? ⟨w.heap.size, 0, none⟩ = some (.int .i64 (src : Int)) ∧ y.cell? ⟨w.heap.size, 1, none⟩ = some (.int .i64 (num : Int)) ∧ y.cell? ⟨w.heap.size, 2, none⟩ = some (.int .i64 (sv : Int))), (fun y => Sts w (writerP q (([] ++ Oct.be 1 src) ++ Oct.be 2 num) :: [blkP w.heap.size (.cells (cmdV (src : Int) (num : Int) (sv : Int) (.slice aa args.length ca) (.slice ad data.length cd)) 39 (0, 0))]) y), h3, (fun y hy => ⟨(Sts.boxCell hy.tail 0 _ rfl).1, (Sts.boxCell hy.tail 1 _ rfl).1, (Sts.boxCell hy.tail 2 _ rfl).1⟩), (fun _ h => h), ?_⟩
  clear h3 hy y
  apply ordq_norm
  · go_simp; rfl
  apply ordq_eff (ho := rfl)
  · go_simp
  intro y hy
  refine eff_call (f := 111) (by go_simp) (wUint HLB.out hy (sv) 1 (by omega) (by decide) (by decide) (by simp [Oct.be_len])) ?_
  rintro e w3 ⟨rfl, h3⟩
  refine ⟨_, rfl, (fun y => y.cell? ⟨w.heap.size, 0, none⟩ = some (.int .i64 (src : Int)) ∧ y.cell? ⟨w.heap.size, 1, none⟩ = some (.int .i64 (num : Int)) ∧ y.cell? ⟨w.heap.size, 2, none⟩ = some (.int .i64 (sv : Int))), (fun y => Sts w (writerP q (([] ++ Oct.be 1 src ++ Oct.be 2 num) ++ Oct.be 1 sv) :: [blkP w.heap.size (.cells (cmdV (src : Int) (num : Int) (sv : Int) (.slice aa args.length ca) (.slice ad data.length cd)) 39 (0, 0))]) y), h3, (fun y hy => ⟨(Sts.boxCell hy.tail 0 _ rfl).1, (Sts.boxCell hy.tail 1 _ rfl).1, (Sts.boxCell hy.tail 2 _ rfl).1⟩), (fun _ h => h), ?_⟩
  clear h3 hy y
  apply ordq_norm
  · go_simp; rfl
  refine ordq_nil fun z hz => ?_
  obtain ⟨pre, hpre⟩ : ∃ pre, pre = [] ++ Oct.be 1 src ++ Oct.be 2 num ++ Oct.be 1 sv := ⟨_, rfl⟩
  rw [← hpre] at hz
  have hpl : pre.length = 4 := by rw [hpre]; simp [Oct.be_len]
  have HE : Hid (Cmd.enc src num sv args data = pre ++ Cmd.argsB args ++ (if Cmd.datN (sv : Int) = 1 then Cmd.blobB data else [])) := hid (by rw [hpre]; rfl)
  have HZ := hid hz
  have c3 : z.cell? ⟨w.heap.size, 3, none⟩ = some (.slice aa args.length ca) := (Sts.boxCell hz.tail 3 _ rfl).1
  clear hz hpre H1 H2 HS HLD HV
  go_wp2_with fail
  go_loopw [29] (fun i wr => ∃ k : Nat, k ≤ args.length ∧ i = .int .i64 (k : Int) ∧ Sts w (writerP q (pre ++ Cmd.argsB (args.take k)) :: [blkP w.heap.size (.cells (cmdV (src : Int) (num : Int) (sv : Int) (.slice aa args.length ca) (.slice ad data.length cd)) 39 (0, 0))]) wr) (fun i _ => args.length - (intOf i).toNat)
  case atStart => exact ⟨0, Nat.zero_le _, rfl, by simpa [Cmd.argsB] using HZ.out⟩
  case round =>
    obtain ⟨k, hk, rfl, hs⟩ := hrel
    clear c3 HZ
    have hbl : (pre ++ Cmd.argsB (args.take k)).length ≤ 22 := by
      have h1 := Cmd.argsB_len (args.take k) (fun a ha => HALL.out a (List.mem_of_mem_take ha))
      have h2 := HA3.out
      have h3 : (args.take k).length ≤ args.length := by rw [List.length_take]; omega
      rw [List.length_append]; omega
    by_cases hlt : k < args.length
    · obtain ⟨a0, c9, e0, hc0, hx⟩ := HR.out.below hs.below
      obtain ⟨b0, off, e1, hb0, hx0⟩ := hx k (by rw [i64s_len]; exact hlt)
      injection e0 with e2 e3 e4
      subst e2
      subst e1
      have hcell : wr.cell? ⟨b0, off + k, none⟩ = some (.int .i64 args[k]) := by rw [hx0]; simp [i64s]
      have hmem : args[k] ∈ args := List.getElem_mem hlt
      have htk : args.take (k + 1) = args.take k ++ [args[k]] := List.take_succ_eq_append_getElem hlt
      have hir := Cmd.inR_iff (HALL.out _ hmem)
      clear hx hx0 e3 e4 hc0 hmem
      have hk0 : (0 : Int) ≤ (k : Int) := Int.natCast_nonneg _
      have hk1 : (k : Int) < ((args.length : Nat) : Int) := by omega
      have hkk : k < 100 := by have := HA3.out; omega
      have HW := hid (wInt HLB.out hs args[k] hir.1 hir.2 (by omega))
      have HTK := hid (show pre ++ Cmd.argsB (args.take k) ++ Cmd.vint (Cmd.zig args[k]) = pre ++ Cmd.argsB (args.take (k + 1)) by rw [htk, Cmd.argsB_app]; simp [Cmd.argsB])
      clear htk hir hs
      generalize args[k] = x at *
      go_wp2_with (first | (go_at_call 112; refine HW.out.mono ?_; rintro e w5 ⟨rfl, h5⟩; have H5 := hid h5; clear h5))
      go_roundw
      case rel => exact ⟨k + 1, by omega, by first | rfl | go_num, by rw [← HTK.out]; exact H5.out⟩
      case measure => simp [intOf]; omega
    · have HS5 : Hid (Sts w (writerP q (pre ++ Cmd.argsB args) :: [blkP w.heap.size (.cells (cmdV (src : Int) (num : Int) (sv : Int) (.slice aa args.length ca) (.slice ad data.length cd)) 39 (0, 0))]) wr) := hid (by rwa [List.take_of_length_le (by omega)] at hs)
      rw [List.take_of_length_le (by omega)] at hbl
      have c2 : wr.cell? ⟨w.heap.size, 2, none⟩ = some (.int .i64 (sv : Int)) := (Sts.boxCell hs.tail 2 _ rfl).1
      have c4 : wr.cell? ⟨w.heap.size, 4, none⟩ = some (.slice ad data.length cd) := (Sts.boxCell hs.tail 4 _ rfl).1
      clear hs
      have HLC : Hid (∀ B ∈ writerP q (pre ++ Cmd.argsB args) :: [blkP w.heap.size (.cells (cmdV (src : Int) (num : Int) (sv : Int) (.slice aa args.length ca) (.slice ad data.length cd)) 39 (0, 0))], Stable B) := hid (stabC (writerP_stable _ _) HLB.out)
      have HE2 := hid (show Nat.beq (Cmd.datN (sv : Int)) 1 = true ↔ Cmd.datN (sv : Int) = 1 from ⟨Nat.eq_of_beq_eq_true, fun h => by rw [h]; rfl⟩)
      obtain ⟨A, hA⟩ : ∃ A, A = Cmd.argN (sv : Int) := ⟨_, rfl⟩
      obtain ⟨D, hD⟩ : ∃ D, D = Nat.beq (Cmd.datN (sv : Int)) 1 := ⟨_, rfl⟩
      obtain ⟨J, hJ⟩ : ∃ J, J = Cmd.isS (sv : Int) := ⟨_, rfl⟩
      have hf := HF.out wr
      rw [← hA, ← hD, ← hJ] at hf
      have HF2 := hid hf
      have HD := hid hD
      clear hf hA hD hJ
      cases D with
      | true =>
        have HX : Hid (Cmd.enc src num sv args data = pre ++ Cmd.argsB args ++ Cmd.blobB data) := hid (by rw [HE.out, if_pos (HE2.out.1 HD.out.symm)])
        go_wp2_with (first
          | (go_at_call 113; refine HF2.out.mono ?_; rintro e w6 ⟨nm, lo, hi, rfl, ⟨n1, n2, n3⟩, hb⟩
             have H6 := hid ((HS5.out.quiet HLC.out hb).alloc HLC.out (.cells zeroRow 222))
             have N1 := hid (one5 (x := (A : Int)) (d := true) n1 n2 n3)
             clear hb n1 n2 n3)
          | (refine wpList_aggS H6.out HLC.out rfl (.tmp 7) (.tmp 41) 222 rfl #[nm, .int .i64 (A : Int), .bool true, lo, hi] rfl rfl szRow rfl N1.out ?_; intro w7 h7; have H7 := hid h7.tail; have q2 := (Sts.boxCell h7 2 _ rfl).1; have d4 : w7.cell? ⟨w.heap.size, 4, none⟩ = some (.slice ad data.length cd) := (Sts.boxCell h7.tail.tail 4 _ rfl).1; clear h7 H6)
          | (go_at_call 114; refine (wBlob HLB.out H7.out ad cd data (by have := HNN.out; omega) HNL.out (RdsB.arg HDD.out) (by omega)).mono ?_; rintro e w8 ⟨rfl, h8⟩; have H8 := hid h8; clear h8)
          | (go_at_call 115; refine (wBytes HLB.out H8.out (by have h1 := Cmd.blobB_len data (by have := HNN.out; omega); have h2 := HNN.out; rw [List.length_append]; omega)).mono ?_; rintro e w9 ⟨r, rfl, h9⟩; have HN := hid (New.of_sts (h9.swap.tail.swap.tail) (u8s_len _)); clear h9))
        go_ret2
        exact ⟨r, rfl, by rw [HX.out]; exact HN.out⟩
      | false =>
        have HX : Hid (Cmd.enc src num sv args data = pre ++ Cmd.argsB args) := hid (by rw [HE.out, if_neg (fun h => by have := HE2.out.2 h; rw [← HD.out] at this; cases this), List.append_nil])
        go_wp2_with (first
          | (go_at_call 113; refine HF2.out.mono ?_; rintro e w6 ⟨nm, lo, hi, rfl, ⟨n1, n2, n3⟩, hb⟩
             have H6 := hid ((HS5.out.quiet HLC.out hb).alloc HLC.out (.cells zeroRow 222))
             have N1 := hid (one5 (x := (A : Int)) (d := false) n1 n2 n3)
             clear hb n1 n2 n3)
          | (refine wpList_aggS H6.out HLC.out rfl (.tmp 7) (.tmp 41) 222 rfl #[nm, .int .i64 (A : Int), .bool false, lo, hi] rfl rfl szRow rfl N1.out ?_; intro w7 h7; have H7 := hid h7.tail; have q2 := (Sts.boxCell h7 2 _ rfl).1; clear h7 H6)
          | (go_at_call 115; refine (wBytes HLB.out H7.out (by omega)).mono ?_; rintro e w9 ⟨r, rfl, h9⟩; have HN := hid (New.of_sts (h9.swap.tail.swap.tail) (u8s_len _)); clear h9))
        go_ret2
        exact ⟨r, rfl, by rw [HX.out]; exact HN.out⟩
end Go.Proofs.YtnklmadmenkdoaaGreat
