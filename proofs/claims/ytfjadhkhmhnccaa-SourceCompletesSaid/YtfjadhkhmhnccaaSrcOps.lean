/- The sending end as a function; source.Next and source.Take whole. The sending end's invariant. The contracts of Suspend, Resume and Cancel. -/
import Derived.Test.YtfjadhkhmhnccaaSrcTke
set_option linter.unusedVariables false
set_option linter.unusedSimpArgs false
namespace Fil
open Go
inductive U where
  | non : U
  | ack : U
  | head : U
  | eof : Int → U
  | piece : Nat → Nat → U
def U.is : U → Bool
  | .non => false
  | _ => true
def U.data (s : Src) : U → List Nat
  | .piece f t => (s.data.drop f).take (t - f)
  | _ => []
def U.pdu (s : Src) (pa : Option Addr) (pc : Nat) : U → Pdu
  | .non => {}
  | .ack => ackP s
  | .head => headP s.src s.num s.cls s.name s.data.length
  | .eof c => eofP s c
  | .piece f t => pieceP s f pa ((s.data.drop f).take (t - f)) pc
def Src.eofV (s : Src) : Src := if s.cls = 2 then ({ s with phase := 1, timer := s.now, tries := 0 } : Fil.Src) else { s with phase := 4 }
def Src.fwdV (s : Src) : Src × U :=
  if s.started = false then ({ s with started := true }, .head)
  else if s.at' < (s.data.length : Int) then ({ s with at' := ((min (s.at'.toNat + s.chunk.toNat) s.data.length : Nat) : Int) }, .piece s.at'.toNat (min (s.at'.toNat + s.chunk.toNat) s.data.length))
  else (s.eofV, .eof 0)
def Src.repV (s : Src) : Src × U :=
  if s.quietB = true then (s, .non)
  else if s.retries ≤ s.tries then ({ s with phase := 5, code := 10 }, .non)
  else ({ s with tries := s.tries + 1, timer := s.now }, .eof 0)
def Src.agnV (s : Src) (g : Rng.R) : Src × U :=
  ({ s with wanted := Rng.remV s.wanted ((g.1.toNat : Int), ((min g.2.toNat (g.1.toNat + s.chunk.toNat) : Nat) : Int)) }, .piece g.1.toNat (min g.2.toNat (g.1.toNat + s.chunk.toNat)))
def Src.goV (s : Src) : Src × U :=
  if s.susp = true then (s, .non)
  else if s.due = true then (s.finV, .ack)
  else if s.phase = 3 then ({ s with phase := 6 }, .eof 17)
  else if 4 ≤ s.phase then (s, .non)
  else if s.mreq = true then ({ s with mreq := false }, .head)
  else match s.wanted with
    | g :: _ => s.agnV g
    | [] => if s.phase = 0 then s.fwdV else s.repV
def Src.nextV (s : Src) (now : Int) : Src × U := (s.pass now).goV
def Src.ackV (s : Src) : Src × Int := if s.phase = 0 then (s, 12) else if s.phase = 1 then ({ s with acked := true }, 0) else (s, 0)
def Src.reqV (s : Src) (l : List Rng.R) : Src × Int :=
  if (l.any fun r => decide ((s.data.length : Int) < r.2)) = true then (s, 4)
  else if s.phase ≠ 0 ∧ s.phase ≠ 1 then (s, 0)
  else ({ s.reqGo l with timer := (s.reqGo l).now, tries := 0 }, 0)
def Src.endV (s : Src) (code : Int) : Src :=
  if s.phase = 2 then s else if s.phase = 0 ∨ s.phase = 1 then { s with phase := 2, code := code, mreq := false, wanted := [], due := true } else { s with due := true }
def Src.recV (s : Src) (p : Pdu) : Src × Int :=
  if (p.validB && (p.src == s.src) && (p.num == s.num) && !fwdB p.kind) = false then (s, 1)
  else if s.cls ≠ 2 then (s, 12)
  else if p.kind = 6 then s.ackV
  else if p.kind = 4 then s.reqV p.gaps
  else (s.endV p.code, 0)
def Src.takeV (s : Src) (p : Pdu) (now : Int) : Src × Int := (s.pass now).recV p
structure Good (s : Src) : Prop where
  n : s.data.length ≤ 65536
  b : ∀ x ∈ s.data, x < 256
  c : 1 ≤ s.chunk ∧ s.chunk ≤ 512
  to : 1 ≤ s.timeout ∧ s.timeout ≤ 1048576
  re : 0 ≤ s.retries ∧ s.retries ≤ 255
  nw : 0 ≤ s.now ∧ s.now ≤ 1099511627776
  ti : 0 ≤ s.timer ∧ s.timer ≤ 1099511627776
  tr : 0 ≤ s.tries ∧ s.tries ≤ 255
  at0 : 0 ≤ s.at'
  w : ∀ r ∈ s.wanted, 0 ≤ r.1 ∧ r.1 < r.2 ∧ r.2 ≤ (s.data.length : Int)
  wv : Rng.Valid s.wanted
theorem Good.pass {s : Src} (h : Good s) (now : Int) : Good (s.pass now) := by
  unfold Src.pass
  split
  · rename_i hc
    have := h.nw
    exact ⟨h.n, h.b, h.c, h.to, h.re, ⟨by show 0 ≤ now; omega, hc.2⟩, h.ti, h.tr, h.at0, h.w, h.wv⟩
  · exact h
/-- A valid list within bounds is short. -/
theorem valid_len : ∀ (l : List Rng.R) (a b : Int), Rng.Valid l → (∀ r ∈ l, a ≤ r.1 ∧ r.2 ≤ b) → a ≤ b → (l.length : Int) ≤ b - a
  | [], a, b, _, _, h => by simp; omega
  | x :: l, a, b, hv, hw, h => by
    obtain ⟨h1, h2, h3⟩ := Rng.valid_cons.1 hv
    have hx := hw x (by simp)
    have := valid_len l x.2 b h3 (fun r hr => ⟨by have := h2 r hr; omega, (hw r (by simp [hr])).2⟩) hx.2
    simp only [List.length_cons]
    omega
theorem Good.wl {s : Src} (h : Good s) : s.wanted.length ≤ 65536 := by
  have h1 := valid_len s.wanted 0 s.data.length h.wv (fun r hr => ⟨(h.w r hr).1, (h.w r hr).2.2⟩) (by omega)
  have := h.n
  omega
end Fil
namespace Go.Proofs.Ytfjadhkhmhnccaa
open Go.RowKit Go.Proofs.Num
def rowU (pa : Option Addr) (pc : Nat) (d : List Nat) : HProp := rowP 5 1 (.slice pa d.length pc) d.length (u8s d)
theorem rowU_stable (pa : Option Addr) (pc : Nat) (d : List Nat) : Stable (rowU pa pc d) := rowP_stable _ _ _ _ _
theorem Sts.outNil {W w : World} {A : HProp} {l : List HProp} (h : Sts W (A :: l) w) : Sts W (A :: rowU none 0 [] :: l) w := (Sts.rowNilK 5 1 h).swap
section
variable {W w : World} {l : List HProp} (hl : ∀ B ∈ l, Stable B) (q : Nat) (s : Fil.Src) (hs : Sts W (srcP q s :: l) w) (hG : Fil.Good s)
include hl hs hG
theorem cNext (now : Int) : Calls Try.prog 20 #[.pointer (some ⟨q, 0, none⟩), .int .i64 now] w fun e w' => ∃ pa pc, e = .returned (.tuple #[.agg ((s.nextV now).2.pdu (s.pass now) pa pc).cells, .bool (s.nextV now).2.is]) ∧ Sts W (srcP q (s.nextV now).1 :: rowU pa pc ((s.nextV now).2.data (s.pass now)) :: l) w' := by
  have hG1 := hG.pass now
  unfold Fil.Src.nextV
  obtain ⟨s1, hp⟩ : ∃ s1, s.pass now = s1 := ⟨_, rfl⟩
  rw [hp] at hG1 ⊢
  have hn : s1.data.length < 100000000 := by have := hG1.n; omega
  have hb := hG1.b
  have hwl := hG1.wl
  have hT : 0 ≤ s1.timer + s1.timeout ∧ s1.timer + s1.timeout < 4611686018427387904 := by have := hG1.ti; have := hG1.to; omega
  obtain ⟨c, hc⟩ : ∃ c : Nat, s1.chunk = (c : Int) := ⟨s1.chunk.toNat, by have := hG1.c; omega⟩
  have hc2 : 0 < c ∧ c ≤ 512 := by have := hG1.c; omega
  have fin : ∀ (u : Fil.U) (s2 : Fil.Src) (P : Array Value) (b : Bool), P = (u.pdu s1 none 0).cells → b = u.is → u.data s1 = [] → ∀ (e : Ending) (w' : World), (e = .returned (.tuple #[.agg P, .bool b]) ∧ Sts W (srcP q s2 :: l) w') →
      ∃ pa pc, e = .returned (.tuple #[.agg (u.pdu s1 pa pc).cells, .bool u.is]) ∧ Sts W (srcP q s2 :: rowU pa pc (u.data s1) :: l) w' := by
    rintro u s2 P b hP hb' hd e w' ⟨rfl, h⟩
    exact ⟨none, 0, by rw [hP, hb'], by rw [hd]; exact Sts.outNil h⟩
  unfold Fil.Src.goV
  by_cases c1 : s1.susp = true
  · rw [if_pos c1]
    exact (cNextSusp hl q s s1 hs now hp c1).mono (fin .non s1 _ _ rfl rfl rfl)
  · rw [if_neg c1]
    have c1 : s1.susp = false := by simpa using c1
    by_cases c2 : s1.due = true
    · rw [if_pos c2]
      exact (cNextAck hl q s s1 hs now hp c1 c2).mono (fin .ack s1.finV _ _ rfl rfl rfl)
    · rw [if_neg c2]
      have c2 : s1.due = false := by simpa using c2
      by_cases c3 : s1.phase = 3
      · rw [if_pos c3]
        exact (cNextOff hl q s s1 hs now hp c1 c2 c3 hn hb).mono (fin (.eof 17) _ _ _ rfl rfl rfl)
      · rw [if_neg c3]
        have c3' : (s1.phase == 3) = false := by simpa using c3
        by_cases c4 : 4 ≤ s1.phase
        · rw [if_pos c4]
          exact (cNextOver hl q s s1 hs now hp c1 c2 c3' (by simpa using c4)).mono (fin .non s1 _ _ rfl rfl rfl)
        · rw [if_neg c4]
          have c4' : decide (4 ≤ s1.phase) = false := decide_eq_false c4
          by_cases c5 : s1.mreq = true
          · rw [if_pos c5]
            exact (cNextMeta hl q s s1 hs now hp c1 c2 c3' c4' c5).mono (fin .head _ _ _ rfl rfl rfl)
          · rw [if_neg c5]
            have c5 : s1.mreq = false := by simpa using c5
            cases hw : s1.wanted with
            | cons g rest =>
              simp only []
              have hg := hG1.w g (by rw [hw]; simp)
              obtain ⟨a, b⟩ := g
              obtain ⟨f, rfl⟩ : ∃ f : Nat, a = (f : Int) := ⟨a.toNat, by simp only [] at hg; omega⟩
              obtain ⟨t, rfl⟩ : ∃ t : Nat, b = (t : Int) := ⟨b.toNat, by simp only [] at hg; omega⟩
              simp only [] at hg
              unfold Fil.Src.agnV
              simp only [Int.toNat_natCast]
              have hc3 : s1.chunk.toNat = c := by omega
              rw [hc3]
              refine Calls.mono (cNextAgain hl q s s1 hs now hp c1 c2 c3' c4' c5 rest.length (by rw [hw]; rfl) hn hb f t c (min t (f + c)) rest hw (by omega) (by omega) hc hc2 rfl (by omega)) ?_
              rintro e w' ⟨pa, pc, h1, h2⟩
              exact ⟨pa, pc, h1, h2⟩
            | nil =>
              simp only []
              have c6 : s1.wanted.length = 0 := by rw [hw]; rfl
              by_cases c7 : s1.phase = 0
              · rw [if_pos c7]
                unfold Fil.Src.fwdV
                by_cases h0 : s1.started = false
                · rw [if_pos h0]
                  exact (cNextFwdHead hl q s s1 hs now hp c1 c2 c7 c5 c6 h0).mono (fin .head _ _ _ rfl rfl rfl)
                · rw [if_neg h0]
                  have h0 : s1.started = true := by simpa using h0
                  by_cases h1 : s1.at' < (s1.data.length : Int)
                  · rw [if_pos h1]
                    obtain ⟨f, hf⟩ : ∃ f : Nat, s1.at' = (f : Int) := ⟨s1.at'.toNat, by have := hG1.at0; omega⟩
                    have hf2 : s1.at'.toNat = f := by omega
                    have hc3 : s1.chunk.toNat = c := by omega
                    rw [hf2, hc3]
                    exact cNextFwdPiece hl q s s1 hs now hp c1 c2 c7 c5 c6 hn hb f c (min (f + c) s1.data.length) h0 hf hc (by omega) hc2 rfl
                  · rw [if_neg h1]
                    exact (cNextFwdEof hl q s s1 hs now hp c1 c2 c7 c5 c6 hn hb h0 (by omega) s1.eofV rfl).mono (fin (.eof 0) _ _ _ rfl rfl rfl)
              · rw [if_neg c7]
                have c7' : (s1.phase == 0) = false := by simpa using c7
                unfold Fil.Src.repV
                by_cases hq : s1.quietB = true
                · rw [if_pos hq]
                  exact (cNextRepNo hl q s s1 hs now hp c1 c2 c3' c4' c5 c6 c7' hT hq).mono (fin .non s1 _ _ rfl rfl rfl)
                · rw [if_neg hq]
                  have hq2 : s1.phase = 1 ∧ s1.acked = false ∧ decide (s1.now < s1.timer + s1.timeout) = false := by
                    have hq : s1.quietB = false := by simpa using hq
                    unfold Fil.Src.quietB at hq
                    simp only [Bool.or_eq_false_iff, Bool.not_eq_false', beq_iff_eq] at hq
                    exact ⟨hq.1.1, hq.1.2, hq.2⟩
                  obtain ⟨d1, d2, d3⟩ := hq2
                  by_cases hr : s1.retries ≤ s1.tries
                  · rw [if_pos hr]
                    exact (cNextRepFail hl q s s1 hs now hp c1 c2 d1 c5 c6 d2 d3 hT (decide_eq_true hr)).mono (fin .non _ _ _ rfl rfl rfl)
                  · rw [if_neg hr]
                    exact (cNextRepEof hl q s s1 hs now hp c1 c2 d1 c5 c6 d2 d3 hT hn hb (decide_eq_false hr) (by have := hG1.tr; omega)).mono (fin (.eof 0) _ _ _ rfl rfl rfl)
theorem cTake (p : Fil.Pdu) (now : Int) (hname : p.name.size ≤ 1000000) (hdata : p.data.length < 1000000000) (hgl : p.gaps.length < 1000) (hg : ∀ A y, Sts W (A :: l) y → RdR y (.slice p.ga p.gaps.length p.gc) p.gaps) :
    Calls Try.prog 25 #[.pointer (some ⟨q, 0, none⟩), .agg p.cells, .int .i64 now] w fun e w' => e = .returned (.int .i64 (s.takeV p now).2) ∧ Sts W (srcP q (s.takeV p now).1 :: l) w' := by
  have hG1 := hG.pass now
  unfold Fil.Src.takeV
  obtain ⟨s1, hp⟩ : ∃ s1, s.pass now = s1 := ⟨_, rfl⟩
  rw [hp] at hG1 ⊢
  have hwl := hG1.wl
  unfold Fil.Src.recV
  by_cases hb : (p.validB && (p.src == s1.src) && (p.num == s1.num) && !Fil.fwdB p.kind) = false
  · rw [if_pos hb]
    cases hv : p.validB with
    | false => exact cTakeBad hl q s s1 hs now hp p hname hdata hgl hg hv
    | true =>
      cases hi : ((p.src == s1.src) && (p.num == s1.num)) with
      | false => exact cTakeId hl q s s1 hs now hp p hname hdata hgl hg hv hi
      | true =>
        simp only [Bool.and_eq_true] at hi
        have hf : Fil.fwdB p.kind = true := by simpa [hv, hi.1, hi.2] using hb
        exact cTakeFwd hl q s s1 hs now hp p hname hdata hgl hg hv hi.1 hi.2 hf
  · rw [if_neg hb]
    have hb : (p.validB && (p.src == s1.src) && (p.num == s1.num) && !Fil.fwdB p.kind) = true := by rwa [Bool.not_eq_false] at hb
    simp only [Bool.and_eq_true] at hb
    obtain ⟨⟨⟨hv, i1⟩, i2⟩, hf⟩ := hb
    have hf : Fil.fwdB p.kind = false := by simpa using hf
    by_cases hc : s1.cls = 2
    · rw [if_neg (by simpa using hc)]
      by_cases h6 : p.kind = 6
      · rw [if_pos h6]
        unfold Fil.Src.ackV
        by_cases p0 : s1.phase = 0
        · rw [if_pos p0]; exact cTakeAck0 hl q s s1 hs now hp p hname hdata hgl hg hv i1 i2 hf hc h6 p0
        · rw [if_neg p0]
          by_cases p1 : s1.phase = 1
          · rw [if_pos p1]; exact cTakeAck1 hl q s s1 hs now hp p hname hdata hgl hg hv i1 i2 hf hc h6 p1
          · rw [if_neg p1]; exact cTakeAck2 hl q s s1 hs now hp p hname hdata hgl hg hv i1 i2 hf hc h6 (by simpa using p0) (by simpa using p1)
      · rw [if_neg h6]
        by_cases h4 : p.kind = 4
        · rw [if_pos h4]
          unfold Fil.Src.reqV
          by_cases ha : (p.gaps.any fun r => decide ((s1.data.length : Int) < r.2)) = true
          · rw [if_pos ha]
            refine cTakeNakBad hl q s s1 hs now hp p hname hdata hgl hg hv i1 i2 hf hc h4 ?_
            obtain ⟨r, hr, h⟩ := List.any_eq_true.1 ha
            exact ⟨r, hr, by simpa using h⟩
          · rw [if_neg ha]
            have hok : ∀ r ∈ p.gaps, r.2 ≤ (s1.data.length : Int) := by
              intro r hr
              rcases Int.lt_or_le (s1.data.length : Int) r.2 with h | h
              · exact absurd (List.any_eq_true.2 ⟨r, hr, by simpa using h⟩) ha
              · exact h
            by_cases p0 : s1.phase = 0
            · rw [if_neg (fun h => h.1 p0)]
              exact cTakeNak0 hl q s s1 hs now hp p hname hdata hgl hg hv i1 i2 hf hc h4 hok p0 (by omega)
            · by_cases p1 : s1.phase = 1
              · rw [if_neg (fun h => h.2 p1)]
                exact cTakeNak1 hl q s s1 hs now hp p hname hdata hgl hg hv i1 i2 hf hc h4 hok p1 (by omega)
              · rw [if_pos ⟨p0, p1⟩]
                exact cTakeNakIdle hl q s s1 hs now hp p hname hdata hgl hg hv i1 i2 hf hc h4 hok (by simpa using p0) (by simpa using p1)
        · rw [if_neg h4]
          have h6' : (p.kind == 6) = false := by simpa using h6
          have h4' : (p.kind == 4) = false := by simpa using h4
          unfold Fil.Src.endV
          by_cases p2 : s1.phase = 2
          · rw [if_pos p2]; exact cTakeFin2 hl q s s1 hs now hp p hname hdata hgl hg hv i1 i2 hf hc h6' h4' p2
          · rw [if_neg p2]
            by_cases p0 : s1.phase = 0
            · rw [if_pos (Or.inl p0)]; exact cTakeFinA hl q s s1 hs now hp p hname hdata hgl hg hv i1 i2 hf hc h6' h4' p0
            · by_cases p1 : s1.phase = 1
              · rw [if_pos (Or.inr p1)]; exact cTakeFinB hl q s s1 hs now hp p hname hdata hgl hg hv i1 i2 hf hc h6' h4' p1
              · rw [if_neg (by rintro (h | h); exact p0 h; exact p1 h)]
                exact cTakeFin3 hl q s s1 hs now hp p hname hdata hgl hg hv i1 i2 hf hc h6' h4' (by simpa using p0) (by simpa using p1) (by simpa using p2)
    · rw [if_pos hc]
      exact cTakeState hl q s s1 hs now hp p hname hdata hgl hg hv i1 i2 hf (by simpa using hc)
end
end Go.Proofs.Ytfjadhkhmhnccaa
namespace Rng
/-- What lies in a valid list lies where its members lie. -/
theorem bound {v : List R} {a b : Int} (hv : Valid v) (h : ∀ m, Mem m v → a ≤ m ∧ m < b) : ∀ r ∈ v, a ≤ r.1 ∧ r.1 < r.2 ∧ r.2 ≤ b := by
  intro r hr
  have h0 := hv.1 r hr
  have h1 := h r.1 ⟨r, hr, by omega, h0⟩
  have h2 := h (r.2 - 1) ⟨r, hr, by omega, by omega⟩
  omega
theorem bound_of {v : List R} {a b : Int} (h : ∀ r ∈ v, a ≤ r.1 ∧ r.2 ≤ b) : ∀ m, Mem m v → a ≤ m ∧ m < b := by
  rintro m ⟨r, hr, h1, h2⟩
  have := h r hr
  omega
theorem remV_spec (l : List R) (r : R) : Valid (remV l r) ∧ ∀ m, Mem m (remV l r) → Mem m l := by
  unfold remV
  split
  · exact ⟨(ofV_spec l).1, fun m hm => ((ofV_spec l).2 m).1 hm⟩
  · refine ⟨(ofV_spec _).1, fun m hm => ?_⟩
    obtain ⟨x, hx, h1, h2⟩ := ((ofV_spec _).2 m).1 hm
    rw [List.mem_flatMap] at hx
    obtain ⟨y, hy, hxy⟩ := hx
    refine ((ofV_spec l).2 m).1 ⟨y, hy, ?_⟩
    simp only [cut, List.mem_cons, List.not_mem_nil, or_false] at hxy
    rcases hxy with rfl | rfl <;> simp only [] at h1 h2 <;> omega
end Rng
namespace Fil
theorem gapsGo_nonneg : ∀ (l : List Rng.R) (f : Bool) (last : Int), gapsGo f last l = true → ∀ g ∈ l, 0 ≤ g.1
  | [], _, _, _ => by simp
  | x :: l, f, last, h => by
    unfold gapsGo at h
    intro g hg
    split at h
    · rename_i hc
      rcases List.mem_cons.1 hg with rfl | hg
      · rw [hc.2]; exact Int.le_refl _
      · exact gapsGo_nonneg l _ _ h g hg
    · split at h
      · cases h
      · rename_i hc
        rcases List.mem_cons.1 hg with rfl | hg
        · omega
        · exact gapsGo_nonneg l _ _ h g hg
theorem Good.finV {s : Src} (h : Good s) : Good s.finV := ⟨h.n, h.b, h.c, h.to, h.re, h.nw, h.ti, h.tr, h.at0, h.w, h.wv⟩
theorem Good.eofV {s : Src} (h : Good s) : Good s.eofV := by
  unfold Src.eofV
  split
  · exact ⟨h.n, h.b, h.c, h.to, h.re, h.nw, h.nw, ⟨Int.le_refl _, by show (0 : Int) ≤ 255; omega⟩, h.at0, h.w, h.wv⟩
  · exact ⟨h.n, h.b, h.c, h.to, h.re, h.nw, h.ti, h.tr, h.at0, h.w, h.wv⟩
theorem Good.remW {s : Src} (h : Good s) (r : Rng.R) : Good { s with wanted := Rng.remV s.wanted r } := by
  obtain ⟨h1, h2⟩ := Rng.remV_spec s.wanted r
  exact ⟨h.n, h.b, h.c, h.to, h.re, h.nw, h.ti, h.tr, h.at0, Rng.bound h1 fun m hm => Rng.bound_of (fun x hx => ⟨(h.w x hx).1, (h.w x hx).2.2⟩) m (h2 m hm), h1⟩
theorem Good.goV {s : Src} (h : Good s) : Good s.goV.1 := by
  unfold Src.goV
  split
  · exact h
  split
  · exact h.finV
  split
  · exact ⟨h.n, h.b, h.c, h.to, h.re, h.nw, h.ti, h.tr, h.at0, h.w, h.wv⟩
  split
  · exact h
  split
  · exact ⟨h.n, h.b, h.c, h.to, h.re, h.nw, h.ti, h.tr, h.at0, h.w, h.wv⟩
  split
  · exact h.remW _
  · split
    · unfold Src.fwdV
      split
      · exact ⟨h.n, h.b, h.c, h.to, h.re, h.nw, h.ti, h.tr, h.at0, h.w, h.wv⟩
      · split
        · exact ⟨h.n, h.b, h.c, h.to, h.re, h.nw, h.ti, h.tr, Int.natCast_nonneg _, h.w, h.wv⟩
        · exact h.eofV
    · unfold Src.repV
      split
      · exact h
      · split
        · exact ⟨h.n, h.b, h.c, h.to, h.re, h.nw, h.ti, h.tr, h.at0, h.w, h.wv⟩
        · rename_i hr
          have h1 := h.tr
          have h2 := h.re
          exact ⟨h.n, h.b, h.c, h.to, h.re, h.nw, h.nw, ⟨by show 0 ≤ s.tries + 1; omega, by show s.tries + 1 ≤ 255; omega⟩, h.at0, h.w, h.wv⟩
theorem Good.nextV {s : Src} (h : Good s) (now : Int) : Good (s.nextV now).1 := (h.pass now).goV
theorem Good.req1 {s : Src} (h : Good s) (g : Rng.R) (hg : 0 ≤ g.1 ∧ g.2 ≤ (s.data.length : Int)) : Good (s.req1 g) ∧ (s.req1 g).data = s.data := by
  unfold Src.req1
  split
  · exact ⟨⟨h.n, h.b, h.c, h.to, h.re, h.nw, h.ti, h.tr, h.at0, h.w, h.wv⟩, rfl⟩
  · have hv := (Rng.ofV_spec (s.wanted ++ [g])).1
    refine ⟨⟨h.n, h.b, h.c, h.to, h.re, h.nw, h.ti, h.tr, h.at0, Rng.bound hv fun m hm => Rng.bound_of ?_ m (((Rng.ofV_spec _).2 m).1 hm), hv⟩, rfl⟩
    intro x hx
    rcases List.mem_append.1 hx with hx | hx
    · exact ⟨(h.w x hx).1, (h.w x hx).2.2⟩
    · simp at hx; subst hx; exact hg
theorem Good.reqGo : ∀ (l : List Rng.R) {s : Src}, Good s → (∀ g ∈ l, 0 ≤ g.1 ∧ g.2 ≤ (s.data.length : Int)) → Good (s.reqGo l)
  | [], s, h, _ => h
  | g :: l, s, h, hl => by
    obtain ⟨h1, h2⟩ := h.req1 g (hl g (by simp))
    exact Good.reqGo l h1 (by rw [h2]; exact fun x hx => hl x (by simp [hx]))
theorem Good.recV {s : Src} (h : Good s) (p : Pdu) : Good (s.recV p).1 := by
  unfold Src.recV
  split
  · exact h
  rename_i hb
  split
  · exact h
  split
  · unfold Src.ackV
    split
    · exact h
    · split
      · exact ⟨h.n, h.b, h.c, h.to, h.re, h.nw, h.ti, h.tr, h.at0, h.w, h.wv⟩
      · exact h
  split
  · rename_i h4
    unfold Src.reqV
    split
    · exact h
    rename_i ha
    split
    · exact h
    · have hv : p.validB = true := by
        rw [Bool.not_eq_false] at hb
        simp only [Bool.and_eq_true] at hb
        exact hb.1.1.1
      have hk : gapsB p.gaps = true := by
        unfold Pdu.validB at hv
        simp only [Bool.and_eq_true] at hv
        have := hv.2
        unfold Pdu.kindB at this
        simpa [h4] using this
      unfold gapsB at hk
      simp only [Bool.and_eq_true] at hk
      have hn := gapsGo_nonneg _ _ _ hk.1
      have hg := Good.reqGo p.gaps h (fun g hg => ⟨hn g hg, by
        rcases Int.lt_or_le (s.data.length : Int) g.2 with h | h
        · exact absurd (List.any_eq_true.2 ⟨g, hg, by simpa using h⟩) ha
        · exact h⟩)
      exact ⟨hg.n, hg.b, hg.c, hg.to, hg.re, hg.nw, hg.nw, ⟨Int.le_refl _, by show (0 : Int) ≤ 255; omega⟩, hg.at0, hg.w, hg.wv⟩
  · unfold Src.endV
    split
    · exact h
    · split
      · exact ⟨h.n, h.b, h.c, h.to, h.re, h.nw, h.ti, h.tr, h.at0, by simp, Rng.Valid.nil⟩
      · exact ⟨h.n, h.b, h.c, h.to, h.re, h.nw, h.ti, h.tr, h.at0, h.w, h.wv⟩
theorem Good.takeV {s : Src} (h : Good s) (p : Pdu) (now : Int) : Good (s.takeV p now).1 := (h.pass now).recV p
end Fil
namespace Fil
def Src.canV (s : Src) : Src × Int := if 1 < s.phase then (s, 12) else ({ s with code := 17, mreq := false, wanted := [], susp := false, phase := if s.cls = 2 then 3 else 6 }, 0)
theorem Good.suspV {s : Src} (h : Good s) (now : Int) : Good (s.suspV now).1 := by
  have h := h.pass now
  unfold Src.suspV
  split
  · exact h
  · exact ⟨h.n, h.b, h.c, h.to, h.re, h.nw, h.ti, h.tr, h.at0, h.w, h.wv⟩
theorem Good.resV {s : Src} (h : Good s) (now : Int) : Good (s.resV now).1 := by
  have h := h.pass now
  unfold Src.resV
  split
  · exact h
  · exact ⟨h.n, h.b, h.c, h.to, h.re, h.nw, h.nw, h.tr, h.at0, h.w, h.wv⟩
theorem Good.canV {s : Src} (h : Good s) : Good s.canV.1 := by
  unfold Src.canV
  split
  · exact h
  · exact ⟨h.n, h.b, h.c, h.to, h.re, h.nw, h.ti, h.tr, h.at0, by simp, Rng.Valid.nil⟩
end Fil
namespace Go.Proofs.Ytfjadhkhmhnccaa
open Go.RowKit Go.Proofs.Num
section
variable {W w : World} {l : List HProp} (hl : ∀ B ∈ l, Stable B) (q : Nat) (s : Fil.Src) (hs : Sts W (srcP q s :: l) w)
include hl hs
set_option maxRecDepth 100000 in
theorem cSusA (now : Int) (s1 : Fil.Src) (hp1 : s.pass now = s1) (c1 : s1.susp = true) : Calls Try.prog 28 #[.pointer (some ⟨q, 0, none⟩), .int .i64 now] w fun e w' => e = .returned (.int .i64 12) ∧ Sts W (srcP q s1 :: l) w' := by
  obtain ⟨dv0, wv0, h0⟩ := Sts.openSrc hs
  have k0 := (Sts.srcC h0).k0
  have HOK := hid (cOkS w q k0)
  have hP := cPass hl q s hs now
  rw [hp1] at hP
  have HP := hid hP
  have HL := hid hl
  clear hP h0 k0 hs hl hp1
  go_enter Try.func28, Try.ntmps28
  go_wp2_with (first | (go_at_call 59; refine HOK.out.mono ?_; rintro e w2 ⟨rfl, rfl⟩) | (go_at_call 60; refine HP.out.mono ?_; rintro e w1 ⟨rfl, h1⟩; have H1 := hid h1; obtain ⟨dv, wv, h2⟩ := Sts.openSrc h1; have hC := Sts.srcC h2; have k9 := hC.k9; have k10 := hC.k10; have k11 := hC.k11; have k17 := hC.k17; have f11 := hC.fr 11; rw [c1] at k11; have HF := H1; clear h1 h2 hC))
  go_ret
  exact ⟨rfl, HF.out⟩
set_option maxRecDepth 100000 in
theorem cSusB (now : Int) (s1 : Fil.Src) (hp1 : s.pass now = s1) (c1 : s1.susp = false) (c2 : decide (s1.phase > 1) = true) : Calls Try.prog 28 #[.pointer (some ⟨q, 0, none⟩), .int .i64 now] w fun e w' => e = .returned (.int .i64 12) ∧ Sts W (srcP q s1 :: l) w' := by
  obtain ⟨dv0, wv0, h0⟩ := Sts.openSrc hs
  have k0 := (Sts.srcC h0).k0
  have HOK := hid (cOkS w q k0)
  have hP := cPass hl q s hs now
  rw [hp1] at hP
  have HP := hid hP
  have HL := hid hl
  clear hP h0 k0 hs hl hp1
  go_enter Try.func28, Try.ntmps28
  go_wp2_with (first | (go_at_call 59; refine HOK.out.mono ?_; rintro e w2 ⟨rfl, rfl⟩) | (go_at_call 60; refine HP.out.mono ?_; rintro e w1 ⟨rfl, h1⟩; have H1 := hid h1; obtain ⟨dv, wv, h2⟩ := Sts.openSrc h1; have hC := Sts.srcC h2; have k9 := hC.k9; have k10 := hC.k10; have k11 := hC.k11; have k17 := hC.k17; have f11 := hC.fr 11; rw [c1] at k11; have HF := H1; clear h1 h2 hC))
  go_ret
  exact ⟨rfl, HF.out⟩
set_option maxRecDepth 100000 in
theorem cSusC (now : Int) (s1 : Fil.Src) (hp1 : s.pass now = s1) (c1 : s1.susp = false) (c2 : decide (s1.phase > 1) = false) : Calls Try.prog 28 #[.pointer (some ⟨q, 0, none⟩), .int .i64 now] w fun e w' => e = .returned (.int .i64 0) ∧ Sts W (srcP q { s1 with susp := true } :: l) w' := by
  obtain ⟨dv0, wv0, h0⟩ := Sts.openSrc hs
  have k0 := (Sts.srcC h0).k0
  have HOK := hid (cOkS w q k0)
  have hP := cPass hl q s hs now
  rw [hp1] at hP
  have HP := hid hP
  have HL := hid hl
  clear hP h0 k0 hs hl hp1
  go_enter Try.func28, Try.ntmps28
  go_wp2_with (first | (go_at_call 59; refine HOK.out.mono ?_; rintro e w2 ⟨rfl, rfl⟩) | (go_at_call 60; refine HP.out.mono ?_; rintro e w1 ⟨rfl, h1⟩; have H1 := hid h1; obtain ⟨dv, wv, h2⟩ := Sts.openSrc h1; have hC := Sts.srcC h2; have k9 := hC.k9; have k10 := hC.k10; have k11 := hC.k11; have k17 := hC.k17; have f11 := hC.fr 11; rw [c1] at k11; have HF := hid (Sts.shutSrc (s := { s1 with susp := true }) (Sts.store (stabC (rowP_stable _ _ _ _ _) (stabC (rowP_stable _ _ _ _ _) HL.out)) h2 (j := 11) (.bool true))); clear h1 h2 hC))
  go_ret
  exact ⟨rfl, HF.out⟩
set_option maxRecDepth 100000 in
theorem cResA (now : Int) (s1 : Fil.Src) (hp1 : s.pass now = s1) (c1 : s1.susp = false) : Calls Try.prog 29 #[.pointer (some ⟨q, 0, none⟩), .int .i64 now] w fun e w' => e = .returned (.int .i64 12) ∧ Sts W (srcP q s1 :: l) w' := by
  obtain ⟨dv0, wv0, h0⟩ := Sts.openSrc hs
  have k0 := (Sts.srcC h0).k0
  have HOK := hid (cOkS w q k0)
  have hP := cPass hl q s hs now
  rw [hp1] at hP
  have HP := hid hP
  have HL := hid hl
  clear hP h0 k0 hs hl hp1
  go_enter Try.func29, Try.ntmps29
  go_wp2_with (first | (go_at_call 59; refine HOK.out.mono ?_; rintro e w2 ⟨rfl, rfl⟩) | (go_at_call 60; refine HP.out.mono ?_; rintro e w1 ⟨rfl, h1⟩; have H1 := hid h1; obtain ⟨dv, wv, h2⟩ := Sts.openSrc h1; have hC := Sts.srcC h2; have k9 := hC.k9; have k10 := hC.k10; have k11 := hC.k11; have k17 := hC.k17; have f11 := hC.fr 11; rw [c1] at k11; have HF := H1; clear h1 h2 hC))
  go_ret
  exact ⟨rfl, HF.out⟩
set_option maxRecDepth 100000 in
theorem cResB (now : Int) (s1 : Fil.Src) (hp1 : s.pass now = s1) (c1 : s1.susp = true) : Calls Try.prog 29 #[.pointer (some ⟨q, 0, none⟩), .int .i64 now] w fun e w' => e = .returned (.int .i64 0) ∧ Sts W (srcP q { s1 with susp := false, timer := s1.now } :: l) w' := by
  obtain ⟨dv0, wv0, h0⟩ := Sts.openSrc hs
  have k0 := (Sts.srcC h0).k0
  have HOK := hid (cOkS w q k0)
  have hP := cPass hl q s hs now
  rw [hp1] at hP
  have HP := hid hP
  have HL := hid hl
  clear hP h0 k0 hs hl hp1
  go_enter Try.func29, Try.ntmps29
  go_wp2_with (first | (go_at_call 59; refine HOK.out.mono ?_; rintro e w2 ⟨rfl, rfl⟩) | (go_at_call 60; refine HP.out.mono ?_; rintro e w1 ⟨rfl, h1⟩; have H1 := hid h1; obtain ⟨dv, wv, h2⟩ := Sts.openSrc h1; have hC := Sts.srcC h2; have k9 := hC.k9; have k10 := hC.k10; have k11 := hC.k11; have k17 := hC.k17; have f11 := hC.fr 11; rw [c1] at k11; have st1 := Sts.store (stabC (rowP_stable _ _ _ _ _) (stabC (rowP_stable _ _ _ _ _) HL.out)) h2 (j := 11) (.bool false); have hB := Sts.srcC (dv := dv) (wv := wv) (s := { s1 with susp := false }) st1; have b9 := hB.k9; have b17 := hB.k17; have f17 := hB.fr 17; (try dsimp only at b9 b17); have HF := hid (Sts.shutSrc (s := { s1 with susp := false, timer := s1.now }) (Sts.store (stabC (rowP_stable _ _ _ _ _) (stabC (rowP_stable _ _ _ _ _) HL.out)) st1 (j := 17) (.int .i64 s1.now))); clear st1 hB; clear h1 h2 hC))
  go_ret
  exact ⟨rfl, HF.out⟩
theorem cSuspend (now : Int) : Calls Try.prog 28 #[.pointer (some ⟨q, 0, none⟩), .int .i64 now] w fun e w' => e = .returned (.int .i64 (s.suspV now).2) ∧ Sts W (srcP q (s.suspV now).1 :: l) w' := by
  unfold Fil.Src.suspV
  cases c1 : (s.pass now).susp with
  | true =>
    rw [if_pos (Or.inl rfl)]
    exact cSusA hl q s hs now _ rfl c1
  | false =>
    by_cases c2 : 1 < (s.pass now).phase
    · rw [if_pos (Or.inr c2)]
      exact cSusB hl q s hs now _ rfl c1 (decide_eq_true c2)
    · rw [if_neg (by rintro (h | h); cases h; exact c2 h)]
      exact cSusC hl q s hs now _ rfl c1 (decide_eq_false c2)
theorem cResume (now : Int) : Calls Try.prog 29 #[.pointer (some ⟨q, 0, none⟩), .int .i64 now] w fun e w' => e = .returned (.int .i64 (s.resV now).2) ∧ Sts W (srcP q (s.resV now).1 :: l) w' := by
  unfold Fil.Src.resV
  by_cases c1 : (s.pass now).susp = false
  · rw [if_pos c1]
    exact cResA hl q s hs now _ rfl c1
  · rw [if_neg c1]
    exact cResB hl q s hs now _ rfl (by simpa using c1)
omit hl in
set_option maxRecDepth 100000 in
theorem cCanA (c1 : decide (s.phase > 1) = true) : Calls Try.prog 30 #[.pointer (some ⟨q, 0, none⟩)] w fun e w' => e = .returned (.int .i64 12) ∧ Sts W (srcP q s :: l) w' := by
  obtain ⟨dv, wv, h⟩ := Sts.openSrc hs
  have hC := Sts.srcC h
  have k10 := hC.k10
  have HOK := hid (cOkS w q hC.k0)
  have HF := hid hs
  clear hC h hs
  go_enter Try.func30, Try.ntmps30
  go_wp2_with (first | (go_at_call 59; refine HOK.out.mono ?_; rintro e w2 ⟨rfl, rfl⟩))
  go_ret
  exact ⟨rfl, HF.out⟩
set_option maxRecDepth 100000 in
theorem cCanB (c1 : decide (s.phase > 1) = false) (c2 : s.cls = 2) : Calls Try.prog 30 #[.pointer (some ⟨q, 0, none⟩)] w fun e w' => e = .returned (.int .i64 0) ∧ Sts W (srcP q { s with code := 17, mreq := false, wanted := [], susp := false, phase := 3 } :: l) w' := by
  obtain ⟨dv, wv, h⟩ := Sts.openSrc hs
  have hC := Sts.srcC h
  have k10 := hC.k10
  have k20 := hC.k20
  have f20 := hC.fr 20
  have HOK := hid (cOkS w q hC.k0)
  have hs2 := Sts.shutSrc (s := { s with code := 17 }) (dv := dv) (wv := wv) (Sts.store (stabC (rowP_stable _ _ _ _ _) (stabC (rowP_stable _ _ _ _ _) hl)) h (j := 20) (.int .i64 17))
  have HG := hid (cForget hl q { s with code := 17 } hs2)
  have HL := hid hl
  clear hC h hs hs2 hl
  go_enter Try.func30, Try.ntmps30
  go_wp2_with (first | (go_at_call 59; refine HOK.out.mono ?_; rintro e w2 ⟨rfl, rfl⟩) | (go_at_call 78; refine HG.out.mono ?_; rintro e w3 ⟨rfl, h3⟩; obtain ⟨dv3, wv3, h4⟩ := Sts.openSrc h3; have a0 := Sts.srcC h4; have a11 := a0.k11; have g11 := a0.fr 11; have st1 := Sts.store (stabC (rowP_stable _ _ _ _ _) (stabC (rowP_stable _ _ _ _ _) HL.out)) h4 (j := 11) (.bool false); have b0 := Sts.srcC (dv := dv3) (wv := wv3) (s := { s with code := 17, mreq := false, wanted := [], susp := false }) st1; have b10 := b0.k10; have g10 := b0.fr 10; have st2 := Sts.store (stabC (rowP_stable _ _ _ _ _) (stabC (rowP_stable _ _ _ _ _) HL.out)) st1 (j := 10) (.int .i64 6); have d0 := Sts.srcC (dv := dv3) (wv := wv3) (s := { s with code := 17, mreq := false, wanted := [], susp := false, phase := 6 }) st2; have d3 := d0.k3; have d10 := d0.k10; have e10 := d0.fr 10; (try dsimp only at a11 b10 d3 d10); rw [c2] at d3; have HF := hid (Sts.shutSrc (s := { s with code := 17, mreq := false, wanted := [], susp := false, phase := 3 }) (dv := dv3) (wv := wv3) (Sts.store (stabC (rowP_stable _ _ _ _ _) (stabC (rowP_stable _ _ _ _ _) HL.out)) st2 (j := 10) (.int .i64 3))); clear HG h3 h4 a0 st1 b0 st2 d0))
  go_ret
  exact ⟨rfl, HF.out⟩
set_option maxRecDepth 100000 in
theorem cCanC (c1 : decide (s.phase > 1) = false) (c2 : (s.cls == 2) = false) : Calls Try.prog 30 #[.pointer (some ⟨q, 0, none⟩)] w fun e w' => e = .returned (.int .i64 0) ∧ Sts W (srcP q { s with code := 17, mreq := false, wanted := [], susp := false, phase := 6 } :: l) w' := by
  obtain ⟨dv, wv, h⟩ := Sts.openSrc hs
  have hC := Sts.srcC h
  have k10 := hC.k10
  have k20 := hC.k20
  have f20 := hC.fr 20
  have HOK := hid (cOkS w q hC.k0)
  have hs2 := Sts.shutSrc (s := { s with code := 17 }) (dv := dv) (wv := wv) (Sts.store (stabC (rowP_stable _ _ _ _ _) (stabC (rowP_stable _ _ _ _ _) hl)) h (j := 20) (.int .i64 17))
  have HG := hid (cForget hl q { s with code := 17 } hs2)
  have HL := hid hl
  clear hC h hs hs2 hl
  go_enter Try.func30, Try.ntmps30
  go_wp2_with (first | (go_at_call 59; refine HOK.out.mono ?_; rintro e w2 ⟨rfl, rfl⟩) | (go_at_call 78; refine HG.out.mono ?_; rintro e w3 ⟨rfl, h3⟩; obtain ⟨dv3, wv3, h4⟩ := Sts.openSrc h3; have a0 := Sts.srcC h4; have a11 := a0.k11; have g11 := a0.fr 11; have st1 := Sts.store (stabC (rowP_stable _ _ _ _ _) (stabC (rowP_stable _ _ _ _ _) HL.out)) h4 (j := 11) (.bool false); have b0 := Sts.srcC (dv := dv3) (wv := wv3) (s := { s with code := 17, mreq := false, wanted := [], susp := false }) st1; have b10 := b0.k10; have g10 := b0.fr 10; have st2 := Sts.store (stabC (rowP_stable _ _ _ _ _) (stabC (rowP_stable _ _ _ _ _) HL.out)) st1 (j := 10) (.int .i64 6); have d0 := Sts.srcC (dv := dv3) (wv := wv3) (s := { s with code := 17, mreq := false, wanted := [], susp := false, phase := 6 }) st2; have d3 := d0.k3; have d10 := d0.k10; have e10 := d0.fr 10; (try dsimp only at a11 b10 d3 d10); have HF := hid (Sts.shutSrc (s := { s with code := 17, mreq := false, wanted := [], susp := false, phase := 6 }) (dv := dv3) (wv := wv3) st2); clear HG h3 h4 a0 st1 b0 st2 d0))
  go_ret
  exact ⟨rfl, HF.out⟩
theorem cCancel : Calls Try.prog 30 #[.pointer (some ⟨q, 0, none⟩)] w fun e w' => e = .returned (.int .i64 s.canV.2) ∧ Sts W (srcP q s.canV.1 :: l) w' := by
  unfold Fil.Src.canV
  by_cases c1 : 1 < s.phase
  · rw [if_pos c1]
    exact cCanA q s hs (decide_eq_true c1)
  · rw [if_neg c1]
    by_cases c2 : s.cls = 2
    · rw [if_pos c2]
      exact cCanB hl q s hs (decide_eq_false c1) c2
    · rw [if_neg c2]
      exact cCanC hl q s hs (decide_eq_false c1) (by simpa using c2)
end
end Go.Proofs.Ytfjadhkhmhnccaa
