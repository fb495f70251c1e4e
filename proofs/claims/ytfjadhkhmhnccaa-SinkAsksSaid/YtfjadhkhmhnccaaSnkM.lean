/- The receiving end as a model: what units leave, what the examples' receptions come to. No program in sight. -/
import Derived.Test.YtfjadhkhmhnccaaSnkD
import Derived.Test.YtfjadhkhmhnccaaSnkC
import Derived.Test.YtfjadhkhmhnccaaPduValid
import Derived.Test.YtfjadhkhmhnccaaSrcTke
set_option linter.unusedVariables false
set_option linter.unusedSimpArgs false
namespace Fil
open Go
/-- The bytes of a piece laid where nothing lies. -/
def putK (g : List Rng.R) (po : Nat) (ds data : List Nat) : Nat → List Nat
  | 0 => data
  | k + 1 => if Rng.hasB g ((po + k : Nat) : Int) = true then putK g po ds data k else (putK g po ds data k).set (po + k) (ds[k]?.getD 0)
theorem putK_len (g : List Rng.R) (po : Nat) (ds data : List Nat) : ∀ k, (putK g po ds data k).length = data.length
  | 0 => rfl
  | k + 1 => by unfold putK; split <;> simp [putK_len g po ds data k]
theorem putK_lt (g : List Rng.R) (po : Nat) (ds data : List Nat) (hd : ∀ x ∈ data, x < 256) (hs : ∀ x ∈ ds, x < 256) : ∀ k, ∀ x ∈ putK g po ds data k, x < 256
  | 0 => hd
  | k + 1 => by
    unfold putK
    split
    · exact putK_lt g po ds data hd hs k
    · intro x hx
      rcases List.mem_or_eq_of_mem_set hx with h | rfl
      · exact putK_lt g po ds data hd hs k x h
      · cases h : ds[k]? with
        | none => simp
        | some y => simp; exact hs y (List.mem_of_getElem? h)
def Snk.grown (s : Snk) (to : Nat) : List Nat := s.data ++ List.replicate (to - s.data.length) 0
/-- What a piece leaves. -/
def Snk.pcS (s : Snk) (po : Nat) (ds : List Nat) : Snk := { s with data := putK s.got po ds (s.grown (po + ds.length)) ds.length, got := Rng.ofV (s.got ++ [((po : Int), ((po + ds.length : Nat) : Int))]) }
def Snk.pcV (s : Snk) (po : Nat) (ds : List Nat) : Snk × Int :=
  if (s.tot.2 && decide (((po + ds.length : Nat) : Int) > s.tot.1)) = true then (s, 4) else
  if decide (Rng.sizeV (Rng.ofV (s.pcS po ds).got) > Rng.sizeV (Rng.ofV s.got)) = true then ((s.pcS po ds).prog, 0) else (s.pcS po ds, 0)
end Fil
namespace Rng
theorem hasB_mem (l : List R) (m : Int) : hasB l m = true ↔ Mem m l := by
  unfold hasB Mem
  simp [List.any_eq_true]
theorem sizeV_nil : sizeV [] = 0 := rfl
theorem sizeV_cons (x : R) (l : List R) : sizeV (x :: l) = (x.2 - x.1) + sizeV l := by simp [sizeV]
theorem sizeV_le : ∀ {l : List R}, Valid l → ∀ {a b : Int}, a ≤ b → (∀ r ∈ l, a ≤ r.1 ∧ r.1 < r.2 ∧ r.2 ≤ b) → sizeV l ≤ b - a ∧ (sizeV l = b - a → ∀ m, a ≤ m → m < b → Mem m l)
  | [], _, a, b, hab, _ => by
    rw [sizeV_nil]
    exact ⟨by omega, fun h m h1 h2 => by omega⟩
  | x :: l, h, a, b, hab, hr => by
    obtain ⟨h1, h2, h3⟩ := valid_cons.1 h
    have hx := hr x (by simp)
    obtain ⟨i1, i2⟩ := sizeV_le h3 (a := x.2) (b := b) hx.2.2 (fun r hm => by
      have := h2 r hm; have := hr r (by simp [hm]); omega)
    rw [sizeV_cons]
    refine ⟨by omega, fun he m m1 m2 => ?_⟩
    rw [mem_cons]
    by_cases c : m < x.2
    · exact Or.inl ⟨by omega, c⟩
    · exact Or.inr (i2 (by omega) m (by omega) m2)
theorem cover_eq {l : List R} (h : Valid l) {n : Int} (hn : 0 ≤ n) (hm : ∀ m, Mem m l ↔ 0 ≤ m ∧ m < n) : l = if n = 0 then [] else [(0, n)] := by
  split
  · rename_i h0
    subst h0
    exact uniq h Valid.nil fun m => by rw [hm]; exact ⟨fun h => by omega, fun h => absurd h mem_nil⟩
  · rename_i h0
    refine uniq h (valid_cons.2 ⟨by simp only []; omega, by simp, Valid.nil⟩) fun m => ?_
    rw [hm, mem_cons]
    exact ⟨fun h => Or.inl h, fun h => h.elim id fun h => absurd h mem_nil⟩
theorem sizeV_cover {l : List R} (h : Valid l) {n : Int} (hn : 0 ≤ n) (hm : ∀ m, Mem m l ↔ 0 ≤ m ∧ m < n) : sizeV l = n := by
  rw [cover_eq h hn hm]
  split
  · rename_i h0; rw [h0]; rfl
  · simp [sizeV]
theorem missV_none {l : List R} {n : Int} (hm : ∀ m, 0 ≤ m → m < n → Mem m l) : missV l n = [] := by
  obtain ⟨h1, h2⟩ := missV_mem l n
  exact uniq h1 Valid.nil fun m => by
    rw [h2]
    exact ⟨fun h => absurd (hm m h.1.1 h.1.2) h.2, fun h => absurd h mem_nil⟩
theorem put_valid {l : List R} (h : Valid l) (r : R) : ofV (l ++ [r]) = put l r := by rw [ofV_snoc, ofV_valid h]
end Rng
namespace Fil
open Go
theorem lastV_le {l : List Rng.R} {n : Int} (hn : 0 ≤ n) (h : ∀ r ∈ l, r.2 ≤ n) : lastV l ≤ n := by
  unfold lastV
  split
  · rename_i r hr; exact h r (List.mem_of_getLast? hr)
  · exact hn
theorem putK_get (g : List Rng.R) (po : Nat) (ds data : List Nat) : ∀ k, po + k ≤ data.length → ∀ j, (putK g po ds data k)[j]? = if po ≤ j ∧ j < po + k ∧ Rng.hasB g (j : Int) = false then some (ds[j - po]?.getD 0) else data[j]?
  | 0, _, j => by rw [if_neg (by omega)]; rfl
  | k + 1, hk, j => by
    unfold putK
    have ih := putK_get g po ds data k (by omega) j
    split
    · rename_i hb
      rw [ih]
      by_cases hj : j = po + k
      · subst hj; rw [if_neg (by omega), if_neg (by rw [hb]; simp)]
      · congr 1; apply propext; constructor
        · rintro ⟨a, b, c⟩; exact ⟨a, by omega, c⟩
        · rintro ⟨a, b, c⟩; exact ⟨a, by omega, c⟩
    · rename_i hb
      rw [List.getElem?_set, putK_len]
      by_cases hj : po + k = j
      · subst hj
        rw [if_pos rfl, if_pos (by omega), if_pos ⟨by omega, by omega, by simpa using hb⟩]
        congr 3; omega
      · rw [if_neg hj, ih]
        congr 1; apply propext; constructor
        · rintro ⟨a, b, c⟩; exact ⟨a, by omega, c⟩
        · rintro ⟨a, b, c⟩; exact ⟨a, by omega, c⟩
/-- A unit Eof received. -/
def Snk.eofV (s : Snk) (p : Pdu) : Snk × Int :=
  let r := if s.phase = 0 then s.finV p else (s, 0)
  if r.2 = 0 ∧ s.cls = 2 then ({ r.1 with ack := true, don := r.1.don || ((p.code == 0) && ((s.phase == 2) || (s.phase == 3))) }, 0) else r
/-- A unit received. -/
def Snk.recV (s : Snk) (p : Pdu) : Snk × Int :=
  if p.kind = 1 then (if s.phase = 0 then s.mdV p else (s, 0))
  else if p.kind = 2 then (if s.phase = 0 then s.pcV p.off.toNat p.data else (s, 0))
  else if p.kind = 3 then s.eofV p
  else if s.cls = 2 ∧ (s.phase = 2 ∨ s.phase = 3) then ({ s with ended := true, susp := false, ack := false, nak := false, don := false }, 0) else (s, 12)
def Snk.endV (r : Snk × Int) : Snk × Int := if r.2 = 0 then (r.1.checkV, 0) else r
/-- A unit taken at a time. -/
def Snk.takeV (s : Snk) (p : Pdu) (now : Int) : Snk × Int :=
  if p.validB = false then (s.adv now, 1) else if ((p.src == (s.adv now).src) && (p.num == (s.adv now).num)) = false then (s.adv now, 1) else if fwdB p.kind = false then (s.adv now, 1)
  else if (((p.kind == 1) || (p.kind == 3)) && (p.cls != (s.adv now).cls)) = true then (s.adv now, 1)
  else Snk.endV ((s.adv now).recV p)
def Snk.repV (s : Snk) : Snk × Bool :=
  if s.don = true then ({ s with don := false }, true)
  else if s.cls ≠ 2 ∨ s.ended = true ∨ s.now < s.timer + s.timeout then (s, false)
  else if s.retries ≤ s.tries then ({ s with ended := true }, false)
  else ({ s with tries := s.tries + 1, timer := s.now }, true)
/-- The timer in the phase receiving. -/
def Snk.tickV (s : Snk) : Snk :=
  if s.phase = 0 ∧ s.timer + s.timeout ≤ s.now then
    if s.tries = s.retries then s.failV 10 else { s with tries := s.tries + 1, timer := s.now, nak := s.nak || (s.fin && (s.cls == 2)) }
  else s
def Snk.gapsV (s : Snk) : List Rng.R := ((if s.named = true then [] else [((0 : Int), (0 : Int))]) ++ Rng.missV s.got s.missT).take 16
end Fil
namespace Fil
open Go
/-- The name of the examples' file. -/
def xname : ByteArray := ⟨#[120]⟩
def metaP (c : Int) (n : Nat) : Pdu := { kind := 1, src := 1, num := 5, cls := c, name := xname, size := (n : Int) }
def pieceQ (po : Nat) (da : Option Addr) (ds : List Nat) (dc : Nat) : Pdu := { kind := 2, src := 1, num := 5, off := (po : Int), da := da, data := ds, dc := dc }
def endP (c : Int) (n sm : Nat) : Pdu := { kind := 3, src := 1, num := 5, cls := c, size := (n : Int), sum := sm }
/-- A reception of the bytes b with the checksum sm, under way. -/
structure Snk.Inv (b : List Nat) (c : Int) (sm : Nat) (now : Int) (s : Snk) : Prop where
  src : s.src = 1
  num : s.num = 5
  cls : s.cls = c
  hc : c = 1 ∨ c = 2
  timeout : s.timeout = 10
  retries : s.retries = 2
  nw : s.now = now
  hnow : 0 ≤ now ∧ now ≤ 1
  ended : s.ended = false
  susp : s.susp = false
  timer : 0 ≤ s.timer ∧ s.timer ≤ now
  tries : s.tries = 0
  don : s.don = false
  code : s.code = 0
  hb : b.length ≤ 200
  h8 : ∀ x ∈ b, x < 256
  v : Rng.Valid s.got
  dl : s.data.length ≤ b.length
  d8 : ∀ x ∈ s.data, x < 256
  gm : ∀ m, Rng.Mem m s.got → 0 ≤ m ∧ m < s.data.length
  gd : ∀ m : Nat, Rng.Mem (m : Int) s.got → s.data[m]? = b[m]?
  nm : s.named = true → s.name = xname ∧ s.size = b.length
  fn : s.fin = true → s.endSize = b.length ∧ s.sum = sm
theorem Snk.Inv.adv {b c sm now s} (h : Snk.Inv b c sm now s) : s.adv now = s := by
  unfold Snk.adv
  rw [if_neg]
  rw [h.nw]; omega
theorem Snk.Inv.gn {b c sm now s} (h : Snk.Inv b c sm now s) : ∀ m, Rng.Mem m s.got → 0 ≤ m ∧ m < (b.length : Int) := fun m hm => by
  have := h.gm m hm; have := h.dl; omega
theorem Snk.Inv.rin {b c sm now s} (h : Snk.Inv b c sm now s) : ∀ r ∈ s.got, 0 ≤ r.1 ∧ r.1 < r.2 ∧ r.2 ≤ (b.length : Int) := Rng.valid_in h.v h.gn
theorem Snk.Inv.len {b c sm now s} (h : Snk.Inv b c sm now s) : s.got.length ≤ 200 := by
  have := Rng.valid_len' h.v (b := b.length) (by omega) h.gn
  have := h.hb; omega
theorem Snk.Inv.fit {b c sm now s} (h : Snk.Inv b c sm now s) : s.Fit := by
  have hb := h.hb
  refine ⟨by have := h.len; omega, fun r hr => ?_, by have := h.dl; omega, h.d8⟩
  have := h.rin r hr; omega
theorem Snk.Inv.last {b c sm now s} (h : Snk.Inv b c sm now s) : lastV s.got ≤ b.length := lastV_le (by omega) fun r hr => (h.rin r hr).2.2
theorem metaP_valid (c : Int) (hc : c = 1 ∨ c = 2) (n : Nat) (hn : n ≤ 200) : (metaP c n).validB = true := by
  have h0 : withinB (n : Int) 0 65536 = true := by unfold withinB; simp; omega
  have h1 : (metaP c n).rest = { kind := 1, src := 1, num := 5 } := if_pos rfl
  have h2 : (metaP c n).kindB = (withinB c 1 2 && withinB (n : Int) 0 65536 && nameB xname) := if_pos rfl
  have h3 : withinB c 1 2 = true := by rcases hc with rfl | rfl <;> decide
  unfold Pdu.validB
  rw [h1, h2, h0, h3]
  show (withinB 1 1 7 && withinB 1 0 15 && withinB 5 0 65535 && _ && _) = true
  kernel_rfl
theorem endP_valid (c : Int) (hc : c = 1 ∨ c = 2) (n sm : Nat) (hn : n ≤ 200) : (endP c n sm).validB = true := by
  have h0 : withinB (n : Int) 0 65536 = true := by unfold withinB; simp; omega
  have h1 : (endP c n sm).rest = { kind := 3, src := 1, num := 5 } := (if_neg (show ¬ ((3 : Int) = 1) by decide)).trans ((if_neg (show ¬ ((3 : Int) = 2) by decide)).trans (if_pos rfl))
  have h2 : (endP c n sm).kindB = (withinB c 1 2 && withinB (n : Int) 0 65536 && withinB 0 0 17) := (if_neg (show ¬ ((3 : Int) = 1) by decide)).trans ((if_neg (show ¬ ((3 : Int) = 2) by decide)).trans (if_pos rfl))
  have h3 : withinB c 1 2 = true := by rcases hc with rfl | rfl <;> decide
  unfold Pdu.validB
  rw [h1, h2, h0, h3]
  show (withinB 3 1 7 && withinB 1 0 15 && withinB 5 0 65535 && _ && _) = true
  kernel_rfl
theorem pieceQ_valid (po : Nat) (da : Option Addr) (ds : List Nat) (dc : Nat) (h0 : 0 < ds.length) (h1 : po + ds.length ≤ 200) : (pieceQ po da ds dc).validB = true := by
  have a0 : withinB (ds.length : Int) 1 512 = true := by unfold withinB; simp; omega
  have a1 : withinB (po : Int) 0 (65536 - ds.length) = true := by unfold withinB; simp; omega
  have h1 : (pieceQ po da ds dc).rest = { kind := 2, src := 1, num := 5 } := (if_neg (show ¬ ((2 : Int) = 1) by decide)).trans (if_pos rfl)
  have h2 : (pieceQ po da ds dc).kindB = (withinB (ds.length : Int) 1 512 && withinB (po : Int) 0 (65536 - (ds.length : Int))) := (if_neg (show ¬ ((2 : Int) = 1) by decide)).trans (if_pos rfl)
  unfold Pdu.validB
  rw [h1, h2, a0, a1]
  show (withinB 2 1 7 && withinB 1 0 15 && withinB 5 0 65535 && _ && _) = true
  kernel_rfl
theorem Snk.Inv.takeMeta {b c sm now s} (h : Snk.Inv b c sm now s) : s.takeV (metaP c b.length) now = Snk.endV (if s.phase = 0 then s.mdV (metaP c b.length) else (s, 0)) := by
  unfold Snk.takeV
  rw [metaP_valid c h.hc b.length h.hb, h.adv, if_neg (by simp), h.src, h.num, h.cls]
  unfold Snk.recV
  simp [metaP, fwdB, withinB]
theorem Snk.Inv.takeEnd {b c sm now s} (h : Snk.Inv b c sm now s) (m : Nat) : s.takeV (endP c b.length m) now = Snk.endV (s.eofV (endP c b.length m)) := by
  unfold Snk.takeV
  rw [endP_valid c h.hc b.length m h.hb, h.adv, if_neg (by simp), h.src, h.num, h.cls]
  unfold Snk.recV
  simp [endP, fwdB, withinB]
theorem Snk.Inv.takePiece {b c sm now s} (h : Snk.Inv b c sm now s) (po : Nat) (da : Option Addr) (ds : List Nat) (dc : Nat) (h0 : 0 < ds.length) (h1 : po + ds.length ≤ 200) : s.takeV (pieceQ po da ds dc) now = Snk.endV (if s.phase = 0 then s.pcV po ds else (s, 0)) := by
  unfold Snk.takeV
  rw [pieceQ_valid po da ds dc h0 h1, h.adv, if_neg (by simp), h.src, h.num, h.cls]
  unfold Snk.recV
  simp [pieceQ, fwdB, withinB]
/-- The metadata. -/
theorem Snk.Inv.md {b c sm now s} (h : Snk.Inv b c sm now s) : (s.mdV (metaP c b.length)).2 = 0 ∧ Snk.Inv b c sm now (s.mdV (metaP c b.length)).1 ∧ (s.mdV (metaP c b.length)).1.named = true ∧ (s.mdV (metaP c b.length)).1.fin = s.fin ∧ (s.mdV (metaP c b.length)).1.got = s.got ∧ (s.mdV (metaP c b.length)).1.phase = s.phase ∧ (s.mdV (metaP c b.length)).1.ack = s.ack ∧ (s.mdV (metaP c b.length)).1.nak = s.nak := by
  have hl := h.last
  have hbad : s.metaBad (metaP c b.length) = false := by
    unfold Snk.metaBad
    have e1 : (metaP c b.length).size = b.length := rfl
    have e2 : (metaP c b.length).name = xname := rfl
    rw [e1, e2]
    cases hn : s.named <;> cases hf : s.fin
    · simp; omega
    · have := h.fn hf; simp [this.1]; omega
    · have := h.nm hn; simp [this.1, this.2]; omega
    · have := h.nm hn; have := h.fn hf; simp [*] <;> omega
  unfold Snk.mdV
  rw [hbad, if_neg (by simp)]
  split
  · rename_i hn; exact ⟨rfl, h, hn, rfl, rfl, rfl, rfl, rfl⟩
  · refine ⟨rfl, ?_, rfl, rfl, rfl, rfl, rfl, rfl⟩
    unfold Snk.prog
    exact ⟨h.src, h.num, h.cls, h.hc, h.timeout, h.retries, h.nw, h.hnow, h.ended, h.susp, by simp only [h.nw]; have := h.hnow; omega, rfl, h.don, h.code, h.hb, h.h8, h.v, h.dl, h.d8, h.gm, h.gd, fun _ => ⟨rfl, rfl⟩, h.fn⟩
/-- A piece. -/
theorem Snk.Inv.pc {b c sm now s} (h : Snk.Inv b c sm now s) (po : Nat) (ds : List Nat) (hpo : po + ds.length ≤ b.length) (hds : ds = (b.drop po).take ds.length) :
    (s.pcV po ds).2 = 0 ∧ Snk.Inv b c sm now (s.pcV po ds).1 ∧ (s.pcV po ds).1.named = s.named ∧ (s.pcV po ds).1.fin = s.fin ∧ (s.pcV po ds).1.got = Rng.put s.got ((po : Int), ((po + ds.length : Nat) : Int)) ∧ (s.pcV po ds).1.phase = s.phase ∧ (s.pcV po ds).1.ack = s.ack ∧ (s.pcV po ds).1.nak = s.nak := by
  have htot : (s.tot.2 && decide (((po + ds.length : Nat) : Int) > s.tot.1)) = false := by
    unfold Snk.tot
    split
    · rename_i hn; have := h.nm hn; simp [this.2]; omega
    · cases hf : s.fin
      · simp
      · have := h.fn hf; simp [this.1]; omega
  have hg : (s.pcS po ds).got = Rng.put s.got ((po : Int), ((po + ds.length : Nat) : Int)) := by
    show Rng.ofV _ = _
    exact Rng.put_valid h.v _
  have hm : ∀ m, Rng.Mem m (s.pcS po ds).got ↔ ((po : Int) ≤ m ∧ m < ((po + ds.length : Nat) : Int)) ∨ Rng.Mem m s.got := fun m => by rw [hg]; exact (Rng.put_spec _ _ h.v).2 m
  have hgl : (s.grown (po + ds.length)).length = max s.data.length (po + ds.length) := by unfold Snk.grown; simp; omega
  have hdl : (s.pcS po ds).data.length = max s.data.length (po + ds.length) := by
    show (putK _ _ _ _ _).length = _
    rw [putK_len, hgl]
  have hgr : ∀ m : Nat, m < s.data.length → (s.grown (po + ds.length))[m]? = s.data[m]? := fun m hm => by unfold Snk.grown; rw [List.getElem?_append_left hm]
  have hinv : Snk.Inv b c sm now (s.pcS po ds) := by
    refine ⟨h.src, h.num, h.cls, h.hc, h.timeout, h.retries, h.nw, h.hnow, h.ended, h.susp, h.timer, h.tries, h.don, h.code, h.hb, h.h8, ?_, ?_, ?_, ?_, ?_, h.nm, h.fn⟩
    · rw [hg]; exact (Rng.put_spec _ _ h.v).1
    · rw [hdl]; have := h.dl; omega
    · refine putK_lt _ _ _ _ (fun x hx => ?_) (fun x hx => h.h8 x ?_) _
      · unfold Snk.grown at hx
        rcases List.mem_append.1 hx with hx | hx
        · exact h.d8 x hx
        · have := List.eq_of_mem_replicate hx; omega
      · rw [hds] at hx; exact List.mem_of_mem_drop (List.mem_of_mem_take hx)
    · intro m hx
      rw [hdl]
      rcases (hm m).1 hx with h1 | h1
      · omega
      · have := h.gm m h1; omega
    · intro m hx
      show (putK s.got po ds (s.grown (po + ds.length)) ds.length)[m]? = _
      rw [putK_get _ _ _ _ _ (by omega)]
      cases hh : Rng.hasB s.got (m : Int) with
      | true =>
        have h1 := (Rng.hasB_mem _ _).1 hh
        rw [if_neg (by simp), hgr m (by have := h.gm m h1; omega)]
        exact h.gd m h1
      | false =>
        have h1 : ¬ Rng.Mem (m : Int) s.got := fun hc => by rw [(Rng.hasB_mem _ _).2 hc] at hh; simp at hh
        have h2 := ((hm m).1 hx).resolve_right h1
        rw [if_pos ⟨by omega, by omega, rfl⟩]
        rw [hds, List.getElem?_take, if_pos (by omega), List.getElem?_drop, show po + (m - po) = m by omega, List.getElem?_eq_getElem (by omega)]
        rfl
  unfold Snk.pcV
  rw [htot, if_neg (by simp)]
  split
  · refine ⟨rfl, ?_, rfl, rfl, hg, rfl, rfl, rfl⟩
    unfold Snk.prog
    exact ⟨hinv.src, hinv.num, hinv.cls, hinv.hc, hinv.timeout, hinv.retries, hinv.nw, hinv.hnow, hinv.ended, hinv.susp, by simp only [hinv.nw]; have := hinv.hnow; omega, rfl, hinv.don, hinv.code, hinv.hb, hinv.h8, hinv.v, hinv.dl, hinv.d8, hinv.gm, hinv.gd, hinv.nm, hinv.fn⟩
  · exact ⟨rfl, hinv, rfl, rfl, hg, rfl, rfl, rfl⟩
/-- The end. -/
theorem Snk.Inv.fe {b c sm now s} (h : Snk.Inv b c sm now s) (m : Nat) (hm : m = sm ∨ s.fin = false) : ∃ s', s.finV (endP c b.length m) = (s', 0) ∧ Snk.Inv b c m now s' ∧ s'.fin = true ∧ s'.named = s.named ∧ s'.got = s.got ∧ s'.phase = s.phase ∧ s'.ack = s.ack ∧ s'.data = s.data ∧ (s.fin = false → s'.nak = (c == 2)) ∧ (s.fin = true → s'.nak = s.nak) := by
  have hl := h.last
  have hbad : s.finBad (endP c b.length m) = false := by
    unfold Snk.finBad
    have e1 : (endP c b.length m).size = b.length := rfl
    have e2 : (endP c b.length m).sum = m := rfl
    rw [e1, e2]
    cases hf : s.fin
    · cases hn : s.named
      · simp; omega
      · have := h.nm hn; simp [this.2]; omega
    · have hf' := h.fn hf
      have hmm : m = sm := hm.resolve_right (by rw [hf]; simp)
      cases hn : s.named
      · simp [hf'.1, hf'.2, hmm]; omega
      · have := h.nm hn; simp [hf'.1, hf'.2, hmm, this.2]; omega
  unfold Snk.finV
  rw [hbad, if_neg (by show ¬ ((0 : Int) != 0) = true; decide), if_neg (by simp)]
  split
  · rename_i hf
    have hmm : m = sm := hm.resolve_right (by rw [hf]; simp)
    subst hmm
    exact ⟨_, rfl, h, hf, rfl, rfl, rfl, rfl, rfl, fun h0 => by rw [hf] at h0; simp at h0, fun _ => rfl⟩
  · rename_i hf
    refine ⟨_, rfl, ?_, rfl, rfl, rfl, rfl, rfl, rfl, fun _ => by show (s.cls == 2) = _; rw [h.cls], fun h0 => absurd h0 hf⟩
    unfold Snk.prog
    exact ⟨h.src, h.num, h.cls, h.hc, h.timeout, h.retries, h.nw, h.hnow, h.ended, h.susp, by simp only [h.nw]; have := h.hnow; omega, rfl, h.don, h.code, h.hb, h.h8, h.v, h.dl, h.d8, h.gm, h.gd, h.nm, fun _ => ⟨rfl, rfl⟩⟩
end Fil
namespace Fil
open Go
def Snk.Cov (b : List Nat) (s : Snk) : Prop := ∀ m : Int, 0 ≤ m → m < b.length → Rng.Mem m s.got
theorem Snk.Inv.size {b c sm now s} (h : Snk.Inv b c sm now s) : decide (Rng.sizeV (Rng.ofV s.got) < (b.length : Int)) = false ↔ Snk.Cov b s := by
  rw [Rng.ofV_valid h.v]
  have h1 := Rng.sizeV_le h.v (a := 0) (b := b.length) (by omega) h.rin
  constructor
  · intro hd m m1 m2
    exact h1.2 (by simp at hd; omega) m m1 m2
  · intro hc
    have := Rng.sizeV_cover h.v (n := b.length) (by omega) (fun m => ⟨h.gn m, fun hm => hc m hm.1 hm.2⟩)
    rw [this]; simp
theorem Snk.Inv.whole {b c sm now s} (h : Snk.Inv b c sm now s) (hc : Snk.Cov b s) : s.data = b := by
  have hl : s.data.length = b.length := by
    have := h.dl
    by_cases h0 : b.length = 0
    · omega
    · have h2 := h.gm _ (hc ((b.length - 1 : Nat) : Int) (by omega) (by omega)); omega
  apply List.ext_getElem?
  intro i
  by_cases hi : i < b.length
  · exact h.gd i (hc i (by omega) (by omega))
  · rw [List.getElem?_eq_none (by omega), List.getElem?_eq_none (by omega)]
theorem Snk.Inv.check0 {b c sm now s} (h : Snk.Inv b c sm now s) (hn : ¬ (s.phase = 0 ∧ s.named = true ∧ s.fin = true ∧ Snk.Cov b s)) : s.checkV = s := by
  unfold Snk.checkV
  split
  · rfl
  · rename_i h0
    split
    · rfl
    · rename_i h1
      split
      · rfl
      · rename_i h2
        have h1' : s.named = true := by simpa using h1
        have h2' : s.fin = true := by simpa using h2
        have h0' : s.phase = 0 := by simpa using h0
        rw [(h.nm h1').2, if_pos]
        cases hd : decide (Rng.sizeV (Rng.ofV s.got) < (b.length : Int)) with
        | true => rfl
        | false => exact absurd ⟨h0', h1', h2', h.size.1 hd⟩ hn
theorem Snk.Inv.check1 {b c sm now s} (h : Snk.Inv b c sm now s) (hp : s.phase = 0) (hn : s.named = true) (hf : s.fin = true) (hc : Snk.Cov b s) : s.checkV = if sumV b = sm then { s with phase := 1, nak := false } else s.failV 5 := by
  unfold Snk.checkV
  rw [if_neg (by rw [hp]; simp), if_neg (by rw [hn]; simp), if_neg (by rw [hf]; simp), (h.nm hn).2, h.size.2 hc, if_neg (by simp), h.whole hc, (h.fn hf).2]
  by_cases he : sumV b = sm
  · rw [if_pos he, if_neg (by rw [he]; simp)]
  · rw [if_neg he, if_pos (by rw [bne_iff_ne]; omega)]
/-- The reception: under way, or complete. -/
structure Snk.Full (b : List Nat) (c : Int) (sm : Nat) (now : Int) (S : Int → Prop) (s : Snk) : Prop where
  inv : Snk.Inv b c sm now s
  way : (s.phase = 0 ∧ ∀ m : Int, 0 ≤ m → m < b.length → S m → Rng.Mem m s.got) ∨ (s.phase = 1 ∧ s.named = true ∧ s.data = b ∧ Snk.Cov b s)
theorem Snk.Inv.full {b c sm now s} (h : Snk.Inv b c sm now s) (hs : sumV b = sm) (S : Int → Prop) (hp : s.phase = 0) (hS : ∀ m : Int, 0 ≤ m → m < b.length → S m → Rng.Mem m s.got) : Snk.Full b c sm now S s.checkV ∧ (s.named = true → s.fin = true → (∀ m : Int, 0 ≤ m → m < b.length → S m) → s.checkV.phase = 1) ∧ (s.checkV.fin = s.fin) := by
  by_cases hn : s.named = true ∧ s.fin = true ∧ Snk.Cov b s
  · rw [h.check1 hp hn.1 hn.2.1 hn.2.2, if_pos hs]
    refine ⟨⟨⟨h.src, h.num, h.cls, h.hc, h.timeout, h.retries, h.nw, h.hnow, h.ended, h.susp, h.timer, h.tries, h.don, h.code, h.hb, h.h8, h.v, h.dl, h.d8, h.gm, h.gd, h.nm, h.fn⟩, Or.inr ⟨rfl, hn.1, h.whole hn.2.2, hn.2.2⟩⟩, fun _ _ _ => rfl, rfl⟩
  · rw [h.check0 fun hh => hn hh.2]
    exact ⟨⟨h, Or.inl ⟨hp, hS⟩⟩, fun h1 h2 h3 => absurd ⟨h1, h2, fun m m1 m2 => hS m m1 m2 (h3 m m1 m2)⟩ hn, rfl⟩
theorem Snk.Full.idle {b c sm now S s} (h : Snk.Full b c sm now S s) (hp : s.phase = 1) : Snk.endV (s, 0) = (s, 0) := by
  unfold Snk.endV
  rw [if_pos rfl]
  have := h.inv.check0 (fun hh => by have := hh.1; omega)
  rw [this]
theorem Snk.Full.meta' {b c sm now S s} (h : Snk.Full b c sm now S s) (hs : sumV b = sm) : Snk.Full b c sm now S (s.takeV (metaP c b.length) now).1 ∧ ((s.phase = 0 → s.fin = true) → (∀ m : Int, 0 ≤ m → m < b.length → S m) → (s.takeV (metaP c b.length) now).1.phase = 1) := by
  rw [h.inv.takeMeta]
  rcases h.way with ⟨hp, hS⟩ | ⟨hp, hr⟩
  · rw [if_pos hp]
    obtain ⟨e0, i1, i2, i3, i4, i5, i6, i7⟩ := h.inv.md
    unfold Snk.endV
    rw [if_pos e0]
    have := i1.full hs S (by rw [i5, hp]) (by rw [i4]; exact hS)
    exact ⟨this.1, fun h1 h2 => this.2.1 i2 (by rw [i3]; exact h1 hp) h2⟩
  · rw [if_neg (by omega), h.idle hp]
    exact ⟨h, fun _ _ => hp⟩
theorem Snk.Full.piece {b c sm now S s} (h : Snk.Full b c sm now S s) (hs : sumV b = sm) (po : Nat) (da : Option Addr) (ds : List Nat) (dc : Nat) (h0 : 0 < ds.length) (hpo : po + ds.length ≤ b.length) (hds : ds = (b.drop po).take ds.length) :
    Snk.Full b c sm now (fun m => S m ∨ ((po : Int) ≤ m ∧ m < ((po + ds.length : Nat) : Int))) (s.takeV (pieceQ po da ds dc) now).1 := by
  have hb := h.inv.hb
  rw [h.inv.takePiece po da ds dc h0 (by omega)]
  rcases h.way with ⟨hp, hS⟩ | ⟨hp, hr⟩
  · rw [if_pos hp]
    obtain ⟨e0, i1, i2, i3, i4, i5, i6, i7⟩ := h.inv.pc po ds hpo hds
    unfold Snk.endV
    rw [if_pos e0]
    refine (i1.full hs _ (by rw [i5, hp]) ?_).1
    intro m m1 m2 hm
    rw [i4]
    refine ((Rng.put_spec _ _ h.inv.v).2 m).2 ?_
    rcases hm with hm | hm
    · exact Or.inr (hS m m1 m2 hm)
    · exact Or.inl hm
  · rw [if_neg (by omega), h.idle hp]
    exact ⟨h.inv, Or.inr ⟨hp, hr⟩⟩
theorem Snk.Inv.ack {b c sm now s} (h : Snk.Inv b c sm now s) (d : Bool) (hd : d = false) : Snk.Inv b c sm now { s with ack := true, don := d } := by
  subst hd
  exact ⟨h.src, h.num, h.cls, h.hc, h.timeout, h.retries, h.nw, h.hnow, h.ended, h.susp, h.timer, h.tries, rfl, h.code, h.hb, h.h8, h.v, h.dl, h.d8, h.gm, h.gd, h.nm, h.fn⟩
/-- The state behind an end that is taken under way. -/
theorem Snk.Inv.eof {b c sm now s} (h : Snk.Inv b c sm now s) (hp : s.phase = 0) (m : Nat) (hm : m = sm ∨ s.fin = false) : ∃ s', s.eofV (endP c b.length m) = (s', 0) ∧ Snk.Inv b c m now s' ∧ s'.fin = true ∧ s'.named = s.named ∧ s'.got = s.got ∧ s'.phase = 0 ∧ s'.ack = (s.ack || (c == 2)) ∧ s'.data = s.data ∧ (s.fin = false → s'.nak = (c == 2)) ∧ (s.fin = true → s'.nak = s.nak) := by
  obtain ⟨s', e0, i1, i2, i3, i4, i5, i6, i7, i8, i9⟩ := h.fe m hm
  unfold Snk.eofV
  rw [if_pos hp, e0]
  simp only []
  by_cases hc : c = 2
  · rw [if_pos ⟨trivial, by rw [h.cls, hc]⟩]
    refine ⟨_, rfl, i1.ack _ (by rw [i1.don, hp]; rfl), i2, i3, i4, by rw [← hp]; exact i5, ?_, i7, i8, i9⟩
    rw [hc]; simp
  · rw [if_neg (by rw [h.cls]; exact fun hh => hc hh.2)]
    refine ⟨_, rfl, i1, i2, i3, i4, by rw [← hp]; exact i5, ?_, i7, i8, i9⟩
    rw [i6]; simp [hc]
theorem Snk.Full.end' {b c sm now S s} (h : Snk.Full b c sm now S s) (hs : sumV b = sm) : Snk.Full b c sm now S (s.takeV (endP c b.length sm) now).1 ∧ ((s.takeV (endP c b.length sm) now).1.phase = 0 → (s.takeV (endP c b.length sm) now).1.fin = true) := by
  rw [h.inv.takeEnd]
  rcases h.way with ⟨hp, hS⟩ | ⟨hp, hn, hd, hc⟩
  · obtain ⟨s', e0, i1, i2, i3, i4, i5, i6, i7⟩ := h.inv.eof hp sm (Or.inl rfl)
    rw [e0]
    unfold Snk.endV
    rw [if_pos rfl]
    have := i1.full hs S i5 (by rw [i4]; exact hS)
    exact ⟨this.1, fun _ => by rw [this.2.2, i2]⟩
  · unfold Snk.eofV
    have e1 : (if s.phase = 0 then s.finV (endP c b.length sm) else (s, 0)) = (s, 0) := if_neg (by omega)
    rw [e1]
    simp only []
    by_cases hc2 : s.cls = 2
    · rw [if_pos ⟨trivial, hc2⟩]
      have hi := h.inv.ack (s.don || (((endP c b.length sm).code == 0) && ((s.phase == 2) || (s.phase == 3)))) (by rw [h.inv.don, hp]; rfl)
      unfold Snk.endV
      rw [if_pos rfl]
      have e := hi.check0 (fun hh => by have := hh.1; simp only [hp] at this; omega)
      rw [e]
      exact ⟨⟨hi, Or.inr ⟨hp, hn, hd, hc⟩⟩, fun h0 => by simp only [hp] at h0; omega⟩
    · rw [if_neg (by simp [hc2]), h.idle hp]
      exact ⟨⟨h.inv, Or.inr ⟨hp, hn, hd, hc⟩⟩, fun h0 => by simp only [hp] at h0; omega⟩
/-- The new receiving end. -/
def snk0 (c : Int) : Snk := { src := 1, num := 5, cls := c, chunk := 2, timeout := 10, retries := 2 }
theorem snk0_inv (b : List Nat) (c : Int) (hc : c = 1 ∨ c = 2) (sm : Nat) (hb : b.length ≤ 200) (h8 : ∀ x ∈ b, x < 256) : Snk.Inv b c sm 0 (snk0 c) :=
  ⟨rfl, rfl, rfl, hc, rfl, rfl, rfl, by omega, rfl, rfl, by show (0 : Int) ≤ 0 ∧ (0 : Int) ≤ 0; omega, rfl, rfl, rfl, hb, h8, Rng.Valid.nil, by show 0 ≤ _; omega, by intro x hx; simp [snk0] at hx, fun m hm => absurd hm Rng.mem_nil, fun m hm => absurd hm Rng.mem_nil, fun h => by simp [snk0] at h, fun h => by simp [snk0] at h⟩
theorem snk0_full (b : List Nat) (c : Int) (hc : c = 1 ∨ c = 2) (sm : Nat) (hb : b.length ≤ 200) (h8 : ∀ x ∈ b, x < 256) (S : Int → Prop) (hS : ∀ m, 0 ≤ m → ¬ S m) : Snk.Full b c sm 0 S (snk0 c) :=
  ⟨snk0_inv b c hc sm hb h8, Or.inl ⟨rfl, fun m m1 _ hm => absurd hm (hS m m1)⟩⟩
theorem Snk.Full.mono {b c sm now S T s} (h : Snk.Full b c sm now S s) (hT : ∀ m : Int, 0 ≤ m → m < b.length → T m → S m) : Snk.Full b c sm now T s := by
  refine ⟨h.inv, ?_⟩
  rcases h.way with ⟨hp, hS⟩ | hr
  · exact Or.inl ⟨hp, fun m m1 m2 hm => hS m m1 m2 (hT m m1 m2 hm)⟩
  · exact Or.inr hr
theorem Snk.Full.done {b c sm now S s} (h : Snk.Full b c sm now S s) (hp : s.phase = 1) : s.name = xname ∧ s.data = b ∧ s.missT = b.length ∧ Rng.missV s.got b.length = [] ∧ s.stateV = 2 := by
  obtain ⟨h1, h2, h3⟩ := (h.way.resolve_left fun hh => by have := hh.1; omega).2
  refine ⟨(h.inv.nm h1).1, h2, ?_, Rng.missV_none h3, ?_⟩
  · unfold Snk.missT Snk.tot; rw [if_pos h1]; simp only []; rw [if_pos trivial, (h.inv.nm h1).2]
  · unfold Snk.stateV; rw [h.inv.susp, hp]; rfl
end Fil
