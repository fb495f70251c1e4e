/- A sender that receives the answers of a correct receiver completes: the plain law, upon the model of the sending end. No program in sight. -/
import Derived.Test.YtfjadhkhmhnccaaSrcOps
import Derived.Test.YtfjadhkhmhnccaaCmpD
set_option linter.unusedVariables false
set_option linter.unusedSimpArgs false
namespace Fil
def Rcv.takeU (r : Rcv) (s : Src) : U → Rcv
  | .head => { r with named := true }
  | .ack => { r with closed := true }
  | .eof _ => { r with ended := true }
  | .piece f t => { r with hv := ov r.hv f (fun _ => true) (t - f), dt := ov r.dt f (fun i => s.data.getD (f + i) 0) (t - f) }
  | .non => r
def lost (l : List Bool) (k : Nat) : Bool := l.getD k false
/-- The losses among the first k transmissions. -/
def See (l : List Bool) (k : Nat) : Nat := ((l.take k).filter id).length
theorem See_up (l : List Bool) (k : Nat) : See l k ≤ See l (k + 1) := by
  unfold See
  rw [List.take_add_one, List.filter_append, List.length_append]
  omega
theorem See_lost {l : List Bool} {k : Nat} (h : lost l k = true) : See l (k + 1) = See l k + 1 := by
  unfold See
  have : l[k]? = some true := by
    unfold lost at h
    rw [List.getD_eq_getElem?_getD] at h
    cases h2 : l[k]? with
    | none => rw [h2] at h; cases h
    | some b => rw [h2] at h; exact congrArg some h
  rw [List.take_add_one, this, List.filter_append, List.length_append]
  rfl
theorem See_le (l : List Bool) (k : Nat) : See l k ≤ l.length := by
  unfold See
  exact Nat.le_trans (List.length_filter_le _ _) (List.length_take_le' _ _)
theorem lost_lt {l : List Bool} {k : Nat} (h : lost l k = true) : k < l.length := by
  rcases Nat.lt_or_ge k l.length with h1 | h1
  · exact h1
  · unfold lost at h
    rw [List.getD_eq_getElem?_getD, List.getElem?_eq_none h1] at h
    cases h
structure Cm (data : List Nat) (now : Nat) (s : Src) (r : Rcv) : Prop where
  good : Good s
  src : s.src = 1
  num : s.num = 7
  cls : s.cls = 2
  dat : s.data = data
  to : s.timeout = 4
  re : s.retries = 255
  susp : s.susp = false
  code : s.code = 0
  nw : s.now ≤ now
  tm : s.timer ≤ s.now
  hl : r.hv.length = data.length
  dl : r.dt.length = data.length
  hd : ∀ i : Nat, r.hv[i]? = some true → r.dt[i]? = data[i]?
def Cpl (r : Rcv) : Prop := r.named = true ∧ ∀ i : Nat, i < r.hv.length → r.hv[i]? = some true
/-- What has arrived or is still to be sent, up to a place. -/
def Vw (data : List Nat) (s : Src) (r : Rcv) (M : Nat) : Prop := ∀ x : Nat, x < data.length → x < M → r.hv[x]? = some true ∨ Rng.Mem x s.wanted
def Prg (data : List Nat) (now : Nat) (s : Src) (r : Rcv) (k : Nat) : Prop :=
  (k < 100 ∧ now / 4 ≤ 101 + k) ∨ (100 ≤ k ∧ ∃ m, m ≤ 51 ∧ now / 4 ≤ 201 + m ∧ Vw data s r (30 * m) ∧ (1 ≤ m → r.named = true ∨ s.mreq = true))
inductive Ph (data : List Nat) (loss : List Bool) (now : Nat) (s : Src) (r : Rcv) (k : Nat) : Prop
  | zero : s.phase = 0 → now = 0 → s.wanted = [] → s.mreq = false → s.due = false → s.acked = false → r.ended = false → r.closed = false → Ph data loss now s r k
  | early : s.phase = 1 → s.due = false → r.closed = false → r.ended = false → s.acked = false → s.wanted = [] → s.mreq = false → s.tries < (See loss k : Int) → s.timer ≤ 4 * (min k 100 : Nat) → (now : Int) ≤ s.timer + 4 → Ph data loss now s r k
  | wait : s.phase = 1 → s.due = false → r.closed = false → r.ended = true → (s.acked = false → s.tries < (See loss k : Int)) → Prg data now s r k → Ph data loss now s r k
  | clos : s.phase = 2 → s.due = true → s.wanted = [] → s.mreq = false → r.closed = false → r.ended = true → Cpl r → now ≤ 1012 → Ph data loss now s r k
  | over : s.phase = 4 → s.wanted = [] → s.mreq = false → r.ended = true → Cpl r → Ph data loss now s r k
def Inv (data : List Nat) (loss : List Bool) (now : Nat) (s : Src) (r : Rcv) (k : Nat) : Prop := Cm data now s r ∧ Ph data loss now s r k
def tot (l : List Rng.R) : Nat := (l.map fun r => (r.2 - r.1).toNat).sum
/-- How many units the sending end still has for this tick. -/
def left (D now : Nat) (s : Src) : Nat :=
  (if s.due = true then 1 else 0) + (if s.mreq = true then 1 else 0) + tot s.wanted + (if s.phase = 0 then (if s.started = true then 0 else 1) + (D - s.at'.toNat) + 1 else if s.phase = 1 ∧ s.acked = false ∧ s.timer + 4 ≤ now then 1 else 0)
theorem pass_eq {s : Src} {now : Nat} (h : s.now ≤ now) (hn : now ≤ 1500) : s.pass now = { s with now := now } := by
  unfold Src.pass
  by_cases c : s.now < now ∧ (now : Int) ≤ 1099511627776
  · rw [if_pos c]
  · rw [if_neg c]
    have : s.now = now := by omega
    cases s
    simp only [] at this
    subst this
    rfl
theorem prg_early {data : List Nat} {now : Nat} (h : now ≤ 407) (s : Src) (r : Rcv) (k : Nat) : Prg data now s r k := by
  by_cases c : k < 100
  · exact Or.inl ⟨c, by omega⟩
  · exact Or.inr ⟨by omega, 0, by omega, by omega, fun x _ hx => absurd hx (by omega), fun h => absurd h (by omega)⟩
theorem prg_low {data : List Nat} {now k k' : Nat} {s0 : Src} {r0 : Rcv} (h : Prg data now s0 r0 k) (hk : k < 100) (hk2 : k ≤ k') (s : Src) (r : Rcv) : Prg data now s r k' := by
  have h1 : now / 4 ≤ 101 + k := by
    rcases h with h | h
    · exact h.2
    · omega
  by_cases c : k' < 100
  · exact Or.inl ⟨c, by omega⟩
  · exact Or.inr ⟨by omega, 0, by omega, by omega, fun x _ hx => absurd hx (by omega), fun h => absurd h (by omega)⟩
theorem prg_up {data : List Nat} {now k k' : Nat} {s s' : Src} {r r' : Rcv} (h : Prg data now s r k) (hk : k ≤ k') (hv : ∀ M, Vw data s r M → Vw data s' r' M) (hn : (r.named = true ∨ s.mreq = true) → (r'.named = true ∨ s'.mreq = true)) : Prg data now s' r' k' := by
  by_cases c : k < 100
  · exact prg_low h c hk s' r'
  · rcases h with h | ⟨h1, m, h2, h3, h4, h5⟩
    · omega
    · exact Or.inr ⟨by omega, m, h2, h3, hv _ h4, fun h => hn (h5 h)⟩
theorem cut_iff (l : List Rng.R) (r : Rng.R) (hr : r.1 < r.2) (m : Int) : Rng.Mem m (l.flatMap (Rng.cut r)) ↔ Rng.Mem m l ∧ ¬ (r.1 ≤ m ∧ m < r.2) := by
  unfold Rng.Mem
  constructor
  · rintro ⟨x, hx, h1, h2⟩
    obtain ⟨y, hy, hxy⟩ := List.mem_flatMap.1 hx
    simp only [Rng.cut, List.mem_cons, List.not_mem_nil, or_false] at hxy
    rcases hxy with rfl | rfl
    · simp only [] at h1 h2; exact ⟨⟨y, hy, by omega, by omega⟩, by omega⟩
    · simp only [] at h1 h2; exact ⟨⟨y, hy, by omega, by omega⟩, by omega⟩
  · rintro ⟨⟨x, hx, h1, h2⟩, h3⟩
    by_cases c : m < r.1
    · exact ⟨(x.1, min x.2 r.1), List.mem_flatMap.2 ⟨x, hx, by simp [Rng.cut]⟩, by simp only []; omega, by simp only []; omega⟩
    · exact ⟨(max x.1 r.2, x.2), List.mem_flatMap.2 ⟨x, hx, by simp [Rng.cut]⟩, by simp only []; omega, by simp only []; omega⟩
theorem rem_iff (l : List Rng.R) (r : Rng.R) : Rng.Valid (Rng.remV l r) ∧ ∀ m, Rng.Mem m (Rng.remV l r) ↔ Rng.Mem m l ∧ ¬ (r.1 ≤ m ∧ m < r.2) := by
  unfold Rng.remV
  by_cases c : r.2 ≤ r.1
  · rw [if_pos c]; exact ⟨(Rng.ofV_spec l).1, fun m => by rw [(Rng.ofV_spec l).2 m]; exact ⟨fun h => ⟨h, by omega⟩, fun h => h.1⟩⟩
  · rw [if_neg c]
    refine ⟨(Rng.ofV_spec _).1, fun m => ?_⟩
    rw [(Rng.ofV_spec _).2 m, cut_iff _ _ (by omega) m, (Rng.ofV_spec l).2 m]
/-- Taking a front part of the first range away. -/
theorem rem_front {a b t : Int} {rest : List Rng.R} (h : Rng.Valid ((a, b) :: rest)) (h1 : a < t) (h2 : t ≤ b) : Rng.remV ((a, b) :: rest) (a, t) = if t = b then rest else (t, b) :: rest := by
  obtain ⟨g1, g2, g3⟩ := Rng.valid_cons.1 h
  simp only [] at g1 g2
  obtain ⟨k1, k2⟩ := rem_iff ((a, b) :: rest) (a, t)
  have hlow : ∀ m, Rng.Mem m rest → b < m := by
    rintro m ⟨r, hr, q1, q2⟩
    have := g2 r hr
    omega
  by_cases c : t = b
  · subst c
    rw [if_pos rfl]
    refine Rng.uniq k1 g3 fun m => ?_
    rw [k2 m, Rng.mem_cons]
    simp only []
    constructor
    · rintro ⟨q1 | q1, q2⟩
      · exact absurd q1 q2
      · exact q1
    · intro q
      have := hlow m q
      exact ⟨Or.inr q, by omega⟩
  · rw [if_neg c]
    refine Rng.uniq k1 (Rng.valid_cons.2 ⟨by show t < b; omega, g2, g3⟩) fun m => ?_
    rw [k2 m, Rng.mem_cons, Rng.mem_cons]
    simp only []
    constructor
    · rintro ⟨q1 | q1, q2⟩
      · exact Or.inl (by omega)
      · exact Or.inr q1
    · rintro (q | q)
      · exact ⟨Or.inl (by omega), by omega⟩
      · have := hlow m q
        exact ⟨Or.inr q, by omega⟩
theorem tot_front {a b t : Int} {rest : List Rng.R} (h : Rng.Valid ((a, b) :: rest)) (h1 : a < t) (h2 : t ≤ b) : tot (Rng.remV ((a, b) :: rest) (a, t)) + 1 ≤ tot ((a, b) :: rest) := by
  rw [rem_front h h1 h2]
  split
  · simp only [tot, List.map_cons, List.sum_cons]; omega
  · simp only [tot, List.map_cons, List.sum_cons]; omega
theorem tot_le : ∀ (l : List Rng.R) (a b : Int), Rng.Valid l → (∀ r ∈ l, a ≤ r.1 ∧ r.2 ≤ b) → a ≤ b → (tot l : Int) ≤ b - a
  | [], a, b, _, _, h => by simp [tot]; omega
  | x :: l, a, b, hv, hw, h => by
    obtain ⟨h1, h2, h3⟩ := Rng.valid_cons.1 hv
    have hx := hw x (by simp)
    have := tot_le l x.2 b h3 (fun r hr => ⟨by have := h2 r hr; omega, (hw r (by simp [hr])).2⟩) hx.2
    simp only [tot, List.map_cons, List.sum_cons] at this ⊢
    omega
end Fil
namespace Fil
/-- The receiver's acknowledgement of the Eof. -/
def ackEofP : Pdu := { kind := 6, src := 1, num := 7 }
theorem ackEof_valid : ackEofP.validB = true := by decide +kernel
theorem takeAck {data : List Nat} {now : Nat} {s : Src} {r : Rcv} (h : Cm data now s r) (hn : now ≤ 1500) (hp : s.phase = 1) : s.takeV ackEofP now = ({ s with now := (now : Int), acked := true }, 0) := by
  unfold Src.takeV
  rw [pass_eq h.nw hn]
  unfold Src.recV
  rw [if_neg (by show ¬ (ackEofP.validB && (ackEofP.src == s.src) && (ackEofP.num == s.num) && !fwdB ackEofP.kind) = false; rw [h.src, h.num, ackEof_valid]; decide), if_neg (by show ¬ s.cls ≠ 2; rw [h.cls]; decide), if_pos (show ackEofP.kind = 6 from rfl)]
  unfold Src.ackV
  rw [if_neg (by show ¬ s.phase = 0; omega), if_pos (by exact hp)]
/-- What a step of the sending end means. -/
structure Stp1 (data : List Nat) (loss : List Bool) (now : Nat) (s : Src) (r : Rcv) (k : Nat) (s' : Src) (u : U) : Prop where
  piece : ∀ f t, u = .piece f t → f < t ∧ t ≤ data.length
  eofc : ∀ c, u = .eof c → c = 0 ∧ s'.phase = 1
  lostI : lost loss k = true → Inv data loss now s' r (k + 1)
  gotI : (∀ c, u ≠ .eof c) → Inv data loss now s' (r.takeU s u) (k + 1)
  eofI : (∃ c, u = .eof c) → lost loss (k + 1) = true → Inv data loss now s' { r with ended := true } (k + 2)
  ackI : (∃ c, u = .eof c) → Inv data loss now { s' with now := (now : Int), acked := true } { r with ended := true } (k + 2)
  less : left data.length now s' + 1 ≤ left data.length now s
theorem Cm.nxt {data : List Nat} {now : Nat} {s : Src} {r : Rcv} (h : Cm data now s r) (hn : now ≤ 1500) {r' : Rcv} (s' : Src) (hg : Good s') (e : s'.src = s.src ∧ s'.num = s.num ∧ s'.cls = s.cls ∧ s'.data = s.data ∧ s'.timeout = s.timeout ∧ s'.retries = s.retries ∧ s'.susp = s.susp ∧ s'.code = s.code ∧ s'.now = now ∧ (s'.timer = s.timer ∨ s'.timer = now)) (hr : r'.hv = r.hv ∧ r'.dt = r.dt) : Cm data now s' r' := by
  obtain ⟨e1, e2, e3, e4, e5, e6, e7, e8, e9, e10⟩ := e
  obtain ⟨q1, q2⟩ := hr
  have := h.nw
  have := h.tm
  exact ⟨hg, e1.trans h.src, e2.trans h.num, e3.trans h.cls, e4.trans h.dat, e5.trans h.to, e6.trans h.re, e7.trans h.susp, e8.trans h.code, by omega, by rcases e10 with e | e <;> omega, by rw [q1]; exact h.hl, by rw [q2]; exact h.dl, by rw [q1, q2]; exact h.hd⟩
theorem Cm.arr {data : List Nat} {now : Nat} {s : Src} {r : Rcv} (h : Cm data now s r) {f t : Nat} (hf : f ≤ t) (ht : t ≤ data.length) (d : List Nat) (hd : d = data) : Cm data now s { r with hv := ov r.hv f (fun _ => true) (t - f), dt := ov r.dt f (fun i => d.getD (f + i) 0) (t - f) } := by
  subst hd
  refine ⟨h.good, h.src, h.num, h.cls, h.dat, h.to, h.re, h.susp, h.code, h.nw, h.tm, by show (ov _ _ _ _).length = _; rw [ov_len]; exact h.hl, by show (ov _ _ _ _).length = _; rw [ov_len]; exact h.dl, ?_⟩
  intro i hi
  have hi' : (ov r.hv f (fun _ => true) (t - f))[i]? = some true := hi
  show (ov r.dt f (fun i => d.getD (f + i) 0) (t - f))[i]? = d[i]?
  rw [ov_get] at hi' ⊢
  rw [h.hl] at hi'
  rw [h.dl]
  by_cases c : f ≤ i ∧ i < f + (t - f) ∧ i < d.length
  · rw [if_pos c, show f + (i - f) = i by omega, List.getD_eq_getElem?_getD, List.getElem?_eq_getElem c.2.2]
    rfl
  · rw [if_neg c] at hi' ⊢
    exact h.hd i hi'
end Fil
namespace Fil
variable {data : List Nat} {loss : List Bool} {now : Nat} {s s' : Src} {r : Rcv} {k : Nat} {u : U}
theorem stp_zero (h : Cm data now s r) (hn : now ≤ 1500) (hD : data.length ≤ 1500) (hl : loss.length ≤ 100) (he : s.nextV now = (s', u))
    (p0 : s.phase = 0) (n0 : now = 0) (w0 : s.wanted = []) (m0 : s.mreq = false) (d0 : s.due = false) (a0 : s.acked = false) (e0 : r.ended = false) (c0 : r.closed = false) : Stp1 data loss now s r k s' u := by
  have hg : Good s' := by have := h.good.nextV now; rw [he] at this; exact this
  have hto := h.to
  have hc := h.good.c
  have hat := h.good.at0
  unfold Src.nextV at he
  rw [pass_eq h.nw hn] at he
  unfold Src.goV at he
  rw [if_neg (by show ¬ s.susp = true; rw [h.susp]; decide), if_neg (by show ¬ s.due = true; rw [d0]; decide), if_neg (by show ¬ s.phase = 3; omega), if_neg (by show ¬ 4 ≤ s.phase; omega), if_neg (by show ¬ s.mreq = true; rw [m0]; decide)] at he
  have he : (if s.phase = 0 then ({ s with now := (now : Int) } : Src).fwdV else ({ s with now := (now : Int) } : Src).repV) = (s', u) := by
    rw [← he]
    show _ = match s.wanted with | g :: _ => _ | [] => _
    rw [w0]
  rw [if_pos p0] at he
  unfold Src.fwdV at he
  by_cases q1 : s.started = false
  · rw [if_pos (by exact q1)] at he
    injection he with e1 e2
    subst e1 e2
    have hcm := h.nxt hn _ hg ⟨rfl, rfl, rfl, rfl, rfl, rfl, rfl, rfl, rfl, Or.inl rfl⟩ (r' := r) ⟨rfl, rfl⟩
    refine ⟨by simp, by simp, fun _ => ⟨hcm, .zero p0 n0 w0 m0 d0 a0 e0 c0⟩, fun _ => ⟨h.nxt hn _ hg ⟨rfl, rfl, rfl, rfl, rfl, rfl, rfl, rfl, rfl, Or.inl rfl⟩ ⟨rfl, rfl⟩, .zero p0 n0 w0 m0 d0 a0 e0 c0⟩, by simp, by simp, ?_⟩
    unfold left
    simp only [p0, w0, m0, d0, q1, tot]
    simp
    try omega
  · rw [if_neg (by exact q1)] at he
    have q1' : s.started = true := by simpa using q1
    by_cases q2 : s.at' < (data.length : Int)
    · rw [if_pos (by show s.at' < (s.data.length : Int); rw [h.dat]; exact q2)] at he
      injection he with e1 e2
      subst e1 e2
      have hcm := h.nxt hn _ hg ⟨rfl, rfl, rfl, rfl, rfl, rfl, rfl, rfl, rfl, Or.inl rfl⟩ (r' := r) ⟨rfl, rfl⟩
      have hft : s.at'.toNat < min (s.at'.toNat + s.chunk.toNat) s.data.length ∧ min (s.at'.toNat + s.chunk.toNat) s.data.length ≤ data.length := by rw [h.dat]; omega
      refine ⟨?_, by simp, fun _ => ⟨hcm, .zero p0 n0 w0 m0 d0 a0 e0 c0⟩, fun _ => ⟨hcm.arr (Nat.le_of_lt hft.1) hft.2 s.data h.dat, .zero p0 n0 w0 m0 d0 a0 e0 c0⟩, by simp, by simp, ?_⟩
      · intro f t e
        injection e with e3 e4
        subst e3 e4
        exact hft
      · unfold left
        simp only [p0, w0, m0, d0, q1', tot]
        simp
        omega
    · rw [if_neg (by show ¬ s.at' < (s.data.length : Int); rw [h.dat]; exact q2)] at he
      unfold Src.eofV at he
      rw [if_pos (by exact h.cls)] at he
      injection he with e1 e2
      subst e1 e2
      have hcm := h.nxt hn _ hg ⟨rfl, rfl, rfl, rfl, rfl, rfl, rfl, rfl, rfl, Or.inr rfl⟩ (r' := r) ⟨rfl, rfl⟩
      refine ⟨by simp, by intro c e; injection e with e; exact ⟨e.symm, rfl⟩, ?_, by simp, ?_, ?_, ?_⟩
      · intro hlo
        refine ⟨hcm, .early rfl d0 c0 e0 a0 w0 m0 ?_ ?_ ?_⟩
        · show (0 : Int) < (See loss (k + 1) : Int); rw [See_lost hlo]; omega
        · show (now : Int) ≤ _; omega
        · show (now : Int) ≤ (now : Int) + 4; omega
      · intro _ hlo
        refine ⟨h.nxt hn _ hg ⟨rfl, rfl, rfl, rfl, rfl, rfl, rfl, rfl, rfl, Or.inr rfl⟩ ⟨rfl, rfl⟩, .wait rfl d0 c0 rfl (fun _ => ?_) (prg_early (by omega) _ _ _)⟩
        show (0 : Int) < (See loss (k + 1 + 1) : Int); rw [See_lost hlo]; omega
      · intro _
        exact ⟨h.nxt hn _ ⟨hg.n, hg.b, hg.c, hg.to, hg.re, hg.nw, hg.ti, hg.tr, hg.at0, hg.w, hg.wv⟩ ⟨rfl, rfl, rfl, rfl, rfl, rfl, rfl, rfl, rfl, Or.inr rfl⟩ ⟨rfl, rfl⟩, .wait rfl d0 c0 rfl (fun e => by cases e) (prg_early (by omega) _ _ _)⟩
      · unfold left
        simp only [p0, w0, m0, d0, q1', tot]
        simp
        rw [if_neg (fun e => by have := e.2; omega)]
        try omega
theorem stp_clos (h : Cm data now s r) (hn : now ≤ 1500) (he : s.nextV now = (s', u))
    (p2 : s.phase = 2) (d1 : s.due = true) (w0 : s.wanted = []) (m0 : s.mreq = false) (e1 : r.ended = true) (hc : Cpl r) : Stp1 data loss now s r k s' u := by
  have hg : Good s' := by have := h.good.nextV now; rw [he] at this; exact this
  unfold Src.nextV at he
  rw [pass_eq h.nw hn] at he
  unfold Src.goV at he
  rw [if_neg (by show ¬ s.susp = true; rw [h.susp]; decide), if_pos (by exact d1)] at he
  injection he with e3 e4
  subst e3 e4
  have hp : (({ s with now := (now : Int) } : Src).finV).phase = 4 := by
    unfold Src.finV
    show (if s.phase = 2 then (if s.code = 0 then 4 else 5) else s.phase) = (4 : Int)
    rw [if_pos p2, if_pos h.code]
  refine ⟨by simp, by simp, fun _ => ⟨h.nxt hn _ hg ⟨rfl, rfl, rfl, rfl, rfl, rfl, rfl, rfl, rfl, Or.inl rfl⟩ ⟨rfl, rfl⟩, .over hp w0 m0 e1 hc⟩, fun _ => ⟨h.nxt hn _ hg ⟨rfl, rfl, rfl, rfl, rfl, rfl, rfl, rfl, rfl, Or.inl rfl⟩ ⟨rfl, rfl⟩, .over hp w0 m0 e1 hc⟩, by simp, by simp, ?_⟩
  unfold left
  rw [hp]
  show (if false = true then 1 else 0) + (if s.mreq = true then 1 else 0) + tot s.wanted + _ + 1 ≤ (if s.due = true then 1 else 0) + (if s.mreq = true then 1 else 0) + tot s.wanted + _
  rw [d1, p2]
  simp
  omega
theorem stp_over (h : Cm data now s r) (hn : now ≤ 1500) (he : s.nextV now = (s', u)) (hu : u ≠ .non)
    (p4 : s.phase = 4) (w0 : s.wanted = []) (m0 : s.mreq = false) (e1 : r.ended = true) (hc : Cpl r) : Stp1 data loss now s r k s' u := by
  have hg : Good s' := by have := h.good.nextV now; rw [he] at this; exact this
  unfold Src.nextV at he
  rw [pass_eq h.nw hn] at he
  unfold Src.goV at he
  rw [if_neg (by show ¬ s.susp = true; rw [h.susp]; decide)] at he
  by_cases d1 : s.due = true
  · rw [if_pos (by exact d1)] at he
    injection he with e3 e4
    subst e3 e4
    have hp : (({ s with now := (now : Int) } : Src).finV).phase = 4 := by
      unfold Src.finV
      show (if s.phase = 2 then (if s.code = 0 then 4 else 5) else s.phase) = (4 : Int)
      rw [if_neg (by omega), p4]
    refine ⟨by simp, by simp, fun _ => ⟨h.nxt hn _ hg ⟨rfl, rfl, rfl, rfl, rfl, rfl, rfl, rfl, rfl, Or.inl rfl⟩ ⟨rfl, rfl⟩, .over hp w0 m0 e1 hc⟩, fun _ => ⟨h.nxt hn _ hg ⟨rfl, rfl, rfl, rfl, rfl, rfl, rfl, rfl, rfl, Or.inl rfl⟩ ⟨rfl, rfl⟩, .over hp w0 m0 e1 hc⟩, by simp, by simp, ?_⟩
    unfold left
    rw [hp]
    show (if false = true then 1 else 0) + (if s.mreq = true then 1 else 0) + tot s.wanted + _ + 1 ≤ (if s.due = true then 1 else 0) + (if s.mreq = true then 1 else 0) + tot s.wanted + _
    rw [d1, p4]
    simp
    omega
  · rw [if_neg (by exact d1), if_neg (by show ¬ s.phase = 3; omega), if_pos (by show 4 ≤ s.phase; omega)] at he
    injection he with e3 e4
    exact absurd e4.symm hu
end Fil
namespace Fil
variable {data : List Nat} {loss : List Bool} {now : Nat} {s s' : Src} {r : Rcv} {k : Nat} {u : U}
theorem go_one (h : Cm data now s r) (hn : now ≤ 1500) (he : s.nextV now = (s', u)) (p1 : s.phase = 1) (d0 : s.due = false) :
    (s.mreq = true ∧ (({ s with now := (now : Int), mreq := false }, .head) : Src × U) = (s', u)) ∨ (s.mreq = false ∧ ((∃ g rest, s.wanted = g :: rest ∧ ({ s with now := (now : Int) } : Src).agnV g = (s', u)) ∨ (s.wanted = [] ∧ ({ s with now := (now : Int) } : Src).repV = (s', u)))) := by
  unfold Src.nextV at he
  rw [pass_eq h.nw hn] at he
  unfold Src.goV at he
  rw [if_neg (by show ¬ s.susp = true; rw [h.susp]; decide), if_neg (by show ¬ s.due = true; rw [d0]; decide), if_neg (by show ¬ s.phase = 3; omega), if_neg (by show ¬ 4 ≤ s.phase; omega)] at he
  by_cases q : s.mreq = true
  · rw [if_pos (by exact q)] at he
    exact Or.inl ⟨q, he⟩
  · rw [if_neg (by exact q)] at he
    refine Or.inr ⟨by simpa using q, ?_⟩
    split at he
    · rename_i g l hw
      exact Or.inl ⟨g, l, hw, he⟩
    · rename_i hw
      rw [if_neg (by show ¬ s.phase = 0; omega)] at he
      exact Or.inr ⟨hw, he⟩
theorem rep_one (h : Cm data now s r) (p1 : s.phase = 1) (ht : s.acked = false → s.tries < 255) (he : ({ s with now := (now : Int) } : Src).repV = (s', u)) :
    (u = .non ∧ s' = { s with now := (now : Int) } ∧ (s.acked = true ∨ (now : Int) < s.timer + 4)) ∨ (u = .eof 0 ∧ s' = { s with now := (now : Int), tries := s.tries + 1, timer := (now : Int) } ∧ s.acked = false ∧ s.timer + 4 ≤ (now : Int)) := by
  have hto := h.to
  have hre := h.re
  unfold Src.repV at he
  by_cases q : ({ s with now := (now : Int) } : Src).quietB = true
  · rw [if_pos q] at he
    injection he with e1 e2
    refine Or.inl ⟨e2.symm, e1.symm, ?_⟩
    have q' : (!(s.phase == 1) || s.acked || decide ((now : Int) < s.timer + s.timeout)) = true := q
    rw [p1, hto] at q'
    simpa using q'
  · rw [if_neg q] at he
    have q' : ¬ (!(s.phase == 1) || s.acked || decide ((now : Int) < s.timer + s.timeout)) = true := q
    rw [p1, hto] at q'
    simp at q'
    rw [if_neg (by show ¬ s.retries ≤ s.tries; have := ht q'.1; omega)] at he
    injection he with e1 e2
    exact Or.inr ⟨e2.symm, e1.symm, q'⟩
theorem left_rep {D : Nat} (hd : s'.due = s.due) (hm : s'.mreq = s.mreq) (hw : s'.wanted = s.wanted) (p1 : s.phase = 1) (p1' : s'.phase = 1) (a0 : s.acked = false) (hdue : s.timer + 4 ≤ (now : Int)) (ht : s'.timer = (now : Int)) : left D now s' + 1 ≤ left D now s := by
  have h1 : ¬ (1 : Int) = 0 := by decide
  have h2 : ¬ ((1 : Int) = 1 ∧ s'.acked = false ∧ s'.timer + 4 ≤ (now : Int)) := fun e => by have := e.2.2; omega
  have h3 : (1 : Int) = 1 ∧ s.acked = false ∧ s.timer + 4 ≤ (now : Int) := ⟨rfl, a0, hdue⟩
  unfold left
  rw [hd, hm, hw, p1, p1', if_neg h1, if_neg h1, if_neg h2, if_pos h3]
  omega
theorem see_small (hl : loss.length ≤ 100) (k : Nat) : (See loss k : Int) ≤ 100 := by have := See_le loss k; omega
theorem lost_small (hl : loss.length ≤ 100) (h : lost loss k = true) : k < 100 := by have := lost_lt h; omega
theorem stp_early (h : Cm data now s r) (hn : now ≤ 1500) (hl : loss.length ≤ 100) (he : s.nextV now = (s', u)) (hu : u ≠ .non)
    (p1 : s.phase = 1) (d0 : s.due = false) (c0 : r.closed = false) (e0 : r.ended = false) (a0 : s.acked = false) (w0 : s.wanted = []) (m0 : s.mreq = false) (ht : s.tries < (See loss k : Int)) (htm : s.timer ≤ 4 * (min k 100 : Nat)) (hnt : (now : Int) ≤ s.timer + 4) : Stp1 data loss now s r k s' u := by
  have hg : Good s' := by have := h.good.nextV now; rw [he] at this; exact this
  obtain ⟨q, -⟩ | ⟨-, ⟨g, l, hw, -⟩ | ⟨-, he2⟩⟩ := go_one h hn he p1 d0
  · rw [m0] at q; cases q
  · rw [w0] at hw; cases hw
  have hsm := see_small hl k
  rcases rep_one h p1 (fun _ => by omega) he2 with ⟨e1, _⟩ | ⟨rfl, rfl, _, hdue⟩
  · exact absurd e1 hu
  have hx : now ≤ 407 := by omega
  have hu1 := See_up loss k
  refine ⟨by simp, by intro c e; injection e with e; exact ⟨e.symm, p1⟩, ?_, by simp, ?_, ?_, ?_⟩
  · intro hlo
    have := lost_small hl hlo
    refine ⟨h.nxt hn _ hg ⟨rfl, rfl, rfl, rfl, rfl, rfl, rfl, rfl, rfl, Or.inr rfl⟩ ⟨rfl, rfl⟩, .early p1 d0 c0 e0 a0 w0 m0 ?_ ?_ ?_⟩
    · show s.tries + 1 < (See loss (k + 1) : Int); rw [See_lost hlo]; omega
    · show (now : Int) ≤ _; omega
    · show (now : Int) ≤ (now : Int) + 4; omega
  · intro _ hlo
    refine ⟨h.nxt hn _ hg ⟨rfl, rfl, rfl, rfl, rfl, rfl, rfl, rfl, rfl, Or.inr rfl⟩ ⟨rfl, rfl⟩, .wait p1 d0 c0 rfl (fun _ => ?_) (prg_early hx _ _ _)⟩
    show s.tries + 1 < (See loss (k + 1 + 1) : Int); rw [See_lost hlo]; omega
  · intro _
    exact ⟨h.nxt hn _ ⟨hg.n, hg.b, hg.c, hg.to, hg.re, hg.nw, hg.ti, hg.tr, hg.at0, hg.w, hg.wv⟩ ⟨rfl, rfl, rfl, rfl, rfl, rfl, rfl, rfl, rfl, Or.inr rfl⟩ ⟨rfl, rfl⟩, .wait p1 d0 c0 rfl (fun e => by cases e) (prg_early hx _ _ _)⟩
  · exact left_rep rfl rfl rfl p1 p1 a0 hdue rfl
theorem Vw.arr (h : Cm data now s r) {f t : Nat} (hft : f ≤ t) (w2 : List Rng.R) (hw : ∀ m : Int, Rng.Mem m s.wanted → (f ≤ m ∧ m < t) ∨ Rng.Mem m w2) {M : Nat} (hv : Vw data s r M) (s2 : Src) (hs2 : s2.wanted = w2) (g : Nat → Nat) : Vw data s2 { r with hv := ov r.hv f (fun _ => true) (t - f), dt := ov r.dt f g (t - f) } M := by
  intro x hx hM
  show (ov r.hv f (fun _ => true) (t - f))[x]? = some true ∨ _
  rw [hs2, ov_get, h.hl]
  by_cases c : f ≤ x ∧ x < f + (t - f) ∧ x < data.length
  · rw [if_pos c]; exact Or.inl rfl
  · rw [if_neg c]
    rcases hv x hx hM with q | q
    · exact Or.inl q
    · rcases hw x q with q | q
      · exact absurd ⟨by omega, by omega, hx⟩ c
      · exact Or.inr q
theorem stp_wait (h : Cm data now s r) (hn : now ≤ 1500) (hD : data.length ≤ 1500) (hl : loss.length ≤ 100) (he : s.nextV now = (s', u)) (hu : u ≠ .non)
    (p1 : s.phase = 1) (d0 : s.due = false) (c0 : r.closed = false) (e1 : r.ended = true) (ht : s.acked = false → s.tries < (See loss k : Int)) (hp : Prg data now s r k) : Stp1 data loss now s r k s' u := by
  have hg : Good s' := by have := h.good.nextV now; rw [he] at this; exact this
  have hsm := see_small hl k
  have hu1 := See_up loss k
  have hu2 := See_up loss (k + 1)
  obtain ⟨q1, he2⟩ | ⟨q1', he2⟩ := go_one h hn he p1 d0
  · injection he2 with e3 e4
    subst e3 e4
    refine ⟨by simp, by simp, fun hlo => ⟨h.nxt hn _ hg ⟨rfl, rfl, rfl, rfl, rfl, rfl, rfl, rfl, rfl, Or.inl rfl⟩ ⟨rfl, rfl⟩, .wait p1 d0 c0 e1 (fun e => by have := ht e; show s.tries < _; omega) (prg_low hp (lost_small hl hlo) (by omega) _ _)⟩, fun _ => ⟨h.nxt hn _ hg ⟨rfl, rfl, rfl, rfl, rfl, rfl, rfl, rfl, rfl, Or.inl rfl⟩ ⟨rfl, rfl⟩, .wait p1 d0 c0 e1 (fun e => by have := ht e; show s.tries < _; omega) (prg_up hp (by omega) (fun M hM => hM) (fun _ => Or.inl rfl))⟩, by simp, by simp, ?_⟩
    unfold left
    simp only [q1, p1, d0]
    simp
    omega
  · have hc := h.good.c
    obtain ⟨g, rest, hw, he2⟩ | ⟨hw, he2⟩ := he2
    ·
      have hgw := h.good.w g (by rw [hw]; simp)
      have hvw := h.good.wv
      rw [hw] at hvw
      rw [h.dat] at hgw
      obtain ⟨a, b⟩ := g
      simp only [] at hgw he2
      unfold Src.agnV at he2
      simp only [] at he2
      injection he2 with e3 e4
      obtain ⟨f, hf⟩ : ∃ f, f = a.toNat := ⟨_, rfl⟩
      obtain ⟨t, htt⟩ : ∃ t, t = min b.toNat (a.toNat + s.chunk.toNat) := ⟨_, rfl⟩
      rw [← htt, ← hf] at e3 e4
      have hft : f < t ∧ t ≤ data.length := by omega
      have ha : a = (f : Int) := by omega
      have hb : (t : Int) ≤ b := by omega
      clear htt hf
      subst ha
      subst e3 e4
      obtain ⟨k1, k2⟩ := rem_iff s.wanted ((f : Int), (t : Int))
      have htot := tot_front (t := (t : Int)) hvw (by omega) hb
      refine ⟨?_, by simp, fun hlo => ⟨h.nxt hn _ hg ⟨rfl, rfl, rfl, rfl, rfl, rfl, rfl, rfl, rfl, Or.inl rfl⟩ ⟨rfl, rfl⟩, .wait p1 d0 c0 e1 (fun e => by have := ht e; show s.tries < _; omega) (prg_low hp (lost_small hl hlo) (by omega) _ _)⟩, fun _ => ⟨?_, .wait p1 d0 c0 e1 (fun e => by have := ht e; show s.tries < _; omega) (prg_up hp (by omega) (fun M hM => ?_) (fun e => e))⟩, by simp, by simp, ?_⟩
      · intro f' t' e
        injection e with e5 e6
        subst e5 e6
        exact hft
      · exact (h.nxt hn _ hg ⟨rfl, rfl, rfl, rfl, rfl, rfl, rfl, rfl, rfl, Or.inl rfl⟩ (r' := r) ⟨rfl, rfl⟩).arr (Nat.le_of_lt hft.1) hft.2 s.data h.dat
      · refine Vw.arr h (Nat.le_of_lt hft.1) _ (fun m hm => ?_) hM _ rfl _
        by_cases c : (f : Int) ≤ m ∧ m < t
        · exact Or.inl c
        · exact Or.inr ((k2 m).2 ⟨hm, c⟩)
      · unfold left
        simp only [q1', p1, d0, hw]
        rw [hw] at *
        omega
    · rcases rep_one h p1 (fun e => by have := ht e; omega) he2 with ⟨e1, _⟩ | ⟨rfl, rfl, a0, hdue⟩
      · exact absurd e1 hu
      have ht := ht a0
      refine ⟨by simp, by intro c e; injection e with e; exact ⟨e.symm, p1⟩, ?_, by simp, ?_, ?_, ?_⟩
      · intro hlo
        refine ⟨h.nxt hn _ hg ⟨rfl, rfl, rfl, rfl, rfl, rfl, rfl, rfl, rfl, Or.inr rfl⟩ ⟨rfl, rfl⟩, .wait p1 d0 c0 e1 (fun _ => ?_) (prg_low hp (lost_small hl hlo) (by omega) _ _)⟩
        show s.tries + 1 < (See loss (k + 1) : Int); rw [See_lost hlo]; omega
      · intro _ hlo
        refine ⟨h.nxt hn _ hg ⟨rfl, rfl, rfl, rfl, rfl, rfl, rfl, rfl, rfl, Or.inr rfl⟩ ⟨rfl, rfl⟩, .wait p1 d0 c0 rfl (fun _ => ?_) (prg_up hp (by omega) (fun M hM => hM) (fun e => e))⟩
        show s.tries + 1 < (See loss (k + 1 + 1) : Int); rw [See_lost hlo]; omega
      · intro _
        exact ⟨h.nxt hn _ ⟨hg.n, hg.b, hg.c, hg.to, hg.re, hg.nw, hg.ti, hg.tr, hg.at0, hg.w, hg.wv⟩ ⟨rfl, rfl, rfl, rfl, rfl, rfl, rfl, rfl, rfl, Or.inr rfl⟩ ⟨rfl, rfl⟩, .wait p1 d0 c0 rfl (fun e => by cases e) (prg_up hp (by omega) (fun M hM => hM) (fun e => e))⟩
      · exact left_rep rfl rfl rfl p1 p1 a0 hdue rfl
end Fil
namespace Fil
variable {data : List Nat} {loss : List Bool} {now : Nat} {s s' : Src} {r : Rcv} {k : Nat} {u : U}
theorem step1 (h : Inv data loss now s r k) (hn : now ≤ 1500) (hD : data.length ≤ 1500) (hl : loss.length ≤ 100) (he : s.nextV now = (s', u)) (hu : u ≠ .non) : Stp1 data loss now s r k s' u := by
  obtain ⟨h, hp⟩ := h
  cases hp with
  | zero a b c d e f g i => exact stp_zero h hn hD hl he a b c d e f g i
  | early a b c d e f g i j l => exact stp_early h hn hl he hu a b c d e f g i j l
  | wait a b c d e f => exact stp_wait h hn hD hl he hu a b c d e f
  | clos a b c d e f g i => exact stp_clos h hn he a b c d f g
  | over a b c d e => exact stp_over h hn he hu a b c d e
/-- The sending end has nothing to send. -/
structure Quiet (now : Nat) (s : Src) : Prop where
  q : s.phase = 4 ∨ (s.phase = 1 ∧ s.wanted = [] ∧ s.mreq = false ∧ (s.acked = true ∨ (now : Int) < s.timer + 4))
theorem quiet (h : Inv data loss now s r k) (hn : now ≤ 1500) (hl : loss.length ≤ 100) (he : s.nextV now = (s', .non)) : Inv data loss now s' r k ∧ Quiet now s' := by
  have hg : Good s' := by have := h.1.good.nextV now; rw [he] at this; exact this
  obtain ⟨h, hp⟩ := h
  cases hp with
  | zero p0 n0 w0 m0 d0 a0 e0 c0 =>
    exfalso
    unfold Src.nextV at he
    rw [pass_eq h.nw hn] at he
    unfold Src.goV at he
    rw [if_neg (by show ¬ s.susp = true; rw [h.susp]; decide), if_neg (by show ¬ s.due = true; rw [d0]; decide), if_neg (by show ¬ s.phase = 3; omega), if_neg (by show ¬ 4 ≤ s.phase; omega), if_neg (by show ¬ s.mreq = true; rw [m0]; decide)] at he
    split at he
    · unfold Src.agnV at he; cases he
    · rw [if_pos (by exact p0)] at he
      unfold Src.fwdV at he
      split at he
      · cases he
      · split at he <;> cases he
  | early p1 d0 c0 e0 a0 w0 m0 ht htm hnt =>
    have hsm := see_small hl k
    obtain ⟨q, -⟩ | ⟨-, ⟨g, l, hw, -⟩ | ⟨-, he2⟩⟩ := go_one h hn he p1 d0
    · rw [m0] at q; cases q
    · rw [w0] at hw; cases hw
    rcases rep_one h p1 (fun _ => by omega) he2 with ⟨_, rfl, hq⟩ | ⟨e, _⟩
    · exact ⟨⟨h.nxt hn _ hg ⟨rfl, rfl, rfl, rfl, rfl, rfl, rfl, rfl, rfl, Or.inl rfl⟩ ⟨rfl, rfl⟩, .early p1 d0 c0 e0 a0 w0 m0 ht htm hnt⟩, ⟨Or.inr ⟨p1, w0, m0, hq⟩⟩⟩
    · cases e
  | wait p1 d0 c0 e1 ht hp =>
    have hsm := see_small hl k
    obtain ⟨-, q⟩ | ⟨m0, ⟨g, l, hw, q⟩ | ⟨w0, he2⟩⟩ := go_one h hn he p1 d0
    · cases q
    · unfold Src.agnV at q; cases q
    rcases rep_one h p1 (fun e => by have := ht e; omega) he2 with ⟨_, rfl, hq⟩ | ⟨e, _⟩
    · exact ⟨⟨h.nxt hn _ hg ⟨rfl, rfl, rfl, rfl, rfl, rfl, rfl, rfl, rfl, Or.inl rfl⟩ ⟨rfl, rfl⟩, .wait p1 d0 c0 e1 ht (prg_up hp (Nat.le_refl _) (fun M hM => hM) (fun e => e))⟩, ⟨Or.inr ⟨p1, w0, m0, hq⟩⟩⟩
    · cases e
  | clos p2 d1 w0 m0 c0 e1 hc hn2 =>
    exfalso
    unfold Src.nextV at he
    rw [pass_eq h.nw hn] at he
    unfold Src.goV at he
    rw [if_neg (by show ¬ s.susp = true; rw [h.susp]; decide), if_pos (by exact d1)] at he
    cases he
  | over p4 w0 m0 e1 hc =>
    unfold Src.nextV at he
    rw [pass_eq h.nw hn] at he
    unfold Src.goV at he
    rw [if_neg (by show ¬ s.susp = true; rw [h.susp]; decide)] at he
    by_cases d1 : s.due = true
    · rw [if_pos (by exact d1)] at he; cases he
    · rw [if_neg (by exact d1), if_neg (by show ¬ s.phase = 3; omega), if_pos (by show 4 ≤ s.phase; omega)] at he
      injection he with e3 _
      subst e3
      exact ⟨⟨h.nxt hn _ hg ⟨rfl, rfl, rfl, rfl, rfl, rfl, rfl, rfl, rfl, Or.inl rfl⟩ ⟨rfl, rfl⟩, .over p4 w0 m0 e1 hc⟩, ⟨Or.inl p4⟩⟩
theorem Cm.later (h : Cm data now s r) : Cm data (now + 1) s r := ⟨h.good, h.src, h.num, h.cls, h.dat, h.to, h.re, h.susp, h.code, by have := h.nw; omega, h.tm, h.hl, h.dl, h.hd⟩
theorem prg_later (h : Prg data now s r k) (hm : now % 4 ≠ 3) : Prg data (now + 1) s r k := by
  have : (now + 1) / 4 = now / 4 := by omega
  unfold Prg
  rw [this]
  exact h
/-- The end of a tick without an answer. -/
theorem tick_skip (h : Inv data loss now s r k) (hq : Quiet now s) (hm : now % 4 ≠ 3 ∨ r.ended = false ∨ r.closed = true) : Inv data loss (now + 1) s r k := by
  obtain ⟨h, hp⟩ := h
  refine ⟨h.later, ?_⟩
  cases hp with
  | zero p0 => exact absurd p0 (by rcases hq.q with q | q; (omega); (have := q.1; omega))
  | early p1 d0 c0 e0 a0 w0 m0 ht htm hnt =>
    refine .early p1 d0 c0 e0 a0 w0 m0 ht htm ?_
    rcases hq.q with q | ⟨_, _, _, q | q⟩
    · omega
    · rw [a0] at q; cases q
    · omega
  | wait p1 d0 c0 e1 ht hp =>
    refine .wait p1 d0 c0 e1 ht (prg_later hp ?_)
    rcases hm with hm | hm | hm
    · exact hm
    · rw [e1] at hm; cases hm
    · rw [c0] at hm; cases hm
  | clos p2 => exact absurd p2 (by rcases hq.q with q | q; (omega); (have := q.1; omega))
  | over p4 w0 m0 e1 hc => exact .over p4 w0 m0 e1 hc
theorem prg_lost (h : Prg data now s r k) (hk : k < 100) (s2 : Src) (r2 : Rcv) : Prg data (now + 1) s2 r2 (k + 1) := by
  have h1 : now / 4 ≤ 101 + k := by
    rcases h with h | h
    · exact h.2
    · omega
  by_cases c : k + 1 < 100
  · exact Or.inl ⟨c, by omega⟩
  · exact Or.inr ⟨by omega, 0, by omega, by omega, fun x _ hx => absurd hx (by omega), fun h => absurd h (by omega)⟩
/-- The end of a tick whose answer is lost. -/
theorem tick_lost (h : Inv data loss now s r k) (hq : Quiet now s) (hl : loss.length ≤ 100) (he : r.ended = true) (hlo : lost loss k = true) : Inv data loss (now + 1) s r (k + 1) := by
  obtain ⟨h, hp⟩ := h
  refine ⟨h.later, ?_⟩
  have hk := lost_small hl hlo
  have hu := See_up loss k
  cases hp with
  | zero p0 => exact absurd p0 (by rcases hq.q with q | q; (omega); (have := q.1; omega))
  | early p1 d0 c0 e0 => rw [he] at e0; cases e0
  | wait p1 d0 c0 e1 ht hp => exact .wait p1 d0 c0 e1 (fun e => by have := ht e; omega) (prg_lost hp hk s r)
  | clos p2 => exact absurd p2 (by rcases hq.q with q | q; (omega); (have := q.1; omega))
  | over p4 w0 m0 e1 hc => exact .over p4 w0 m0 e1 hc
/-- The last tick. -/
theorem tick_last (h : Inv data loss 1500 s r k) : s.phase = 4 := by
  obtain ⟨h, hp⟩ := h
  cases hp with
  | zero p0 n0 => cases n0
  | early p1 d0 c0 e0 a0 w0 m0 ht htm hnt => omega
  | wait p1 d0 c0 e1 ht hp =>
    rcases hp with ⟨h1, h2⟩ | ⟨h1, m, h2, h3, _⟩ <;> omega
  | clos p2 _ _ _ _ _ _ h => omega
  | over p4 => exact p4
/-- What the law asks for when the sender is done. -/
theorem over_all (h : Inv data loss now s r k) (h4 : s.phase = 4) : Cpl r ∧ r.dt = data ∧ s.code = 0 := by
  obtain ⟨h, hp⟩ := h
  have hc : Cpl r := by
    cases hp with
    | zero p0 => omega
    | early p1 => omega
    | wait p1 => omega
    | clos p2 => omega
    | over p4 _ _ _ hc => exact hc
  refine ⟨hc, ?_, h.code⟩
  refine List.ext_getElem? fun i => ?_
  by_cases q : i < data.length
  · exact h.hd i (hc.2 i (by rw [h.hl]; exact q))
  · rw [List.getElem?_eq_none (by rw [h.dl]; omega), List.getElem?_eq_none (by omega)]
theorem left_first (h : Inv data loss now s r k) (hD : data.length ≤ 1500) : left data.length now s ≤ data.length + 4 := by
  obtain ⟨h, hp⟩ := h
  have ht := tot_le s.wanted 0 data.length h.good.wv (fun x hx => ⟨(h.good.w x hx).1, by have := (h.good.w x hx).2.2; rw [h.dat] at this; exact this⟩) (by omega)
  have b1 : (if s.due = true then 1 else 0) ≤ 1 := by split <;> omega
  have b2 : (if s.mreq = true then 1 else 0) ≤ 1 := by split <;> omega
  unfold left
  by_cases p0 : s.phase = 0
  · have hw : s.wanted = [] := by
      cases hp with
      | zero _ _ w => exact w
      | early p1 => omega
      | wait p1 => omega
      | clos p2 => omega
      | over p4 => omega
    rw [if_pos p0, hw]
    have b3 : (if s.started = true then 0 else 1) ≤ 1 := by split <;> omega
    simp only [tot, List.map_nil, List.sum_nil]
    omega
  · rw [if_neg p0]
    have b3 : (if s.phase = 1 ∧ s.acked = false ∧ s.timer + 4 ≤ (now : Int) then 1 else 0) ≤ 1 := by split <;> omega
    omega
end Fil
namespace Fil
structure AJ (hv : List Bool) (named : Bool) (i : Nat) (l : List Rng.R) (f : Int) (g : List Rng.R) : Prop where
  eq : l = pre named ++ g
  len : l.length ≤ 16
  val : Rng.Valid g
  inn : ∀ x ∈ g, 0 ≤ x.1 ∧ hv[x.1.toNat]? = some false ∧ x.2 ≤ hv.length ∧ x.2 < i ∧ (0 ≤ f → x.2 < f)
  fr : f = -1 ∨ (0 ≤ f ∧ f < i ∧ hv[f.toNat]? = some false)
  cov : ∀ x : Nat, x < hv.length → x < i → (f < 0 ∨ (x : Int) < f) → hv[x]? = some false → Rng.Mem x g ∨ (16 ≤ l.length ∧ ∀ y ∈ g, y.2 < x)
theorem getD_false {hv : List Bool} {i : Nat} (h : i < hv.length) (h2 : hv.getD i false = false) : hv[i]? = some false := by
  rw [List.getD_eq_getElem?_getD, List.getElem?_eq_getElem h] at h2
  rw [List.getElem?_eq_getElem h]
  exact congrArg some h2
theorem getD_true {hv : List Bool} {i : Nat} (h2 : hv.getD i false = true) : hv[i]? = some true := by
  rw [List.getD_eq_getElem?_getD] at h2
  cases h : hv[i]? with
  | none => rw [h] at h2; cases h2
  | some b => rw [h] at h2; exact congrArg some h2
theorem ansS_inv (hv : List Bool) (named : Bool) : ∀ i, i ≤ hv.length + 1 → ∃ g, AJ hv named i (ansS hv named i).1 (ansS hv named i).2 g
  | 0, _ => ⟨[], by simp [ansS], by unfold ansS pre; split <;> simp, Rng.Valid.nil, by simp, Or.inl rfl, fun x _ h => absurd h (by omega)⟩
  | i + 1, hi => by
    obtain ⟨g, h⟩ := ansS_inv hv named i (by omega)
    unfold ansS
    obtain ⟨l, hl⟩ : ∃ l, l = (ansS hv named i).1 := ⟨_, rfl⟩
    obtain ⟨f, hf⟩ : ∃ f, f = (ansS hv named i).2 := ⟨_, rfl⟩
    have he : ansS hv named i = (l, f) := by rw [hl, hf]
    rw [← hl, ← hf] at h
    rw [he]
    simp only []
    by_cases c : (decide (i = hv.length) || hv.getD i false) = true
    · rw [if_pos c]
      have hx : hv[i]? ≠ some false := by
        intro e
        simp only [Bool.or_eq_true, decide_eq_true_eq] at c
        rcases c with c | c
        · rw [List.getElem?_eq_none (by omega)] at e; cases e
        · rw [getD_true c] at e; cases e
      by_cases c2 : 0 ≤ f
      · rw [if_pos c2]
        obtain ⟨h1, h2⟩ : f < i ∧ hv[f.toNat]? = some false := by
          rcases h.fr with h | h
          · omega
          · exact h.2
        by_cases c3 : l.length < 16
        · rw [if_pos c3]
          refine ⟨g ++ [(f, (i : Int))], by rw [h.eq, List.append_assoc], by rw [List.length_append]; exact c3, Rng.valid_app.2 ⟨h.val, Rng.valid_cons.2 ⟨h1, by simp, Rng.Valid.nil⟩, ?_⟩, ?_, Or.inl rfl, ?_⟩
          · intro x hx y hy
            simp only [List.mem_singleton] at hy
            subst hy
            exact (h.inn x hx).2.2.2.2 c2
          · intro x hx
            rcases List.mem_append.1 hx with hx | hx
            · obtain ⟨q1, q2, q3, q4, q5⟩ := h.inn x hx
              exact ⟨q1, q2, q3, by omega, fun e => by omega⟩
            · simp only [List.mem_singleton] at hx
              subst hx
              exact ⟨c2, h2, by show (i : Int) ≤ _; omega, by show (i : Int) < _; omega, fun e => by omega⟩
          · intro x q1 q2 _ q4
            have hne : x ≠ i := by intro e; subst e; exact hx q4
            by_cases c4 : (x : Int) < f
            · rcases h.cov x q1 (by omega) (Or.inr c4) q4 with q | q
              · exact Or.inl (Rng.mem_app.2 (Or.inl q))
              · omega
            · exact Or.inl (Rng.mem_app.2 (Or.inr ⟨_, List.mem_singleton.2 rfl, by show f ≤ x; omega, by show (x : Int) < i; omega⟩))
        · rw [if_neg c3]
          refine ⟨g, h.eq, h.len, h.val, fun x hx => ?_, Or.inl rfl, ?_⟩
          · obtain ⟨q1, q2, q3, q4, q5⟩ := h.inn x hx
            exact ⟨q1, q2, q3, by omega, fun e => by omega⟩
          · intro x q1 q2 _ q4
            have hne : x ≠ i := by intro e; subst e; exact hx q4
            by_cases c4 : (x : Int) < f
            · exact h.cov x q1 (by omega) (Or.inr c4) q4
            · exact Or.inr ⟨by simp only []; omega, fun y hy => by have := (h.inn y hy).2.2.2.2 c2; omega⟩
      · rw [if_neg c2]
        refine ⟨g, h.eq, h.len, h.val, fun x hx => ?_, Or.inl ?_, ?_⟩
        · obtain ⟨q1, q2, q3, q4, q5⟩ := h.inn x hx
          exact ⟨q1, q2, q3, by omega, q5⟩
        · rcases h.fr with h | h
          · exact h
          · omega
        · intro x q1 q2 q3 q4
          have hne : x ≠ i := by intro e; subst e; exact hx q4
          exact h.cov x q1 (by omega) q3 q4
    · rw [if_neg c]
      simp only [Bool.or_eq_true, decide_eq_true_eq] at c
      have c1 : i < hv.length := by omega
      have hx : hv[i]? = some false := getD_false c1 (by simpa using fun e => c (Or.inr e))
      by_cases c2 : f < 0
      · rw [if_pos c2]
        refine ⟨g, h.eq, h.len, h.val, fun x hx => ?_, Or.inr ⟨by show 0 ≤ (i : Int); omega, by show (i : Int) < _; omega, hx⟩, ?_⟩
        · obtain ⟨q1, q2, q3, q4, q5⟩ := h.inn x hx
          exact ⟨q1, q2, q3, by omega, fun _ => q4⟩
        · intro x q1 q2 q3 q4
          simp only [] at q3
          exact h.cov x q1 (by omega) (Or.inl c2) q4
      · rw [if_neg c2]
        refine ⟨g, h.eq, h.len, h.val, fun x hx => ?_, ?_, ?_⟩
        · obtain ⟨q1, q2, q3, q4, q5⟩ := h.inn x hx
          exact ⟨q1, q2, q3, by omega, q5⟩
        · rcases h.fr with h | ⟨h1, h2, h3⟩
          · omega
          · exact Or.inr ⟨h1, by omega, h3⟩
        · intro x q1 q2 q3 q4
          simp only [] at q3
          have : f < i := by
            rcases h.fr with h | h
            · omega
            · exact h.2.1
          exact h.cov x q1 (by omega) q3 q4
theorem ans_end (hv : List Bool) (named : Bool) : (ansS hv named (hv.length + 1)).2 < 0 := by
  unfold ansS
  rw [if_pos (by simp)]
  split
  · show (-1 : Int) < 0; omega
  · omega
/-- What the answer asks for. -/
theorem ans_spec (r : Rcv) : ∃ g, ansV r = pre r.named ++ g ∧ (ansV r).length ≤ 16 ∧ Rng.Valid g ∧ (∀ x ∈ g, 0 ≤ x.1 ∧ r.hv[x.1.toNat]? = some false ∧ x.2 ≤ r.hv.length) ∧ ∀ x : Nat, x < r.hv.length → r.hv[x]? = some false → Rng.Mem x g ∨ (16 ≤ (ansV r).length ∧ ∀ y ∈ g, y.2 < x) := by
  obtain ⟨g, h⟩ := ansS_inv r.hv r.named (r.hv.length + 1) (Nat.le_refl _)
  exact ⟨g, h.eq, h.len, h.val, fun x hx => by obtain ⟨q1, q2, q3, q4, q5⟩ := h.inn x hx; exact ⟨q1, q2, q3⟩, fun x q1 q2 => h.cov x q1 (by omega) (Or.inl (ans_end _ _)) q2⟩
theorem ans_nil {r : Rcv} : ansV r = [] ↔ Cpl r := by
  obtain ⟨g, h1, h2, h3, h4, h5⟩ := ans_spec r
  constructor
  · intro e
    rw [e] at h1 h5
    obtain ⟨q1, q2⟩ := List.append_eq_nil_iff.1 h1.symm
    refine ⟨?_, fun i hi => ?_⟩
    · unfold pre at q1
      split at q1
      · assumption
      · cases q1
    · rw [List.getElem?_eq_getElem hi]
      cases hb : r.hv[i] with
      | true => rfl
      | false =>
        rcases h5 i hi (by rw [List.getElem?_eq_getElem hi, hb]) with q | q
        · rw [q2] at q; exact absurd q Rng.mem_nil
        · have := q.1; simp at this
  · rintro ⟨q1, q2⟩
    rw [h1]
    have hg : g = [] := by
      cases g with
      | nil => rfl
      | cons x g =>
        obtain ⟨k1, k2, k3⟩ := h4 x (by simp)
        have k4 := h3.1 x (by simp)
        rw [q2 x.1.toNat (by omega)] at k2
        cases k2
    rw [hg]
    unfold pre
    rw [if_pos q1]
    rfl
theorem gapsGo_ok : ∀ (g : List Rng.R) (fst : Bool) (last : Int), Rng.Valid g → (∀ x ∈ g, last < x.1 ∧ 0 ≤ x.1 ∧ x.2 ≤ 65536) → gapsGo fst last g = true
  | [], _, _, _, _ => rfl
  | x :: g, fst, last, hv, hb => by
    obtain ⟨h1, h2, h3⟩ := Rng.valid_cons.1 hv
    have hx := hb x (by simp)
    unfold gapsGo
    rw [if_neg (by rintro ⟨_, e⟩; rw [e] at h1; exact absurd h1 (by decide)), if_neg (by omega)]
    exact gapsGo_ok g false x.2 h3 fun y hy => ⟨h2 y hy, (hb y (by simp [hy])).2⟩
theorem ans_gaps {r : Rcv} (hD : r.hv.length ≤ 1500) (hne : ansV r ≠ []) : gapsB (ansV r) = true := by
  obtain ⟨g, h1, h2, h3, h4, h5⟩ := ans_spec r
  have hl : 1 ≤ (ansV r).length := by
    rcases Nat.eq_zero_or_pos (ansV r).length with h | h
    · exact absurd (List.length_eq_zero_iff.1 h) hne
    · exact h
  have hg := fun fst last (hx : ∀ x ∈ g, last < x.1) => gapsGo_ok g fst last h3 fun x hx' => ⟨hx x hx', (h4 x hx').1, by have := (h4 x hx').2.2; omega⟩
  unfold gapsB
  rw [Bool.and_eq_true]
  refine ⟨?_, by unfold withinB; rw [Bool.and_eq_true, decide_eq_true_eq, decide_eq_true_eq]; omega⟩
  rw [h1]
  have hlt : ∀ x ∈ g, (-1 : Int) < x.1 := fun x hx => by have := (h4 x hx).1; omega
  unfold pre
  split
  · exact hg true (-1) hlt
  · show (if true = true ∧ ((0, 0) : Rng.R) = (0, 0) then gapsGo false (-1) g else _) = true
    rw [if_pos ⟨rfl, rfl⟩]
    exact hg false (-1) hlt
theorem valid_wide : ∀ (l : List Rng.R) (a b : Int), Rng.Valid l → (∀ r ∈ l, a ≤ r.1 ∧ r.2 ≤ b) → l ≠ [] → a + 2 * l.length ≤ b + 1
  | [], a, b, _, _, h => absurd rfl h
  | x :: l, a, b, hv, hw, _ => by
    obtain ⟨h1, h2, h3⟩ := Rng.valid_cons.1 hv
    have hx := hw x (by simp)
    cases l with
    | nil => simp; omega
    | cons y l =>
      have := valid_wide (y :: l) (x.2 + 1) b h3 (fun r hr => ⟨by have := h2 r hr; omega, (hw r (by simp [hr])).2⟩) (by simp)
      simp only [List.length_cons] at this ⊢
      omega
end Fil
namespace Fil
variable {data : List Nat} {loss : List Bool} {now : Nat} {s s' : Src} {r : Rcv} {k : Nat} {u : U}
def finP5 : Pdu := { kind := 5, src := 1, num := 7 }
def nakP (ga : Option Go.Addr) (gc : Nat) (l : List Rng.R) : Pdu := { kind := 4, src := 1, num := 7, ga := ga, gaps := l, gc := gc }
theorem fin5_valid : finP5.validB = true := by decide +kernel
theorem nak_valid {ga : Option Go.Addr} {gc : Nat} {l : List Rng.R} (h : gapsB l = true) : (nakP ga gc l).validB = true := by
  have h1 : (nakP ga gc l).rest.emptyB = true := (show ({ kind := 4, src := 1, num := 7 } : Pdu).emptyB = true by decide +kernel)
  have h2 : (nakP ga gc l).kindB = true := h
  unfold Pdu.validB
  rw [h1, h2]
  rfl
theorem reqGo_form : ∀ (l : List Rng.R) (s : Src), ∃ m w, s.reqGo l = { s with mreq := m, wanted := w } ∧ (s.mreq = true → m = true) ∧ ((0, 0) ∈ l → m = true) ∧ ∀ x : Int, Rng.Mem x w ↔ Rng.Mem x s.wanted ∨ Rng.Mem x l
  | [], s => ⟨s.mreq, s.wanted, rfl, id, by simp, fun x => ⟨Or.inl, fun h => h.elim id fun h => absurd h Rng.mem_nil⟩⟩
  | g :: l, s => by
    obtain ⟨m, w, h1, h2, h3, h4⟩ := reqGo_form l (s.req1 g)
    have he : s.reqGo (g :: l) = (s.req1 g).reqGo l := rfl
    rw [he, h1]
    by_cases c : g = (0, 0)
    · have e1 : s.req1 g = { s with mreq := true } := by unfold Src.req1; rw [if_pos c]
      rw [e1] at h2 h4 ⊢
      refine ⟨m, w, rfl, fun _ => h2 rfl, fun _ => h2 rfl, fun x => ?_⟩
      rw [h4 x, Rng.mem_cons, c]
      simp only []
      constructor
      · rintro (q | q)
        · exact Or.inl q
        · exact Or.inr (Or.inr q)
      · rintro (q | q | q)
        · exact Or.inl q
        · omega
        · exact Or.inr q
    · have e1 : s.req1 g = { s with wanted := Rng.ofV (s.wanted ++ [g]) } := by unfold Src.req1; rw [if_neg c]
      rw [e1] at h2 h4 ⊢
      refine ⟨m, w, rfl, h2, fun hm => ?_, fun x => ?_⟩
      · rcases List.mem_cons.1 hm with hm | hm
        · exact absurd hm.symm c
        · exact h3 hm
      · rw [h4 x]
        show Rng.Mem x (Rng.ofV (s.wanted ++ [g])) ∨ _ ↔ _
        rw [(Rng.ofV_spec _).2 x, Rng.mem_app, Rng.mem_cons, Rng.mem_cons]
        constructor
        · rintro ((q | q | q) | q)
          · exact Or.inl q
          · exact Or.inr (Or.inl q)
          · exact absurd q Rng.mem_nil
          · exact Or.inr (Or.inr q)
        · rintro (q | q | q)
          · exact Or.inl (Or.inl q)
          · exact Or.inl (Or.inr (Or.inl q))
          · exact Or.inr q
theorem rec_fin (h : Cm data now s r) (hn : now ≤ 1500) : s.takeV finP5 now = (({ s with now := (now : Int) } : Src).endV 0, 0) := by
  unfold Src.takeV
  rw [pass_eq h.nw hn]
  unfold Src.recV
  rw [if_neg (by show ¬ (finP5.validB && (finP5.src == s.src) && (finP5.num == s.num) && !fwdB finP5.kind) = false; rw [h.src, h.num, fin5_valid]; decide), if_neg (by show ¬ s.cls ≠ 2; rw [h.cls]; decide), if_neg (show ¬ finP5.kind = 6 by decide), if_neg (show ¬ finP5.kind = 4 by decide)]
  rfl
theorem rec_nak (h : Cm data now s r) (hn : now ≤ 1500) (ga : Option Go.Addr) (gc : Nat) {l : List Rng.R} (hl : gapsB l = true) : s.takeV (nakP ga gc l) now = ({ s with now := (now : Int) } : Src).reqV l := by
  unfold Src.takeV
  rw [pass_eq h.nw hn]
  unfold Src.recV
  rw [if_neg (by show ¬ ((nakP ga gc l).validB && ((1 : Int) == s.src) && ((7 : Int) == s.num) && !fwdB 4) = false; rw [h.src, h.num, nak_valid hl]; decide), if_neg (by show ¬ s.cls ≠ 2; rw [h.cls]; decide), if_neg (show ¬ (nakP ga gc l).kind = 6 by show ¬ (4 : Int) = 6; decide), if_pos (show (nakP ga gc l).kind = 4 from rfl)]
  rfl
/-- The end of a tick in which the receiver says that it has all. -/
theorem tick_fin (h : Inv data loss now s r k) (hq : Quiet now s) (hn : now < 1500) (he : r.ended = true) (ha : ansV r = []) : (s.takeV finP5 now).2 = 0 ∧ Inv data loss (now + 1) (s.takeV finP5 now).1 r (k + 1) := by
  have hg := h.1.good.takeV finP5 now
  rw [rec_fin h.1 (by omega)] at hg ⊢
  have hc := ans_nil.1 ha
  obtain ⟨h, hp⟩ := h
  refine ⟨rfl, ?_⟩
  cases hp with
  | zero p0 => exact absurd p0 (by rcases hq.q with q | q; (omega); (have := q.1; omega))
  | early p1 d0 c0 e0 => rw [he] at e0; cases e0
  | wait p1 d0 c0 e1 ht hp =>
    have e9 : ({ s with now := (now : Int) } : Src).endV 0 = { s with now := (now : Int), phase := 2, code := 0, mreq := false, wanted := [], due := true } := by
      unfold Src.endV
      rw [if_neg (by show ¬ s.phase = 2; omega), if_pos (by exact Or.inr p1)]
    simp only [] at hg ⊢
    rw [e9] at hg ⊢
    exact ⟨(h.nxt (by omega) _ hg ⟨rfl, rfl, rfl, rfl, rfl, rfl, rfl, h.code.symm, rfl, Or.inl rfl⟩ ⟨rfl, rfl⟩).later, .clos rfl rfl rfl rfl c0 e1 hc (by rcases hp with ⟨h1, h2⟩ | ⟨h1, m, h2, h3, _⟩ <;> omega)⟩
  | clos p2 => exact absurd p2 (by rcases hq.q with q | q; (omega); (have := q.1; omega))
  | over p4 w0 m0 e1 _ =>
    have e9 : ({ s with now := (now : Int) } : Src).endV 0 = { s with now := (now : Int), due := true } := by
      unfold Src.endV
      rw [if_neg (by show ¬ s.phase = 2; omega), if_neg (by show ¬ (s.phase = 0 ∨ s.phase = 1); omega)]
    simp only [] at hg ⊢
    rw [e9] at hg ⊢
    exact ⟨(h.nxt (by omega) _ hg ⟨rfl, rfl, rfl, rfl, rfl, rfl, rfl, rfl, rfl, Or.inl rfl⟩ ⟨rfl, rfl⟩).later, .over p4 w0 m0 e1 hc⟩
/-- The end of a tick in which the receiver asks for what it lacks. -/
theorem tick_nak (h : Inv data loss now s r k) (hq : Quiet now s) (hn : now < 1500) (hD : data.length ≤ 1500) (he : r.ended = true) (ha : ansV r ≠ []) (ga : Option Go.Addr) (gc : Nat) :
    (s.takeV (nakP ga gc (ansV r)) now).2 = 0 ∧ Inv data loss (now + 1) (s.takeV (nakP ga gc (ansV r)) now).1 r (k + 1) := by
  have hg := h.1.good.takeV (nakP ga gc (ansV r)) now
  have hgp := ans_gaps (by rw [h.1.hl]; exact hD) ha
  rw [rec_nak h.1 (by omega) ga gc hgp] at hg ⊢
  obtain ⟨g, h1, h2, h3, h4, h5⟩ := ans_spec r
  have hle : ∀ x ∈ ansV r, x.2 ≤ (data.length : Int) := by
    intro x hx
    rw [h1] at hx
    rcases List.mem_append.1 hx with hx | hx
    · unfold pre at hx
      split at hx
      · cases hx
      · simp at hx; subst hx; show (0 : Int) ≤ _; omega
    · have := (h4 x hx).2.2; rw [h.1.hl] at this; exact this
  obtain ⟨h, hp⟩ := h
  cases hp with
  | zero p0 => exact absurd p0 (by rcases hq.q with q | q; (omega); (have := q.1; omega))
  | early p1 d0 c0 e0 => rw [he] at e0; cases e0
  | clos p2 => exact absurd p2 (by rcases hq.q with q | q; (omega); (have := q.1; omega))
  | over p4 w0 m0 e1 hc => exact absurd (ans_nil.2 hc) ha
  | wait p1 d0 c0 e1 ht hp =>
    obtain ⟨m, w, r1, r2, r3, r4⟩ := reqGo_form (ansV r) { s with now := (now : Int) }
    have e9 : ({ s with now := (now : Int) } : Src).reqV (ansV r) = ({ s with now := (now : Int), mreq := m, wanted := w, timer := (now : Int), tries := 0 }, 0) := by
      unfold Src.reqV
      rw [if_neg, if_neg (by rintro ⟨_, e⟩; exact e p1), r1]
      intro e
      obtain ⟨x, hx, q⟩ := List.any_eq_true.1 e
      have := hle x hx
      have q' : ((s.data.length : Int) < x.2) := by simpa using q
      rw [h.dat] at q'
      omega
    rw [e9] at hg ⊢
    refine ⟨rfl, (h.nxt (by omega) _ hg ⟨rfl, rfl, rfl, rfl, rfl, rfl, rfl, rfl, rfl, Or.inr rfl⟩ ⟨rfl, rfl⟩).later, .wait p1 d0 c0 e1 (fun e => ?_) ?_⟩
    · have q1 := ht e
      have q2 := h.good.tr
      have q3 := See_up loss k
      show (0 : Int) < _
      omega
    · rcases Nat.lt_or_ge k 100 with hk | hk
      · exact prg_lost hp hk _ _
      obtain ⟨w0, m0⟩ : s.wanted = [] ∧ s.mreq = false := by
        rcases hq.q with q | q
        · omega
        · exact ⟨q.2.1, q.2.2.1⟩
      rcases hp with hp | ⟨_, M, g1, g2, g3, g4⟩
      · omega
      have hv : ∀ x : Nat, x < data.length → x < 30 * M → r.hv[x]? = some true := fun x hx hM => by
        rcases g3 x hx hM with q | q
        · exact q
        · rw [w0] at q; exact absurd q Rng.mem_nil
      have hM : M ≤ 50 := by
        rcases Nat.lt_or_ge M 51 with q | q
        · omega
        · exfalso
          refine ha (ans_nil.2 ⟨?_, fun i hi => hv i (by rw [← h.hl]; exact hi) (by have := h.hl; omega)⟩)
          rcases g4 (by omega) with q | q
          · exact q
          · rw [m0] at q; cases q
      refine Or.inr ⟨by omega, M + 1, by omega, by omega, ?_, fun _ => ?_⟩
      · intro x hx hxM
        cases hb : r.hv[x]? with
        | none => rw [List.getElem?_eq_none_iff, h.hl] at hb; omega
        | some b =>
          cases b with
          | true => exact Or.inl rfl
          | false =>
            refine Or.inr ((r4 x).2 (Or.inr ?_))
            rw [h1]
            rcases h5 x (by rw [h.hl]; exact hx) hb with q | ⟨q1, q2⟩
            · exact Rng.mem_app.2 (Or.inr q)
            · exfalso
              have hgl : 15 ≤ g.length := by
                rw [h1, List.length_append] at q1
                have : (pre r.named).length ≤ 1 := by unfold pre; split <;> simp
                omega
              have := valid_wide g (30 * M : Nat) (x - 1 : Int) h3 (fun y hy => ⟨?_, by have := q2 y hy; omega⟩) (by intro e; rw [e] at hgl; simp at hgl)
              · omega
              · obtain ⟨k1, k2, k3⟩ := h4 y hy
                have k4 := h3.1 y hy
                rw [h.hl] at k3
                rcases Int.lt_or_le y.1 (30 * M : Nat) with q | q
                · rw [hv y.1.toNat (by omega) (by omega)] at k2; cases k2
                · exact q
      · cases hb : r.named with
        | true => exact Or.inl rfl
        | false =>
          refine Or.inr (r3 ?_)
          rw [h1]
          exact List.mem_append.2 (Or.inl (by unfold pre; rw [hb]; simp))
end Fil
