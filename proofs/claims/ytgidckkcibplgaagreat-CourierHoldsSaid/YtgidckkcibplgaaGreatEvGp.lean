/- An evaluator of the model's code: a body cut in two. An evaluator of the model's code: one state below another. An evaluator of the model's code: the order on values is sound. An evaluator of the model's code: a state that is below a general one may be taken for it. An evaluator of the model's code: a function that is cut in two, its first part run for each way in, its second from a general state. An evaluator of the model's code: states that a run has reached, rounds of a loop from general states. -/
import Derived.Test.YtgidckkcibplgaaGreatEvHd
import Derived.LoopN
set_option linter.unusedVariables false
set_option linter.unusedSimpArgs false
namespace Go.Ev
open Go.RowKit
variable {D : List Deferred}
variable {P : Program} {pr : Prims} {ih : Rn} {e : Env} {t : T V} {h : H} {s : Nat} {w : World} {a : Act} {r : RO} {k : K} {o : Oper}
/-- The first n pieces of a body. -/
noncomputable def cutR (ih : Rn) : Nat → Code → T V → H → Nat → RO
  | 0, _, t, h, s => .norm t h s
  | n + 1, .seq x y, t, h, s => (ih x t h s).bnd (fun t h s => cutR ih n y t h s) .exit .ret
  | _ + 1, _, _, _, _ => .err 300
/-- What comes behind them. -/
def dropC : Nat → Code → Code
  | 0, c => c
  | n + 1, .seq _ y => dropC n y
  | _ + 1, c => c
theorem cut_ok (hih : SoundRn P ih) {Q : Exit → Act → World → Prop} : ∀ (n : Nat) (c : Code) (t : T V) (h : H) (s : Nat), (cutR ih n c t h s).good → ∀ (e : Env) (a : Act) (w : World), AR D e t a → Sim e h w → Free e s →
    (∀ t' h' s' e' a' w', Sub (.norm t' h' s') (cutR ih n c t h s) → AR D e' t' a' → Post e s h w e' s' h' w' → (dropC n c).wp P Q a' w') →
    (∀ t' h' s' e' a' w', Sub (.ret t' h' s') (cutR ih n c t h s) → AR D e' t' a' → Post e s h w e' s' h' w' → Q .ret a' w') →
    (∀ i t' h' s' e' a' w', Sub (.exit i t' h' s') (cutR ih n c t h s) → AR D e' t' a' → Post e s h w e' s' h' w' → Q (.exit i) a' w') → c.wp P Q a w
  | 0, c, t, h, s, _, e, a, w, ha, hs, hf, hN, _, _ => hN t h s e a w (.refl _) ha (Post.refl hs hf)
  | n + 1, .seq x y, t, h, s, hr, e, a, w, ha, hs, hf, hN, hR, hE => by
    change ((ih x t h s).bnd (fun t h s => cutR ih n y t h s) .exit .ret).good at hr
    change ∀ t' h' s' e' a' w', Sub (.norm t' h' s') ((ih x t h s).bnd (fun t h s => cutR ih n y t h s) .exit .ret) → AR D e' t' a' → Post e s h w e' s' h' w' → (dropC n y).wp P Q a' w' at hN
    change ∀ t' h' s' e' a' w', Sub (.ret t' h' s') ((ih x t h s).bnd (fun t h s => cutR ih n y t h s) .exit .ret) → AR D e' t' a' → Post e s h w e' s' h' w' → Q .ret a' w' at hR
    change ∀ i t' h' s' e' a' w', Sub (.exit i t' h' s') ((ih x t h s).bnd (fun t h s => cutR ih n y t h s) .exit .ret) → AR D e' t' a' → Post e s h w e' s' h' w' → Q (.exit i) a' w' at hE
    refine wp_seq (wp_mono (hih.wp x t h s (RO.good_bnd hr) D e a w ha hs hf) (fun x1 a1 w1 hq => ?_))
    obtain ⟨l, g1, g2, g3⟩ := hq.leaf
    have hsub := g1.bnd (fun t h s => cutR ih n y t h s) .exit .ret
    cases l with
    | norm t' h' s' =>
      obtain ⟨rfl, e', ha', hp⟩ := g3
      exact cut_ok hih n y t' h' s' (hsub.good hr) e' a1 w1 ha' hp.sim hp.free
        (fun t2 h2 s2 e2 a2 w2 q1 q2 q3 => hN t2 h2 s2 e2 a2 w2 (q1.trans hsub) q2 (hp.trans q3))
        (fun t2 h2 s2 e2 a2 w2 q1 q2 q3 => hR t2 h2 s2 e2 a2 w2 (q1.trans hsub) q2 (hp.trans q3))
        (fun i t2 h2 s2 e2 a2 w2 q1 q2 q3 => hE i t2 h2 s2 e2 a2 w2 (q1.trans hsub) q2 (hp.trans q3))
    | exit id t' h' s' =>
      obtain ⟨rfl, e', ha', hp⟩ := g3
      exact hE id t' h' s' e' a1 w1 hsub ha' hp
    | ret t' h' s' =>
      obtain ⟨rfl, e', ha', hp⟩ := g3
      exact hR t' h' s' e' a1 w1 hsub ha' hp
    | err n => exact g3.elim
    | or _ _ => exact g2.elim
  | _ + 1, .skip, _, _, _, hr, _, _, _, _, _, _, _, _, _ => hr.elim
  | _ + 1, .region _ _ _, _, _, _, hr, _, _, _, _, _, _, _, _, _ => hr.elim
  | _ + 1, .cond _ _ _, _, _, _, hr, _, _, _, _, _, _, _, _, _ => hr.elim
  | _ + 1, .block _ _, _, _, _, hr, _, _, _, _, _, _, _, _, _ => hr.elim
  | _ + 1, .loop _, _, _, _, hr, _, _, _, _, _, _, _, _, _ => hr.elim
  | _ + 1, .exit _, _, _, _, hr, _, _, _, _, _, _, _, _, _ => hr.elim
  | _ + 1, .ret, _, _, _, hr, _, _, _, _, _, _, _, _, _ => hr.elim
  | _ + 1, .label _, _, _, _, hr, _, _, _, _, _, _, _, _, _ => hr.elim
  | _ + 1, .goto _, _, _, _, hr, _, _, _, _, _, _, _, _, _ => hr.elim
  | _ + 1, .scope _, _, _, _, hr, _, _, _, _, _, _, _, _, _ => hr.elim
  | _ + 1, .rangeFunc _ _ _ _, _, _, _, hr, _, _, _, _, _, _, _, _, _ => hr.elim
  | _ + 1, .refuse _, _, _, _, hr, _, _, _, _, _, _, _, _, _ => hr.elim
end Go.Ev
namespace Go.Ev
/-- A slice of bytes that is looked at from outside. -/
structure Dt where
  b : Nat
  o : Nat
  l : Nat
/-- What a small number is called by. -/
abbrev Sig := List (Nat × Int × List Nat)
noncomputable def subJ (σ : Sig) (j : Nat) : Int × List Nat := List.rec (motive := fun _ => Int × List Nat) (0, [j]) (fun p _ r => bif Nat.beq p.1 j then p.2 else r) σ
noncomputable def subL (σ : Sig) (l : List Nat) : Int × List Nat := List.rec (motive := fun _ => Int × List Nat) (0, []) (fun j _ r => (iadd (subJ σ j).1 r.1, mrgL (subJ σ j).2 r.2)) l
/-- Numbers below 3000, no sums. -/
noncomputable def lowX (a : SX) : Bool :=
  SX.rec (motive := fun _ => Bool) (fun i => Nat.ble (Nat.succ i) 3000) (fun _ => true) (fun _ _ _ _ ra rb => bif ra then rb else false) (fun _ _ _ r => r) (fun _ _ r => r) (fun _ _ r => r) (fun _ _ => false) a
/-- How the blocks are named anew: the numbers below s, and the slice that becomes the outside slice 3; what small numbers stand for. -/
structure Rm where
  m : T Nat
  s : Nat
  d : Option Dt
  g : Sig
/-- The pair of numbers is in the map. -/
noncomputable def rn (r : Rm) (b' b : Nat) : Bool := Nat.ble (Nat.succ b') r.s && Nat.beq (r.m.get 0 b') (Nat.succ b)
noncomputable def xOk (dt : Option Dt) (hi : Nat) : V → Bool
  | .sl b o l _ => (match dt with | some d => Nat.beq d.b b && (Nat.beq d.o o && (Nat.beq d.l l && (Nat.ble 1 l && Nat.ble l hi))) | none => Nat.beq l 0)
  | .slu b o l _ => (match dt with | some d => Nat.beq d.b b && (Nat.beq d.o o && (Nat.beq d.l l && (Nat.ble 1 l && Nat.ble l hi))) | none => Nat.beq l 0)
  | .nils => (match dt with | some _ => false | none => true)
  | .xsl _ _ l => (match dt with | some _ => false | none => Nat.beq l 0)
  | _ => false
noncomputable def xLe (dt : Option Dt) (j hi : Nat) (v : V) : Bool :=
  bif Nat.beq j 3 then xOk dt hi v else (match v with | .xsu j' hi' => Nat.beq j j' && Nat.ble hi' hi | _ => false)
noncomputable def linEq (σ : Sig) (c : Int) (l : List Nat) (q : Option (Int × List Nat)) : Bool := match q with | some (c', l') => ieq (iadd c (subL σ l).1) c' && leqL (subL σ l).2 l' | none => false
noncomputable def sLin (σ : Sig) (k : IntKind) (c : Int) (l : List Nat) (v : V) : Bool :=
  match v with
  | .sx k' b => smallL l && (keq k k' && linEq σ c l (linP b))
  | .int k' n => smallL l && (keq k k' && (fitsL k n [] && linEq σ c l (some (n, []))))
  | _ => false
noncomputable def sLow (k : IntKind) (a : SX) (v : V) : Bool := match v with | .sx k' b => keq k k' && (sxeq a b && lowX a) | _ => false
noncomputable def leSx (σ : Sig) (k : IntKind) (a : SX) (v : V) : Bool := match a with | .lin c l => sLin σ k c l v | a => sLow k a v
noncomputable def ivLin (k : IntKind) (lo hi : Int) (k' : IntKind) (b : SX) : Bool := match linP b with | some (c, l) => keq k k' && (smallL l && (ile lo c && ile (Int.add c (.ofNat (bndL l))) hi)) | none => false
noncomputable def lows (l : List SX) : Bool := List.rec (motive := fun _ => Bool) true (fun x _ r => bif lowX x then r else false) l
mutual
/-- The second value is one that the first allows. -/
noncomputable def leV (m : Rm) : V → V → Bool
  | .int k a, .int k' b => keq k k' && ieq a b
  | .iv k lo hi, .int k' b => keq k k' && (ile lo b && ile b hi)
  | .iv k lo hi, .iv k' lo' hi' => keq k k' && (ile lo lo' && ile hi' hi)
  | .iv k lo hi, .sx k' b => ivLin k lo hi k' b
  | .bool a, .bool b => (match a, b with | true, true => true | false, false => true | _, _ => false)
  | .str a, .str b => a == b
  | .nilp, .nilp => true
  | .ptr b o, .ptr c d => rn m b c && Nat.beq o d
  | .nils, .nils => true
  | .sl b o l c, .sl b' o' l' c' => rn m b b' && (Nat.beq o o' && (Nat.beq l l' && Nat.beq c c'))
  | .slu b o l z, .slu b' o' l' z' => rn m b b' && (Nat.beq o o' && (Nat.beq l l' && Nat.beq z z'))
  | .usl lo hi, .sl _ _ l _ => Nat.ble lo l && Nat.ble l hi
  | .usl lo hi, .slu _ _ l _ => Nat.ble lo l && Nat.ble l hi
  | .usl lo hi, .xsl _ _ l => Nat.ble lo l && Nat.ble l hi
  | .usl lo hi, .nils => Nat.beq lo 0
  | .usl lo hi, .usl lo' hi' => Nat.ble lo lo' && Nat.ble hi' hi
  | .nilm, .nilm => true
  | .map b, .map c => rn m b c
  | .nilf, .nilf => true
  | .fn f l, .fn g l' => Nat.beq f g && leVs m l l'
  | .nili, .nili => true
  | .ifc t v, .ifc u x => Nat.beq t u && leV m v x
  | .agg l, .agg l' => leVs m l l'
  | .tup l, .tup l' => leVs m l l'
  | .bfn f v, .bfn g x => Nat.beq f g && leV m v x
  | .opq, .opq => true
  | .opq, .sx _ _ => true
  | .opq, .int _ _ => true
  | .opq, .iv _ _ _ => true
  | .opq, .ss _ => true
  | .opq, .str _ => true
  | .opq, .ptr _ _ => true
  | .opq, .nilp => true
  | .opq, .nils => true
  | .opq, .sl _ _ _ _ => true
  | .opq, .slu _ _ _ _ => true
  | .xsl j o l, .xsl j' o' l' => not (Nat.beq j 3) && (Nat.beq j j' && (Nat.beq o o' && Nat.beq l l'))
  | .xp j o, .xp j' o' => not (Nat.beq j 3) && (Nat.beq j j' && Nat.beq o o')
  | .ss l, .ss l' => sxeqs l l' && lows l
  | .sx k a, v => leSx m.g k a v
  | .xsu j hi, v => xLe m.d j hi v
  | _, _ => false
noncomputable def leVs (m : Rm) : List V → List V → Bool
  | [], [] => true
  | v :: l, x :: l' => leV m v x && leVs m l l'
  | _, _ => false
end
/-- The pairs of blocks that two values name. -/
noncomputable def prV : V → V → List (Nat × Nat)
  | .ptr b _, .ptr c _ => [(b, c)]
  | .sl b _ _ _, .sl c _ _ _ => [(b, c)]
  | .slu b _ _ _, .slu c _ _ _ => [(b, c)]
  | .map b, .map c => [(b, c)]
  | .ifc _ (.ptr b _), .ifc _ (.ptr c _) => [(b, c)]
  | .bfn _ (.ptr b _), .bfn _ (.ptr c _) => [(b, c)]
  | .agg l, .agg l' => ((l.zip l').map fun p => match p with
    | (.ptr b _, .ptr c _) => [(b, c)] | (.sl b _ _ _, .sl c _ _ _) => [(b, c)] | (.slu b _ _ _, .slu c _ _ _) => [(b, c)] | (.map b, .map c) => [(b, c)] | (.ifc _ (.ptr b _), .ifc _ (.ptr c _)) => [(b, c)] | _ => []).flatten
  | .tup l, .tup l' => ((l.zip l').map fun p => match p with
    | (.ptr b _, .ptr c _) => [(b, c)] | (.sl b _ _ _, .sl c _ _ _) => [(b, c)] | (.slu b _ _ _, .slu c _ _ _) => [(b, c)] | (.map b, .map c) => [(b, c)] | (.ifc _ (.ptr b _), .ifc _ (.ptr c _)) => [(b, c)] | _ => []).flatten
  | _, _ => []
noncomputable def prs (l l' : List V) : List (Nat × Nat) := (List.zipWith prV l l').flatten
noncomputable def prB : B → B → List (Nat × Nat)
  | .cells t n, .cells t' n' => prs (rdCells t n 0) (rdCells t' n' 0)
  | .map es _, .map es' _ => prs (es.map (·.1)) (es'.map (·.1)) ++ prs (es.map (·.2.1)) (es'.map (·.2.1))
  | .iter (some b) _ _ _, .iter (some c) _ _ _ => [(b, c)]
  | _, _ => []
/-- The blocks that are reached from both sides. -/
noncomputable def reach (h h' : H) : Nat → List (Nat × Nat) → T Nat → List (Nat × Nat) → List (Nat × Nat)
  | 0, _, _, vis => vis
  | _ + 1, [], _, vis => vis
  | n + 1, (b, c) :: l, m, vis => bif Nat.beq (m.get 0 b) 0 then reach h h' n (prB (h.get .gone b) (h'.get .gone c) ++ l) (m.set b (Nat.succ c)) ((b, c) :: vis) else reach h h' n l m vis
noncomputable def N0 : T Nat := T.mk 0 24 16777215
noncomputable def renOf (vis : List (Nat × Nat)) : T Nat := vis.foldl (fun m p => m.set p.1 (Nat.succ p.2)) N0
noncomputable def invOf (vis : List (Nat × Nat)) : T Nat := vis.foldl (fun m p => m.set p.2 (Nat.succ p.1)) N0
/-- The slice that becomes the outside slice. -/
noncomputable def dtV : V → V → Option Dt
  | .xsu _ _, .sl b o l _ => (match l with | 0 => none | _ => some ⟨b, o, l⟩)
  | .xsu _ _, .slu b o l _ => (match l with | 0 => none | _ => some ⟨b, o, l⟩)
  | _, _ => none
noncomputable def dtL : List V → List V → Option Dt
  | v :: l, v' :: l' => (match dtV v v' with | some d => some d | none => dtL l l')
  | _, _ => none
noncomputable def dtB : B → B → Option Dt
  | .cells t n, .cells t' n' => dtL (rdCells t n 0) (rdCells t' n' 0)
  | .map es _, .map es' _ => dtL (es.map (·.2.1)) (es'.map (·.2.1))
  | _, _ => none
noncomputable def dtOf (h h' : H) : List (Nat × Nat) → Option Dt
  | [] => none
  | p :: l => (match dtB (h.get .gone p.1) (h'.get .gone p.2) with | some d => some d | none => dtOf h h' l)
noncomputable def leEs (m : Rm) : List (V × V × Nat) → List (V × V × Nat) → Bool
  | [], [] => true
  | (k, v, n) :: l, (k', v', n') :: l' => leV m k k' && (leV m v v' && (Nat.beq n n' && leEs m l l'))
  | _, _ => false
noncomputable def hasAll (t : T V) : Nat → Bool
  | 0 => true
  | n + 1 => t.has n && hasAll t n
noncomputable def leB (m : Rm) : B → B → Bool
  | .cells t n, .cells t' n' => Nat.beq n n' && (hasAll t n && leVs m (rdCells t n 0) (rdCells t' n' 0))
  | .map es c, .map es' c' => Nat.beq c c' && leEs m es es'
  | _, _ => false
mutual
/-- Made general: the number n becomes any up to hi, symbols become opaque, the slice of block g becomes the outside slice. -/
noncomputable def gnV (g n hi : Nat) : V → V
  | .int .i64 (.ofNat a) => bif Nat.beq a n then .iv .i64 0 hi else .int .i64 a
  | .sl b o l c => bif Nat.beq l n then (bif Nat.beq b g then .xsu 3 hi else .usl 0 hi) else .sl b o l c
  | .slu b o l c => bif Nat.beq l n then (bif Nat.beq b g then .xsu 3 hi else .usl 0 hi) else .slu b o l c
  | .xsl b o l => bif Nat.beq l n then .usl 0 hi else .xsl b o l
  | .sx _ _ => .opq
  | .ss _ => .opq
  | .agg l => .agg (gnVs g n hi l)
  | .tup l => .tup (gnVs g n hi l)
  | .ifc t v => .ifc t (gnV g n hi v)
  | v => v
noncomputable def gnVs (g n hi : Nat) : List V → List V
  | [] => []
  | v :: l => gnV g n hi v :: gnVs g n hi l
end
noncomputable def gnB (g n hi : Nat) : B → B
  | .cells t k => .cells (tree (gnVs g n hi (rdCells t k 0))) k
  | .map es c => .map (es.map fun p => (gnV g n hi p.1, gnV g n hi p.2.1, p.2.2)) c
  | b => b
structure Sta where
  t : T V
  h : H
  s : Nat
  n : Nat
noncomputable def Sta.tm (S : Sta) : List V := rdCells S.t S.n 0
/-- A general state: temporaries, blocks. -/
structure Gst where
  tl : List V
  l : List (Nat × B)
  s : Nat
noncomputable def Gst.h (G : Gst) : H := G.l.foldl (fun h p => h.set p.1 p.2) E0
noncomputable def Gst.t (G : Gst) : T V := tree G.tl
/-- The general state: of the blocks that are reached. -/
noncomputable def genS (g n hi : Nat) (S : Sta) : Gst :=
  ⟨gnVs g n hi S.tm, (reach S.h S.h 100000 (prs (gnVs g n hi S.tm) S.tm) N0 []).map (fun p => (p.1, gnB g n hi (S.h.get .gone p.1))), S.s⟩
noncomputable def u8s : List V → Bool
  | [] => true
  | .int .u8 (.ofNat n) :: l => Nat.ble n 255 && u8s l
  | .sx .u8 _ :: l => u8s l
  | _ => false
noncomputable def dtOk (h : H) (i : T Nat) : Option Dt → Bool
  | none => true
  | some d => (match h.get .gone d.b with
    | .cells t n => Nat.ble (Nat.add d.o d.l) n && (u8s (rdCells t d.l d.o) && (Nat.ble 1 d.l && (Nat.ble d.l 1000 && Nat.beq (i.get 0 d.b) 0)))
    | _ => false)
noncomputable def chkB (r : Rm) (i : T Nat) (h h' : H) (b' b : Nat) : Bool := rn r b' b && (Nat.beq (i.get 0 b) (Nat.succ b') && leB r (h.get .gone b') (h'.get .gone b))
noncomputable def chkP (r : Rm) (i : T Nat) (G : Gst) (S : Sta) : Bool :=
  Nat.beq (len G.tl) S.n && (Nat.ble 1 S.n && (S.t.has (Nat.pred S.n) && (not (S.t.has S.n) && (leVs r G.tl (rdCells S.t S.n 0) && (dtOk S.h i r.d && (Nat.beq r.s G.s && G.l.all (fun p => chkB r i G.h S.h p.1 (Nat.pred (r.m.get 0 p.1)))))))))
/-- The small numbers lie within their bounds. -/
noncomputable def sigOk (σ : Sig) : Bool := List.rec (motive := fun _ => Bool) true (fun p _ r => bif Nat.ble 1000000 p.1 && (smallL p.2.2 && (ile 0 p.2.1 && ile (Int.add p.2.1 (.ofNat (bndL p.2.2))) (.ofNat (Nat.mod p.1 1000)))) then r else false) σ
noncomputable def chkV (σ : Sig) (G : Gst) (S : Sta) (vis : List (Nat × Nat)) : Bool := chkP ⟨renOf vis, G.s, dtOf G.h S.h vis, σ⟩ (invOf vis) G S
/-- The state is below the general one, where the small numbers are called so. -/
noncomputable def chkG (σ : Sig) (G : Gst) (S : Sta) : Bool := chkV σ G S (reach G.h S.h 100000 (prs G.tl S.tm) N0 [])
noncomputable def chkS (G : Gst) (S : Sta) : Bool := chkG [] G S
end Go.Ev
namespace Go.Ev
variable {m : Rm} {e e' : Env}
/-- The outside slices and the numbers of the one are those of the other. -/
structure XLe (m : Rm) (e e' : Env) : Prop where
  d : ∀ hi v x, VR e v x → xOk m.d hi v = true → VR e' (.xsu 3 hi) x
  x : ∀ j, j ≠ 3 → e'.base.x j = e.base.x j
  low : ∀ i, i < 3000 → e'.base.ρ i = e.base.ρ i
  sm : ∀ j, 1000000 ≤ j → e'.base.ρ j = (subJ m.g j).1 + linD e.base.ρ (subJ m.g j).2
theorem xsu_ok (hX : XLe m e e') {v : V} {x : Value} (h : VR e v x) {j hi : Nat} (hk : leV m (.xsu j hi) v = true) : VR e' (.xsu j hi) x := by
  have hk : xLe m.d j hi v = true := by
    have e1 : leV m (.xsu j hi) v = xLe m.d j hi v := by cases v <;> rfl
    rw [← e1]; exact hk
  unfold xLe at hk
  cases hj : Nat.beq j 3 with
  | true =>
    rw [hj] at hk
    have := Nat.eq_of_beq_eq_true hj
    subst this
    exact hX.d hi v x h hk
  | false =>
    rw [hj] at hk
    simp only [cond_false] at hk
    split at hk
    · rename_i j' hi'
      simp at hk
      obtain ⟨h1, h2⟩ := hk
      subst h1
      cases h with
      | xsu g1 g2 g3 => exact .xsu ((hX.x _ (Nat.ne_of_beq_eq_false hj)).trans g1) (by omega) g3
    · cases hk
theorem lowX_den {ρ ρ' : Nat → Int} (h : ∀ i, i < 3000 → ρ' i = ρ i) : ∀ {a : SX}, lowX a = true → a.den ρ' = a.den ρ
  | .sym i, hk => h i (Nat.le_of_ble_eq_true hk)
  | .lit n, _ => rfl
  | .bin op k a b, hk => by
    have hk' : (bif lowX a then lowX b else false) = true := hk
    cases ha : lowX a with
    | false => rw [ha] at hk'; cases hk'
    | true => rw [ha] at hk'; simp only [SX.den]; rw [lowX_den h ha, lowX_den h (a := b) hk']
  | .shl k a n, hk => by simp only [SX.den]; rw [lowX_den h (a := a) hk]
  | .shr a n, hk => by simp only [SX.den]; rw [lowX_den h (a := a) hk]
  | .cnv k a, hk => by simp only [SX.den]; rw [lowX_den h (a := a) hk]
  | .lin c l, hk => by cases hk
theorem lows_den {ρ ρ' : Nat → Int} (h : ∀ i, i < 3000 → ρ' i = ρ i) : ∀ {l : List SX}, lows l = true → l.map (SX.den ρ') = l.map (SX.den ρ)
  | [], _ => rfl
  | a :: l, hk => by
    have hk' : (bif lowX a then lows l else false) = true := hk
    cases ha : lowX a with
    | false => rw [ha] at hk'; cases hk'
    | true => rw [ha] at hk'; simp only [List.map_cons]; rw [lowX_den h ha, lows_den h (l := l) hk']
theorem subL_den {ρ ρ' : Nat → Int} {σ : Sig} (h : ∀ j, 1000000 ≤ j → ρ' j = (subJ σ j).1 + linD ρ (subJ σ j).2) : ∀ {l : List Nat}, smallL l = true → linD ρ' l = (subL σ l).1 + linD ρ (subL σ l).2
  | [], _ => rfl
  | j :: l, hk => by
    have hk' : (bif Nat.ble 1000000 j then smallL l else false) = true := hk
    cases hj : Nat.ble 1000000 j with
    | false => rw [hj] at hk'; cases hk'
    | true =>
      rw [hj] at hk'
      show ρ' j + linD ρ' l = iadd (subJ σ j).1 (subL σ l).1 + linD ρ (mrgL (subJ σ j).2 (subL σ l).2)
      rw [subL_den h (l := l) hk', h j (Nat.le_of_ble_eq_true hj), iadd_eq, mrgL_den]; omega
theorem linEq_ok (hX : XLe m e e') {c : Int} {l : List Nat} (hl : smallL l = true) {b : SX} (h : linEq m.g c l (linP b) = true) : SX.den e'.base.ρ (.lin c l) = b.den e.base.ρ := by
  unfold linEq at h
  split at h
  · rename_i c' l' hq
    simp only [Bool.and_eq_true, ieq_eq, beq_iff_eq, iadd_eq] at h
    rw [linP_den hq]
    show c + linD e'.base.ρ l = _
    rw [subL_den hX.sm hl, leqL_eq h.2, ← h.1]; omega
  · cases h
theorem leSx_ok (hX : XLe m e e') {v : V} {x : Value} (h : VR e v x) {k : IntKind} {a : SX} (hk : leV m (.sx k a) v = true) : VR e' (.sx k a) x := by
  have hk : leSx m.g k a v = true := by
    have e1 : leV m (.sx k a) v = leSx m.g k a v := by cases v <;> rfl
    rw [← e1]; exact hk
  unfold leSx at hk
  split at hk
  · rename_i c l
    unfold sLin at hk
    split at hk
    · rename_i k' b
      simp only [Bool.and_eq_true] at hk
      obtain ⟨h1, h2, h3⟩ := hk
      have := keq_eq h2
      subst this
      cases h with
      | sx g1 g2 => exact .sx (by rw [linEq_ok hX h1 h3]; exact g1) g2
    · rename_i k' n
      simp only [Bool.and_eq_true] at hk
      obtain ⟨h1, h2, h3, h4⟩ := hk
      have := keq_eq h2
      subst this
      cases h
      have hd := linEq_ok hX h1 (b := .lit n) h4
      refine .sx hd.symm ?_
      unfold fitsL at h3
      simp only [Bool.or_eq_true, Bool.and_eq_true, ile_eq, decide_eq_true_eq] at h3
      rcases h3 with ⟨q1, q2, q3⟩ | ⟨q1, q2⟩
      · exact wrap_small k n q1 q2
      · have := keq_eq q1
        subst this
        obtain ⟨p1, p2, p3⟩ := linIn_ok q2
        rw [IntKind.wrap_i64]; omega
    · cases hk
  · unfold sLow at hk
    split at hk
    · rename_i k' b
      simp only [Bool.and_eq_true] at hk
      obtain ⟨h1, h2, h3⟩ := hk
      have := keq_eq h1
      subst this
      have := sxeq_eq h2
      subst this
      cases h with
      | sx g1 g2 => exact .sx (by rw [lowX_den hX.low h3]; exact g1) g2
    · cases hk
mutual
theorem leV_ok (hE : ∀ b' b, rn m b' b = true → e'.f b' = e.f b) (hX : XLe m e e') : ∀ {v x}, VR e v x → ∀ v', leV m v' v = true → VR e' v' x
  | _, _, .int k n, v', hk => by
    cases v' <;> first | exact xsu_ok hX (.int k n) hk | exact leSx_ok hX (.int k n) hk | simp [leV] at hk
    · obtain ⟨h1, h2⟩ := hk
      have := keq_eq h1; subst this
      rw [ieq_eq] at h2; simp at h2; subst h2; exact .int _ _
    · obtain ⟨h1, h2, h3⟩ := hk
      have := keq_eq h1; subst this
      rw [ile_eq] at h2 h3; simp at h2 h3; exact .iv h2 h3
    · exact .opq rfl (by simp)
  | _, _, .bool b, v', hk => by
    cases v' <;> first | exact xsu_ok hX (.bool b) hk | exact leSx_ok hX (.bool b) hk | simp [leV] at hk
    rename_i c; cases c <;> cases b <;> simp at hk <;> exact .bool _
  | _, _, .str s, v', hk => by
    cases v' <;> first | exact xsu_ok hX (.str s) hk | exact leSx_ok hX (.str s) hk | simp [leV] at hk
    · have := ba_eq hk; subst this; exact .str _
    · exact .opq rfl (by simp)
  | _, _, .nilp, v', hk => by
    cases v' <;> first | exact xsu_ok hX .nilp hk | exact leSx_ok hX .nilp hk | simp [leV] at hk
    · exact .nilp
    · exact .opq rfl (by simp)
  | _, _, .ptr h, v', hk => by
    cases v' <;> first | exact xsu_ok hX (.ptr h) hk | exact leSx_ok hX (.ptr h) hk | simp [leV] at hk
    · obtain ⟨h1, h2⟩ := hk; subst h2; exact .ptr ((hE _ _ h1).trans h)
    · exact .opq rfl (by simp)
  | _, _, .nils, v', hk => by
    cases v' <;> first | exact xsu_ok hX .nils hk | exact leSx_ok hX .nils hk | simp [leV] at hk
    · exact .nils
    · exact .opq rfl (by simp)
    · subst hk; exact .usl (Nat.le_refl _) (Nat.zero_le _)
  | _, _, .nilm, v', hk => by
    cases v' <;> first | exact xsu_ok hX .nilm hk | exact leSx_ok hX .nilm hk | simp [leV] at hk
    exact .nilm
  | _, _, .map h, v', hk => by
    cases v' <;> first | exact xsu_ok hX (.map h) hk | exact leSx_ok hX (.map h) hk | simp [leV] at hk
    exact .map ((hE _ _ hk).trans h)
  | _, _, .nilf, v', hk => by
    cases v' <;> first | exact xsu_ok hX .nilf hk | exact leSx_ok hX .nilf hk | simp [leV] at hk
    exact .nilf
  | _, _, .nili, v', hk => by
    cases v' <;> first | exact xsu_ok hX .nili hk | exact leSx_ok hX .nili hk | simp [leV] at hk
    exact .nili
  | _, _, .ifc h, v', hk => by
    cases v' <;> first | exact xsu_ok hX (.ifc h) hk | exact leSx_ok hX (.ifc h) hk | simp [leV] at hk
    obtain ⟨h1, h2⟩ := hk; subst h1; exact .ifc (leV_ok hE hX h _ h2)
  | _, _, .bfn h, v', hk => by
    cases v' <;> first | exact xsu_ok hX (.bfn h) hk | exact leSx_ok hX (.bfn h) hk | simp [leV] at hk
    obtain ⟨h1, h2⟩ := hk; subst h1; exact .bfn (leV_ok hE hX h _ h2)
  | _, _, .fn h, v', hk => by
    cases v' <;> first | exact xsu_ok hX (.fn h) hk | exact leSx_ok hX (.fn h) hk | simp [leV] at hk
    obtain ⟨h1, h2⟩ := hk; subst h1; exact .fn (leVs_ok hE hX h _ h2)
  | _, _, .agg h, v', hk => by
    cases v' <;> first | exact xsu_ok hX (.agg h) hk | exact leSx_ok hX (.agg h) hk | simp [leV] at hk
    exact .agg (leVs_ok hE hX h _ hk)
  | _, _, .tup h, v', hk => by
    cases v' <;> first | exact xsu_ok hX (.tup h) hk | exact leSx_ok hX (.tup h) hk | simp [leV] at hk
    exact .tup (leVs_ok hE hX h _ hk)
  | _, _, .sl h hl, v', hk => by
    cases v' <;> first | exact xsu_ok hX (.sl h hl) hk | exact leSx_ok hX (.sl h hl) hk | simp [leV] at hk
    · obtain ⟨h1, h2, h3, h4⟩ := hk; subst h2 h3 h4; exact .sl ((hE _ _ h1).trans h) hl
    · exact .opq rfl (by simp)
    · exact .usl hk.1 hk.2
  | _, _, .sl0 h, v', hk => by
    cases v' <;> first | exact xsu_ok hX (.sl0 h) hk | exact leSx_ok hX (.sl0 h) hk | simp [leV] at hk
    · obtain ⟨h1, h2, h3, h4⟩ := hk; subst h2 h3 h4; exact .sl0 ((hE _ _ h1).trans h)
    · exact .opq rfl (by simp)
    · subst hk; exact .usl (Nat.le_refl _) (Nat.zero_le _)
  | _, _, .slu h hl hc, v', hk => by
    cases v' <;> first | exact xsu_ok hX (.slu h hl hc) hk | exact leSx_ok hX (.slu h hl hc) hk | simp [leV] at hk
    · obtain ⟨h1, h2, h3, h4⟩ := hk; subst h2 h3 h4; exact .slu ((hE _ _ h1).trans h) hl hc
    · exact .opq rfl (by simp)
    · exact .usl hk.1 hk.2
  | _, _, .slu0 h hx, v', hk => by
    cases v' <;> first | exact xsu_ok hX (.slu0 h hx) hk | exact leSx_ok hX (.slu0 h hx) hk | simp [leV] at hk
    · obtain ⟨h1, h2, h3, h4⟩ := hk; subst h2 h3 h4; exact .slu0 ((hE _ _ h1).trans h) hx
    · exact .opq rfl (by simp)
    · subst hk; exact .usl (Nat.le_refl _) (Nat.zero_le _)
  | _, _, .yld h, v', hk => by cases v' <;> first | exact xsu_ok hX (.yld h) hk | exact leSx_ok hX (.yld h) hk | simp [leV] at hk
  | _, _, .mfn h, v', hk => by cases v' <;> first | exact xsu_ok hX (.mfn h) hk | exact leSx_ok hX (.mfn h) hk | simp [leV] at hk
  | _, _, .iv h1 h2, v', hk => by
    cases v' <;> first | exact xsu_ok hX (.iv h1 h2) hk | exact leSx_ok hX (.iv h1 h2) hk | simp [leV] at hk
    · obtain ⟨g1, g2, g3⟩ := hk
      have := keq_eq g1; subst this
      rw [ile_eq] at g2 g3; simp at g2 g3; exact .iv (by omega) (by omega)
    · exact .opq rfl (by simp)
  | _, _, .opq h hb, v', hk => by
    cases v' <;> first | exact xsu_ok hX (.opq h hb) hk | exact leSx_ok hX (.opq h hb) hk | simp [leV] at hk
    exact .opq h hb
  | _, _, .usl h1 h2, v', hk => by
    cases v' <;> first | exact xsu_ok hX (.usl h1 h2) hk | exact leSx_ok hX (.usl h1 h2) hk | simp [leV] at hk
    exact .usl (by omega) (by omega)
  | _, _, .sx (k := k) (x := x) h hw, v', hk => by
    cases v' <;> first | exact xsu_ok hX (.sx h hw) hk | exact leSx_ok hX (.sx h hw) hk | simp [leV] at hk
    · rename_i k' lo hi
      unfold ivLin at hk
      split at hk
      · rename_i c l hq
        simp only [Bool.and_eq_true, ile_eq, decide_eq_true_eq] at hk
        obtain ⟨g1, g2, g3, g4⟩ := hk
        have := keq_eq g1; subst this
        obtain ⟨q1, q2⟩ := lin_rng (show Smalls e.base.ρ from e.base.sm) g2
        rw [linP_den hq] at h
        have g4 : c + ((bndL l : Nat) : Int) ≤ hi := g4
        exact .iv (by omega) (by omega)
      · cases hk
    · exact .opq rfl (by simp)
  | _, _, .ss h, v', hk => by
    cases v' <;> first | exact xsu_ok hX (.ss h) hk | exact leSx_ok hX (.ss h) hk | simp [leV] at hk
    · exact .opq rfl (by simp)
    · have := sxeqs_eq hk.1
      subst this
      exact .ss (by rw [lows_den hX.low hk.2]; exact h)
  | _, _, .xsl h hl hc, v', hk => by
    cases v' <;> first | exact xsu_ok hX (.xsl h hl hc) hk | exact leSx_ok hX (.xsl h hl hc) hk | simp [leV] at hk
    · exact .usl hk.1 hk.2
    · obtain ⟨h0, h1, h2, h3⟩ := hk; subst h1 h2 h3
      exact .xsl ((hX.x _ (Nat.ne_of_beq_eq_false h0)).trans h) hl hc
  | _, _, .xp h hl, v', hk => by
    cases v' <;> first | exact xsu_ok hX (.xp h hl) hk | exact leSx_ok hX (.xp h hl) hk | simp [leV] at hk
    obtain ⟨h0, h1, h2⟩ := hk; subst h1 h2
    exact .xp ((hX.x _ (Nat.ne_of_beq_eq_false h0)).trans h) hl
  | _, _, .xsu h hl ha, v', hk => by cases v' <;> first | exact xsu_ok hX (.xsu h hl ha) hk | exact leSx_ok hX (.xsu h hl ha) hk | simp [leV] at hk
theorem leVs_ok (hE : ∀ b' b, rn m b' b = true → e'.f b' = e.f b) (hX : XLe m e e') : ∀ {l xs}, VRs e l xs → ∀ l', leVs m l' l = true → VRs e' l' xs
  | _, _, .nil, l', hk => by cases l' <;> simp [leVs] at hk; exact .nil
  | _, _, .cons h t, l', hk => by
    cases l' <;> simp [leVs] at hk
    exact .cons (leV_ok hE hX h _ hk.1) (leVs_ok hE hX t _ hk.2)
end
end Go.Ev
namespace Go.Ev
open Go.RowKit
variable {D : List Deferred}
variable {P : Program} {pr : Prims} {ih : Rn} {e e' : Env} {t : T V} {h : H} {s : Nat} {w : World} {a : Act} {r : RO} {k : K} {o : Oper}
theorem u8s_ok : ∀ {l : List V} {xs : List Value}, VRs e l xs → u8s l = true → ∀ (i : Nat) (y : Value), xs[i]? = some y → ∃ n, y = .int .u8 n ∧ IntKind.wrap .u8 n = n
  | [], _, .nil, _, i, y, hy => by simp at hy
  | v :: l, x :: xs, .cons hv ht, hk, i, y, hy => by
    have hh : u8s l = true ∧ ∃ n, x = .int .u8 n ∧ IntKind.wrap .u8 n = n := by
      unfold u8s at hk
      split at hk
      · rename_i heq; cases heq
      · rename_i n l' heq
        injection heq with h1 h2; subst h1 h2
        simp at hk
        cases hv
        refine ⟨hk.2, _, rfl, ?_⟩
        have := hk.1
        show IntKind.wrap .u8 (n : Int) = (n : Int)
        rw [IntKind.wrap_u8]; omega
      · rename_i y' l' heq
        injection heq with h1 h2; subst h1 h2
        cases hv with
        | sx h1 hw => exact ⟨hk, _, rfl, hw⟩
      · cases hk
    cases i with
    | zero => simp at hy; subst hy; exact hh.2
    | succ i => exact u8s_ok ht hh.1 i y (by simpa using hy)
/-- What the small numbers are, called anew. -/
def SigAt (B : Base) (σ : Sig) : Prop := ∀ j, 1000000 ≤ j → 0 ≤ (subJ σ j).1 + linD B.ρ (subJ σ j).2 ∧ (subJ σ j).1 + linD B.ρ (subJ σ j).2 ≤ ((j % 1000 : Nat) : Int)
open Classical in
/-- What was there, one slice of bytes more, the small numbers called anew. -/
noncomputable def Base.plus (B : Base) (w : World) (σ : Sig) (hσ : SigAt B σ) (pn : Nat → Prop) (a : Option Addr) (l c : Nat) (g : Nat → Int)
    (hx : ∀ i, i < l → ∃ n o cs el fr, a = some ⟨n, o, none⟩ ∧ pn n ∧ ¬ B.prot n ∧ w.heap[n]? = some (.cells cs el fr) ∧ cs[o + i]? = some (.int .u8 (g i)) ∧ IntKind.wrap .u8 (g i) = g i) (hl : l ≤ 1000) : Base where
  ρ i := if 1000000 ≤ i then (subJ σ i).1 + linD B.ρ (subJ σ i).2 else if 3000 ≤ i ∧ i < 4000 then g (i - 3000) else B.ρ i
  prot k := B.prot k ∨ pn k
  w0 k := if B.prot k then B.w0 k else w.heap[k]?
  x j := if j = 3 then some (a, l, c) else B.x j
  hx := fun j ad m cc h i hi => by
    by_cases hj : j = 3
    · subst hj
      rw [if_pos rfl] at h
      injection h with h; injection h with h1 h2; injection h2 with h2 h3
      subst h1 h2 h3
      obtain ⟨n, o, cs, el, fr, g1, g2, g3, g4, g5, g6⟩ := hx i hi
      have hbig : ¬ 1000000 ≤ 1000 * 3 + i := by omega
      have hin : 3000 ≤ 1000 * 3 + i ∧ 1000 * 3 + i < 4000 := by omega
      have hsub : 1000 * 3 + i - 3000 = i := by omega
      refine ⟨n, o, cs, el, fr, g1, .inr g2, ?_, ?_, ?_⟩
      · rw [if_neg g3]; exact g4
      · rw [if_neg hbig, if_pos hin, hsub]; exact g5
      · rw [if_neg hbig, if_pos hin, hsub]; exact g6
    · rw [if_neg hj] at h
      obtain ⟨hm1, hm2⟩ := B.xm j _ _ _ h
      obtain ⟨n, o, cs, el, fr, g1, g2, g3, g4, g5⟩ := B.hx j _ _ _ h i hi
      have hbig : ¬ 1000000 ≤ 1000 * j + i := by omega
      have hne : ¬ (3000 ≤ 1000 * j + i ∧ 1000 * j + i < 4000) := by omega
      exact ⟨n, o, cs, el, fr, g1, .inl g2, by rw [if_pos g2]; exact g3, by rw [if_neg hbig, if_neg hne]; exact g4, by rw [if_neg hbig, if_neg hne]; exact g5⟩
  xm := fun j ad m cc h => by
    by_cases hj : j = 3
    · subst hj
      rw [if_pos rfl] at h
      injection h with h; injection h with h1 h2; injection h2 with h2 h3
      exact ⟨by omega, by omega⟩
    · rw [if_neg hj] at h
      exact B.xm j _ _ _ h
  sm := fun j hj => by rw [if_pos hj]; exact hσ j hj
section
variable {B : Base} {σ : Sig} {hσ : SigAt B σ} {pn : Nat → Prop} {ad : Option Addr} {l c : Nat} {g : Nat → Int} {hx : ∀ i, i < l → ∃ n o cs el fr, ad = some ⟨n, o, none⟩ ∧ pn n ∧ ¬ B.prot n ∧ w.heap[n]? = some (.cells cs el fr) ∧ cs[o + i]? = some (.int .u8 (g i)) ∧ IntKind.wrap .u8 (g i) = g i} {hl : l ≤ 1000}
theorem plus_x (j : Nat) : (B.plus w σ hσ pn ad l c g hx hl).x j = if j = 3 then some (ad, l, c) else B.x j := rfl
theorem plus_x3 : (B.plus w σ hσ pn ad l c g hx hl).x 3 = some (ad, l, c) := by rw [plus_x, if_pos rfl]
theorem plus_xo (j : Nat) (hj : j ≠ 3) : (B.plus w σ hσ pn ad l c g hx hl).x j = B.x j := by rw [plus_x, if_neg hj]
theorem plus_prot (n : Nat) : (B.plus w σ hσ pn ad l c g hx hl).prot n ↔ B.prot n ∨ pn n := Iff.rfl
theorem plus_in {n : Nat} (hp : B.prot n) : (B.plus w σ hσ pn ad l c g hx hl).w0 n = B.w0 n := by
  unfold Base.plus; dsimp only; rw [if_pos hp]
theorem plus_out {n : Nat} (hp : ¬ B.prot n) : (B.plus w σ hσ pn ad l c g hx hl).w0 n = w.heap[n]? := by
  unfold Base.plus; dsimp only; rw [if_neg hp]
theorem plus_low (i : Nat) (hi : i < 3000) : (B.plus w σ hσ pn ad l c g hx hl).ρ i = B.ρ i := by
  have h1 : ¬ 1000000 ≤ i := by omega
  have h2 : ¬ (3000 ≤ i ∧ i < 4000) := by omega
  unfold Base.plus; dsimp only; rw [if_neg h1, if_neg h2]
theorem plus_sm (j : Nat) (hj : 1000000 ≤ j) : (B.plus w σ hσ pn ad l c g hx hl).ρ j = (subJ σ j).1 + linD B.ρ (subJ σ j).2 := by
  unfold Base.plus; dsimp only; rw [if_pos hj]
end
theorem subJ_cons (p : Nat × Int × List Nat) (σ : Sig) (j : Nat) : subJ (p :: σ) j = bif Nat.beq p.1 j then p.2 else subJ σ j := rfl
theorem sigOk_at {B : Base} : ∀ {σ : Sig}, sigOk σ = true → SigAt B σ
  | [], _ => fun j hj => by
    show 0 ≤ (0 : Int) + (B.ρ j + 0) ∧ (0 : Int) + (B.ρ j + 0) ≤ _
    have := B.sm j hj; omega
  | p :: σ, h => fun j hj => by
    have h' : (bif Nat.ble 1000000 p.1 && (smallL p.2.2 && (ile 0 p.2.1 && ile (Int.add p.2.1 (.ofNat (bndL p.2.2))) (.ofNat (Nat.mod p.1 1000)))) then sigOk σ else false) = true := h
    cases hc : (Nat.ble 1000000 p.1 && (smallL p.2.2 && (ile 0 p.2.1 && ile (Int.add p.2.1 (.ofNat (bndL p.2.2))) (.ofNat (Nat.mod p.1 1000))))) with
    | false => rw [hc] at h'; cases h'
    | true =>
      rw [hc] at h'
      rw [subJ_cons]
      cases hq : Nat.beq p.1 j with
      | false => exact sigOk_at (σ := σ) h' j hj
      | true =>
        have := Nat.eq_of_beq_eq_true hq
        subst this
        simp only [Bool.and_eq_true, ile_eq, decide_eq_true_eq] at hc
        obtain ⟨_, h2, h3, h4⟩ := hc
        obtain ⟨q1, q2⟩ := lin_rng (show Smalls B.ρ from B.sm) h2
        have h4 : p.2.1 + ((bndL p.2.2 : Nat) : Int) ≤ ((p.1 % 1000 : Nat) : Int) := h4
        simp only [cond_true]
        omega
attribute [local irreducible] Base.plus
theorem fold_live : ∀ (l : List (Nat × B)) (h : H) (b : Nat), live (l.foldl (fun h p => h.set p.1 p.2) h) b → live h b ∨ ∃ p, p ∈ l ∧ p.1 = b
  | [], h, b, hl => .inl hl
  | p :: l, h, b, hl => by
    rcases fold_live l (h.set p.1 p.2) b hl with h1 | ⟨q, h1, h2⟩
    · by_cases hb : b = p.1
      · exact .inr ⟨p, by simp, hb.symm⟩
      · refine .inl ?_
        unfold live at h1 ⊢
        cases hh : h.has p.1 with
        | true => rwa [T.get_set .gone h p.1 b p.2 hh, if_neg hb] at h1
        | false => rwa [T.set_off h p.1 p.2 hh] at h1
    · exact .inr ⟨q, by simp [h1], h2⟩
theorem E0_gone (b : Nat) : ¬ live E0 b := fun h => h (by unfold E0; exact T.get_mk _ _ _ _)
theorem hasAll_ok {t : T V} : ∀ {n : Nat}, hasAll t n = true → ∀ i, i < n → t.has i = true
  | 0, _, i, hi => by omega
  | n + 1, hk, i, hi => by
    simp only [hasAll, Bool.and_eq_true] at hk
    by_cases h0 : i = n
    · subst h0; exact hk.1
    · exact hasAll_ok hk.2 i (by omega)
theorem leEs_ok {m : Rm} (hE : ∀ b' b, rn m b' b = true → e'.f b' = e.f b) (hX : XLe m e e') : ∀ {l : List (V × V × Nat)} {es : List MapEntry}, ER e l es → ∀ l', leEs m l' l = true → ER e' l' es
  | _, _, .nil, l', hk => by cases l' <;> simp [leEs] at hk; exact .nil
  | _, _, .cons hk1 hv1 ht, l', hk => by
    cases l' with
    | nil => simp [leEs] at hk
    | cons p l' =>
      obtain ⟨k', v', n'⟩ := p
      simp [leEs] at hk
      obtain ⟨h1, h2, h3, h4⟩ := hk
      subst h3
      exact .cons (leV_ok hE hX hk1 _ h1) (leV_ok hE hX hv1 _ h2) (leEs_ok hE hX ht _ h4)
theorem leB_ok {m : Rm} (hE : ∀ b' b, rn m b' b = true → e'.f b' = e.f b) (hX : XLe m e e') {x : Loc} {b b' : B} {ob : Obj} (h : BR e x b ob) (hk : leB m b' b = true) : BR e' x b' ob := by
  cases h with
  | @cells n sh sz t m' c el fr hs hm hc hh hf =>
    cases b' <;> simp [leB] at hk
    rename_i t' n'
    obtain ⟨h1, h2, h3⟩ := hk
    subst h1
    obtain ⟨xs, g1, g2, g3⟩ := rd_ok (x := ⟨n, sh, sz⟩) (o := 0) (z := n') hc (by omega)
    have hv := leVs_ok hE hX g2 _ h3
    refine .cells hs hm (fun i hi => ?_) (hasAll_ok h2) hf
    have hlen : i < xs.length := by omega
    refine ⟨xs[i], ?_, ?_⟩
    · have := g3 i xs[i] (by simp [hlen])
      simpa using this
    · obtain ⟨y, q1, q2⟩ := hv.get un i (by rw [rdCells_len]; exact hi)
      have q3 := rdCells_get t' n' 0 i hi
      have : xs[i] = y := by
        have : xs[i]? = some xs[i] := by simp [hlen]
        rw [this] at q1; injection q1
      rw [this]
      rw [List.getD_eq_getElem?_getD, q3] at q2
      simpa using q2
  | map h =>
    cases b' <;> simp [leB] at hk
    obtain ⟨h1, h2⟩ := hk
    subst h1
    exact .map (leEs_ok hE hX h _ h2)
  | iter0 => cases b' <;> simp [leB] at hk
  | iter h => cases b' <;> simp [leB] at hk
  | loop h1 h2 h3 h4 h5 h6 h7 => cases b' <;> simp [leB] at hk
theorem leB_live {m : Rm} {b b' : B} (hk : leB m b' b = true) : b ≠ .gone := by
  intro hb; subst hb; cases b' <;> simp [leB] at hk
/-- The state below a general one, where the outside slices are known. -/
theorem gen_sim {q : Rm} {i : T Nat} {G : Gst} {S : Sta} (hk : chkP q i G S = true) (ha : AR D e S.t a) (hs : Sim e S.h w) (hX : XLe q e e') (hf' : ∀ b, e'.f b = if b < q.s then e.f (Nat.pred (q.m.get 0 b)) else none)
    (hP : ∀ n, e'.base.prot n → e.base.prot n ∨ ∃ d x, e.f d = some x ∧ x.n = n ∧ live S.h d ∧ i.get 0 d = 0) (hbig : ∀ n, e'.base.prot n → n < w.heap.size) (hold : ∀ n, e'.base.prot n → w.heap[n]? = e'.base.w0 n) :
    Sim e' G.h w ∧ AR D e' G.t a ∧ Free e' G.s := by
  unfold chkP at hk
  simp only [Bool.and_eq_true] at hk
  obtain ⟨k1, k2, k3, k4, k5, k6, k7, k8⟩ := hk
  have k1 := Nat.eq_of_beq_eq_true k1
  have k2 := Nat.le_of_ble_eq_true k2
  have k7 := Nat.eq_of_beq_eq_true k7
  have k4 : S.t.has S.n = false := by cases hh : S.t.has S.n <;> simp_all
  rw [len_eq] at k1
  have hE : ∀ b' b, rn q b' b = true → e'.f b' = e.f b := fun b' b hr => by
    unfold rn at hr
    simp only [Bool.and_eq_true] at hr
    have h1 := Nat.le_of_ble_eq_true hr.1
    have h2 := Nat.eq_of_beq_eq_true hr.2
    rw [hf', if_pos (show b' < q.s from h1), h2]; rfl
  have hsz : a.tmps.size = S.n := by
    have h1 := (ha.tr.has (Nat.pred S.n)).1 k3
    have h2 : ¬ S.n < a.tmps.size := fun hlt => by
      have := (ha.tr.has S.n).2 hlt
      rw [k4] at this; cases this
    have h3 : Nat.pred S.n = S.n - 1 := rfl
    omega
  have hB : ∀ b', live G.h b' → ∃ b, b' < q.s ∧ e'.f b' = e.f b ∧ i.get 0 b = Nat.succ b' ∧ leB q (G.h.get .gone b') (S.h.get .gone b) = true := fun b' hl => by
    rcases fold_live G.l E0 b' hl with h1 | ⟨p, h1, h2⟩
    · exact (E0_gone b' h1).elim
    · have h3 := List.all_eq_true.1 k8 p h1
      rw [h2] at h3
      unfold chkB at h3
      simp only [Bool.and_eq_true] at h3
      have h5 := h3.1
      unfold rn at h5
      simp only [Bool.and_eq_true] at h5
      exact ⟨_, Nat.le_of_ble_eq_true h5.1, hE _ _ h3.1, Nat.eq_of_beq_eq_true h3.2.1, h3.2.2⟩
  refine ⟨⟨fun b' hl => ?_, fun b1 b2 x1 x2 hl1 hl2 he1 he2 hn => ?_, hbig, hold, fun b' x hl hx hp => ?_⟩, ⟨⟨fun j => ?_, fun j => ?_⟩, ha.nodef⟩, fun b hb => ?_⟩
  · obtain ⟨b, h1, h2, h3, h4⟩ := hB b' hl
    obtain ⟨x, o', g1, g2, g3⟩ := hs.blk b (leB_live h4)
    exact ⟨x, o', by rw [h2]; exact g1, g2, leB_ok hE hX g3 h4⟩
  · obtain ⟨c1, h1, h2, h3, h4⟩ := hB b1 hl1
    obtain ⟨c2, g1, g2, g3, g4⟩ := hB b2 hl2
    rw [h2] at he1
    rw [g2] at he2
    have := hs.inj c1 c2 x1 x2 (leB_live h4) (leB_live g4) he1 he2 hn
    subst this
    rw [h3] at g3; injection g3
  · obtain ⟨b, h1, h2, h3, h4⟩ := hB b' hl
    rw [h2] at hx
    rcases hP _ hp with hq | ⟨d, x', q1, q2, q3, q4⟩
    · exact hs.above b x (leB_live h4) hx hq
    · have := hs.inj b d x x' (leB_live h4) q3 hx q1 q2.symm
      subst this
      rw [q4] at h3; cases h3
  · show (tree G.tl).has j = true ↔ _
    rw [tree_has, k1, hsz]
  · show VR e' ((tree G.tl).get un j) (a.tmps.getD j undef)
    have hvs : VRs e (rdCells S.t S.n 0) a.tmps.toList := VRs.ofFn (by rw [rdCells_len]; simp [hsz]) (fun j hj => by
      rw [rdCells_len] at hj
      have hj' : j < a.tmps.size := by omega
      refine ⟨S.t.get un j, a.tmps[j], by rw [rdCells_get S.t S.n 0 j hj]; simp, by simp [hj'], ?_⟩
      have := ha.tr.val j
      simpa [Array.getD, hj'] using this)
    have hvs' := leVs_ok hE hX hvs _ k5
    by_cases hj : j < S.n
    · obtain ⟨y, g1, g2⟩ := hvs'.get un j (by omega)
      rw [tree_get G.tl j (by omega)]
      have hj' : j < a.tmps.size := by omega
      have : a.tmps.getD j undef = y := by
        simp [hj'] at g1
        simpa [Array.getD, hj'] using g1
      rw [this]; exact g2
    · have h1 : (tree G.tl).has j = false := by
        cases hh : (tree G.tl).has j with
        | false => rfl
        | true => exact absurd ((tree_has G.tl j).1 hh) (by omega)
      rw [T.get_off un _ j h1]
      have : a.tmps.getD j undef = undef := by simp [Array.getD, show ¬ j < a.tmps.size by omega]
      rw [this]; exact undef_VR
  · rw [hf', if_neg (by omega)]
/-- A state that is below a general one may be taken for it. -/
theorem gen_okG {σ : Sig} {G : Gst} {S : Sta} (hk : chkG σ G S = true) (hσ : SigAt e.base σ) (ha : AR D e S.t a) (hs : Sim e S.h w) : ∃ e', Sim e' G.h w ∧ AR D e' G.t a ∧ Free e' G.s ∧ (∀ n, e.base.prot n → e'.base.prot n) ∧ ∀ j, 1000000 ≤ j → e'.base.ρ j = (subJ σ j).1 + linD e.base.ρ (subJ σ j).2 := by
  unfold chkG chkV at hk
  generalize reach G.h S.h 100000 (prs G.tl S.tm) N0 [] = vis at hk
  generalize hm : renOf vis = m at hk
  generalize hi : invOf vis = i at hk
  generalize hd : dtOf G.h S.h vis = dt at hk
  have hkk := hk
  unfold chkP at hk
  simp only [Bool.and_eq_true] at hk
  have k6 := hk.2.2.2.2.2.1
  clear hk
  cases dt with
  | none =>
    refine ⟨⟨fun b => if b < G.s then e.f (Nat.pred (m.get 0 b)) else none, e.base.plus w σ hσ (fun _ => False) none 0 0 (fun _ => 0) (fun i hi => by omega) (by omega)⟩, ?_⟩
    have hX : XLe ⟨m, G.s, none, σ⟩ e ⟨fun b => if b < G.s then e.f (Nat.pred (m.get 0 b)) else none, e.base.plus w σ hσ (fun _ => False) none 0 0 (fun _ => 0) (fun i hi => by omega) (by omega)⟩ := by
      refine ⟨fun hi v x hv hx => ?_, plus_xo, plus_low, plus_sm⟩
      have key : ∀ a' c', VR (⟨fun b => if b < G.s then e.f (Nat.pred (m.get 0 b)) else none, e.base.plus w σ hσ (fun _ => False) none 0 0 (fun _ => 0) (fun i hi => by omega) (by omega)⟩ : Env) (.xsu 3 hi) (.slice a' 0 c') := fun a' c' => .xsu (a := none) (c := 0) plus_x3 (Nat.zero_le _) (fun h => absurd h (by omega))
      dsimp only at hx
      unfold xOk at hx
      dsimp only at hx
      split at hx
      · have := Nat.eq_of_beq_eq_true hx
        subst this
        cases hv <;> exact key _ _
      · have := Nat.eq_of_beq_eq_true hx
        subst this
        cases hv <;> exact key _ _
      · cases hv; exact key _ _
      · have := Nat.eq_of_beq_eq_true hx
        subst this
        cases hv; exact key _ _
      · cases hx
    obtain ⟨g1, g2, g3⟩ := gen_sim (e' := ⟨fun b => if b < G.s then e.f (Nat.pred (m.get 0 b)) else none, e.base.plus w σ hσ (fun _ => False) none 0 0 (fun _ => 0) (fun i hi => by omega) (by omega)⟩) hkk ha hs hX (fun b => rfl)
      (fun n hn => ((plus_prot n).1 hn).elim .inl False.elim) (fun n hn => ((plus_prot n).1 hn).elim (hs.big n) False.elim) (fun n hn => by
        have hp : e.base.prot n := ((plus_prot n).1 hn).elim id False.elim
        exact (hs.old n hp).trans (plus_in hp).symm)
    exact ⟨g1, g2, g3, fun n hn => (plus_prot n).2 (.inl hn), plus_sm⟩
  | some d =>
    dsimp only [dtOk] at k6
    split at k6
    · rename_i t n hcells
      simp only [Bool.and_eq_true] at k6
      obtain ⟨q1, q2, q3, q4, q5⟩ := k6
      have q1 : d.o + d.l ≤ n := Nat.le_of_ble_eq_true q1
      have q3 := Nat.le_of_ble_eq_true q3
      have q4 := Nat.le_of_ble_eq_true q4
      have q5 := Nat.eq_of_beq_eq_true q5
      have hlive : live S.h d.b := live_of_cells hcells (by simp)
      obtain ⟨x, ob, g1, g2, g3⟩ := hs.blk d.b hlive
      obtain ⟨_, cs, el, fr, hw, p1, p2, p3, p4, p5⟩ := cells_at hs hcells g1
      obtain ⟨xs, r1, r2, r3⟩ := rd_ok p3 q1
      have hu := u8s_ok r2 q2
      have hx : ∀ i, i < d.l → ∃ n o cs el fr, (some ⟨x.n, x.sh + d.o, none⟩ : Option Addr) = some ⟨n, o, none⟩ ∧ x.n = n ∧ ¬ e.base.prot n ∧ w.heap[n]? = some (.cells cs el fr) ∧ cs[o + i]? = some (.int .u8 (intOf (xs.getD i undef))) ∧ IntKind.wrap .u8 (intOf (xs.getD i undef)) = intOf (xs.getD i undef) := fun i hi => by
        have hxi : xs[i]? = some xs[i] := by simp [r1, hi]
        obtain ⟨v, u1, u2⟩ := hu i _ hxi
        have hg : intOf (xs.getD i undef) = v := by
          rw [List.getD_eq_getElem?_getD, hxi]; simp [u1, intOf]
        refine ⟨x.n, x.sh + d.o, cs, el, fr, rfl, rfl, hs.above d.b x hlive g1, hw, ?_, ?_⟩
        · rw [r3 i _ hxi, u1, hg]
        · rw [hg]; exact u2
      refine ⟨⟨fun b => if b < G.s then e.f (Nat.pred (m.get 0 b)) else none, e.base.plus w σ hσ (fun n => x.n = n) (some ⟨x.n, x.sh + d.o, none⟩) d.l 0 (fun i => intOf (xs.getD i undef)) hx q4⟩, ?_⟩
      have hX : XLe ⟨m, G.s, some d, σ⟩ e ⟨fun b => if b < G.s then e.f (Nat.pred (m.get 0 b)) else none, e.base.plus w σ hσ (fun n => x.n = n) (some ⟨x.n, x.sh + d.o, none⟩) d.l 0 (fun i => intOf (xs.getD i undef)) hx q4⟩ := by
        refine ⟨fun hi v y hv hy => ?_, plus_xo, plus_low, plus_sm⟩
        have key : ∀ c', d.l ≤ hi → VR (⟨fun b => if b < G.s then e.f (Nat.pred (m.get 0 b)) else none, e.base.plus w σ hσ (fun n => x.n = n) (some ⟨x.n, x.sh + d.o, none⟩) d.l 0 (fun i => intOf (xs.getD i undef)) hx q4⟩ : Env) (.xsu 3 hi) (.slice (some ⟨x.n, x.sh + d.o, none⟩) d.l c') := fun c' hh =>
          .xsu (a := some ⟨x.n, x.sh + d.o, none⟩) (c := 0) plus_x3 hh (fun _ => rfl)
        unfold xOk at hy
        split at hy
        · rename_i b o l c
          simp only [Bool.and_eq_true] at hy
          obtain ⟨y1, y2, y3, y4, y5⟩ := hy
          have y1 := Nat.eq_of_beq_eq_true y1
          have y2 := Nat.eq_of_beq_eq_true y2
          have y3 := Nat.eq_of_beq_eq_true y3
          have y4 := Nat.le_of_ble_eq_true y4
          have y5 := Nat.le_of_ble_eq_true y5
          subst y1 y2
          cases hv with
          | sl hb hl => rw [g1] at hb; injection hb with hb; subst hb; rw [← y3]; exact key _ (by omega)
          | sl0 hb => omega
        · rename_i b o l z
          simp only [Bool.and_eq_true] at hy
          obtain ⟨y1, y2, y3, y4, y5⟩ := hy
          have y1 := Nat.eq_of_beq_eq_true y1
          have y2 := Nat.eq_of_beq_eq_true y2
          have y3 := Nat.eq_of_beq_eq_true y3
          have y4 := Nat.le_of_ble_eq_true y4
          have y5 := Nat.le_of_ble_eq_true y5
          subst y1 y2
          cases hv with
          | slu hb hl hc => rw [g1] at hb; injection hb with hb; subst hb; rw [← y3]; exact key _ (by omega)
          | slu0 hb => omega
        · cases hy
        · cases hy
        · cases hy
      obtain ⟨g1', g2', g3'⟩ := gen_sim (e' := ⟨fun b => if b < G.s then e.f (Nat.pred (m.get 0 b)) else none, e.base.plus w σ hσ (fun n => x.n = n) (some ⟨x.n, x.sh + d.o, none⟩) d.l 0 (fun i => intOf (xs.getD i undef)) hx q4⟩) hkk ha hs hX (fun b => rfl)
        (fun n hn => ((plus_prot n).1 hn).elim .inl (fun h0 => .inr ⟨d.b, x, g1, h0, hlive, q5⟩))
        (fun n hn => ((plus_prot n).1 hn).elim (hs.big n) (fun h0 => h0 ▸ (Array.getElem?_eq_some_iff.1 g2).1))
        (fun n hn => by
          by_cases hp : e.base.prot n
          · exact (hs.old n hp).trans (plus_in hp).symm
          · exact (plus_out hp).symm)
      exact ⟨g1', g2', g3', fun n hn => (plus_prot n).2 (.inl hn), plus_sm⟩
    · cases k6
theorem gen_ok {G : Gst} {S : Sta} (hk : chkS G S = true) (ha : AR D e S.t a) (hs : Sim e S.h w) : ∃ e', Sim e' G.h w ∧ AR D e' G.t a ∧ Free e' G.s ∧ ∀ n, e.base.prot n → e'.base.prot n :=
  let ⟨e', h1, h2, h3, h4, _⟩ := gen_okG (σ := []) hk (sigOk_at rfl) ha hs
  ⟨e', h1, h2, h3, h4⟩
end Go.Ev
namespace Go.Ev
open Go.RowKit
variable {D : List Deferred}
variable {P : Program} {pr pr' : Prims} {ih : Rn} {e e' : Env} {t : T V} {h : H} {s : Nat} {w : World} {a : Act} {r : RO} {k : K} {o : Oper}
/-- All ways end below the general state, or return true. -/
noncomputable def okC (P : Program) (rs : List ResultVar) (n : Nat) (G : Gst) (r : RO) : Bool :=
  RO.rec (motive := fun _ => Bool) (fun t h s => chkS G ⟨t, h, s, n⟩) (fun _ _ _ _ => false) (fun t h s => okB (fin P rs t h s kid)) (fun _ => false) (fun _ _ a b => bif a then b else false) r
theorem okC_good {rs : List ResultVar} {n : Nat} {G : Gst} : ∀ {r : RO}, okC P rs n G r = true → r.good
  | .norm .., _ => trivial
  | .exit .., h => by cases h
  | .ret .., _ => trivial
  | .err _, h => by cases h
  | .or a b, h => by
    change (bif okC P rs n G a then okC P rs n G b else false) = true at h
    cases ha : okC P rs n G a with
    | false => rw [ha] at h; cases h
    | true => rw [ha] at h; exact ⟨okC_good ha, okC_good h⟩
theorem okC_sub {rs : List ResultVar} {n : Nat} {G : Gst} {x r : RO} (h : Sub x r) (hr : okC P rs n G r = true) : okC P rs n G x = true := by
  induction h with
  | refl => exact hr
  | @left a b _ ih =>
    change (bif okC P rs n G a then okC P rs n G b else false) = true at hr
    cases ha : okC P rs n G a with
    | false => rw [ha] at hr; cases hr
    | true => exact ih ha
  | @right a b _ ih =>
    change (bif okC P rs n G a then okC P rs n G b else false) = true at hr
    cases ha : okC P rs n G a with
    | false => rw [ha] at hr; cases hr
    | true => rw [ha] at hr; exact ih hr
theorem end_ok {fn : Func} {rs : List ResultVar} (g4 : fn.results.toList = rs) (hk : okB (fin P rs t h s kid) = true) (ha : AR [] e t a) (hs : Sim e h w) : a.defers = [] ∧ ∃ v, (results fn a.tmps).run P w = .ok v w ∧ v = .bool true := by
  have hgood := okB_good hk
  change (resV P t h rs (fun vs => kid (tupV vs) h s)).good at hgood
  change okB (resV P t h rs (fun vs => kid (tupV vs) h s)) = true at hk
  obtain ⟨vs, k1, k2⟩ := resV_val hgood
  rw [k1] at hk
  obtain ⟨ys, m1, m2⟩ := k2 e w a.tmps ha.tr hs
  have hv := tup_VR m1
  rw [okB_kid hk] at hv
  refine ⟨ha.nodef, _, run_results (by rw [g4]; exact m2), ?_⟩
  generalize tupX ys = z at hv
  cases hv; rfl
/-- What is left of a body, from a general state. -/
noncomputable def restR (P : Program) (ih : Rn) (rs : List ResultVar) (c : Code) (G : Gst) : RO := (ih c G.t G.h G.s).bnd (fun t h s => fin P rs t h s kid) (fun _ _ _ _ => .err 122) (fun t h s => fin P rs t h s kid)
theorem calls_cut (hm : P.follows .mixedOrders = true) (hpr : SoundPr P pr) (hpr' : SoundPr P pr') (m m' j f : Nat) {c : Code} {n : Nat} {rs : List ResultVar} (hfn : fnOf P f = .fn c n rs) (args : List V) (hn : Nat.ble (len args) n = true) (G : Gst)
    (hA : okC P rs n G (cutR (runF P pr m) j c (T.puts args 0 (T.mk un (Nat.succ (Nat.log2 (Nat.succ n))) n)) bare 0) = true)
    (hB : okB (restR P (runF P pr' m') rs (dropC j c) G) = true)
    (w : World) (xs : List Value) (B : Base) (hB0 : BaseAt B w) (hp : ∀ n, n < w.heap.size → B.prot n) (hx : VRs (env0 B) args xs) :
    Calls P f ⟨xs⟩ w (fun en w' => en = .returned (.bool true) ∧ Below w.heap.size w w') := by
  obtain ⟨fn, g1, g2, g3, g4, g5⟩ := fnOf_ok hfn
  have hn : args.length ≤ n := by rw [← len_eq]; exact Nat.le_of_ble_eq_true hn
  refine calls_of_wp g1 g2 ?_
  rw [g3]
  refine cut_ok (D := []) (runF_sound hm hpr m) j c _ bare 0 (okC_good hA) (env0 B) _ w (enter_AR hx hn) (bare_sim hB0) (fun _ _ => rfl) ?_ ?_ ?_
  · intro t1 h1 s1 e1 a1 w1 hsub ha hp1
    have hk := okC_sub hsub hA
    change chkS G ⟨t1, h1, s1, n⟩ = true at hk
    obtain ⟨e2, q1, q2, q3, q4⟩ := gen_ok (S := ⟨t1, h1, s1, n⟩) hk ha hp1.sim
    have hgood := okB_good hB
    refine wp_mono ((runF_sound hm hpr' m').wp (dropC j c) G.t G.h G.s (RO.good_bnd hgood) [] e2 a1 w1 q2 q1 q3) (fun x a' w' hq => ?_)
    obtain ⟨t', h', s', hx', e', ha', hp'⟩ := bnd_end hgood hq
    have hk2 : okB (fin P rs t' h' s' kid) = true := by
      rcases hx' with ⟨_, hsub⟩ | ⟨_, hsub⟩ <;> exact okB_sub hsub hB
    obtain ⟨d1, v, d2, d3⟩ := end_ok g4 hk2 ha' hp'.sim
    have hbelow : Below w.heap.size w w' := by
      refine ⟨hp'.os.trans hp1.os, hp'.tape.trans hp1.tape, hp'.output.trans hp1.output, Nat.le_trans hp1.size hp'.size, fun k hk => ?_⟩
      have hpk : e2.base.prot k := q4 k (by rw [hp1.le.base]; exact hp k hk)
      rw [hp'.keep k (Nat.lt_of_lt_of_le hk hp1.size) (fun b x hb hx hxn => q1.above b x hb hx (hxn ▸ hpk))]
      exact hp1.keep k hk (fun b x hb => absurd hb (bare_gone b))
    rcases hx' with ⟨rfl, _⟩ | ⟨rfl, _⟩ <;> exact ⟨d1, v, d2, by rw [d3], hbelow⟩
  · intro t1 h1 s1 e1 a1 w1 hsub ha hp1
    have hk := okC_sub hsub hA
    obtain ⟨d1, v, d2, d3⟩ := end_ok (t := t1) (h := h1) (s := s1) g4 hk ha hp1.sim
    exact ⟨d1, v, d2, by rw [d3], hp1.os, hp1.tape, hp1.output, hp1.size, fun k hk => hp1.keep k hk (fun b x hb => absurd hb (bare_gone b))⟩
  · intro i t1 h1 s1 e1 a1 w1 hsub ha hp1
    have hk := okC_sub hsub hA
    cases hk
end Go.Ev
namespace Go.Ev
open Go.RowKit
variable {P : Program} {pr : Prims} {ih : Rn} {e e' : Env} {t : T V} {h : H} {s : Nat} {w w0 : World} {a : Act} {r : RO}
/-- What is described lies there, and what was there before lies as it did. -/
structure InE (w0 : World) (e : Env) (t : T V) (h : H) (s : Nat) (a : Act) (w : World) : Prop where
  sim : Sim e h w
  ar : AR [] e t a
  free : Free e s
  prot : ∀ n, n < w0.heap.size → e.base.prot n
  below : Below w0.heap.size w0 w
/-- A state that a run has reached. -/
def InS (w0 : World) (t : T V) (h : H) (s : Nat) (a : Act) (w : World) : Prop := ∃ e, InE w0 e t h s a w
theorem InE.post (hI : InE w0 e t h s a w) {t' : T V} {h' : H} {s' : Nat} {a' : Act} {w' : World} (ha : AR [] e' t' a') (hp : Post e s h w e' s' h' w') : InE w0 e' t' h' s' a' w' where
  sim := hp.sim
  ar := ha
  free := hp.free
  prot := fun n hn => by rw [hp.le.base]; exact hI.prot n hn
  below := by
    refine ⟨hp.os.trans hI.below.os, hp.tape.trans hI.below.tape, hp.output.trans hI.below.output, Nat.le_trans hI.below.size hp.size, fun k hk => ?_⟩
    rw [hp.keep k (Nat.lt_of_lt_of_le hk hI.below.size) (fun b x hb hx hxn => hI.sim.above b x hb hx (hxn ▸ hI.prot k hk))]
    exact hI.below.block k hk
/-- A leaf of a run. -/
def Leaf (w0 : World) (e : Env) : RO → Exit → Act → World → Prop
  | .norm t h s, x, a, w => x = .normal ∧ ∃ e', e'.base = e.base ∧ InE w0 e' t h s a w
  | .exit i t h s, x, a, w => x = .exit i ∧ ∃ e', e'.base = e.base ∧ InE w0 e' t h s a w
  | .ret t h s, x, a, w => x = .ret ∧ ∃ e', e'.base = e.base ∧ InE w0 e' t h s a w
  | _, _, _, _ => False
theorem InE.run (hih : SoundRn P ih) {c : Code} (hr : (ih c t h s).good) (hI : InE w0 e t h s a w) : c.wp P (fun x a' w' => ∃ l, Sub l (ih c t h s) ∧ Leaf w0 e l x a' w') a w := by
  refine wp_mono (hih.wp c t h s hr [] e a w hI.ar hI.sim hI.free) (fun x a' w' hq => ?_)
  obtain ⟨l, g1, g2, g3⟩ := hq.leaf
  refine ⟨l, g1, ?_⟩
  cases l with
  | norm t' h' s' => obtain ⟨rfl, e', ha', hp⟩ := g3; exact ⟨rfl, e', hp.le.base, hI.post ha' hp⟩
  | exit i t' h' s' => obtain ⟨rfl, e', ha', hp⟩ := g3; exact ⟨rfl, e', hp.le.base, hI.post ha' hp⟩
  | ret t' h' s' => obtain ⟨rfl, e', ha', hp⟩ := g3; exact ⟨rfl, e', hp.le.base, hI.post ha' hp⟩
  | err n => exact g3.elim
  | or _ _ => exact g2.elim
theorem InE.gen {σ : Sig} {G : Gst} {n : Nat} (hk : chkG σ G ⟨t, h, s, n⟩ = true) (hσ : SigAt e.base σ) (hI : InE w0 e t h s a w) : ∃ e', InE w0 e' G.t G.h G.s a w ∧ ∀ j, 1000000 ≤ j → e'.base.ρ j = (subJ σ j).1 + linD e.base.ρ (subJ σ j).2 := by
  obtain ⟨e', q1, q2, q3, q4, q5⟩ := gen_okG (S := ⟨t, h, s, n⟩) hk hσ hI.ar hI.sim
  exact ⟨e', ⟨q1, q2, q3, fun n hn => q4 n (hI.prot n hn), hI.below⟩, q5⟩
theorem InS.gen {σ : Sig} {G : Gst} {n : Nat} (hk : chkG σ G ⟨t, h, s, n⟩ = true) (hσ : sigOk σ = true) (hI : InS w0 t h s a w) : InS w0 G.t G.h G.s a w := by
  obtain ⟨e, he⟩ := hI; obtain ⟨e', h1, _⟩ := he.gen hk (sigOk_at hσ); exact ⟨e', h1⟩
theorem InS.cut (hih : SoundRn P ih) {Q : Exit → Act → World → Prop} {n : Nat} {c : Code} (hr : (cutR ih n c t h s).good) (hI : InS w0 t h s a w)
    (hN : ∀ t' h' s' a' w', Sub (.norm t' h' s') (cutR ih n c t h s) → InS w0 t' h' s' a' w' → (dropC n c).wp P Q a' w')
    (hR : ∀ t' h' s' a' w', Sub (.ret t' h' s') (cutR ih n c t h s) → InS w0 t' h' s' a' w' → Q .ret a' w')
    (hE : ∀ i t' h' s' a' w', Sub (.exit i t' h' s') (cutR ih n c t h s) → InS w0 t' h' s' a' w' → Q (.exit i) a' w') : c.wp P Q a w := by
  obtain ⟨e, hI⟩ := hI
  exact cut_ok hih n c t h s hr e a w hI.ar hI.sim hI.free (fun t' h' s' e' a' w' q1 q2 q3 => hN _ _ _ _ _ q1 ⟨e', hI.post q2 q3⟩) (fun t' h' s' e' a' w' q1 q2 q3 => hR _ _ _ _ _ q1 ⟨e', hI.post q2 q3⟩) (fun i t' h' s' e' a' w' q1 q2 q3 => hE _ _ _ _ _ _ q1 ⟨e', hI.post q2 q3⟩)
theorem InS.run (hih : SoundRn P ih) {Q : Exit → Act → World → Prop} {c : Code} (hr : (ih c t h s).good) (hI : InS w0 t h s a w)
    (hN : ∀ t' h' s' a' w', Sub (.norm t' h' s') (ih c t h s) → InS w0 t' h' s' a' w' → Q .normal a' w')
    (hR : ∀ t' h' s' a' w', Sub (.ret t' h' s') (ih c t h s) → InS w0 t' h' s' a' w' → Q .ret a' w')
    (hE : ∀ i t' h' s' a' w', Sub (.exit i t' h' s') (ih c t h s) → InS w0 t' h' s' a' w' → Q (.exit i) a' w') : c.wp P Q a w := by
  obtain ⟨e, hI⟩ := hI
  refine wp_mono (hI.run hih hr) (fun x a' w' ⟨l, g1, g2⟩ => ?_)
  cases l with
  | norm t' h' s' => obtain ⟨rfl, e', _, hq⟩ := g2; exact hN _ _ _ _ _ g1 ⟨e', hq⟩
  | exit i t' h' s' => obtain ⟨rfl, e', _, hq⟩ := g2; exact hE _ _ _ _ _ _ g1 ⟨e', hq⟩
  | ret t' h' s' => obtain ⟨rfl, e', _, hq⟩ := g2; exact hR _ _ _ _ _ g1 ⟨e', hq⟩
  | err n => exact g2.elim
  | or _ _ => exact g2.elim
theorem rounds_more {c : Code} {Q : Exit → Act → World → Prop} : ∀ {n : Nat} {a : Act} {w : World}, Code.rounds P c Q n a w → Code.rounds P c Q (n + 1) a w
  | 0, _, _, h => h.elim
  | n + 1, a, w, h => by
    rw [rounds_succ] at h ⊢
    exact wp_mono h (fun e a w q => by cases e <;> first | exact rounds_more q | exact q)
theorem rounds_le {c : Code} {Q : Exit → Act → World → Prop} {n m : Nat} (hm : n ≤ m) {a : Act} {w : World} (h : Code.rounds P c Q n a w) : Code.rounds P c Q m a w := by
  induction hm with
  | refl => exact h
  | step _ ih => exact rounds_more ih
/-- So many rounds of a loop. -/
noncomputable def roundsR (ih : Rn) (c : Code) : Nat → T V → H → Nat → RO
  | 0, t, h, s => .norm t h s
  | n + 1, t, h, s => (ih c t h s).bnd (fun t h s => roundsR ih c n t h s) .exit .ret
theorem InS.rounds (hih : SoundRn P ih) {Q : Exit → Act → World → Prop} {c : Code} {m : Nat} : ∀ (n : Nat) {t : T V} {h : H} {s : Nat} {a : Act} {w : World}, (roundsR ih c n t h s).good → InS w0 t h s a w →
    (∀ t' h' s' a' w', Sub (.norm t' h' s') (roundsR ih c n t h s) → InS w0 t' h' s' a' w' → Code.rounds P c Q m a' w') →
    (∀ t' h' s' a' w', Sub (.ret t' h' s') (roundsR ih c n t h s) → InS w0 t' h' s' a' w' → Q .ret a' w') →
    (∀ i t' h' s' a' w', Sub (.exit i t' h' s') (roundsR ih c n t h s) → InS w0 t' h' s' a' w' → Q (.exit i) a' w') → Code.rounds P c Q (n + m) a w
  | 0, t, h, s, a, w, hr, hI, hN, _, _ => by rw [Nat.zero_add]; exact hN t h s a w (.refl _) hI
  | n + 1, t, h, s, a, w, hr, hI, hN, hR, hE => by
    rw [show n + 1 + m = (n + m) + 1 by omega, rounds_succ]
    change ((ih c t h s).bnd (fun t h s => roundsR ih c n t h s) .exit .ret).good at hr
    refine InS.run hih (RO.good_bnd hr) hI (fun t' h' s' a' w' g1 g2 => ?_) (fun t' h' s' a' w' g1 g2 => ?_) (fun i t' h' s' a' w' g1 g2 => ?_)
    · have hsub := g1.bnd (fun t h s => roundsR ih c n t h s) .exit .ret
      exact InS.rounds hih n (hsub.good hr) g2 (fun t2 h2 s2 a2 w2 q1 q2 => hN _ _ _ _ _ (q1.trans hsub) q2) (fun t2 h2 s2 a2 w2 q1 q2 => hR _ _ _ _ _ (q1.trans hsub) q2) (fun i t2 h2 s2 a2 w2 q1 q2 => hE _ _ _ _ _ _ (q1.trans hsub) q2)
    · have hsub := g1.bnd (fun t h s => roundsR ih c n t h s) .exit .ret
      exact hR _ _ _ _ _ hsub g2
    · have hsub := g1.bnd (fun t h s => roundsR ih c n t h s) .exit .ret
      exact hE _ _ _ _ _ _ hsub g2
/-- All ways go on normally, each as is asked. -/
noncomputable def allN (f : T V → H → Nat → Bool) (r : RO) : Bool :=
  RO.rec (motive := fun _ => Bool) (fun t h s => f t h s) (fun _ _ _ _ => false) (fun _ _ _ => false) (fun _ => false) (fun _ _ a b => bif a then b else false) r
theorem allN_good {f : T V → H → Nat → Bool} : ∀ {r : RO}, allN f r = true → r.good
  | .norm .., _ => trivial
  | .exit .., h => by cases h
  | .ret .., h => by cases h
  | .err _, h => by cases h
  | .or a b, h => by
    change (bif allN f a then allN f b else false) = true at h
    cases ha : allN f a with
    | false => rw [ha] at h; cases h
    | true => rw [ha] at h; exact ⟨allN_good ha, allN_good h⟩
theorem allN_sub {f : T V → H → Nat → Bool} {x r : RO} (h : Sub x r) (hr : allN f r = true) : allN f x = true := by
  induction h with
  | refl => exact hr
  | @left a b _ ih =>
    change (bif allN f a then allN f b else false) = true at hr
    cases ha : allN f a with
    | false => rw [ha] at hr; cases hr
    | true => exact ih ha
  | @right a b _ ih =>
    change (bif allN f a then allN f b else false) = true at hr
    cases ha : allN f a with
    | false => rw [ha] at hr; cases hr
    | true => rw [ha] at hr; exact ih hr
/-- All ways leave the loop by its exit, each as is asked. -/
noncomputable def allX (id : Nat) (f : T V → H → Nat → Bool) (r : RO) : Bool :=
  RO.rec (motive := fun _ => Bool) (fun _ _ _ => false) (fun i t h s => bif Nat.beq i id then f t h s else false) (fun _ _ _ => false) (fun _ => false) (fun _ _ a b => bif a then b else false) r
theorem allX_good {id : Nat} {f : T V → H → Nat → Bool} : ∀ {r : RO}, allX id f r = true → r.good
  | .norm .., h => by cases h
  | .exit .., _ => trivial
  | .ret .., h => by cases h
  | .err _, h => by cases h
  | .or a b, h => by
    change (bif allX id f a then allX id f b else false) = true at h
    cases ha : allX id f a with
    | false => rw [ha] at h; cases h
    | true => rw [ha] at h; exact ⟨allX_good ha, allX_good h⟩
theorem allX_sub {id : Nat} {f : T V → H → Nat → Bool} {x r : RO} (h : Sub x r) (hr : allX id f r = true) : allX id f x = true := by
  induction h with
  | refl => exact hr
  | @left a b _ ih =>
    change (bif allX id f a then allX id f b else false) = true at hr
    cases ha : allX id f a with
    | false => rw [ha] at hr; cases hr
    | true => exact ih ha
  | @right a b _ ih =>
    change (bif allX id f a then allX id f b else false) = true at hr
    cases ha : allX id f a with
    | false => rw [ha] at hr; cases hr
    | true => rw [ha] at hr; exact ih hr
theorem allX_exit {id i : Nat} {t' : T V} {h' : H} {s' : Nat} {f : T V → H → Nat → Bool} (h : allX id f (.exit i t' h' s') = true) : i = id ∧ f t' h' s' = true := by
  change (bif Nat.beq i id then f t' h' s' else false) = true at h
  cases hi : Nat.beq i id with
  | false => rw [hi] at h; cases h
  | true => rw [hi] at h; exact ⟨Nat.eq_of_beq_eq_true hi, h⟩
/-- A round that goes through, the counter goes up by one: from the general state A (counter: the small number ja) to the general state B (counter: jb, which may be one more). -/
noncomputable def roundOk (ih : Rn) (c : Code) (A B : Gst) (n p ja : Nat) (σ : Sig) : Bool :=
  allN (fun t h s => (match t.get un p with | .sx .i64 x => sxeq x (.lin 1 [ja]) | _ => false) && chkG σ B ⟨t, h, s, n⟩) (ih c A.t A.h A.s)
noncomputable def isLin (v : V) (j : Nat) : Bool := match v with | .sx .i64 x => sxeq x (.lin 0 [j]) | _ => false
theorem isLin_val {v : V} {j : Nat} (hk : isLin v j = true) {x : Value} (h : VR e v x) : x = .int .i64 (e.base.ρ j) := by
  unfold isLin at hk
  split at hk
  · have := sxeq_eq hk
    subst this
    cases h with
    | sx g _ => rw [g]; show Value.int .i64 (0 + (e.base.ρ j + 0)) = _; rw [Int.zero_add, Int.add_zero]
  · cases hk
/-- A loop whose counter runs up to N: from a state below the general state B. -/
theorem self_loop (hih : SoundRn P ih) {Q : Exit → Act → World → Prop} {c : Code} {A B : Gst} {n p ja jb N id : Nat} {σ : Sig} {f : T V → H → Nat → Bool}
    (hja : 1000000 ≤ ja) (hjb : 1000000 ≤ jb) (hna : ja % 1000 + 1 = N) (hnb : jb % 1000 = N) (hiA : isLin (A.t.get un p) ja = true) (hiB : isLin (B.t.get un p) jb = true) (hpB : B.t.has p = true)
    (hAB : chkG [(ja, 0, [jb])] A ⟨B.t, B.h, B.s, n⟩ = true) (hσ : sigOk σ = true) (hround : roundOk ih c A B n p ja σ = true)
    (hend : allX id f (ih c (B.t.set p (.int .i64 (.ofNat N))) B.h B.s) = true)
    (hQ : ∀ t' h' s' a' w', f t' h' s' = true → InS w0 t' h' s' a' w' → Q (.exit id) a' w') :
    ∀ (m : Nat) (a : Act) (w : World) (e : Env), (N : Int) - e.base.ρ jb < m → InE w0 e B.t B.h B.s a w → Code.rounds P c Q (m + 1) a w
  | 0, a, w, e, hm, hI => by
    have := (e.base.sm jb hjb).2
    rw [hnb] at this
    omega
  | m + 1, a, w, e, hm, hI => by
    have hv := isLin_val hiB (hI.ar.tr.val p)
    obtain ⟨hlo, hhi⟩ := e.base.sm jb hjb
    rw [hnb] at hhi
    by_cases hv2 : e.base.ρ jb = N
    · rw [rounds_succ]
      have hI2 : InS w0 (B.t.set p (.int .i64 (.ofNat N))) B.h B.s a w := by
        refine ⟨e, hI.sim, ⟨?_, hI.ar.nodef⟩, hI.free, hI.prot, hI.below⟩
        have := hI.ar.tr.put (d := p) (v := .int .i64 (.ofNat N)) (x := .int .i64 (N : Int)) (.int _ _)
        have hset : a.tmps.setIfInBounds p (.int .i64 (N : Int)) = a.tmps := by
          have hlt := (hI.ar.tr.has p).1 hpB
          rw [hv2] at hv
          apply Array.ext (by simp)
          intro i h1 h2
          by_cases hi : i = p
          · subst hi
            simp [Array.getD, hlt] at hv
            simp [hv]
          · rw [Array.getElem_setIfInBounds h2]
            simp [Ne.symm hi]
        rwa [hset] at this
      refine InS.run hih (allX_good hend) hI2 (fun t' h' s' a' w' g1 g2 => ?_) (fun t' h' s' a' w' g1 g2 => ?_) (fun i t' h' s' a' w' g1 g2 => ?_)
      · have := allX_sub g1 hend; cases this
      · have := allX_sub g1 hend; cases this
      · obtain ⟨rfl, hf⟩ := allX_exit (allX_sub g1 hend)
        exact hQ _ _ _ _ _ hf g2
    · rw [rounds_succ]
      have hsig : SigAt e.base [(ja, 0, [jb])] := fun j hj => by
        rw [subJ_cons]
        cases hq : Nat.beq ja j with
        | false =>
          show 0 ≤ (0 : Int) + (e.base.ρ j + 0) ∧ (0 : Int) + (e.base.ρ j + 0) ≤ _
          have := e.base.sm j hj; omega
        | true =>
          have := Nat.eq_of_beq_eq_true hq
          subst this
          show 0 ≤ (0 : Int) + (e.base.ρ jb + 0) ∧ (0 : Int) + (e.base.ρ jb + 0) ≤ _
          omega
      obtain ⟨e2, hI2, _⟩ := hI.gen hAB hsig
      have hv3 := isLin_val hiA (hI2.ar.tr.val p)
      have hρ : e2.base.ρ ja = e.base.ρ jb := by
        rw [hv3] at hv
        injection hv
      unfold roundOk at hround
      refine wp_mono (hI2.run hih (allN_good hround)) (fun x a' w' ⟨l, g1, g2⟩ => ?_)
      have hl := allN_sub g1 hround
      cases l with
      | norm t' h' s' =>
        obtain ⟨rfl, e3, hb3, hI3⟩ := g2
        change ((match t'.get un p with | .sx .i64 x => sxeq x (.lin 1 [ja]) | _ => false) && chkG σ B ⟨t', h', s', n⟩) = true at hl
        simp only [Bool.and_eq_true] at hl
        obtain ⟨hl1, hl2⟩ := hl
        obtain ⟨e4, hI4, _⟩ := hI3.gen hl2 (sigOk_at hσ)
        have hv4 : a'.tmps.getD p undef = .int .i64 (1 + e3.base.ρ ja) := by
          have hx := hI3.ar.tr.val p
          split at hl1
          · rename_i x hx'
            have := sxeq_eq hl1
            subst this
            rw [hx'] at hx
            generalize a'.tmps.getD p undef = y at hx
            cases hx with
            | sx g _ => rw [g]; show Value.int .i64 (1 + (e3.base.ρ ja + 0)) = _; rw [Int.add_zero]
          · cases hl1
        have hv5 := isLin_val hiB (hI4.ar.tr.val p)
        have hρ4 : e4.base.ρ jb = 1 + e.base.ρ jb := by
          rw [hv5] at hv4
          injection hv4 with _ hv4
          rw [hv4, hb3, hρ]
        exact self_loop hih hja hjb hna hnb hiA hiB hpB hAB hσ hround hend hQ m a' w' e4 (by rw [hρ4]; omega) hI4
      | exit i t' h' s' => cases hl
      | ret t' h' s' => cases hl
      | err n => exact g2.elim
      | or _ _ => exact (g2 : False).elim
end Go.Ev
