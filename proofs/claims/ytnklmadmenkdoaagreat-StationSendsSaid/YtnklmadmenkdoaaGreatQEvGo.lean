/- An evaluator of the model's code: a body cut in two. An evaluator of the model's code: one state below another. An evaluator of the model's code: the order on values is sound. -/
import Derived.Test.YtnklmadmenkdoaaGreatQEvHd
set_option linter.unusedVariables false
set_option linter.unusedSimpArgs false
namespace Go.Ev
open Go.RowKit
variable {D : List Deferred}
variable {P : Program} {pr : Prims} {ih : Rn} {e : Env} {t : T V} {h : H} {s : Nat} {w : World} {a : Act} {r : RO} {k : K} {o : Oper}
/-- The first n pieces of a body. -/
noncomputable def cutR (ih : Rn) : Nat → Code → T V → H → Nat → RO
  | 0, _, t, h, s => .norm t h s
  | n + 1, .seq x y, t, h, s => (ih x t h s).bnd (fun t h s => cutR ih n y t h s) .exit .ret
  | _ + 1, _, _, _, _ => .err 300
/-- What comes behind them. -/
def dropC : Nat → Code → Code
  | 0, c => c
  | n + 1, .seq _ y => dropC n y
  | _ + 1, c => c
theorem cut_ok (hih : SoundRn P ih) {Q : Exit → Act → World → Prop} : ∀ (n : Nat) (c : Code) (t : T V) (h : H) (s : Nat), (cutR ih n c t h s).good → ∀ (e : Env) (a : Act) (w : World), AR D e t a → Sim e h w → Free e s →
    (∀ t' h' s' e' a' w', Sub (.norm t' h' s') (cutR ih n c t h s) → AR D e' t' a' → Post e s h w e' s' h' w' → (dropC n c).wp P Q a' w') →
    (∀ t' h' s' e' a' w', Sub (.ret t' h' s') (cutR ih n c t h s) → AR D e' t' a' → Post e s h w e' s' h' w' → Q .ret a' w') →
    (∀ i t' h' s' e' a' w', Sub (.exit i t' h' s') (cutR ih n c t h s) → AR D e' t' a' → Post e s h w e' s' h' w' → Q (.exit i) a' w') → c.wp P Q a w
  | 0, c, t, h, s, _, e, a, w, ha, hs, hf, hN, _, _ => hN t h s e a w (.refl _) ha (Post.refl hs hf)
  | n + 1, .seq x y, t, h, s, hr, e, a, w, ha, hs, hf, hN, hR, hE => by
    change ((ih x t h s).bnd (fun t h s => cutR ih n y t h s) .exit .ret).good at hr
    change ∀ t' h' s' e' a' w', Sub (.norm t' h' s') ((ih x t h s).bnd (fun t h s => cutR ih n y t h s) .exit .ret) → AR D e' t' a' → Post e s h w e' s' h' w' → (dropC n y).wp P Q a' w' at hN
    change ∀ t' h' s' e' a' w', Sub (.ret t' h' s') ((ih x t h s).bnd (fun t h s => cutR ih n y t h s) .exit .ret) → AR D e' t' a' → Post e s h w e' s' h' w' → Q .ret a' w' at hR
    change ∀ i t' h' s' e' a' w', Sub (.exit i t' h' s') ((ih x t h s).bnd (fun t h s => cutR ih n y t h s) .exit .ret) → AR D e' t' a' → Post e s h w e' s' h' w' → Q (.exit i) a' w' at hE
    refine wp_seq (wp_mono (hih.wp x t h s (RO.good_bnd hr) D e a w ha hs hf) (fun x1 a1 w1 hq => ?_))
    obtain ⟨l, g1, g2, g3⟩ := hq.leaf
    have hsub := g1.bnd (fun t h s => cutR ih n y t h s) .exit .ret
    cases l with
    | norm t' h' s' =>
      obtain ⟨rfl, e', ha', hp⟩ := g3
      exact cut_ok hih n y t' h' s' (hsub.good hr) e' a1 w1 ha' hp.sim hp.free
        (fun t2 h2 s2 e2 a2 w2 q1 q2 q3 => hN t2 h2 s2 e2 a2 w2 (q1.trans hsub) q2 (hp.trans q3))
        (fun t2 h2 s2 e2 a2 w2 q1 q2 q3 => hR t2 h2 s2 e2 a2 w2 (q1.trans hsub) q2 (hp.trans q3))
        (fun i t2 h2 s2 e2 a2 w2 q1 q2 q3 => hE i t2 h2 s2 e2 a2 w2 (q1.trans hsub) q2 (hp.trans q3))
    | exit id t' h' s' =>
      obtain ⟨rfl, e', ha', hp⟩ := g3
      exact hE id t' h' s' e' a1 w1 hsub ha' hp
    | ret t' h' s' =>
      obtain ⟨rfl, e', ha', hp⟩ := g3
      exact hR t' h' s' e' a1 w1 hsub ha' hp
    | err n => exact g3.elim
    | or _ _ => exact g2.elim
  | _ + 1, .skip, _, _, _, hr, _, _, _, _, _, _, _, _, _ => hr.elim
  | _ + 1, .region _ _ _, _, _, _, hr, _, _, _, _, _, _, _, _, _ => hr.elim
  | _ + 1, .cond _ _ _, _, _, _, hr, _, _, _, _, _, _, _, _, _ => hr.elim
  | _ + 1, .block _ _, _, _, _, hr, _, _, _, _, _, _, _, _, _ => hr.elim
  | _ + 1, .loop _, _, _, _, hr, _, _, _, _, _, _, _, _, _ => hr.elim
  | _ + 1, .exit _, _, _, _, hr, _, _, _, _, _, _, _, _, _ => hr.elim
  | _ + 1, .ret, _, _, _, hr, _, _, _, _, _, _, _, _, _ => hr.elim
  | _ + 1, .label _, _, _, _, hr, _, _, _, _, _, _, _, _, _ => hr.elim
  | _ + 1, .goto _, _, _, _, hr, _, _, _, _, _, _, _, _, _ => hr.elim
  | _ + 1, .scope _, _, _, _, hr, _, _, _, _, _, _, _, _, _ => hr.elim
  | _ + 1, .rangeFunc _ _ _ _, _, _, _, hr, _, _, _, _, _, _, _, _, _ => hr.elim
  | _ + 1, .refuse _, _, _, _, hr, _, _, _, _, _, _, _, _, _ => hr.elim
end Go.Ev
namespace Go.Ev
/-- A slice of bytes that is looked at from outside. -/
structure Dt where
  b : Nat
  o : Nat
  l : Nat
/-- What a small number is called by. -/
abbrev Sig := List (Nat × Int × List Nat)
noncomputable def subJ (σ : Sig) (j : Nat) : Int × List Nat := List.rec (motive := fun _ => Int × List Nat) (0, [j]) (fun p _ r => bif Nat.beq p.1 j then p.2 else r) σ
noncomputable def subL (σ : Sig) (l : List Nat) : Int × List Nat := List.rec (motive := fun _ => Int × List Nat) (0, []) (fun j _ r => (iadd (subJ σ j).1 r.1, mrgL (subJ σ j).2 r.2)) l
/-- Numbers below 3000, no sums. -/
noncomputable def lowX (a : SX) : Bool :=
  SX.rec (motive := fun _ => Bool) (fun i => Nat.ble (Nat.succ i) 3000) (fun _ => true) (fun _ _ _ _ ra rb => bif ra then rb else false) (fun _ _ _ r => r) (fun _ _ r => r) (fun _ _ r => r) (fun _ _ => false) a
/-- How the blocks are named anew: the numbers below s, and the slice that becomes the outside slice 3; what small numbers stand for. -/
structure Rm where
  m : T Nat
  s : Nat
  d : Option Dt
  g : Sig
/-- The pair of numbers is in the map. -/
noncomputable def rn (r : Rm) (b' b : Nat) : Bool := Nat.ble (Nat.succ b') r.s && Nat.beq (r.m.get 0 b') (Nat.succ b)
noncomputable def xOk (dt : Option Dt) (hi : Nat) : V → Bool
  | .sl b o l _ => (match dt with | some d => Nat.beq d.b b && (Nat.beq d.o o && (Nat.beq d.l l && (Nat.ble 1 l && Nat.ble l hi))) | none => Nat.beq l 0)
  | .slu b o l _ => (match dt with | some d => Nat.beq d.b b && (Nat.beq d.o o && (Nat.beq d.l l && (Nat.ble 1 l && Nat.ble l hi))) | none => Nat.beq l 0)
  | .nils => (match dt with | some _ => false | none => true)
  | .xsl _ _ l => (match dt with | some _ => false | none => Nat.beq l 0)
  | _ => false
noncomputable def xLe (dt : Option Dt) (j hi : Nat) (v : V) : Bool :=
  bif Nat.beq j 3 then xOk dt hi v else (match v with | .xsu j' hi' => Nat.beq j j' && Nat.ble hi' hi | _ => false)
noncomputable def linEq (σ : Sig) (c : Int) (l : List Nat) (q : Option (Int × List Nat)) : Bool := match q with | some (c', l') => ieq (iadd c (subL σ l).1) c' && leqL (subL σ l).2 l' | none => false
noncomputable def sLin (σ : Sig) (k : IntKind) (c : Int) (l : List Nat) (v : V) : Bool :=
  match v with
  | .sx k' b => smallL l && (keq k k' && linEq σ c l (linP b))
  | .int k' n => smallL l && (keq k k' && (fitsL k n [] && linEq σ c l (some (n, []))))
  | _ => false
noncomputable def sLow (k : IntKind) (a : SX) (v : V) : Bool := match v with | .sx k' b => keq k k' && (sxeq a b && lowX a) | _ => false
noncomputable def leSx (σ : Sig) (k : IntKind) (a : SX) (v : V) : Bool := match a with | .lin c l => sLin σ k c l v | a => sLow k a v
noncomputable def ivLin (k : IntKind) (lo hi : Int) (k' : IntKind) (b : SX) : Bool := match linP b with | some (c, l) => keq k k' && (smallL l && (ile lo c && ile (Int.add c (.ofNat (bndL l))) hi)) | none => false
noncomputable def lows (l : List SX) : Bool := List.rec (motive := fun _ => Bool) true (fun x _ r => bif lowX x then r else false) l
mutual
/-- The second value is one that the first allows. -/
noncomputable def leV (m : Rm) : V → V → Bool
  | .int k a, .int k' b => keq k k' && ieq a b
  | .iv k lo hi, .int k' b => keq k k' && (ile lo b && ile b hi)
  | .iv k lo hi, .iv k' lo' hi' => keq k k' && (ile lo lo' && ile hi' hi)
  | .iv k lo hi, .sx k' b => ivLin k lo hi k' b
  | .bool a, .bool b => (match a, b with | true, true => true | false, false => true | _, _ => false)
  | .str a, .str b => a == b
  | .nilp, .nilp => true
  | .ptr b o, .ptr c d => rn m b c && Nat.beq o d
  | .nils, .nils => true
  | .sl b o l c, .sl b' o' l' c' => rn m b b' && (Nat.beq o o' && (Nat.beq l l' && Nat.beq c c'))
  | .slu b o l z, .slu b' o' l' z' => rn m b b' && (Nat.beq o o' && (Nat.beq l l' && Nat.beq z z'))
  | .usl lo hi, .sl _ _ l _ => Nat.ble lo l && Nat.ble l hi
  | .usl lo hi, .slu _ _ l _ => Nat.ble lo l && Nat.ble l hi
  | .usl lo hi, .xsl _ _ l => Nat.ble lo l && Nat.ble l hi
  | .usl lo hi, .nils => Nat.beq lo 0
  | .usl lo hi, .usl lo' hi' => Nat.ble lo lo' && Nat.ble hi' hi
  | .nilm, .nilm => true
  | .map b, .map c => rn m b c
  | .nilf, .nilf => true
  | .fn f l, .fn g l' => Nat.beq f g && leVs m l l'
  | .nili, .nili => true
  | .ifc t v, .ifc u x => Nat.beq t u && leV m v x
  | .agg l, .agg l' => leVs m l l'
  | .tup l, .tup l' => leVs m l l'
  | .bfn f v, .bfn g x => Nat.beq f g && leV m v x
  | .opq, .opq => true
  | .opq, .sx _ _ => true
  | .opq, .int _ _ => true
  | .opq, .iv _ _ _ => true
  | .opq, .ss _ => true
  | .opq, .str _ => true
  | .opq, .ptr _ _ => true
  | .opq, .nilp => true
  | .opq, .nils => true
  | .opq, .sl _ _ _ _ => true
  | .opq, .slu _ _ _ _ => true
  | .xsl j o l, .xsl j' o' l' => not (Nat.beq j 3) && (Nat.beq j j' && (Nat.beq o o' && Nat.beq l l'))
  | .xp j o, .xp j' o' => not (Nat.beq j 3) && (Nat.beq j j' && Nat.beq o o')
  | .ss l, .ss l' => sxeqs l l' && lows l
  | .sx k a, v => leSx m.g k a v
  | .xsu j hi, v => xLe m.d j hi v
  | _, _ => false
noncomputable def leVs (m : Rm) : List V → List V → Bool
  | [], [] => true
  | v :: l, x :: l' => leV m v x && leVs m l l'
  | _, _ => false
end
/-- The pairs of blocks that two values name. -/
noncomputable def prV : V → V → List (Nat × Nat)
  | .ptr b _, .ptr c _ => [(b, c)]
  | .sl b _ _ _, .sl c _ _ _ => [(b, c)]
  | .slu b _ _ _, .slu c _ _ _ => [(b, c)]
  | .map b, .map c => [(b, c)]
  | .ifc _ (.ptr b _), .ifc _ (.ptr c _) => [(b, c)]
  | .bfn _ (.ptr b _), .bfn _ (.ptr c _) => [(b, c)]
  | .agg l, .agg l' => ((l.zip l').map fun p => match p with
    | (.ptr b _, .ptr c _) => [(b, c)] | (.sl b _ _ _, .sl c _ _ _) => [(b, c)] | (.slu b _ _ _, .slu c _ _ _) => [(b, c)] | (.map b, .map c) => [(b, c)] | (.ifc _ (.ptr b _), .ifc _ (.ptr c _)) => [(b, c)] | _ => []).flatten
  | .tup l, .tup l' => ((l.zip l').map fun p => match p with
    | (.ptr b _, .ptr c _) => [(b, c)] | (.sl b _ _ _, .sl c _ _ _) => [(b, c)] | (.slu b _ _ _, .slu c _ _ _) => [(b, c)] | (.map b, .map c) => [(b, c)] | (.ifc _ (.ptr b _), .ifc _ (.ptr c _)) => [(b, c)] | _ => []).flatten
  | _, _ => []
noncomputable def prs (l l' : List V) : List (Nat × Nat) := (List.zipWith prV l l').flatten
noncomputable def prB : B → B → List (Nat × Nat)
  | .cells t n, .cells t' n' => prs (rdCells t n 0) (rdCells t' n' 0)
  | .map es _, .map es' _ => prs (es.map (·.1)) (es'.map (·.1)) ++ prs (es.map (·.2.1)) (es'.map (·.2.1))
  | .iter (some b) _ _ _, .iter (some c) _ _ _ => [(b, c)]
  | _, _ => []
/-- The blocks that are reached from both sides. -/
noncomputable def reach (h h' : H) : Nat → List (Nat × Nat) → T Nat → List (Nat × Nat) → List (Nat × Nat)
  | 0, _, _, vis => vis
  | _ + 1, [], _, vis => vis
  | n + 1, (b, c) :: l, m, vis => bif Nat.beq (m.get 0 b) 0 then reach h h' n (prB (h.get .gone b) (h'.get .gone c) ++ l) (m.set b (Nat.succ c)) ((b, c) :: vis) else reach h h' n l m vis
noncomputable def N0 : T Nat := T.mk 0 24 16777215
noncomputable def renOf (vis : List (Nat × Nat)) : T Nat := vis.foldl (fun m p => m.set p.1 (Nat.succ p.2)) N0
noncomputable def invOf (vis : List (Nat × Nat)) : T Nat := vis.foldl (fun m p => m.set p.2 (Nat.succ p.1)) N0
/-- The slice that becomes the outside slice. -/
noncomputable def dtV : V → V → Option Dt
  | .xsu _ _, .sl b o l _ => (match l with | 0 => none | _ => some ⟨b, o, l⟩)
  | .xsu _ _, .slu b o l _ => (match l with | 0 => none | _ => some ⟨b, o, l⟩)
  | _, _ => none
noncomputable def dtL : List V → List V → Option Dt
  | v :: l, v' :: l' => (match dtV v v' with | some d => some d | none => dtL l l')
  | _, _ => none
noncomputable def dtB : B → B → Option Dt
  | .cells t n, .cells t' n' => dtL (rdCells t n 0) (rdCells t' n' 0)
  | .map es _, .map es' _ => dtL (es.map (·.2.1)) (es'.map (·.2.1))
  | _, _ => none
noncomputable def dtOf (h h' : H) : List (Nat × Nat) → Option Dt
  | [] => none
  | p :: l => (match dtB (h.get .gone p.1) (h'.get .gone p.2) with | some d => some d | none => dtOf h h' l)
noncomputable def leEs (m : Rm) : List (V × V × Nat) → List (V × V × Nat) → Bool
  | [], [] => true
  | (k, v, n) :: l, (k', v', n') :: l' => leV m k k' && (leV m v v' && (Nat.beq n n' && leEs m l l'))
  | _, _ => false
noncomputable def hasAll (t : T V) : Nat → Bool
  | 0 => true
  | n + 1 => t.has n && hasAll t n
noncomputable def leB (m : Rm) : B → B → Bool
  | .cells t n, .cells t' n' => Nat.beq n n' && (hasAll t n && leVs m (rdCells t n 0) (rdCells t' n' 0))
  | .map es c, .map es' c' => Nat.beq c c' && leEs m es es'
  | _, _ => false
mutual
/-- Made general: the number n becomes any up to hi, symbols become opaque, the slice of block g becomes the outside slice. -/
noncomputable def gnV (g n hi : Nat) : V → V
  | .int .i64 (.ofNat a) => bif Nat.beq a n then .iv .i64 0 hi else .int .i64 a
  | .sl b o l c => bif Nat.beq l n then (bif Nat.beq b g then .xsu 3 hi else .usl 0 hi) else .sl b o l c
  | .slu b o l c => bif Nat.beq l n then (bif Nat.beq b g then .xsu 3 hi else .usl 0 hi) else .slu b o l c
  | .xsl b o l => bif Nat.beq l n then .usl 0 hi else .xsl b o l
  | .sx _ _ => .opq
  | .ss _ => .opq
  | .agg l => .agg (gnVs g n hi l)
  | .tup l => .tup (gnVs g n hi l)
  | .ifc t v => .ifc t (gnV g n hi v)
  | v => v
noncomputable def gnVs (g n hi : Nat) : List V → List V
  | [] => []
  | v :: l => gnV g n hi v :: gnVs g n hi l
end
noncomputable def gnB (g n hi : Nat) : B → B
  | .cells t k => .cells (tree (gnVs g n hi (rdCells t k 0))) k
  | .map es c => .map (es.map fun p => (gnV g n hi p.1, gnV g n hi p.2.1, p.2.2)) c
  | b => b
structure Sta where
  t : T V
  h : H
  s : Nat
  n : Nat
noncomputable def Sta.tm (S : Sta) : List V := rdCells S.t S.n 0
/-- A general state: temporaries, blocks. -/
structure Gst where
  tl : List V
  l : List (Nat × B)
  s : Nat
noncomputable def Gst.h (G : Gst) : H := G.l.foldl (fun h p => h.set p.1 p.2) E0
noncomputable def Gst.t (G : Gst) : T V := tree G.tl
/-- The general state: of the blocks that are reached. -/
noncomputable def genS (g n hi : Nat) (S : Sta) : Gst :=
  ⟨gnVs g n hi S.tm, (reach S.h S.h 100000 (prs (gnVs g n hi S.tm) S.tm) N0 []).map (fun p => (p.1, gnB g n hi (S.h.get .gone p.1))), S.s⟩
noncomputable def u8s : List V → Bool
  | [] => true
  | .int .u8 (.ofNat n) :: l => Nat.ble n 255 && u8s l
  | .sx .u8 _ :: l => u8s l
  | _ => false
noncomputable def dtOk (h : H) (i : T Nat) : Option Dt → Bool
  | none => true
  | some d => (match h.get .gone d.b with
    | .cells t n => Nat.ble (Nat.add d.o d.l) n && (u8s (rdCells t d.l d.o) && (Nat.ble 1 d.l && (Nat.ble d.l 1000 && Nat.beq (i.get 0 d.b) 0)))
    | _ => false)
noncomputable def chkB (r : Rm) (i : T Nat) (h h' : H) (b' b : Nat) : Bool := rn r b' b && (Nat.beq (i.get 0 b) (Nat.succ b') && leB r (h.get .gone b') (h'.get .gone b))
noncomputable def chkP (r : Rm) (i : T Nat) (G : Gst) (S : Sta) : Bool :=
  Nat.beq (len G.tl) S.n && (Nat.ble 1 S.n && (S.t.has (Nat.pred S.n) && (not (S.t.has S.n) && (leVs r G.tl (rdCells S.t S.n 0) && (dtOk S.h i r.d && (Nat.beq r.s G.s && G.l.all (fun p => chkB r i G.h S.h p.1 (Nat.pred (r.m.get 0 p.1)))))))))
/-- The small numbers lie within their bounds. -/
noncomputable def sigOk (σ : Sig) : Bool := List.rec (motive := fun _ => Bool) true (fun p _ r => bif Nat.ble 1000000 p.1 && (smallL p.2.2 && (ile 0 p.2.1 && ile (Int.add p.2.1 (.ofNat (bndL p.2.2))) (.ofNat (Nat.mod p.1 1000)))) then r else false) σ
noncomputable def chkV (σ : Sig) (G : Gst) (S : Sta) (vis : List (Nat × Nat)) : Bool := chkP ⟨renOf vis, G.s, dtOf G.h S.h vis, σ⟩ (invOf vis) G S
/-- The state is below the general one, where the small numbers are called so. -/
noncomputable def chkG (σ : Sig) (G : Gst) (S : Sta) : Bool := chkV σ G S (reach G.h S.h 100000 (prs G.tl S.tm) N0 [])
noncomputable def chkS (G : Gst) (S : Sta) : Bool := chkG [] G S
end Go.Ev
namespace Go.Ev
variable {m : Rm} {e e' : Env}
/-- The outside slices and the numbers of the one are those of the other. -/
structure XLe (m : Rm) (e e' : Env) : Prop where
  d : ∀ hi v x, VR e v x → xOk m.d hi v = true → VR e' (.xsu 3 hi) x
  x : ∀ j, j ≠ 3 → e'.base.x j = e.base.x j
  low : ∀ i, i < 3000 → e'.base.ρ i = e.base.ρ i
  sm : ∀ j, 1000000 ≤ j → e'.base.ρ j = (subJ m.g j).1 + linD e.base.ρ (subJ m.g j).2
theorem xsu_ok (hX : XLe m e e') {v : V} {x : Value} (h : VR e v x) {j hi : Nat} (hk : leV m (.xsu j hi) v = true) : VR e' (.xsu j hi) x := by
  have hk : xLe m.d j hi v = true := by
    have e1 : leV m (.xsu j hi) v = xLe m.d j hi v := by cases v <;> rfl
    rw [← e1]; exact hk
  unfold xLe at hk
  cases hj : Nat.beq j 3 with
  | true =>
    rw [hj] at hk
    have := Nat.eq_of_beq_eq_true hj
    subst this
    exact hX.d hi v x h hk
  | false =>
    rw [hj] at hk
    simp only [cond_false] at hk
    split at hk
    · rename_i j' hi'
      simp at hk
      obtain ⟨h1, h2⟩ := hk
      subst h1
      cases h with
      | xsu g1 g2 g3 => exact .xsu ((hX.x _ (Nat.ne_of_beq_eq_false hj)).trans g1) (by omega) g3
    · cases hk
theorem lowX_den {ρ ρ' : Nat → Int} (h : ∀ i, i < 3000 → ρ' i = ρ i) : ∀ {a : SX}, lowX a = true → a.den ρ' = a.den ρ
  | .sym i, hk => h i (Nat.le_of_ble_eq_true hk)
  | .lit n, _ => rfl
  | .bin op k a b, hk => by
    have hk' : (bif lowX a then lowX b else false) = true := hk
    cases ha : lowX a with
    | false => rw [ha] at hk'; cases hk'
    | true => rw [ha] at hk'; simp only [SX.den]; rw [lowX_den h ha, lowX_den h (a := b) hk']
  | .shl k a n, hk => by simp only [SX.den]; rw [lowX_den h (a := a) hk]
  | .shr a n, hk => by simp only [SX.den]; rw [lowX_den h (a := a) hk]
  | .cnv k a, hk => by simp only [SX.den]; rw [lowX_den h (a := a) hk]
  | .lin c l, hk => by cases hk
theorem lows_den {ρ ρ' : Nat → Int} (h : ∀ i, i < 3000 → ρ' i = ρ i) : ∀ {l : List SX}, lows l = true → l.map (SX.den ρ') = l.map (SX.den ρ)
  | [], _ => rfl
  | a :: l, hk => by
    have hk' : (bif lowX a then lows l else false) = true := hk
    cases ha : lowX a with
    | false => rw [ha] at hk'; cases hk'
    | true => rw [ha] at hk'; simp only [List.map_cons]; rw [lowX_den h ha, lows_den h (l := l) hk']
theorem subL_den {ρ ρ' : Nat → Int} {σ : Sig} (h : ∀ j, 1000000 ≤ j → ρ' j = (subJ σ j).1 + linD ρ (subJ σ j).2) : ∀ {l : List Nat}, smallL l = true → linD ρ' l = (subL σ l).1 + linD ρ (subL σ l).2
  | [], _ => rfl
  | j :: l, hk => by
    have hk' : (bif Nat.ble 1000000 j then smallL l else false) = true := hk
    cases hj : Nat.ble 1000000 j with
    | false => rw [hj] at hk'; cases hk'
    | true =>
      rw [hj] at hk'
      show ρ' j + linD ρ' l = iadd (subJ σ j).1 (subL σ l).1 + linD ρ (mrgL (subJ σ j).2 (subL σ l).2)
      rw [subL_den h (l := l) hk', h j (Nat.le_of_ble_eq_true hj), iadd_eq, mrgL_den]; omega
theorem linEq_ok (hX : XLe m e e') {c : Int} {l : List Nat} (hl : smallL l = true) {b : SX} (h : linEq m.g c l (linP b) = true) : SX.den e'.base.ρ (.lin c l) = b.den e.base.ρ := by
  unfold linEq at h
  split at h
  · rename_i c' l' hq
    simp only [Bool.and_eq_true, ieq_eq, beq_iff_eq, iadd_eq] at h
    rw [linP_den hq]
    show c + linD e'.base.ρ l = _
    rw [subL_den hX.sm hl, leqL_eq h.2, ← h.1]; omega
  · cases h
theorem leSx_ok (hX : XLe m e e') {v : V} {x : Value} (h : VR e v x) {k : IntKind} {a : SX} (hk : leV m (.sx k a) v = true) : VR e' (.sx k a) x := by
  have hk : leSx m.g k a v = true := by
    have e1 : leV m (.sx k a) v = leSx m.g k a v := by cases v <;> rfl
    rw [← e1]; exact hk
  unfold leSx at hk
  split at hk
  · rename_i c l
    unfold sLin at hk
    split at hk
    · rename_i k' b
      simp only [Bool.and_eq_true] at hk
      obtain ⟨h1, h2, h3⟩ := hk
      have := keq_eq h2
      subst this
      cases h with
      | sx g1 g2 => exact .sx (by rw [linEq_ok hX h1 h3]; exact g1) g2
    · rename_i k' n
      simp only [Bool.and_eq_true] at hk
      obtain ⟨h1, h2, h3, h4⟩ := hk
      have := keq_eq h2
      subst this
      cases h
      have hd := linEq_ok hX h1 (b := .lit n) h4
      refine .sx hd.symm ?_
      unfold fitsL at h3
      simp only [Bool.or_eq_true, Bool.and_eq_true, ile_eq, decide_eq_true_eq] at h3
      rcases h3 with ⟨q1, q2, q3⟩ | ⟨q1, q2⟩
      · exact wrap_small k n q1 q2
      · have := keq_eq q1
        subst this
        obtain ⟨p1, p2, p3⟩ := linIn_ok q2
        rw [IntKind.wrap_i64]; omega
    · cases hk
  · unfold sLow at hk
    split at hk
    · rename_i k' b
      simp only [Bool.and_eq_true] at hk
      obtain ⟨h1, h2, h3⟩ := hk
      have := keq_eq h1
      subst this
      have := sxeq_eq h2
      subst this
      cases h with
      | sx g1 g2 => exact .sx (by rw [lowX_den hX.low h3]; exact g1) g2
    · cases hk
mutual
theorem leV_ok (hE : ∀ b' b, rn m b' b = true → e'.f b' = e.f b) (hX : XLe m e e') : ∀ {v x}, VR e v x → ∀ v', leV m v' v = true → VR e' v' x
  | _, _, .int k n, v', hk => by
    cases v' <;> first | exact xsu_ok hX (.int k n) hk | exact leSx_ok hX (.int k n) hk | simp [leV] at hk
    · obtain ⟨h1, h2⟩ := hk
      have := keq_eq h1; subst this
      rw [ieq_eq] at h2; simp at h2; subst h2; exact .int _ _
    · obtain ⟨h1, h2, h3⟩ := hk
      have := keq_eq h1; subst this
      rw [ile_eq] at h2 h3; simp at h2 h3; exact .iv h2 h3
    · exact .opq rfl (by simp)
  | _, _, .bool b, v', hk => by
    cases v' <;> first | exact xsu_ok hX (.bool b) hk | exact leSx_ok hX (.bool b) hk | simp [leV] at hk
    rename_i c; cases c <;> cases b <;> simp at hk <;> exact .bool _
  | _, _, .str s, v', hk => by
    cases v' <;> first | exact xsu_ok hX (.str s) hk | exact leSx_ok hX (.str s) hk | simp [leV] at hk
    · have := ba_eq hk; subst this; exact .str _
    · exact .opq rfl (by simp)
  | _, _, .nilp, v', hk => by
    cases v' <;> first | exact xsu_ok hX .nilp hk | exact leSx_ok hX .nilp hk | simp [leV] at hk
    · exact .nilp
    · exact .opq rfl (by simp)
  | _, _, .ptr h, v', hk => by
    cases v' <;> first | exact xsu_ok hX (.ptr h) hk | exact leSx_ok hX (.ptr h) hk | simp [leV] at hk
    · obtain ⟨h1, h2⟩ := hk; subst h2; exact .ptr ((hE _ _ h1).trans h)
    · exact .opq rfl (by simp)
  | _, _, .nils, v', hk => by
    cases v' <;> first | exact xsu_ok hX .nils hk | exact leSx_ok hX .nils hk | simp [leV] at hk
    · exact .nils
    · exact .opq rfl (by simp)
    · subst hk; exact .usl (Nat.le_refl _) (Nat.zero_le _)
  | _, _, .nilm, v', hk => by
    cases v' <;> first | exact xsu_ok hX .nilm hk | exact leSx_ok hX .nilm hk | simp [leV] at hk
    exact .nilm
  | _, _, .map h, v', hk => by
    cases v' <;> first | exact xsu_ok hX (.map h) hk | exact leSx_ok hX (.map h) hk | simp [leV] at hk
    exact .map ((hE _ _ hk).trans h)
  | _, _, .nilf, v', hk => by
    cases v' <;> first | exact xsu_ok hX .nilf hk | exact leSx_ok hX .nilf hk | simp [leV] at hk
    exact .nilf
  | _, _, .nili, v', hk => by
    cases v' <;> first | exact xsu_ok hX .nili hk | exact leSx_ok hX .nili hk | simp [leV] at hk
    exact .nili
  | _, _, .ifc h, v', hk => by
    cases v' <;> first | exact xsu_ok hX (.ifc h) hk | exact leSx_ok hX (.ifc h) hk | simp [leV] at hk
    obtain ⟨h1, h2⟩ := hk; subst h1; exact .ifc (leV_ok hE hX h _ h2)
  | _, _, .bfn h, v', hk => by
    cases v' <;> first | exact xsu_ok hX (.bfn h) hk | exact leSx_ok hX (.bfn h) hk | simp [leV] at hk
    obtain ⟨h1, h2⟩ := hk; subst h1; exact .bfn (leV_ok hE hX h _ h2)
  | _, _, .fn h, v', hk => by
    cases v' <;> first | exact xsu_ok hX (.fn h) hk | exact leSx_ok hX (.fn h) hk | simp [leV] at hk
    obtain ⟨h1, h2⟩ := hk; subst h1; exact .fn (leVs_ok hE hX h _ h2)
  | _, _, .agg h, v', hk => by
    cases v' <;> first | exact xsu_ok hX (.agg h) hk | exact leSx_ok hX (.agg h) hk | simp [leV] at hk
    exact .agg (leVs_ok hE hX h _ hk)
  | _, _, .tup h, v', hk => by
    cases v' <;> first | exact xsu_ok hX (.tup h) hk | exact leSx_ok hX (.tup h) hk | simp [leV] at hk
    exact .tup (leVs_ok hE hX h _ hk)
  | _, _, .sl h hl, v', hk => by
    cases v' <;> first | exact xsu_ok hX (.sl h hl) hk | exact leSx_ok hX (.sl h hl) hk | simp [leV] at hk
    · obtain ⟨h1, h2, h3, h4⟩ := hk; subst h2 h3 h4; exact .sl ((hE _ _ h1).trans h) hl
    · exact .opq rfl (by simp)
    · exact .usl hk.1 hk.2
  | _, _, .sl0 h, v', hk => by
    cases v' <;> first | exact xsu_ok hX (.sl0 h) hk | exact leSx_ok hX (.sl0 h) hk | simp [leV] at hk
    · obtain ⟨h1, h2, h3, h4⟩ := hk; subst h2 h3 h4; exact .sl0 ((hE _ _ h1).trans h)
    · exact .opq rfl (by simp)
    · subst hk; exact .usl (Nat.le_refl _) (Nat.zero_le _)
  | _, _, .slu h hl hc, v', hk => by
    cases v' <;> first | exact xsu_ok hX (.slu h hl hc) hk | exact leSx_ok hX (.slu h hl hc) hk | simp [leV] at hk
    · obtain ⟨h1, h2, h3, h4⟩ := hk; subst h2 h3 h4; exact .slu ((hE _ _ h1).trans h) hl hc
    · exact .opq rfl (by simp)
    · exact .usl hk.1 hk.2
  | _, _, .slu0 h hx, v', hk => by
    cases v' <;> first | exact xsu_ok hX (.slu0 h hx) hk | exact leSx_ok hX (.slu0 h hx) hk | simp [leV] at hk
    · obtain ⟨h1, h2, h3, h4⟩ := hk; subst h2 h3 h4; exact .slu0 ((hE _ _ h1).trans h) hx
    · exact .opq rfl (by simp)
    · subst hk; exact .usl (Nat.le_refl _) (Nat.zero_le _)
  | _, _, .yld h, v', hk => by cases v' <;> first | exact xsu_ok hX (.yld h) hk | exact leSx_ok hX (.yld h) hk | simp [leV] at hk
  | _, _, .mfn h, v', hk => by cases v' <;> first | exact xsu_ok hX (.mfn h) hk | exact leSx_ok hX (.mfn h) hk | simp [leV] at hk
  | _, _, .iv h1 h2, v', hk => by
    cases v' <;> first | exact xsu_ok hX (.iv h1 h2) hk | exact leSx_ok hX (.iv h1 h2) hk | simp [leV] at hk
    · obtain ⟨g1, g2, g3⟩ := hk
      have := keq_eq g1; subst this
      rw [ile_eq] at g2 g3; simp at g2 g3; exact .iv (by omega) (by omega)
    · exact .opq rfl (by simp)
  | _, _, .opq h hb, v', hk => by
    cases v' <;> first | exact xsu_ok hX (.opq h hb) hk | exact leSx_ok hX (.opq h hb) hk | simp [leV] at hk
    exact .opq h hb
  | _, _, .usl h1 h2, v', hk => by
    cases v' <;> first | exact xsu_ok hX (.usl h1 h2) hk | exact leSx_ok hX (.usl h1 h2) hk | simp [leV] at hk
    exact .usl (by omega) (by omega)
  | _, _, .sx (k := k) (x := x) h hw, v', hk => by
    cases v' <;> first | exact xsu_ok hX (.sx h hw) hk | exact leSx_ok hX (.sx h hw) hk | simp [leV] at hk
    · rename_i k' lo hi
      unfold ivLin at hk
      split at hk
      · rename_i c l hq
        simp only [Bool.and_eq_true, ile_eq, decide_eq_true_eq] at hk
        obtain ⟨g1, g2, g3, g4⟩ := hk
        have := keq_eq g1; subst this
        obtain ⟨q1, q2⟩ := lin_rng (show Smalls e.base.ρ from e.base.sm) g2
        rw [linP_den hq] at h
        have g4 : c + ((bndL l : Nat) : Int) ≤ hi := g4
        exact .iv (by omega) (by omega)
      · cases hk
    · exact .opq rfl (by simp)
  | _, _, .ss h, v', hk => by
    cases v' <;> first | exact xsu_ok hX (.ss h) hk | exact leSx_ok hX (.ss h) hk | simp [leV] at hk
    · exact .opq rfl (by simp)
    · have := sxeqs_eq hk.1
      subst this
      exact .ss (by rw [lows_den hX.low hk.2]; exact h)
  | _, _, .xsl h hl hc, v', hk => by
    cases v' <;> first | exact xsu_ok hX (.xsl h hl hc) hk | exact leSx_ok hX (.xsl h hl hc) hk | simp [leV] at hk
    · exact .usl hk.1 hk.2
    · obtain ⟨h0, h1, h2, h3⟩ := hk; subst h1 h2 h3
      exact .xsl ((hX.x _ (Nat.ne_of_beq_eq_false h0)).trans h) hl hc
  | _, _, .xp h hl, v', hk => by
    cases v' <;> first | exact xsu_ok hX (.xp h hl) hk | exact leSx_ok hX (.xp h hl) hk | simp [leV] at hk
    obtain ⟨h0, h1, h2⟩ := hk; subst h1 h2
    exact .xp ((hX.x _ (Nat.ne_of_beq_eq_false h0)).trans h) hl
  | _, _, .xsu h hl ha, v', hk => by cases v' <;> first | exact xsu_ok hX (.xsu h hl ha) hk | exact leSx_ok hX (.xsu h hl ha) hk | simp [leV] at hk
theorem leVs_ok (hE : ∀ b' b, rn m b' b = true → e'.f b' = e.f b) (hX : XLe m e e') : ∀ {l xs}, VRs e l xs → ∀ l', leVs m l' l = true → VRs e' l' xs
  | _, _, .nil, l', hk => by cases l' <;> simp [leVs] at hk; exact .nil
  | _, _, .cons h t, l', hk => by
    cases l' <;> simp [leVs] at hk
    exact .cons (leV_ok hE hX h _ hk.1) (leVs_ok hE hX t _ hk.2)
end
end Go.Ev
