/- An evaluator of the model's code: its quick form. -/
import Derived.Test.YtgidckkcibplgaaGreatEvB
set_option linter.unusedVariables false
namespace Go.Ev
/-! The quick form: pieces of code are turned, once each, into functions. -/
abbrev OC := Rn → T V → H → Nat → K → RO
abbrev RC := Rn → T V → H → Nat → RO
/-- A number, worked out. -/
noncomputable def fN (n : Nat) (f : Nat → RO) : RO := Nat.rec (motive := fun _ => RO) (f 0) (fun p _ => f (Nat.succ p)) n
noncomputable def qget {α : Type} (d : α) (n : Nat) (t : T α) (f : α → RO) : RO := fN n (fun n => Bx.rec (motive := fun _ => RO) (.err 230) (fun g => f (g t)) (pathG d 64 n))
noncomputable def qset {α : Type} (n : Nat) (t : T α) (x : α) (f : T α → RO) : RO := fN n (fun n => Bx.rec (motive := fun _ => RO) (.err 231) (fun g => f (g t x)) (pathS 64 n))
/-- What kind of value. -/
noncomputable def getI : V → (IntKind → Int → RO) → RO → RO :=
  V.rec (motive_1 := fun _ => (IntKind → Int → RO) → RO → RO) (motive_2 := fun _ => Unit) (fun k a f _ => f k a) (fun _ _ d => d) (fun _ _ d => d) (fun _ d => d) (fun _ _ _ d => d) (fun _ d => d) (fun _ _ _ _ _ d => d) (fun _ _ _ _ _ d => d) (fun _ d => d) (fun _ _ d => d) (fun _ d => d)
    (fun _ _ _ _ d => d) (fun _ d => d) (fun _ _ _ _ d => d) (fun _ _ _ d => d) (fun _ _ _ d => d) (fun _ _ d => d) (fun _ _ _ _ d => d) (fun _ _ _ _ d => d) (fun _ _ _ _ d => d) (fun _ d => d) (fun _ _ _ d => d) (fun _ _ _ d => d) (fun _ _ d => d) (fun _ _ _ _ d => d) (fun _ _ _ d => d) (fun _ _ _ d => d) () (fun _ _ _ _ => ())
noncomputable def getP : V → (Nat → Nat → RO) → RO → RO :=
  V.rec (motive_1 := fun _ => (Nat → Nat → RO) → RO → RO) (motive_2 := fun _ => Unit) (fun _ _ _ d => d) (fun _ _ d => d) (fun _ _ d => d) (fun _ d => d) (fun b o f _ => f b o) (fun _ d => d) (fun _ _ _ _ _ d => d) (fun _ _ _ _ _ d => d) (fun _ d => d) (fun _ _ d => d) (fun _ d => d)
    (fun _ _ _ _ d => d) (fun _ d => d) (fun _ _ _ _ d => d) (fun _ _ _ d => d) (fun _ _ _ d => d) (fun _ _ d => d) (fun _ _ _ _ d => d) (fun _ _ _ _ d => d) (fun _ _ _ _ d => d) (fun _ d => d) (fun _ _ _ d => d) (fun _ _ _ d => d) (fun _ _ d => d) (fun _ _ _ _ d => d) (fun _ _ _ d => d) (fun _ _ _ d => d) () (fun _ _ _ _ => ())
noncomputable def getT : V → (List V → RO) → RO → RO :=
  V.rec (motive_1 := fun _ => (List V → RO) → RO → RO) (motive_2 := fun _ => Unit) (fun _ _ _ d => d) (fun _ _ d => d) (fun _ _ d => d) (fun _ d => d) (fun _ _ _ d => d) (fun _ d => d) (fun _ _ _ _ _ d => d) (fun _ _ _ _ _ d => d) (fun _ d => d) (fun _ _ d => d) (fun _ d => d)
    (fun _ _ _ _ d => d) (fun _ d => d) (fun _ _ _ _ d => d) (fun _ _ _ d => d) (fun l _ f _ => f l) (fun _ _ d => d) (fun _ _ _ _ d => d) (fun _ _ _ _ d => d) (fun _ _ _ _ d => d) (fun _ d => d) (fun _ _ _ d => d) (fun _ _ _ d => d) (fun _ _ d => d) (fun _ _ _ _ d => d) (fun _ _ _ d => d) (fun _ _ _ d => d) () (fun _ _ _ _ => ())
noncomputable def getB : V → RO → RO → RO → RO :=
  V.rec (motive_1 := fun _ => RO → RO → RO → RO) (motive_2 := fun _ => Unit) (fun _ _ _ _ d => d) (fun b x y _ => Bool.rec y x b) (fun _ _ _ d => d) (fun _ _ d => d) (fun _ _ _ _ d => d) (fun _ _ d => d) (fun _ _ _ _ _ _ d => d) (fun _ _ _ _ _ _ d => d) (fun _ _ d => d) (fun _ _ _ d => d) (fun _ _ d => d)
    (fun _ _ _ _ _ d => d) (fun _ _ d => d) (fun _ _ _ _ _ d => d) (fun _ _ _ _ d => d) (fun _ _ _ _ d => d) (fun _ _ _ d => d) (fun _ _ _ _ _ d => d) (fun _ _ _ _ _ d => d) (fun _ _ _ _ _ d => d) (fun _ _ d => d) (fun _ _ _ _ d => d) (fun _ _ _ _ d => d) (fun _ _ _ d => d) (fun _ _ _ _ _ d => d) (fun _ _ _ _ d => d) (fun _ _ _ _ d => d) () (fun _ _ _ _ => ())
noncomputable def oneQ : V → Bool :=
  V.one
noncomputable def wB1 : V → Bool :=
  V.rec (motive_1 := fun _ => Bool) (motive_2 := fun _ => Unit) (fun _ _  => false) (fun b => b) (fun _  => false) (false) (fun _ _  => false) (false) (fun _ _ _ _  => false) (fun _ _ _ _  => false) (false) (fun _  => false) (false) (fun _ _ _  => false) (false) (fun _ _ _  => false) (fun _ _  => false) (fun _ _  => false) (fun _  => false) (fun _ _ _  => false) (fun _ _ _  => false) (fun _ _ _  => false) (false) (fun _ _  => false) (fun _ _ => false) (fun _ => false) (fun _ _ _ => false) (fun _ _ => false) (fun _ _ => false) () (fun _ _ _ _ => ())
noncomputable def wB0 : V → Bool :=
  V.rec (motive_1 := fun _ => Bool) (motive_2 := fun _ => Unit) (fun _ _  => false) (fun b => not b) (fun _  => false) (false) (fun _ _  => false) (false) (fun _ _ _ _  => false) (fun _ _ _ _  => false) (false) (fun _  => false) (false) (fun _ _ _  => false) (false) (fun _ _ _  => false) (fun _ _  => false) (fun _ _  => false) (fun _  => false) (fun _ _ _  => false) (fun _ _ _  => false) (fun _ _ _  => false) (false) (fun _ _  => false) (fun _ _ => false) (fun _ => false) (fun _ _ _ => false) (fun _ _ => false) (fun _ _ => false) () (fun _ _ _ _ => ())
noncomputable def wB (b : Bool) : V → Bool :=
  Bool.rec (motive := fun _ => V → Bool) wB0 wB1 b
noncomputable def clsP : V → Nat :=
  V.rec (motive_1 := fun _ => Nat) (motive_2 := fun _ => Unit) (fun _ _  => 2) (fun _  => 2) (fun _  => 2) (0) (fun _ _ => 1) (2) (fun _ _ _ _  => 2) (fun _ _ _ _  => 2) (2) (fun _  => 2) (2) (fun _ _ _  => 2) (2) (fun _ _ _  => 2) (fun _ _  => 2) (fun _ _  => 2) (fun _  => 2) (fun _ _ _  => 2) (fun _ _ _  => 2) (fun _ _ _  => 2) (2) (fun _ _  => 2) (fun _ _ => 2) (fun _ => 2) (fun _ _ _ => 2) (fun _ _ => 2) (fun _ _ => 2) () (fun _ _ _ _ => ())
noncomputable def clsS : V → Nat :=
  V.rec (motive_1 := fun _ => Nat) (motive_2 := fun _ => Unit) (fun _ _  => 2) (fun _  => 2) (fun _  => 2) (2) (fun _ _  => 2) (0) (fun _ _ _ _ => 1) (fun _ _ _ _ => 1) (2) (fun _  => 2) (2) (fun _ _ _  => 2) (2) (fun _ _ _  => 2) (fun _ _  => 2) (fun _ _  => 2) (fun _  => 2) (fun _ _ _  => 2) (fun _ _ _  => 2) (fun _ _ _  => 2) (2) (fun _ _  => 2) (fun _ _ => 2) (fun _ => 2) (fun _ _ _ => 2) (fun _ _ => 2) (fun _ _ => 2) () (fun _ _ _ _ => ())
noncomputable def getL : V → (Nat → RO) → RO → RO :=
  V.rec (motive_1 := fun _ => (Nat → RO) → RO → RO) (motive_2 := fun _ => Unit) (fun _ _ _ d => d) (fun _ _ d => d) (fun _ _ d => d) (fun  _ d => d) (fun _ _ _ d => d) (fun f _ => f 0) (fun _ _ l _ f _ => f l) (fun _ _ l _ f _ => f l) (fun  _ d => d) (fun _ _ d => d) (fun  _ d => d) (fun _ _ _ _ d => d) (fun  _ d => d) (fun _ _ _ _ d => d) (fun _ _ _ d => d) (fun _ _ _ d => d) (fun _ _ d => d) (fun _ _ _ _ d => d) (fun _ _ _ _ d => d) (fun _ _ _ _ d => d) (fun  _ d => d) (fun _ _ _ d => d) (fun _ _ _ d => d) (fun _ _ d => d) (fun _ _ _ _ d => d) (fun _ _ _ d => d) (fun _ _ _ d => d) () (fun _ _ _ _ => ())
noncomputable def getSl : V → (Nat → Nat → Nat → RO) → RO → RO :=
  V.rec (motive_1 := fun _ => (Nat → Nat → Nat → RO) → RO → RO) (motive_2 := fun _ => Unit) (fun _ _ _ d => d) (fun _ _ d => d) (fun _ _ d => d) (fun  _ d => d) (fun _ _ _ d => d) (fun  _ d => d) (fun b o l _ f _ => f b o l) (fun b o l _ f _ => f b o l) (fun  _ d => d) (fun _ _ d => d) (fun  _ d => d) (fun _ _ _ _ d => d) (fun  _ d => d) (fun _ _ _ _ d => d) (fun _ _ _ d => d) (fun _ _ _ d => d) (fun _ _ d => d) (fun _ _ _ _ d => d) (fun _ _ _ _ d => d) (fun _ _ _ _ d => d) (fun  _ d => d) (fun _ _ _ d => d) (fun _ _ _ d => d) (fun _ _ d => d) (fun _ _ _ _ d => d) (fun _ _ _ d => d) (fun _ _ _ d => d) () (fun _ _ _ _ => ())
noncomputable def cellsQ : V → List V :=
  V.cells
noncomputable def getA : V → (List V → RO) → RO → RO :=
  V.rec (motive_1 := fun _ => (List V → RO) → RO → RO) (motive_2 := fun _ => Unit) (fun _ _ _ d => d) (fun _ _ d => d) (fun _ _ d => d) (fun _ d => d) (fun _ _ _ d => d) (fun _ d => d) (fun _ _ _ _ _ d => d) (fun _ _ _ _ _ d => d) (fun _ d => d) (fun _ _ d => d) (fun _ d => d) (fun _ _ _ _ d => d) (fun _ d => d) (fun _ _ _ _ d => d) (fun l _ f _ => f l) (fun _ _ _ d => d) (fun _ _ d => d) (fun _ _ _ _ d => d) (fun _ _ _ _ d => d) (fun _ _ _ _ d => d) (fun _ d => d) (fun _ _ _ d => d) (fun _ _ _ d => d) (fun _ _ d => d) (fun _ _ _ _ d => d) (fun _ _ _ d => d) (fun _ _ _ d => d) () (fun _ _ _ _ => ())
noncomputable def isI64 : IntKind → Bool := IntKind.rec (motive := fun _ => Bool) false false false true false false false false
noncomputable def getC : B → (T V → Nat → RO) → RO → RO := B.rec (motive := fun _ => (T V → Nat → RO) → RO → RO) (fun t n f _ => f t n) (fun _ _ _ d => d) (fun _ _ _ _ _ d => d) (fun _ _ _ _ _ d => d) (fun _ d => d)
/-- An operand. -/
noncomputable def opdC (x : Operand) : Bx (T V → V) :=
  match x with
  | .tmp i => pathG un 64 i
  | .const v => (match ofV v with | some v => .mk (fun _ => v) | none => .no)
  | .func n => .mk (fun _ => .fn n [])
  | .global _ => .no
noncomputable def with1 {α : Type} (x : Operand) (f : (T V → V) → Bx α) : Bx α := Bx.rec (motive := fun _ => Bx α) .no f (opdC x)
noncomputable def argsC (l : List Operand) : Bx (T V → List V) :=
  List.rec (motive := fun _ => Bx (T V → List V)) (.mk (fun _ => [])) (fun x _ r => with1 x (fun g => Bx.rec (motive := fun _ => Bx (T V → List V)) .no (fun gs => .mk (fun t => g t :: gs t)) r)) l
/-- Operators upon plain integers. -/
noncomputable def iAdd (slow : RO) (f : V → RO) (a b : Int) : RO := Int.rec (motive := fun _ => RO) (fun m => Int.rec (motive := fun _ => RO) (fun n => bif Nat.ble (Nat.add m n) 9223372036854775807 then fN (Nat.add m n) (fun r => f (.int .i64 (.ofNat r))) else slow) (fun _ => slow) b) (fun _ => slow) a
noncomputable def iCmp (c : Nat → Nat → Bool) (slow : RO) (f : V → RO) (a b : Int) : RO := Int.rec (motive := fun _ => RO) (fun m => Int.rec (motive := fun _ => RO) (fun n => f (.bool (c m n))) (fun _ => slow) b) (fun _ => slow) a
noncomputable def opI (op : BinOp) : Bx (RO → (V → RO) → Int → Int → RO) :=
  match op with
  | .add => .mk iAdd
  | .lss => .mk (iCmp (fun a b => Nat.ble (Nat.succ a) b))
  | .leq => .mk (iCmp (fun a b => Nat.ble a b))
  | .gtr => .mk (iCmp (fun a b => Nat.ble (Nat.succ b) a))
  | .geq => .mk (iCmp (fun a b => Nat.ble b a))
  | .eql => .mk (iCmp (fun a b => Nat.beq a b))
  | .neq => .mk (iCmp (fun a b => not (Nat.beq a b)))
  | _ => .no
noncomputable def bin2 (op : BinOp) (P : Program) (ty : TypeId) (c : Bool) (v u : V) (h : H) (s : Nat) (k : K) : RO :=
  match ubin op v u with
  | true => .or (k (.bool true) h s) (k (.bool false) h s)
  | false => vbin P op ty c v u (fun x => k x h s)
/-- By kinds: 0 nil, 1 something. -/
noncomputable def eqN (e : Bool) (a b : Nat) (f : V → RO) (slow : RO) : RO :=
  Nat.rec (motive := fun _ => RO) (Nat.rec (motive := fun _ => RO) (f (.bool e)) (fun p _ => Nat.rec (motive := fun _ => RO) (f (.bool (not e))) (fun _ _ => slow) p) b)
    (fun q _ => Nat.rec (motive := fun _ => RO) (Nat.rec (motive := fun _ => RO) (f (.bool (not e))) (fun _ _ => slow) b) (fun _ _ => slow) q) a
noncomputable def nilKind (P : Program) (ty : TypeId) : Bx (V → Nat) := match P.underlying ty with | some (.pointer _) => .mk clsP | some (.slice _) => .mk clsS | _ => .no
def eqOp (op : BinOp) : Bx Bool := match op with | .eql => .mk true | .neq => .mk false | _ => .no
noncomputable def binC (op : BinOp) (P : Program) (ty : TypeId) (c : Bool) (gx gy : T V → V) : OC :=
  Bx.rec (motive := fun _ => OC) (fun _ t h s k => bin2 op P ty c (gx t) (gy t) h s k)
    (fun q => fun _ t h s k => getI (gx t) (fun k1 a => getI (gy t) (fun k2 b => bif isI64 k1 then (bif isI64 k2 then q (bin2 op P ty c (gx t) (gy t) h s k) (fun x => k x h s) a b else bin2 op P ty c (gx t) (gy t) h s k) else bin2 op P ty c (gx t) (gy t) h s k) (bin2 op P ty c (gx t) (gy t) h s k)) (bin2 op P ty c (gx t) (gy t) h s k)) (opI op)
def oneCell (P : Program) (ty : TypeId) : Bool := match P.underlying ty with | some (.struct _) => false | some (.array _ _) => false | some _ => true | none => false
noncomputable def ld1 (b o : Nat) (h : H) (f : V → RO) : RO :=
  qget .gone b h (fun x => getC x (fun t n => bif Nat.ble (Nat.succ o) n then qget un o t f else .err 31) (.err 32))
noncomputable def st1 (b o : Nat) (h : H) (v : V) (f : H → RO) : RO :=
  qget .gone b h (fun x => getC x (fun t n => bif Nat.ble (Nat.succ o) n then (bif oneQ v then qset o t v (fun t => qset b h (.cells t n) f) else .err 34) else .err 33) (.err 35))
noncomputable def putsC : Nat → List V → T V → (T V → RO) → RO := fun i l => List.rec (motive := fun _ => Nat → T V → (T V → RO) → RO) (fun _ t f => f t) (fun v _ r i t f => qset i t v (fun t => r (Nat.succ i) t f)) l i
noncomputable def retC (rs : List ResultVar) : Bx (T V → List V) :=
  List.rec (motive := fun _ => Bx (T V → List V)) (.mk (fun _ => [])) (fun x _ r => match x with
    | .tmp i => Bx.rec (motive := fun _ => Bx (T V → List V)) .no (fun g => Bx.rec (motive := fun _ => Bx (T V → List V)) .no (fun gs => .mk (fun t => g t :: gs t)) r) (pathG un 64 i)
    | .cell _ _ => .no) rs
noncomputable def finC (P : Program) (rs : List ResultVar) : T V → H → Nat → K → RO :=
  Bx.rec (motive := fun _ => T V → H → Nat → K → RO) (fun t h s k => fin P rs t h s k) (fun g => fun t h s k => k (tupV (g t)) h s) (retC rs)
noncomputable def callC (P : Program) (pr : Prims) (f : Nat) (gs : T V → List V) (m : Nat) : Bx OC :=
  match pr f with
  | some g => .mk (fun _ t h s k => g (gs t) h s k)
  | none => (match fnOf P f with
    | .fn c n rs => bif Nat.ble m n then .mk (fun ih t h s k => putsC 0 (gs t) (T.mk un (Nat.succ (Nat.log2 (Nat.succ n))) n) (fun t => (ih c t h s).bnd (fun t h s => finC P rs t h s k) (fun _ _ _ _ => .err 122) (fun t h s => finC P rs t h s k))) else .no
    | .none => .no)
/-- Parts in ascending order, laid in one pass. -/
noncomputable def fillQ (place : Nat → Option (Nat × Nat)) (l : List (Nat × V)) : Nat → Nat → List V → (List V → RO) → RO :=
  List.rec (motive := fun _ => Nat → Nat → List V → (List V → RO) → RO) (fun _ _ rest f => f rest)
    (fun p _ r pos rem rest f => match place p.1 with
      | some (o, z) => bif Nat.ble pos o && Nat.beq (len (cellsQ p.2)) z && Nat.ble (Nat.add (Nat.sub o pos) z) rem then
          r (Nat.add o z) (Nat.sub rem (Nat.add (Nat.sub o pos) z)) (rest.drop (Nat.add (Nat.sub o pos) z)) (fun tl => f (rest.take (Nat.sub o pos) ++ (cellsQ p.2 ++ tl))) else .err 250
      | none => .err 43) l
noncomputable def ascOk (place : Nat → Option (Nat × Nat)) (l : List (Nat × Operand)) : Nat → Bool :=
  List.rec (motive := fun _ => Nat → Bool) (fun _ => true) (fun p _ r pos => match place p.1 with | some (o, z) => bif Nat.ble pos o then r (Nat.add o z) else false | none => false) l
noncomputable def partsC (l : List (Nat × Operand)) : Bx (T V → List (Nat × V)) :=
  List.rec (motive := fun _ => Bx (T V → List (Nat × V))) (.mk (fun _ => [])) (fun p _ r => with1 p.2 (fun g => Bx.rec (motive := fun _ => Bx (T V → List (Nat × V))) .no (fun gs => .mk (fun t => (p.1, g t) :: gs t)) r)) l
noncomputable def buildC (place : Nat → Option (Nat × Nat)) (z : List V) (l : List (Nat × Operand)) (slow : OC) : Bx OC :=
  bif ascOk place l 0 then Bx.rec (motive := fun _ => Bx OC) (.mk slow) (fun gs => .mk (fun _ t h s k => fillQ place (gs t) 0 (len z) z (fun cs => k (.agg cs) h s))) (partsC l) else .mk slow
noncomputable def opC (dyn : OC) (P : Program) (pr : Prims) (o : Oper) : Bx OC :=
  match o.op with
  | .binOp op ty x y _ => with1 x (fun gx => with1 y (fun gy =>
      Bx.rec (motive := fun _ => Bx OC) (.mk (binC op P ty (isC x y) gx gy)) (fun e => Bx.rec (motive := fun _ => Bx OC) (.mk (binC op P ty (isC x y) gx gy))
        (fun q => .mk (fun _ t h s k => eqN e (q (gx t)) (q (gy t)) (fun v => k v h s) (bin2 op P ty (isC x y) (gx t) (gy t) h s k))) (nilKind P ty)) (eqOp op)))
  | .move x => with1 x (fun gx => .mk (fun _ t h s k => k (gx t) h s))
  | .assign x => with1 x (fun gx => .mk (fun _ t h s k => k (gx t) h s))
  | .call c => (match c.callee with
    | .value (.func f) => Bx.rec (motive := fun _ => Bx OC) .no (fun gs => callC P pr f gs (len2 c.args.toList)) (argsC c.args.toList)
    | .value _ => .mk dyn
    | .builtin .len => (match c.argTypes.toList, c.args.toList with
      | ty :: _, [x] => (match P.underlying ty with
        | some (.slice _) => with1 x (fun gx => .mk (fun ih t h s k => getL (gx t) (fun n => k (.int .i64 (.ofNat n)) h s) (oCall c P pr ih t h s k)))
        | _ => .mk (oCall c P pr))
      | _, _ => .mk (oCall c P pr))
    | _ => .mk (oCall c P pr))
  | .load ty x => bif oneCell P ty then with1 x (fun gx => .mk (fun ih t h s k => getP (gx t) (fun b o => ld1 b o h (fun v => k v h s)) (oLoad ty x P pr ih t h s k))) else .mk (oLoad ty x P pr)
  | .store ty x y => bif Nat.beq (P.cellsOf ty) 1 && oneCell P ty then with1 x (fun gx => with1 y (fun gy => .mk (fun _ t h s k => getP (gx t) (fun b o => st1 b o h (gy t) (fun h => k un h s)) (.err 48)))) else .mk (oStore ty x y P pr)
  | .fieldAddr ty x i => (match P.underlying ty with
    | some (.struct fs) => (match fs[i]? with
      | some f => bif Nat.beq (P.cellsOf f.type) 0 then .no else with1 x (fun gx => (fun off => .mk (fun _ t h s k => getP (gx t) (fun b o => fN (Nat.add o off) (fun o => k (.ptr b o) h s)) (.err 67))) f.offset)
      | none => .no)
    | _ => .no)
  | .nilCheck x => with1 x (fun gx => .mk (fun ih t h s k => getP (gx t) (fun b o => k (.ptr b o) h s) (oNilCheck x P pr ih t h s k)))
  | .extract x i => with1 x (fun gx => .mk (fun _ t h s k => getT (gx t) (fun l => match l.drop i with | v :: _ => k v h s | [] => .err 96) (.err 97)))
  | .alloc e => .mk (oAlloc e P pr)
  | .box e x => .mk (oBox e x P pr)
  | .build ty ps => (match P.underlying ty with
    | some (.struct fs) => (match placesOf P fs, zeroV P ty with
      | some pl, some z => buildC (fun i => pl[i]?) z.cells ps.toList (oBuild ty ps P pr)
      | _, _ => .mk (oBuild ty ps P pr))
    | some (.array _ e) => (match P.info? e, zeroV P ty with
      | some _, some z => buildC (fun i => some (i * P.cellsOf e, P.cellsOf e)) z.cells ps.toList (oBuild ty ps P pr)
      | _, _ => .mk (oBuild ty ps P pr))
    | _ => .mk (oBuild ty ps P pr))
  | .buildSlice t n ps => .mk (oBuildSlice t n ps P pr)
  | .unOp op ty x => (match op with
    | .not => with1 x (fun gx => .mk (fun _ t h s k => getB (gx t) (k (.bool false) h s) (k (.bool true) h s) (.err 51)))
    | op => .mk (oUn op ty x P pr))
  | .convert a b x => bif Nat.beq a b then .mk (oMark a x P pr) else .mk (oConvert a b x P pr)
  | .slice t x l hh m => .mk (oSlice t x l hh m P pr)
  | .field ty x i => (match P.underlying ty with
    | some (.struct fs) => (match fs[i]? with
      | some f => bif oneCell P f.type then with1 x (fun gx => (fun off => .mk (fun _ t h s k => getA (gx t) (fun cs => match cs.drop off with | v :: _ => k v h s | [] => .err 69) (.err 70))) f.offset) else .mk (oField ty x i P pr)
      | none => .mk (oField ty x i P pr))
    | _ => .mk (oField ty x i P pr))
  | .indexAddr ty x i => (match P.underlying ty with
    | some (.slice e) => with1 x (fun gx => with1 i (fun gi => (fun z => bif Nat.ble 1 z then
        .mk (fun ih t h s k => getSl (gx t) (fun b o l => getI (gi t) (fun _ i => Int.rec (motive := fun _ => RO) (fun i => bif Nat.ble (Nat.succ i) l then fN (Nat.add o (Nat.mul i z)) (fun o => k (.ptr b o) h s) else .err 73) (fun _ => .err 75) i) (.err 75)) (oIndexAddr ty x i P pr ih t h s k)) else .mk (oIndexAddr ty x i P pr)) (P.cellsOf e)))
    | _ => .mk (oIndexAddr ty x i P pr))
  | .index t x i => .mk (oIndex t x i P pr)
  | .pick c a b => with1 c (fun gc => with1 a (fun ga => with1 b (fun gb => .mk (fun _ t h s k => getB (gc t) (k (ga t) h s) (k (gb t) h s) (.err 40)))))
  | .lookup ty x i ok => .mk (oLookup ty x i ok P pr)
  | .mapUpdate ty m i x => .mk (oMapUpdate ty m i x P pr)
  | .range t x => .mk (oRange t x P pr)
  | .next x b => .mk (oNext x b P pr)
  | .entry x => .mk (oEntry x P pr)
  | .makeFunc f a b => .mk (oMakeFunc f a b P pr)
  | .makeMap t r => .mk (oMakeMap t r P pr)
  | .makeSlice t l c => .mk (oMakeSlice t l c P pr)
  | .makeInterface t x => .mk (oMakeIface t x P pr)
  | op => .mk (opF op P pr)
where len2 (l : List Operand) : Nat := l.length
noncomputable def wantC (all : List Oper) (g : Option (Nat × Bool)) : Bx (T V → Bool) :=
  match g with
  | none => .no
  | some (j, b) => (match all.drop j with
    | o :: _ => (match o.dst with
      | some d => Bx.rec (motive := fun _ => Bx (T V → Bool)) (.mk (fun t => want all t (some (j, b)))) (fun g => .mk (fun t => wB b (g t))) (pathG un 64 d)
      | none => .mk (fun _ => false))
    | [] => .mk (fun _ => false))
noncomputable def dstC (d : Option Tmp) : Bx (T V → V → T V) := match d with | some d => pathS 64 d | none => .mk (fun t _ => t)
noncomputable def appR (b : Bx RC) (ih : Rn) (t : T V) (h : H) (s : Nat) : RO := Bx.rec (motive := fun _ => RO) (.err 222) (fun f => f ih t h s) b
noncomputable def regC (P : Program) (pr : Prims) (all : List Oper) (l : List Oper) : Bx RC :=
  List.rec (motive := fun _ => Bx RC) (.mk (fun _ t h s => .norm t h s)) (fun o _ r =>
    Bx.rec (motive := fun _ => Bx RC) .no (fun d => Bx.rec (motive := fun _ => Bx RC) .no (fun f =>
      Bx.rec (motive := fun _ => Bx RC) (.mk (fun ih t h s => f ih t h s (fun v h s => appR r ih (d t v) h s)))
        (fun w => .mk (fun ih t h s => Bool.rec (motive := fun _ => RO) (appR r ih (d t un) h s) (f ih t h s (fun v h s => appR r ih (d t v) h s)) (w t))) (wantC all o.guard)) (opC (fun ih t h s k => opers1 (yieldV P pr ih) o P pr ih t h s k) P pr o)) (dstC o.dst)) l
structure OBC where
  j : Nat
  f : OC
  t : T V
  v : V
abbrev DC := Nat → Rn → T V → H → Nat → Nat → List AL → List HI → List OBC → RO
noncomputable def appD (b : Bx DC) : DC := Bx.rec (motive := fun _ => DC) (fun _ _ _ _ _ _ _ _ _ => .err 223) (fun f => f) b
/-- The one value that a piece leaves. -/
noncomputable def nrm (r : RO) (c : V → H → Nat → RO) : RO :=
  RO.rec (motive := fun _ => RO) (fun t h s => T.rec (motive := fun _ => RO) (.err 162) (fun v _ _ _ _ => c v h s) t) (fun _ _ _ _ => .err 162) (fun _ _ _ => .err 162) (fun n => .err n) (fun _ _ _ _ => .err 162) r
noncomputable def nrmB (r : RO) (c : V → Bool) : Bool :=
  RO.rec (motive := fun _ => Bool) (fun t h s => T.rec (motive := fun _ => Bool) false (fun v _ _ _ _ => c v) t) (fun _ _ _ _ => false) (fun _ _ _ => false) (fun n => false) (fun _ _ _ _ => false) r
noncomputable def histC (f : OC) (t : T V) (v : V) (m : Nat) (ih : Rn) (l : List HI) : Bool :=
  List.rec (motive := fun _ => Bool) true (fun x _ r => bif bitB m x.j then r else (bif nrmB (f ih t x.g 0 kid0) (fun u => veqB u v) then r else false)) l
noncomputable def oblC (g : H) (m : Nat) (ih : Rn) (l : List OBC) : Bool :=
  List.rec (motive := fun _ => Bool) true (fun x _ r => bif bitB m x.j then r else (bif nrmB (x.f ih x.t g 0 kid0) (fun u => veqB u x.v) then r else false)) l
noncomputable def d0 (f : OC) (d : T V → V → T V) (r : Bx DC) : DC := fun lim ih t g s q al hi ob => nrm (f ih t E0 0 kid0) (fun v _ _ => appD r lim ih (d t v) g s q al hi ob)
noncomputable def d1 (j m : Nat) (f : OC) (d : T V → V → T V) (r : Bx DC) : DC := fun lim ih t g s q al hi ob => nrm (f ih t g 0 kid0) (fun v _ _ => bif histC f t v m ih hi then appD r lim ih (d t v) g s q al hi (⟨j, f, t, v⟩ :: ob) else .err 163)
noncomputable def d2 (j : Nat) (f : OC) (d : T V → V → T V) (r : Bx DC) : DC := fun lim ih t g s q al hi ob => nrm (f ih t E0 q kid) (fun v h' _ => appD r lim ih (d t v) g s (Nat.succ q) (⟨j, q, h'.get .gone q⟩ :: al) hi ob)
noncomputable def d3 (j m : Nat) (f : OC) (d : T V → V → T V) (r : Bx DC) : DC := fun lim ih t g s q al hi ob => nrm (f ih t (addAll (pickM true m al) g) s kid) (fun v g' s' => bif oblC g' m ih ob then appD r lim ih (d t v) g' s' q (pickM false m al) (⟨j, g⟩ :: hi) ob else .err 166)
noncomputable def dcls (c j m : Nat) (f : OC) (d : T V → V → T V) (r : Bx DC) : Bx DC := match c with | 0 => .mk (d0 f d r) | 1 => .mk (d1 j m f d r) | 2 => .mk (d2 j f d r) | _ => .mk (d3 j m f d r)
noncomputable def dpC (P : Program) (pr : Prims) (all : List Oper) (mks : List Nat) (l : List Oper) : Nat → Bx DC :=
  List.rec (motive := fun _ => Nat → Bx DC) (fun _ => .mk (fun lim _ t g s q al _ _ => bif Nat.ble q lim then .norm t (addAll al g) s else .err 161)) (fun o _ r j =>
    Bx.rec (motive := fun _ => Bx DC) .no (fun d => Bx.rec (motive := fun _ => Bx DC) .no (fun f =>
      Bx.rec (motive := fun _ => Bx DC) (dcls (cls o.op) j (nthN mks j) f d (r (Nat.succ j)))
        (fun w => Bx.rec (motive := fun _ => Bx DC) .no (fun q0 => .mk (fun lim ih t g s q al hi ob => Bool.rec (motive := fun _ => RO) (appD (r (Nat.succ j)) lim ih (d t un) g s q al hi ob) (q0 lim ih t g s q al hi ob) (w t))) (dcls (cls o.op) j (nthN mks j) f d (r (Nat.succ j)))) (wantC all o.guard)) (opC (fun ih t h s k => opers1 noYl o P pr ih t h s k) P pr o)) (dstC o.dst)) l
noncomputable def drawnC (P : Program) (pr : Prims) (ops : List Oper) : Bx RC :=
  bif drawOk ops then Bx.rec (motive := fun _ => Bx RC) .no (fun f => .mk (fun ih t h s => (fun s' => f s' ih t h s' s [] [] []) (Nat.add s (makes ops)))) (dpC P pr ops (masks ops []) ops 0) else .no
noncomputable def codC (P : Program) (pr : Prims) (c : Code) : Bx RC :=
  Code.rec (motive := fun _ => Bx RC)
    (.mk (fun _ t h s => .norm t h s))
    (fun _ ops d => Bool.rec (regC P pr ops.toList ops.toList) (drawnC P pr ops.toList) d)
    (fun _ _ a b => .mk (fun ih t h s => (appR a ih t h s).bnd (fun t h s => appR b ih t h s) .exit .ret))
    (fun x _ _ a b => Bx.rec (motive := fun _ => Bx RC) .no (fun g => .mk (fun ih t h s => getB (g t) (appR a ih t h s) (appR b ih t h s) (.err 140))) (opdC x))
    (fun id _ a => .mk (fun ih t h s => (appR a ih t h s).bnd .norm (fun i t h s => bif Nat.beq i id then .norm t h s else .exit i t h s) .ret))
    (fun c a => .mk (fun ih t h s => (appR a ih t h s).bnd (fun t h s => ih (.loop c) t h s) .exit .ret))
    (fun _ _ _ _ _ _ => .no)
    (fun id => .mk (fun _ t h s => .exit id t h s))
    (fun _ _ => .no)
    (fun _ => .mk (fun _ t h s => .norm t h s))
    (fun _ => .no)
    (.mk (fun _ t h s => .ret t h s))
    (fun _ => .no) c
noncomputable def runF (P : Program) (pr : Prims) (n : Nat) : Rn := Nat.rec (motive := fun _ => Rn) (fun _ _ _ _ => .err 1) (fun _ ih c t h s => appR (codC P pr c) ih t h s) n
end Go.Ev
