/- An evaluator of the model's code: its quick form. An evaluator of the model's code, third part: the laws of blocks, temporaries and operands. -/
import Derived.Test.YtnklmadmenkdoaaGreatQEvB
set_option linter.unusedVariables false
set_option linter.unusedSimpArgs false
namespace Go.Ev
/-! The quick form: pieces of code are turned, once each, into functions. -/
abbrev OC := Rn → T V → H → Nat → K → RO
abbrev RC := Rn → T V → H → Nat → RO
/-- A number, worked out. -/
noncomputable def fN (n : Nat) (f : Nat → RO) : RO := Nat.rec (motive := fun _ => RO) (f 0) (fun p _ => f (Nat.succ p)) n
noncomputable def qget {α : Type} (d : α) (n : Nat) (t : T α) (f : α → RO) : RO := fN n (fun n => Bx.rec (motive := fun _ => RO) (.err 230) (fun g => f (g t)) (pathG d 64 n))
noncomputable def qset {α : Type} (n : Nat) (t : T α) (x : α) (f : T α → RO) : RO := fN n (fun n => Bx.rec (motive := fun _ => RO) (.err 231) (fun g => f (g t x)) (pathS 64 n))
/-- What kind of value. -/
noncomputable def getI : V → (IntKind → Int → RO) → RO → RO :=
  V.rec (motive_1 := fun _ => (IntKind → Int → RO) → RO → RO) (motive_2 := fun _ => Unit) (fun k a f _ => f k a) (fun _ _ d => d) (fun _ _ d => d) (fun _ d => d) (fun _ _ _ d => d) (fun _ d => d) (fun _ _ _ _ _ d => d) (fun _ _ _ _ _ d => d) (fun _ d => d) (fun _ _ d => d) (fun _ d => d)
    (fun _ _ _ _ d => d) (fun _ d => d) (fun _ _ _ _ d => d) (fun _ _ _ d => d) (fun _ _ _ d => d) (fun _ _ d => d) (fun _ _ _ _ d => d) (fun _ _ _ _ d => d) (fun _ _ _ _ d => d) (fun _ d => d) (fun _ _ _ d => d) (fun _ _ _ d => d) (fun _ _ d => d) (fun _ _ _ _ d => d) (fun _ _ _ d => d) (fun _ _ _ d => d) () (fun _ _ _ _ => ())
noncomputable def getP : V → (Nat → Nat → RO) → RO → RO :=
  V.rec (motive_1 := fun _ => (Nat → Nat → RO) → RO → RO) (motive_2 := fun _ => Unit) (fun _ _ _ d => d) (fun _ _ d => d) (fun _ _ d => d) (fun _ d => d) (fun b o f _ => f b o) (fun _ d => d) (fun _ _ _ _ _ d => d) (fun _ _ _ _ _ d => d) (fun _ d => d) (fun _ _ d => d) (fun _ d => d)
    (fun _ _ _ _ d => d) (fun _ d => d) (fun _ _ _ _ d => d) (fun _ _ _ d => d) (fun _ _ _ d => d) (fun _ _ d => d) (fun _ _ _ _ d => d) (fun _ _ _ _ d => d) (fun _ _ _ _ d => d) (fun _ d => d) (fun _ _ _ d => d) (fun _ _ _ d => d) (fun _ _ d => d) (fun _ _ _ _ d => d) (fun _ _ _ d => d) (fun _ _ _ d => d) () (fun _ _ _ _ => ())
noncomputable def getT : V → (List V → RO) → RO → RO :=
  V.rec (motive_1 := fun _ => (List V → RO) → RO → RO) (motive_2 := fun _ => Unit) (fun _ _ _ d => d) (fun _ _ d => d) (fun _ _ d => d) (fun _ d => d) (fun _ _ _ d => d) (fun _ d => d) (fun _ _ _ _ _ d => d) (fun _ _ _ _ _ d => d) (fun _ d => d) (fun _ _ d => d) (fun _ d => d)
    (fun _ _ _ _ d => d) (fun _ d => d) (fun _ _ _ _ d => d) (fun _ _ _ d => d) (fun l _ f _ => f l) (fun _ _ d => d) (fun _ _ _ _ d => d) (fun _ _ _ _ d => d) (fun _ _ _ _ d => d) (fun _ d => d) (fun _ _ _ d => d) (fun _ _ _ d => d) (fun _ _ d => d) (fun _ _ _ _ d => d) (fun _ _ _ d => d) (fun _ _ _ d => d) () (fun _ _ _ _ => ())
noncomputable def getB : V → RO → RO → RO → RO :=
  V.rec (motive_1 := fun _ => RO → RO → RO → RO) (motive_2 := fun _ => Unit) (fun _ _ _ _ d => d) (fun b x y _ => Bool.rec y x b) (fun _ _ _ d => d) (fun _ _ d => d) (fun _ _ _ _ d => d) (fun _ _ d => d) (fun _ _ _ _ _ _ d => d) (fun _ _ _ _ _ _ d => d) (fun _ _ d => d) (fun _ _ _ d => d) (fun _ _ d => d)
    (fun _ _ _ _ _ d => d) (fun _ _ d => d) (fun _ _ _ _ _ d => d) (fun _ _ _ _ d => d) (fun _ _ _ _ d => d) (fun _ _ _ d => d) (fun _ _ _ _ _ d => d) (fun _ _ _ _ _ d => d) (fun _ _ _ _ _ d => d) (fun _ _ d => d) (fun _ _ _ _ d => d) (fun _ _ _ _ d => d) (fun _ _ _ d => d) (fun _ _ _ _ _ d => d) (fun _ _ _ _ d => d) (fun _ _ _ _ d => d) () (fun _ _ _ _ => ())
noncomputable def oneQ : V → Bool :=
  V.one
noncomputable def wB1 : V → Bool :=
  V.rec (motive_1 := fun _ => Bool) (motive_2 := fun _ => Unit) (fun _ _  => false) (fun b => b) (fun _  => false) (false) (fun _ _  => false) (false) (fun _ _ _ _  => false) (fun _ _ _ _  => false) (false) (fun _  => false) (false) (fun _ _ _  => false) (false) (fun _ _ _  => false) (fun _ _  => false) (fun _ _  => false) (fun _  => false) (fun _ _ _  => false) (fun _ _ _  => false) (fun _ _ _  => false) (false) (fun _ _  => false) (fun _ _ => false) (fun _ => false) (fun _ _ _ => false) (fun _ _ => false) (fun _ _ => false) () (fun _ _ _ _ => ())
noncomputable def wB0 : V → Bool :=
  V.rec (motive_1 := fun _ => Bool) (motive_2 := fun _ => Unit) (fun _ _  => false) (fun b => not b) (fun _  => false) (false) (fun _ _  => false) (false) (fun _ _ _ _  => false) (fun _ _ _ _  => false) (false) (fun _  => false) (false) (fun _ _ _  => false) (false) (fun _ _ _  => false) (fun _ _  => false) (fun _ _  => false) (fun _  => false) (fun _ _ _  => false) (fun _ _ _  => false) (fun _ _ _  => false) (false) (fun _ _  => false) (fun _ _ => false) (fun _ => false) (fun _ _ _ => false) (fun _ _ => false) (fun _ _ => false) () (fun _ _ _ _ => ())
noncomputable def wB (b : Bool) : V → Bool :=
  Bool.rec (motive := fun _ => V → Bool) wB0 wB1 b
noncomputable def clsP : V → Nat :=
  V.rec (motive_1 := fun _ => Nat) (motive_2 := fun _ => Unit) (fun _ _  => 2) (fun _  => 2) (fun _  => 2) (0) (fun _ _ => 1) (2) (fun _ _ _ _  => 2) (fun _ _ _ _  => 2) (2) (fun _  => 2) (2) (fun _ _ _  => 2) (2) (fun _ _ _  => 2) (fun _ _  => 2) (fun _ _  => 2) (fun _  => 2) (fun _ _ _  => 2) (fun _ _ _  => 2) (fun _ _ _  => 2) (2) (fun _ _  => 2) (fun _ _ => 2) (fun _ => 2) (fun _ _ _ => 2) (fun _ _ => 2) (fun _ _ => 2) () (fun _ _ _ _ => ())
noncomputable def clsS : V → Nat :=
  V.rec (motive_1 := fun _ => Nat) (motive_2 := fun _ => Unit) (fun _ _  => 2) (fun _  => 2) (fun _  => 2) (2) (fun _ _  => 2) (0) (fun _ _ _ _ => 1) (fun _ _ _ _ => 1) (2) (fun _  => 2) (2) (fun _ _ _  => 2) (2) (fun _ _ _  => 2) (fun _ _  => 2) (fun _ _  => 2) (fun _  => 2) (fun _ _ _  => 2) (fun _ _ _  => 2) (fun _ _ _  => 2) (2) (fun _ _  => 2) (fun _ _ => 2) (fun _ => 2) (fun _ _ _ => 2) (fun _ _ => 2) (fun _ _ => 2) () (fun _ _ _ _ => ())
noncomputable def getL : V → (Nat → RO) → RO → RO :=
  V.rec (motive_1 := fun _ => (Nat → RO) → RO → RO) (motive_2 := fun _ => Unit) (fun _ _ _ d => d) (fun _ _ d => d) (fun _ _ d => d) (fun  _ d => d) (fun _ _ _ d => d) (fun f _ => f 0) (fun _ _ l _ f _ => f l) (fun _ _ l _ f _ => f l) (fun  _ d => d) (fun _ _ d => d) (fun  _ d => d) (fun _ _ _ _ d => d) (fun  _ d => d) (fun _ _ _ _ d => d) (fun _ _ _ d => d) (fun _ _ _ d => d) (fun _ _ d => d) (fun _ _ _ _ d => d) (fun _ _ _ _ d => d) (fun _ _ _ _ d => d) (fun  _ d => d) (fun _ _ _ d => d) (fun _ _ _ d => d) (fun _ _ d => d) (fun _ _ _ _ d => d) (fun _ _ _ d => d) (fun _ _ _ d => d) () (fun _ _ _ _ => ())
noncomputable def getSl : V → (Nat → Nat → Nat → RO) → RO → RO :=
  V.rec (motive_1 := fun _ => (Nat → Nat → Nat → RO) → RO → RO) (motive_2 := fun _ => Unit) (fun _ _ _ d => d) (fun _ _ d => d) (fun _ _ d => d) (fun  _ d => d) (fun _ _ _ d => d) (fun  _ d => d) (fun b o l _ f _ => f b o l) (fun b o l _ f _ => f b o l) (fun  _ d => d) (fun _ _ d => d) (fun  _ d => d) (fun _ _ _ _ d => d) (fun  _ d => d) (fun _ _ _ _ d => d) (fun _ _ _ d => d) (fun _ _ _ d => d) (fun _ _ d => d) (fun _ _ _ _ d => d) (fun _ _ _ _ d => d) (fun _ _ _ _ d => d) (fun  _ d => d) (fun _ _ _ d => d) (fun _ _ _ d => d) (fun _ _ d => d) (fun _ _ _ _ d => d) (fun _ _ _ d => d) (fun _ _ _ d => d) () (fun _ _ _ _ => ())
noncomputable def cellsQ : V → List V :=
  V.cells
noncomputable def getA : V → (List V → RO) → RO → RO :=
  V.rec (motive_1 := fun _ => (List V → RO) → RO → RO) (motive_2 := fun _ => Unit) (fun _ _ _ d => d) (fun _ _ d => d) (fun _ _ d => d) (fun _ d => d) (fun _ _ _ d => d) (fun _ d => d) (fun _ _ _ _ _ d => d) (fun _ _ _ _ _ d => d) (fun _ d => d) (fun _ _ d => d) (fun _ d => d) (fun _ _ _ _ d => d) (fun _ d => d) (fun _ _ _ _ d => d) (fun l _ f _ => f l) (fun _ _ _ d => d) (fun _ _ d => d) (fun _ _ _ _ d => d) (fun _ _ _ _ d => d) (fun _ _ _ _ d => d) (fun _ d => d) (fun _ _ _ d => d) (fun _ _ _ d => d) (fun _ _ d => d) (fun _ _ _ _ d => d) (fun _ _ _ d => d) (fun _ _ _ d => d) () (fun _ _ _ _ => ())
noncomputable def isI64 : IntKind → Bool := IntKind.rec (motive := fun _ => Bool) false false false true false false false false
noncomputable def getC : B → (T V → Nat → RO) → RO → RO := B.rec (motive := fun _ => (T V → Nat → RO) → RO → RO) (fun t n f _ => f t n) (fun _ _ _ d => d) (fun _ _ _ _ _ d => d) (fun _ _ _ _ _ d => d) (fun _ d => d)
/-- An operand. -/
noncomputable def opdC (x : Operand) : Bx (T V → V) :=
  match x with
  | .tmp i => pathG un 64 i
  | .const v => (match ofV v with | some v => .mk (fun _ => v) | none => .no)
  | .func n => .mk (fun _ => .fn n [])
  | .global _ => .no
noncomputable def with1 {α : Type} (x : Operand) (f : (T V → V) → Bx α) : Bx α := Bx.rec (motive := fun _ => Bx α) .no f (opdC x)
noncomputable def argsC (l : List Operand) : Bx (T V → List V) :=
  List.rec (motive := fun _ => Bx (T V → List V)) (.mk (fun _ => [])) (fun x _ r => with1 x (fun g => Bx.rec (motive := fun _ => Bx (T V → List V)) .no (fun gs => .mk (fun t => g t :: gs t)) r)) l
/-- Operators upon plain integers. -/
noncomputable def iAdd (slow : RO) (f : V → RO) (a b : Int) : RO := Int.rec (motive := fun _ => RO) (fun m => Int.rec (motive := fun _ => RO) (fun n => bif Nat.ble (Nat.add m n) 9223372036854775807 then fN (Nat.add m n) (fun r => f (.int .i64 (.ofNat r))) else slow) (fun _ => slow) b) (fun _ => slow) a
noncomputable def iCmp (c : Nat → Nat → Bool) (slow : RO) (f : V → RO) (a b : Int) : RO := Int.rec (motive := fun _ => RO) (fun m => Int.rec (motive := fun _ => RO) (fun n => f (.bool (c m n))) (fun _ => slow) b) (fun _ => slow) a
noncomputable def opI (op : BinOp) : Bx (RO → (V → RO) → Int → Int → RO) :=
  match op with
  | .add => .mk iAdd
  | .lss => .mk (iCmp (fun a b => Nat.ble (Nat.succ a) b))
  | .leq => .mk (iCmp (fun a b => Nat.ble a b))
  | .gtr => .mk (iCmp (fun a b => Nat.ble (Nat.succ b) a))
  | .geq => .mk (iCmp (fun a b => Nat.ble b a))
  | .eql => .mk (iCmp (fun a b => Nat.beq a b))
  | .neq => .mk (iCmp (fun a b => not (Nat.beq a b)))
  | _ => .no
noncomputable def bin2 (op : BinOp) (P : Program) (ty : TypeId) (c : Bool) (v u : V) (h : H) (s : Nat) (k : K) : RO :=
  match ubin op v u with
  | true => .or (k (.bool true) h s) (k (.bool false) h s)
  | false => vbin P op ty c v u (fun x => k x h s)
/-- By kinds: 0 nil, 1 something. -/
noncomputable def eqN (e : Bool) (a b : Nat) (f : V → RO) (slow : RO) : RO :=
  Nat.rec (motive := fun _ => RO) (Nat.rec (motive := fun _ => RO) (f (.bool e)) (fun p _ => Nat.rec (motive := fun _ => RO) (f (.bool (not e))) (fun _ _ => slow) p) b)
    (fun q _ => Nat.rec (motive := fun _ => RO) (Nat.rec (motive := fun _ => RO) (f (.bool (not e))) (fun _ _ => slow) b) (fun _ _ => slow) q) a
noncomputable def nilKind (P : Program) (ty : TypeId) : Bx (V → Nat) := match P.underlying ty with | some (.pointer _) => .mk clsP | some (.slice _) => .mk clsS | _ => .no
def eqOp (op : BinOp) : Bx Bool := match op with | .eql => .mk true | .neq => .mk false | _ => .no
noncomputable def binC (op : BinOp) (P : Program) (ty : TypeId) (c : Bool) (gx gy : T V → V) : OC :=
  Bx.rec (motive := fun _ => OC) (fun _ t h s k => bin2 op P ty c (gx t) (gy t) h s k)
    (fun q => fun _ t h s k => getI (gx t) (fun k1 a => getI (gy t) (fun k2 b => bif isI64 k1 then (bif isI64 k2 then q (bin2 op P ty c (gx t) (gy t) h s k) (fun x => k x h s) a b else bin2 op P ty c (gx t) (gy t) h s k) else bin2 op P ty c (gx t) (gy t) h s k) (bin2 op P ty c (gx t) (gy t) h s k)) (bin2 op P ty c (gx t) (gy t) h s k)) (opI op)
def oneCell (P : Program) (ty : TypeId) : Bool := match P.underlying ty with | some (.struct _) => false | some (.array _ _) => false | some _ => true | none => false
noncomputable def ld1 (b o : Nat) (h : H) (f : V → RO) : RO :=
  qget .gone b h (fun x => getC x (fun t n => bif Nat.ble (Nat.succ o) n then qget un o t f else .err 31) (.err 32))
noncomputable def st1 (b o : Nat) (h : H) (v : V) (f : H → RO) : RO :=
  qget .gone b h (fun x => getC x (fun t n => bif Nat.ble (Nat.succ o) n then (bif oneQ v then qset o t v (fun t => qset b h (.cells t n) f) else .err 34) else .err 33) (.err 35))
noncomputable def putsC : Nat → List V → T V → (T V → RO) → RO := fun i l => List.rec (motive := fun _ => Nat → T V → (T V → RO) → RO) (fun _ t f => f t) (fun v _ r i t f => qset i t v (fun t => r (Nat.succ i) t f)) l i
noncomputable def retC (rs : List ResultVar) : Bx (T V → List V) :=
  List.rec (motive := fun _ => Bx (T V → List V)) (.mk (fun _ => [])) (fun x _ r => match x with
    | .tmp i => Bx.rec (motive := fun _ => Bx (T V → List V)) .no (fun g => Bx.rec (motive := fun _ => Bx (T V → List V)) .no (fun gs => .mk (fun t => g t :: gs t)) r) (pathG un 64 i)
    | .cell _ _ => .no) rs
noncomputable def finC (P : Program) (rs : List ResultVar) : T V → H → Nat → K → RO :=
  Bx.rec (motive := fun _ => T V → H → Nat → K → RO) (fun t h s k => fin P rs t h s k) (fun g => fun t h s k => k (tupV (g t)) h s) (retC rs)
noncomputable def callC (P : Program) (pr : Prims) (f : Nat) (gs : T V → List V) (m : Nat) : Bx OC :=
  match pr f with
  | some g => .mk (fun _ t h s k => g (gs t) h s k)
  | none => (match fnOf P f with
    | .fn c n rs => bif Nat.ble m n then .mk (fun ih t h s k => putsC 0 (gs t) (T.mk un (Nat.succ (Nat.log2 (Nat.succ n))) n) (fun t => (ih c t h s).bnd (fun t h s => finC P rs t h s k) (fun _ _ _ _ => .err 122) (fun t h s => finC P rs t h s k))) else .no
    | .none => .no)
/-- Parts in ascending order, laid in one pass. -/
noncomputable def fillQ (place : Nat → Option (Nat × Nat)) (l : List (Nat × V)) : Nat → Nat → List V → (List V → RO) → RO :=
  List.rec (motive := fun _ => Nat → Nat → List V → (List V → RO) → RO) (fun _ _ rest f => f rest)
    (fun p _ r pos rem rest f => match place p.1 with
      | some (o, z) => bif Nat.ble pos o && Nat.beq (len (cellsQ p.2)) z && Nat.ble (Nat.add (Nat.sub o pos) z) rem then
          r (Nat.add o z) (Nat.sub rem (Nat.add (Nat.sub o pos) z)) (rest.drop (Nat.add (Nat.sub o pos) z)) (fun tl => f (rest.take (Nat.sub o pos) ++ (cellsQ p.2 ++ tl))) else .err 250
      | none => .err 43) l
noncomputable def ascOk (place : Nat → Option (Nat × Nat)) (l : List (Nat × Operand)) : Nat → Bool :=
  List.rec (motive := fun _ => Nat → Bool) (fun _ => true) (fun p _ r pos => match place p.1 with | some (o, z) => bif Nat.ble pos o then r (Nat.add o z) else false | none => false) l
noncomputable def partsC (l : List (Nat × Operand)) : Bx (T V → List (Nat × V)) :=
  List.rec (motive := fun _ => Bx (T V → List (Nat × V))) (.mk (fun _ => [])) (fun p _ r => with1 p.2 (fun g => Bx.rec (motive := fun _ => Bx (T V → List (Nat × V))) .no (fun gs => .mk (fun t => (p.1, g t) :: gs t)) r)) l
noncomputable def buildC (place : Nat → Option (Nat × Nat)) (z : List V) (l : List (Nat × Operand)) (slow : OC) : Bx OC :=
  bif ascOk place l 0 then Bx.rec (motive := fun _ => Bx OC) (.mk slow) (fun gs => .mk (fun _ t h s k => fillQ place (gs t) 0 (len z) z (fun cs => k (.agg cs) h s))) (partsC l) else .mk slow
noncomputable def opC (dyn : OC) (P : Program) (pr : Prims) (o : Oper) : Bx OC :=
  match o.op with
  | .binOp op ty x y _ => with1 x (fun gx => with1 y (fun gy =>
      Bx.rec (motive := fun _ => Bx OC) (.mk (binC op P ty (isC x y) gx gy)) (fun e => Bx.rec (motive := fun _ => Bx OC) (.mk (binC op P ty (isC x y) gx gy))
        (fun q => .mk (fun _ t h s k => eqN e (q (gx t)) (q (gy t)) (fun v => k v h s) (bin2 op P ty (isC x y) (gx t) (gy t) h s k))) (nilKind P ty)) (eqOp op)))
  | .move x => with1 x (fun gx => .mk (fun _ t h s k => k (gx t) h s))
  | .assign x => with1 x (fun gx => .mk (fun _ t h s k => k (gx t) h s))
  | .call c => (match c.callee with
    | .value (.func f) => Bx.rec (motive := fun _ => Bx OC) .no (fun gs => callC P pr f gs (len2 c.args.toList)) (argsC c.args.toList)
    | .value _ => .mk dyn
    | .builtin .len => (match c.argTypes.toList, c.args.toList with
      | ty :: _, [x] => (match P.underlying ty with
        | some (.slice _) => with1 x (fun gx => .mk (fun ih t h s k => getL (gx t) (fun n => k (.int .i64 (.ofNat n)) h s) (oCall c P pr ih t h s k)))
        | _ => .mk (oCall c P pr))
      | _, _ => .mk (oCall c P pr))
    | _ => .mk (oCall c P pr))
  | .load ty x => bif oneCell P ty then with1 x (fun gx => .mk (fun ih t h s k => getP (gx t) (fun b o => ld1 b o h (fun v => k v h s)) (oLoad ty x P pr ih t h s k))) else .mk (oLoad ty x P pr)
  | .store ty x y => bif Nat.beq (P.cellsOf ty) 1 && oneCell P ty then with1 x (fun gx => with1 y (fun gy => .mk (fun _ t h s k => getP (gx t) (fun b o => st1 b o h (gy t) (fun h => k un h s)) (.err 48)))) else .mk (oStore ty x y P pr)
  | .fieldAddr ty x i => (match P.underlying ty with
    | some (.struct fs) => (match fs[i]? with
      | some f => bif Nat.beq (P.cellsOf f.type) 0 then .no else with1 x (fun gx => (fun off => .mk (fun _ t h s k => getP (gx t) (fun b o => fN (Nat.add o off) (fun o => k (.ptr b o) h s)) (.err 67))) f.offset)
      | none => .no)
    | _ => .no)
  | .nilCheck x => with1 x (fun gx => .mk (fun ih t h s k => getP (gx t) (fun b o => k (.ptr b o) h s) (oNilCheck x P pr ih t h s k)))
  | .extract x i => with1 x (fun gx => .mk (fun _ t h s k => getT (gx t) (fun l => match l.drop i with | v :: _ => k v h s | [] => .err 96) (.err 97)))
  | .alloc e => .mk (oAlloc e P pr)
  | .box e x => .mk (oBox e x P pr)
  | .build ty ps => (match P.underlying ty with
    | some (.struct fs) => (match placesOf P fs, zeroV P ty with
      | some pl, some z => buildC (fun i => pl[i]?) z.cells ps.toList (oBuild ty ps P pr)
      | _, _ => .mk (oBuild ty ps P pr))
    | some (.array _ e) => (match P.info? e, zeroV P ty with
      | some _, some z => buildC (fun i => some (i * P.cellsOf e, P.cellsOf e)) z.cells ps.toList (oBuild ty ps P pr)
      | _, _ => .mk (oBuild ty ps P pr))
    | _ => .mk (oBuild ty ps P pr))
  | .buildSlice t n ps => .mk (oBuildSlice t n ps P pr)
  | .unOp op ty x => (match op with
    | .not => with1 x (fun gx => .mk (fun _ t h s k => getB (gx t) (k (.bool false) h s) (k (.bool true) h s) (.err 51)))
    | op => .mk (oUn op ty x P pr))
  | .convert a b x => bif Nat.beq a b then .mk (oMark a x P pr) else .mk (oConvert a b x P pr)
  | .slice t x l hh m => .mk (oSlice t x l hh m P pr)
  | .field ty x i => (match P.underlying ty with
    | some (.struct fs) => (match fs[i]? with
      | some f => bif oneCell P f.type then with1 x (fun gx => (fun off => .mk (fun _ t h s k => getA (gx t) (fun cs => match cs.drop off with | v :: _ => k v h s | [] => .err 69) (.err 70))) f.offset) else .mk (oField ty x i P pr)
      | none => .mk (oField ty x i P pr))
    | _ => .mk (oField ty x i P pr))
  | .indexAddr ty x i => (match P.underlying ty with
    | some (.slice e) => with1 x (fun gx => with1 i (fun gi => (fun z => bif Nat.ble 1 z then
        .mk (fun ih t h s k => getSl (gx t) (fun b o l => getI (gi t) (fun _ i => Int.rec (motive := fun _ => RO) (fun i => bif Nat.ble (Nat.succ i) l then fN (Nat.add o (Nat.mul i z)) (fun o => k (.ptr b o) h s) else .err 73) (fun _ => .err 75) i) (.err 75)) (oIndexAddr ty x i P pr ih t h s k)) else .mk (oIndexAddr ty x i P pr)) (P.cellsOf e)))
    | _ => .mk (oIndexAddr ty x i P pr))
  | .index t x i => .mk (oIndex t x i P pr)
  | .pick c a b => with1 c (fun gc => with1 a (fun ga => with1 b (fun gb => .mk (fun _ t h s k => getB (gc t) (k (ga t) h s) (k (gb t) h s) (.err 40)))))
  | .lookup ty x i ok => .mk (oLookup ty x i ok P pr)
  | .mapUpdate ty m i x => .mk (oMapUpdate ty m i x P pr)
  | .range t x => .mk (oRange t x P pr)
  | .next x b => .mk (oNext x b P pr)
  | .entry x => .mk (oEntry x P pr)
  | .makeFunc f a b => .mk (oMakeFunc f a b P pr)
  | .makeMap t r => .mk (oMakeMap t r P pr)
  | .makeSlice t l c => .mk (oMakeSlice t l c P pr)
  | .makeInterface t x => .mk (oMakeIface t x P pr)
  | op => .mk (opF op P pr)
where len2 (l : List Operand) : Nat := l.length
noncomputable def wantC (all : List Oper) (g : Option (Nat × Bool)) : Bx (T V → Bool) :=
  match g with
  | none => .no
  | some (j, b) => (match all.drop j with
    | o :: _ => (match o.dst with
      | some d => Bx.rec (motive := fun _ => Bx (T V → Bool)) (.mk (fun t => want all t (some (j, b)))) (fun g => .mk (fun t => wB b (g t))) (pathG un 64 d)
      | none => .mk (fun _ => false))
    | [] => .mk (fun _ => false))
noncomputable def dstC (d : Option Tmp) : Bx (T V → V → T V) := match d with | some d => pathS 64 d | none => .mk (fun t _ => t)
noncomputable def appR (b : Bx RC) (ih : Rn) (t : T V) (h : H) (s : Nat) : RO := Bx.rec (motive := fun _ => RO) (.err 222) (fun f => f ih t h s) b
noncomputable def regC (P : Program) (pr : Prims) (all : List Oper) (l : List Oper) : Bx RC :=
  List.rec (motive := fun _ => Bx RC) (.mk (fun _ t h s => .norm t h s)) (fun o _ r =>
    Bx.rec (motive := fun _ => Bx RC) .no (fun d => Bx.rec (motive := fun _ => Bx RC) .no (fun f =>
      Bx.rec (motive := fun _ => Bx RC) (.mk (fun ih t h s => f ih t h s (fun v h s => appR r ih (d t v) h s)))
        (fun w => .mk (fun ih t h s => Bool.rec (motive := fun _ => RO) (appR r ih (d t un) h s) (f ih t h s (fun v h s => appR r ih (d t v) h s)) (w t))) (wantC all o.guard)) (opC (fun ih t h s k => opers1 (yieldV P pr ih) o P pr ih t h s k) P pr o)) (dstC o.dst)) l
structure OBC where
  j : Nat
  f : OC
  t : T V
  v : V
abbrev DC := Nat → Rn → T V → H → Nat → Nat → List AL → List HI → List OBC → RO
noncomputable def appD (b : Bx DC) : DC := Bx.rec (motive := fun _ => DC) (fun _ _ _ _ _ _ _ _ _ => .err 223) (fun f => f) b
/-- The one value that a piece leaves. -/
noncomputable def nrm (r : RO) (c : V → H → Nat → RO) : RO :=
  RO.rec (motive := fun _ => RO) (fun t h s => T.rec (motive := fun _ => RO) (.err 162) (fun v _ _ _ _ => c v h s) t) (fun _ _ _ _ => .err 162) (fun _ _ _ => .err 162) (fun n => .err n) (fun _ _ _ _ => .err 162) r
noncomputable def nrmB (r : RO) (c : V → Bool) : Bool :=
  RO.rec (motive := fun _ => Bool) (fun t h s => T.rec (motive := fun _ => Bool) false (fun v _ _ _ _ => c v) t) (fun _ _ _ _ => false) (fun _ _ _ => false) (fun n => false) (fun _ _ _ _ => false) r
noncomputable def histC (f : OC) (t : T V) (v : V) (m : Nat) (ih : Rn) (l : List HI) : Bool :=
  List.rec (motive := fun _ => Bool) true (fun x _ r => bif bitB m x.j then r else (bif nrmB (f ih t x.g 0 kid0) (fun u => veqB u v) then r else false)) l
noncomputable def oblC (g : H) (m : Nat) (ih : Rn) (l : List OBC) : Bool :=
  List.rec (motive := fun _ => Bool) true (fun x _ r => bif bitB m x.j then r else (bif nrmB (x.f ih x.t g 0 kid0) (fun u => veqB u x.v) then r else false)) l
noncomputable def d0 (f : OC) (d : T V → V → T V) (r : Bx DC) : DC := fun lim ih t g s q al hi ob => nrm (f ih t E0 0 kid0) (fun v _ _ => appD r lim ih (d t v) g s q al hi ob)
noncomputable def d1 (j m : Nat) (f : OC) (d : T V → V → T V) (r : Bx DC) : DC := fun lim ih t g s q al hi ob => nrm (f ih t g 0 kid0) (fun v _ _ => bif histC f t v m ih hi then appD r lim ih (d t v) g s q al hi (⟨j, f, t, v⟩ :: ob) else .err 163)
noncomputable def d2 (j : Nat) (f : OC) (d : T V → V → T V) (r : Bx DC) : DC := fun lim ih t g s q al hi ob => nrm (f ih t E0 q kid) (fun v h' _ => appD r lim ih (d t v) g s (Nat.succ q) (⟨j, q, h'.get .gone q⟩ :: al) hi ob)
noncomputable def d3 (j m : Nat) (f : OC) (d : T V → V → T V) (r : Bx DC) : DC := fun lim ih t g s q al hi ob => nrm (f ih t (addAll (pickM true m al) g) s kid) (fun v g' s' => bif oblC g' m ih ob then appD r lim ih (d t v) g' s' q (pickM false m al) (⟨j, g⟩ :: hi) ob else .err 166)
noncomputable def dcls (c j m : Nat) (f : OC) (d : T V → V → T V) (r : Bx DC) : Bx DC := match c with | 0 => .mk (d0 f d r) | 1 => .mk (d1 j m f d r) | 2 => .mk (d2 j f d r) | _ => .mk (d3 j m f d r)
noncomputable def dpC (P : Program) (pr : Prims) (all : List Oper) (mks : List Nat) (l : List Oper) : Nat → Bx DC :=
  List.rec (motive := fun _ => Nat → Bx DC) (fun _ => .mk (fun lim _ t g s q al _ _ => bif Nat.ble q lim then .norm t (addAll al g) s else .err 161)) (fun o _ r j =>
    Bx.rec (motive := fun _ => Bx DC) .no (fun d => Bx.rec (motive := fun _ => Bx DC) .no (fun f =>
      Bx.rec (motive := fun _ => Bx DC) (dcls (cls o.op) j (nthN mks j) f d (r (Nat.succ j)))
        (fun w => Bx.rec (motive := fun _ => Bx DC) .no (fun q0 => .mk (fun lim ih t g s q al hi ob => Bool.rec (motive := fun _ => RO) (appD (r (Nat.succ j)) lim ih (d t un) g s q al hi ob) (q0 lim ih t g s q al hi ob) (w t))) (dcls (cls o.op) j (nthN mks j) f d (r (Nat.succ j)))) (wantC all o.guard)) (opC (fun ih t h s k => opers1 noYl o P pr ih t h s k) P pr o)) (dstC o.dst)) l
noncomputable def drawnC (P : Program) (pr : Prims) (ops : List Oper) : Bx RC :=
  bif drawOk ops then Bx.rec (motive := fun _ => Bx RC) .no (fun f => .mk (fun ih t h s => (fun s' => f s' ih t h s' s [] [] []) (Nat.add s (makes ops)))) (dpC P pr ops (masks ops []) ops 0) else .no
noncomputable def codC (P : Program) (pr : Prims) (c : Code) : Bx RC :=
  Code.rec (motive := fun _ => Bx RC)
    (.mk (fun _ t h s => .norm t h s))
    (fun _ ops d => Bool.rec (regC P pr ops.toList ops.toList) (drawnC P pr ops.toList) d)
    (fun _ _ a b => .mk (fun ih t h s => (appR a ih t h s).bnd (fun t h s => appR b ih t h s) .exit .ret))
    (fun x _ _ a b => Bx.rec (motive := fun _ => Bx RC) .no (fun g => .mk (fun ih t h s => getB (g t) (appR a ih t h s) (appR b ih t h s) (.err 140))) (opdC x))
    (fun id _ a => .mk (fun ih t h s => (appR a ih t h s).bnd .norm (fun i t h s => bif Nat.beq i id then .norm t h s else .exit i t h s) .ret))
    (fun c a => .mk (fun ih t h s => (appR a ih t h s).bnd (fun t h s => ih (.loop c) t h s) .exit .ret))
    (fun _ _ _ _ _ _ => .no)
    (fun id => .mk (fun _ t h s => .exit id t h s))
    (fun _ _ => .no)
    (fun _ => .mk (fun _ t h s => .norm t h s))
    (fun _ => .no)
    (.mk (fun _ t h s => .ret t h s))
    (fun _ => .no) c
noncomputable def runF (P : Program) (pr : Prims) (n : Nat) : Rn := Nat.rec (motive := fun _ => Rn) (fun _ _ _ _ => .err 1) (fun _ ih c t h s => appR (codC P pr c) ih t h s) n
end Go.Ev
namespace Go.Ev
variable {D : List Deferred}
variable {P : Program} {pr : Prims} {ih : Rn} {e : Env} {t : T V} {h : H} {s : Nat} {w : World} {a : Act}
def RO.good : RO → Prop
  | .err _ => False
  | .or a b => a.good ∧ b.good
  | _ => True
/-- The one is among what the other leaves. -/
inductive Sub : RO → RO → Prop where
  | refl (r : RO) : Sub r r
  | left {x a b : RO} (h : Sub x a) : Sub x (.or a b)
  | right {x a b : RO} (h : Sub x b) : Sub x (.or a b)
theorem Sub.trans {x y z : RO} (h : Sub x y) (h' : Sub y z) : Sub x z := by
  induction h' with
  | refl => exact h
  | left _ ih => exact .left ih
  | right _ ih => exact .right ih
theorem Sub.good {x r : RO} (h : Sub x r) (hr : r.good) : x.good := by
  induction h with
  | refl => exact hr
  | left _ ih => exact ih hr.1
  | right _ ih => exact ih hr.2
theorem Sub.bnd {x r : RO} (h : Sub x r) (fn : T V → H → Nat → RO) (fe : Nat → T V → H → Nat → RO) (fr : T V → H → Nat → RO) : Sub (x.bnd fn fe fr) (r.bnd fn fe fr) := by
  induction h with
  | refl => exact .refl _
  | left _ ih => exact .left ih
  | right _ ih => exact .right ih
theorem RO.good_bnd {fn : T V → H → Nat → RO} {fe : Nat → T V → H → Nat → RO} {fr : T V → H → Nat → RO} : ∀ {r : RO}, (r.bnd fn fe fr).good → r.good
  | .norm .., _ => trivial
  | .exit .., _ => trivial
  | .ret .., _ => trivial
  | .err _, h => h
  | .or a b, h => ⟨RO.good_bnd (r := a) h.1, RO.good_bnd (r := b) h.2⟩
/-- What the temporaries stand for. -/
structure TR (e : Env) (t : T V) (tm : Array Value) : Prop where
  has : ∀ i, t.has i = true ↔ i < tm.size
  val : ∀ i, VR e (t.get un i) (tm.getD i undef)
theorem undef_VR : VR e un undef := .tup .nil
theorem TR.mono {e' : Env} (hle : e.le e') {tm : Array Value} (h : TR e t tm) : TR e' t tm := ⟨h.has, fun i => (h.val i).mono hle⟩
theorem TR.put {tm : Array Value} (h : TR e t tm) {d : Nat} {v : V} {x : Value} (hv : VR e v x) : TR e (t.set d v) (tm.setIfInBounds d x) where
  has := fun i => by rw [T.has_set]; simpa using h.has i
  val := fun i => by
    by_cases hd : t.has d = true
    · rw [T.get_set un t d i v hd]
      have hlt := (h.has d).1 hd
      by_cases hi : i = d
      · subst hi; rw [if_pos rfl]; simpa [Array.getD, hlt] using hv
      · rw [if_neg hi]
        have := h.val i
        simp only [Array.getD_eq_getD_getElem?] at this ⊢
        rwa [Array.getElem?_setIfInBounds_ne (Ne.symm hi)]
    · have hd' : t.has d = false := by simpa using hd
      rw [T.set_off t d v hd']
      have hge : ¬ d < tm.size := fun hlt => hd ((h.has d).2 hlt)
      have : tm.setIfInBounds d x = tm := by simp [Array.setIfInBounds, hge]
      rw [this]; exact h.val i
/-- The activation stands for the tree. -/
structure AR (D : List Deferred) (e : Env) (t : T V) (a : Act) : Prop where
  tr : TR e t a.tmps
  nodef : a.defers = D
theorem AR.mono {e' : Env} (hle : e.le e') (h : AR D e t a) : AR D e' t a := ⟨h.tr.mono hle, h.nodef⟩
theorem AR.put (h : AR D e t a) {dst : Option Tmp} {v : V} {x : Value} (hv : VR e v x) : AR D e (putT dst t v) (a.put dst x) := by
  cases dst with
  | none => exact h
  | some d => exact ⟨h.tr.put hv, h.nodef⟩
theorem ofCell_VR {x : Value} {v : V} (h : ofCell x = some v) : VR e v x := by
  unfold ofCell at h
  split at h <;> first | (injection h with h; subst h) | cases h
  all_goals constructor
theorem ofCells_VR : ∀ {l : List Value} {vs : List V}, ofCells l = some vs → VRs e vs l
  | [], vs, h => by injection h with h; subst h; exact .nil
  | x :: l, vs, h => by
    change (match ofCell x, ofCells l with | some v, some l => some (v :: l) | _, _ => none) = some vs at h
    split at h
    · rename_i v l' h1 h2
      injection h with h; subst h
      exact .cons (ofCell_VR h1) (ofCells_VR h2)
    · cases h
theorem ofV_VR {x : Value} {v : V} (h : ofV x = some v) : VR e v x := by
  unfold ofV at h
  split at h
  · rename_i cs
    split at h
    · rename_i l hl
      injection h with h; subst h
      exact .agg (xs := cs.toList) (ofCells_VR hl)
    · cases h
  · rename_i cs
    split at h
    · rename_i hc
      injection h with h; subst h
      have : cs = ⟨[]⟩ := by cases cs; simpa using hc
      subst this
      exact .tup .nil
    · cases h
  · exact ofCell_VR h
theorem opnd_ok {x : Operand} {f : V → RO} {r : RO} (h : opnd t x f = r) (hr : r.good) (ha : AR D e t a) : ∃ v, f v = r ∧ VR e v (a.eval x) := by
  cases x with
  | tmp i => exact ⟨_, h, ha.tr.val i⟩
  | const v =>
    simp only [opnd] at h
    split at h
    · rename_i u hu; exact ⟨u, h, ofV_VR hu⟩
    · subst h; cases hr
  | global g => simp only [opnd] at h; subst h; cases hr
  | func f => exact ⟨_, h, .fn .nil⟩
theorem opnds_ok : ∀ {l : List Operand} {f : List V → RO} {r : RO}, opnds t l f = r → r.good → AR D e t a → ∃ vs, f vs = r ∧ VRs e vs (l.map a.eval)
  | [], f, r, h, hr, ha => ⟨[], h, .nil⟩
  | x :: l, f, r, h, hr, ha => by
    obtain ⟨v, h1, hv⟩ := opnd_ok (a := a) (f := fun v => opnds t l (fun vs => f (v :: vs))) h hr ha
    obtain ⟨vs, h2, hvs⟩ := opnds_ok h1 hr ha
    exact ⟨v :: vs, h2, .cons hv hvs⟩
theorem opparts_ok : ∀ {l : List (Nat × Operand)} {f : List (Nat × V) → RO} {r : RO}, opparts t l f = r → r.good → AR D e t a →
    ∃ vs, f vs = r ∧ vs.map (·.1) = l.map (·.1) ∧ VRs e (vs.map (·.2)) (l.map fun p => a.eval p.2)
  | [], f, r, h, hr, ha => ⟨[], h, rfl, .nil⟩
  | p :: l, f, r, h, hr, ha => by
    obtain ⟨v, h1, hv⟩ := opnd_ok (a := a) (f := fun v => opparts t l (fun vs => f ((p.1, v) :: vs))) h hr ha
    obtain ⟨vs, h2, h3, hvs⟩ := opparts_ok h1 hr ha
    exact ⟨(p.1, v) :: vs, h2, by simp [h3], .cons hv hvs⟩
theorem len_eq : ∀ (l : List V), len l = l.length
  | [] => rfl
  | _ :: l => by show Nat.succ (len l) = _; rw [len_eq l]; simp
theorem live_has {b : Nat} (h1 : live h b) : h.has b = true := by
  cases hb : h.has b with
  | true => rfl
  | false => exact (h1 (T.get_off .gone h b hb)).elim
theorem live_of_cells {b : Nat} {x : B} (h1 : h.get .gone b = x) (hx : x ≠ .gone) : live h b := by unfold live; rw [h1]; exact hx
/-- A block more. -/
theorem alloc_post (hs : Sim e h w) (hf : Free e s) (hh : h.has s = true) {blk : B} (hg : blk ≠ .gone) {o : Obj} {sz : Nat}
    (hb : ∀ e', e.le e' → BR e' ⟨w.heap.size, 0, sz⟩ blk o) :
    ∃ e', e' s = some ⟨w.heap.size, 0, sz⟩ ∧ Post e s h w e' (s + 1) (h.set s blk) (w.alloc o) := by
  have hle : e.le ⟨fun b => if b = s then some ⟨w.heap.size, 0, sz⟩ else e b, e.base⟩ := by
    refine ⟨fun b x hx => ?_, rfl⟩
    show (if b = s then some ⟨w.heap.size, 0, sz⟩ else e b) = some x
    by_cases hbs : b = s
    · subst hbs; rw [hf b (Nat.le_refl _)] at hx; cases hx
    · simp only [hbs, if_false]; exact hx
  have hdead : ¬ live h s := fun hl => by
    obtain ⟨x, o, h1, _⟩ := hs.blk s hl
    rw [hf s (Nat.le_refl _)] at h1; cases h1
  have hlv : ∀ b, b ≠ s → (live (h.set s blk) b ↔ live h b) := fun b hb => by
    unfold live; rw [T.get_set .gone h s b blk hh, if_neg hb]
  have hin : ∀ b x, live h b → e b = some x → x.n < w.heap.size := fun b x hl hx => by
    obtain ⟨x', o', h1, h2, _⟩ := hs.blk b hl
    rw [hx] at h1; injection h1 with h1; subst h1
    exact (Array.getElem?_eq_some_iff.1 h2).1
  refine ⟨_, by simp, hle, fun b hb => by simp [Nat.ne_of_lt hb], Nat.le_succ s, fun b hb => ?_, ⟨fun b hl => ?_, fun b b' x x' hl hl' hx hx' hn => ?_, fun n hn => Nat.lt_of_lt_of_le (hs.big n hn) (show w.heap.size ≤ (w.heap.push o).size by simp), fun n hn => (show (w.heap.push o)[n]? = _ by rw [Array.getElem?_push_lt (hs.big n hn), ← hs.old n hn]; simp [hs.big n hn]), fun b x hl hx => ?_⟩, fun b x hl hx => ?_, fun n hn _ => ?_, ?_, rfl, rfl, rfl⟩
  · simp only [show b ≠ s by omega, if_false]; exact hf b (by omega)
  · by_cases hbs : b = s
    · subst hbs
      refine ⟨⟨w.heap.size, 0, sz⟩, o, by simp, ?_, ?_⟩
      · show (w.heap.push o)[w.heap.size]? = some o; simp
      · rw [T.get_set .gone h b b blk hh, if_pos rfl]; exact hb _ hle
    · obtain ⟨x, o', h1, h2, h3⟩ := hs.blk b ((hlv b hbs).1 hl)
      refine ⟨x, o', by simp [hbs, h1], ?_, ?_⟩
      · show (w.heap.push o)[x.n]? = some o'
        obtain ⟨hlt, hval⟩ := Array.getElem?_eq_some_iff.1 h2
        rw [Array.getElem?_push_lt hlt, hval]
      · rw [T.get_set .gone h s b blk hh, if_neg hbs]; exact h3.mono hle
  · by_cases h1 : b = s <;> by_cases h2 : b' = s
    · rw [h1, h2]
    · exfalso
      subst h1
      simp at hx; subst hx
      simp only [h2, if_false] at hx'
      have := hin b' x' ((hlv b' h2).1 hl') hx'
      simp only at hn; omega
    · exfalso
      subst h2
      simp at hx'; subst hx'
      simp only [h1, if_false] at hx
      have := hin b x ((hlv b h1).1 hl) hx
      simp only at hn; omega
    · simp only [h1, h2, if_false] at hx hx'
      exact hs.inj b b' x x' ((hlv b h1).1 hl) ((hlv b' h2).1 hl') hx hx' hn
  · by_cases hbs : b = s
    · subst hbs; simp at hx; subst hx; exact fun hp => absurd (hs.big _ hp) (Nat.lt_irrefl _)
    · simp only [hbs, if_false] at hx
      exact hs.above b x ((hlv b hbs).1 hl) hx
  · by_cases hbs : b = s
    · subst hbs; simp at hx; subst hx; exact .inr (Nat.le_refl _)
    · simp only [hbs, if_false] at hx
      exact .inl ⟨b, x, (hlv b hbs).1 hl, hx, rfl⟩
  · show (w.heap.push o)[n]? = _
    rw [Array.getElem?_push_lt hn]; simp [hn]
  · show w.heap.size ≤ (w.heap.push o).size; simp
/-- A block turned. -/
theorem set_post (hs : Sim e h w) (hf : Free e s) {b : Nat} (hl : live h b) {x : Loc} (hx : e b = some x) {blk : B} (hg : blk ≠ .gone) {o : Obj} (hb : BR e x blk o) :
    Post e s h w e s (h.set b blk) { w with heap := w.heap.setIfInBounds x.n o } := by
  have hh := live_has hl
  obtain ⟨x0, o0, h1, h2, _⟩ := hs.blk b hl
  rw [hx] at h1; injection h1 with h1; subst h1
  have hlt := (Array.getElem?_eq_some_iff.1 h2).1
  have hlv : ∀ b', live (h.set b blk) b' → live h b' := fun b' h' => by
    by_cases hb' : b' = b
    · subst hb'; exact hl
    · unfold live at h' ⊢; rwa [T.get_set .gone h b b' blk hh, if_neg hb'] at h'
  refine ⟨Env.le.refl e, fun _ _ => rfl, Nat.le_refl _, hf, ⟨fun b' hl' => ?_, fun b1 b2 x1 x2 l1 l2 => hs.inj b1 b2 x1 x2 (hlv b1 l1) (hlv b2 l2), by simpa using hs.big, fun n hn => (show (w.heap.setIfInBounds x.n o)[n]? = _ by rw [Array.getElem?_setIfInBounds_ne (by intro hq; subst hq; exact hs.above b x hl hx hn)]; exact hs.old n hn), fun b' x' l' hx' => hs.above b' x' (hlv b' l') hx'⟩, fun b' x' hl' hx' => .inl ⟨b', x', hlv b' hl', hx', rfl⟩, fun n hn hk => ?_, by simp, rfl, rfl, rfl⟩
  · by_cases hb' : b' = b
    · subst hb'
      exact ⟨x, o, hx, by simp [hlt], by rw [T.get_set .gone h b' b' blk hh, if_pos rfl]; exact hb⟩
    · obtain ⟨x1, o1, g1, g2, g3⟩ := hs.blk b' (hlv b' hl')
      refine ⟨x1, o1, g1, ?_, by rw [T.get_set .gone h b b' blk hh, if_neg hb']; exact g3⟩
      have hne : x.n ≠ x1.n := fun hn => hb' (hs.inj b b' x x1 hl (hlv b' hl') hx g1 hn).symm
      show (w.heap.setIfInBounds x.n o)[x1.n]? = _
      rw [Array.getElem?_setIfInBounds_ne hne]; exact g2
  · show (w.heap.setIfInBounds x.n o)[n]? = _
    rw [Array.getElem?_setIfInBounds_ne (hk b x hl hx)]
/-- A block forgotten. -/
theorem gone_post (hs : Sim e h w) (hf : Free e s) {b : Nat} : Post e s h w e s (h.set b .gone) w := by
  have hlv : ∀ b', live (h.set b .gone) b' → live h b' ∧ (h.set b .gone).get .gone b' = h.get .gone b' := fun b' h' => by
    cases hb : h.has b with
    | false => rw [T.set_off h b _ hb] at h' ⊢; exact ⟨h', rfl⟩
    | true =>
      unfold live at h' ⊢
      rw [T.get_set .gone h b b' _ hb] at h' ⊢
      by_cases hbb : b' = b
      · rw [if_pos hbb] at h'; exact absurd rfl h'
      · rw [if_neg hbb] at h' ⊢; exact ⟨h', rfl⟩
  refine ⟨Env.le.refl e, fun _ _ => rfl, Nat.le_refl _, hf, ⟨fun b' hl' => ?_, fun b1 b2 x1 x2 l1 l2 => hs.inj b1 b2 x1 x2 (hlv b1 l1).1 (hlv b2 l2).1, hs.big, hs.old, fun b' x' l' hx' => hs.above b' x' (hlv b' l').1 hx'⟩, fun b' x' hl' hx' => .inl ⟨b', x', (hlv b' hl').1, hx', rfl⟩, fun n hn hk => rfl, Nat.le_refl _, rfl, rfl, rfl⟩
  obtain ⟨x1, o1, g1, g2, g3⟩ := hs.blk b' (hlv b' hl').1
  exact ⟨x1, o1, g1, g2, by rw [(hlv b' hl').2]; exact g3⟩
/-- The operation gives a value. -/
def Gives (P : Program) (m : Sem Next) (w : World) (R : Value → World → Prop) : Prop :=
  match m.run P w with
  | .ok (.value x) w' => R x w'
  | .ok .skip w' => R undef w'
  | .ok (.enter f args) w' => Calls P f args w' (fun en w'' => ∃ x, en = .returned x ∧ R x w'')
  | _ => False
/-- What the evaluator promises of an operation. -/
abbrev Good (e : Env) (s : Nat) (h : H) (w : World) (v : V) (h' : H) (s' : Nat) (x : Value) (w' : World) : Prop := ∃ e', VR e' v x ∧ Post e s h w e' s' h' w'
theorem gives_value {m : Sem Next} {R : Value → World → Prop} {x : Value} {w' : World} (hm : m.run P w = .ok (.value x) w') (hr : R x w') : Gives P m w R := by
  unfold Gives; rw [hm]; exact hr
theorem gives_skip {m : Sem Next} {R : Value → World → Prop} {w' : World} (hm : m.run P w = .ok .skip w') (hr : R undef w') : Gives P m w R := by
  unfold Gives; rw [hm]; exact hr
theorem run_v {m : Sem Value} {x : Value} {w' : World} (hm : m.run P w = .ok x w') : (do pure (.value (← m)) : Sem Next).run P w = .ok (.value x) w' := by
  simp [hm, Result.andThen]
theorem run_u {m : Sem Unit} {w' : World} (hm : m.run P w = .ok () w') : (do m; pure .skip : Sem Next).run P w = .ok .skip w' := by
  simp [hm, Result.andThen]
end Go.Ev
