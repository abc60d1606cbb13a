/- An executor of the model's programs over an abstract memory: the data, and the plain tools that it uses. -/
import Derived.CallsIn
import Derived.OrdersIn
import Derived.RangeFuncIn
namespace Go.Ex

/-- A slice's capacity: known; or unknown, of elements of so many cells. -/
inductive Cap where
  | is (c : Nat)
  | of (z : Nat)
/-- Values: as the model's, with names for blocks; the capacity of a slice may be unknown. -/
inductive V where
  | bool (b : Bool)
  | int (k : IntKind) (n : Int)
  | str (s : List Nat)
  | nilp
  | ptr (b off : Nat)
  | nilsl
  | sl (b off len : Nat) (cap : Cap)
  | nilmap
  | map (b : Nat)
  | fn (f : FuncId) (first captured : List V)
  | yield (l : Nat)
  | nilfn
  | nilif
  | iface (t : TypeId) (v : V)
  | agg (l : List V)
  | tup (l : List V)
  deriving Inhabited

/-- The digits of a number. -/
inductive B where
  | e
  | a (p : B)
  | b (p : B)
  | c (p : B)
  | d (p : B)
  deriving DecidableEq
noncomputable def digit (m : Nat) (b : B) : B := Nat.rec (B.a b) (fun m _ => Nat.rec (B.b b) (fun m _ => Nat.rec (B.c b) (fun _ _ => B.d b) m) m) m
noncomputable def pathF (f : Nat) : Nat → B :=
  Nat.rec (fun _ => B.e) (fun _ ih n => Nat.rec B.e (fun m _ => digit (Nat.mod m 4) (ih (Nat.div m 4))) n) f
noncomputable def path (n : Nat) : B := pathF (Nat.succ n) n

/-- Maps from numbers: a tree by the number's digits. -/
inductive T (α : Type) where
  | lf
  | nd (x : Option α) (a b c d : T α)
  deriving Inhabited
noncomputable def T.getB {α : Type} (p : B) : T α → Option α :=
  B.rec (fun t => T.rec none (fun x _ _ _ _ _ _ _ _ => x) t) (fun _ ih t => T.rec none (fun _ a _ _ _ _ _ _ _ => ih a) t) (fun _ ih t => T.rec none (fun _ _ b _ _ _ _ _ _ => ih b) t)
    (fun _ ih t => T.rec none (fun _ _ _ c _ _ _ _ _ => ih c) t) (fun _ ih t => T.rec none (fun _ _ _ _ d _ _ _ _ => ih d) t) p
noncomputable def T.onA {α : Type} (x : Option α) (b c d : T α) (t : T α) : T α := T.rec .lf (fun y k l m n _ _ _ _ => .nd x (.nd y k l m n) b c d) t
noncomputable def T.onB {α : Type} (x : Option α) (a c d : T α) (t : T α) : T α := T.rec .lf (fun y k l m n _ _ _ _ => .nd x a (.nd y k l m n) c d) t
noncomputable def T.onC {α : Type} (x : Option α) (a b d : T α) (t : T α) : T α := T.rec .lf (fun y k l m n _ _ _ _ => .nd x a b (.nd y k l m n) d) t
noncomputable def T.onD {α : Type} (x : Option α) (a b c : T α) (t : T α) : T α := T.rec .lf (fun y k l m n _ _ _ _ => .nd x a b c (.nd y k l m n)) t
noncomputable def T.putB {α : Type} (v : Option α) (p : B) : T α → T α :=
  B.rec (fun t => T.rec (.nd v .lf .lf .lf .lf) (fun _ a b c d _ _ _ _ => .nd v a b c d) t)
    (fun _ ih t => T.rec (T.onA none .lf .lf .lf (ih .lf)) (fun x a b c d _ _ _ _ => T.onA x b c d (ih a)) t)
    (fun _ ih t => T.rec (T.onB none .lf .lf .lf (ih .lf)) (fun x a b c d _ _ _ _ => T.onB x a c d (ih b)) t)
    (fun _ ih t => T.rec (T.onC none .lf .lf .lf (ih .lf)) (fun x a b c d _ _ _ _ => T.onC x a b d (ih c)) t)
    (fun _ ih t => T.rec (T.onD none .lf .lf .lf (ih .lf)) (fun x a b c d _ _ _ _ => T.onD x a b c (ih d)) t) p
noncomputable def T.get {α : Type} (t : T α) (n : Nat) : Option α := T.getB (path n) t
noncomputable def T.put {α : Type} (t : T α) (n : Nat) (v : Option α) : T α := T.putB v (path n) t

/-- Blocks. -/
inductive AB where
  /-- cells: those that are known; st: bytes behind them may be marked as a string's. -/
  | cells (t : T V) (st : Bool)
  | map (es : List (V × V × Nat)) (clock : Nat)
  | miter (m : Option Nat) (since : Nat) (seen : List Nat) (stepped : Nat)
  | siter (s : List Nat) (pos : Nat)
  | loop (st : LoopState) (pending : Option Code) (n : Nat) (tmps : T V) (params : List Nat) (assign body : Code) (defers : Nat)
  | dfr (taken : Bool)
  /-- a block of the model's, as it is: nothing looks at it -/
  | raw (o : Obj)
  deriving Inhabited

/-- The state: the memory, the next name; the names below lim that were read, and written. -/
structure S where
  mem : T AB
  next : Nat
  lim : Nat
  rd : Nat
  wr : Nat
  deriving Inhabited

inductive R (α : Type) where
  | no (why : String)
  | ok (a : α) (s : S)

noncomputable def R.bind {α β : Type} (r : R α) (f : α → S → R β) : R β := R.rec (fun w => .no w) (fun a s => f a s) r

/-- The number, reckoned out first. -/
noncomputable def seqN {β : Type} (n : Nat) (k : Nat → β) : β := Nat.rec (k n) (fun m _ => k m) (Nat.add n 1)
noncomputable def seqI {β : Type} (n : Int) (k : Int → β) : β := Int.rec (fun m => seqN m fun m => k (.ofNat m)) (fun m => seqN m fun m => k (.negSucc m)) n
noncomputable def ite2 {β : Type} (b : Bool) (no yes : β) : β := Bool.rec no yes b

/-! ### Memory -/
noncomputable def getC (b : Nat) (m : T AB) (nx lim rd wr : Nat) (x : AB) : R AB :=
  ite2 (Nat.ble lim b) (seqN (Nat.lor rd (Nat.shiftLeft 1 b)) fun rd => .ok x ⟨m, nx, lim, rd, wr⟩) (.ok x ⟨m, nx, lim, rd, wr⟩)
noncomputable def getB (b : Nat) (m : T AB) (nx lim rd wr : Nat) : R AB :=
  ite2 (Nat.ble nx b) (Option.rec (.no "get: no such block") (getC b m nx lim rd wr) (m.get b)) (.no "get: no such name")
/-- A block read. -/
noncomputable def get (b : Nat) (s : S) : R AB := S.rec (getB b) s
noncomputable def putC (b : Nat) (nx lim rd wr : Nat) (m : T AB) : R Unit :=
  ite2 (Nat.ble lim b) (seqN (Nat.lor wr (Nat.shiftLeft 1 b)) fun wr => .ok () ⟨m, nx, lim, rd, wr⟩) (.ok () ⟨m, nx, lim, rd, wr⟩)
/-- A tree, reckoned out first. -/
noncomputable def seqT {α β : Type} (t : T α) (no : β) (k : T α → β) : β := T.rec no (fun x a b c d _ _ _ _ => k (.nd x a b c d)) t
noncomputable def putB (b : Nat) (x : Option AB) (m : T AB) (nx lim rd wr : Nat) : R Unit :=
  ite2 (Nat.ble nx b) (seqT (m.put b x) (.no "put") (putC b nx lim rd wr)) (.no "put: no such name")
/-- A block written (or, with none, forgotten). -/
noncomputable def put (b : Nat) (x : Option AB) (s : S) : R Unit := S.rec (putB b x) s
noncomputable def newC (nx lim rd wr : Nat) (m : T AB) : R Nat := seqN (Nat.add nx 1) fun nx' => .ok nx ⟨m, nx', lim, rd, wr⟩
noncomputable def newB (x : AB) (m : T AB) (nx lim rd wr : Nat) : R Nat := seqT (m.put nx (some x)) (.no "new") (newC nx lim rd wr)
/-- A new block. -/
noncomputable def new (x : AB) (s : S) : R Nat := S.rec (newB x) s

noncomputable def apartD {α : Type} (nx lim rd wr : Nat) (a : α) (m' : T AB) (nx' _lim' r w : Nat) : R (α × Nat × Nat) :=
  seqN (Nat.lor rd r) fun rd => seqN (Nat.lor wr w) fun wr =>
  seqN (Nat.lor w (Nat.sub (Nat.shiftLeft 1 nx') (Nat.shiftLeft 1 nx))) fun w => .ok (a, r, w) ⟨m', nx', lim, rd, wr⟩
noncomputable def apartC {α : Type} (f : S → R α) (m : T AB) (nx lim rd wr : Nat) : R (α × Nat × Nat) :=
  (f ⟨m, nx, nx, 0, 0⟩).bind fun a s => S.rec (apartD nx lim rd wr a) s
/-- A part run by itself: what it reads and writes of names that lay before it is told apart (and told on). -/
noncomputable def apart {α : Type} (f : S → R α) (s : S) : R (α × Nat × Nat) := S.rec (apartC f) s

end Go.Ex

/- The executor's operations on numbers, cells, slices and maps. -/
namespace Go.Ex

/-! ### Numbers -/
noncomputable def modU (k : IntKind) : Nat := IntKind.rec 256 65536 4294967296 18446744073709551616 256 65536 4294967296 18446744073709551616 k
noncomputable def halfU (k : IntKind) : Nat := IntKind.rec 128 32768 2147483648 9223372036854775808 128 32768 2147483648 9223372036854775808 k
/-- The greatest number. -/
noncomputable def mostK (k : IntKind) : Nat := IntKind.rec 127 32767 2147483647 9223372036854775807 255 65535 4294967295 18446744073709551615 k
noncomputable def bitsOf (k : IntKind) : Nat := IntKind.rec 8 16 32 64 8 16 32 64 k
/-- The number's bits. -/
noncomputable def bitsU (k : IntKind) (n : Int) : Nat := Int.rec (fun m => ite2 (Nat.ble m (mostK k)) (Nat.mod m (modU k)) m) (fun m => Nat.sub (Nat.sub (modU k) 1) (Nat.mod m (modU k))) n
noncomputable def negOf (j : Nat) : Int := Nat.rec (.ofNat 0) (fun j _ => .negSucc j) j
/-- The number of bits. -/
noncomputable def ofBits (k : IntKind) (m : Nat) : Int := ite2 (Nat.ble m (mostK k)) (ite2 (Nat.ble (halfU k) m) (.ofNat m) (negOf (Nat.sub (modU k) m))) (.ofNat m)
/-- A number of a kind's. -/
noncomputable def wrapS (k : IntKind) (n : Int) : Int := ofBits k (bitsU k n)
noncomputable def wrapN (k : IntKind) (m : Nat) : Int := ite2 (Nat.ble m (mostK k)) (wrapS k (.ofNat m)) (.ofNat m)
noncomputable def wrapK (k : IntKind) (n : Int) : Int := Int.rec (wrapN k) (fun m => wrapS k (.negSucc m)) n
noncomputable def eqI (x y : Int) : Bool := Int.rec (fun a => Int.rec (fun b => Nat.beq a b) (fun _ => false) y) (fun a => Int.rec (fun _ => false) (fun b => Nat.beq a b) y) x
noncomputable def ltI (x y : Int) : Bool := Int.rec (fun a => Int.rec (fun b => Nat.ble (Nat.add a 1) b) (fun _ => false) y) (fun a => Int.rec (fun _ => true) (fun b => Nat.ble (Nat.add b 1) a) y) x
noncomputable def isZero (y : Int) : Bool := Int.rec (fun a => Nat.rec true (fun _ _ => false) a) (fun _ => false) y
noncomputable def kindNo (k : IntKind) : Nat := IntKind.rec 0 1 2 3 4 5 6 7 k
noncomputable def kindEq (j k : IntKind) : Bool := Nat.beq (kindNo j) (kindNo k)
noncomputable def divQ (x y : Int) : Int := Int.rec (fun a => Int.rec (fun b => .ofNat (Nat.div a b)) (fun b => Int.tdiv (.ofNat a) (.negSucc b)) y) (fun a => Int.tdiv (.negSucc a) y) x
noncomputable def divR (x y : Int) : Int := Int.rec (fun a => Int.rec (fun b => .ofNat (Nat.mod a b)) (fun b => Int.tmod (.ofNat a) (.negSucc b)) y) (fun a => Int.tmod (.negSucc a) y) x
noncomputable def mkInt (k : IntKind) (n : Int) : Option V := seqI n fun n => some (.int k n)
/-- A number that is none below 0, brought to its kind. -/
noncomputable def mkFit (k : IntKind) (m : Nat) : Option V := seqN m fun m => ite2 (Nat.ble m (mostK k)) (mkInt k (wrapS k (.ofNat m))) (some (.int k (.ofNat m)))
noncomputable def mkBool (b : Bool) : Option V := ite2 b (some (.bool false)) (some (.bool true))
noncomputable def mkNot (b : Bool) : Option V := ite2 b (some (.bool true)) (some (.bool false))
noncomputable def mkBits (k : IntKind) (m : Nat) : Option V := mkInt k (ofBits k m)
noncomputable def addV (k : IntKind) (x y : Int) : Option V :=
  Int.rec (fun a => Int.rec (fun b => mkFit k (Nat.add a b)) (fun b => mkInt k (wrapK k (Int.add (.ofNat a) (.negSucc b)))) y) (fun a => mkInt k (wrapK k (Int.add (.negSucc a) y))) x
noncomputable def subN (k : IntKind) (a b : Nat) : Option V := ite2 (Nat.ble b a) (mkInt k (wrapS k (Int.sub (.ofNat a) (.ofNat b)))) (mkFit k (Nat.sub a b))
noncomputable def subV (k : IntKind) (x y : Int) : Option V :=
  Int.rec (fun a => Int.rec (fun b => subN k a b) (fun b => mkInt k (wrapK k (Int.sub (.ofNat a) (.negSucc b)))) y) (fun a => mkInt k (wrapK k (Int.sub (.negSucc a) y))) x
noncomputable def mulV (k : IntKind) (x y : Int) : Option V :=
  Int.rec (fun a => Int.rec (fun b => mkFit k (Nat.mul a b)) (fun b => mkInt k (wrapK k (Int.mul (.ofNat a) (.negSucc b)))) y) (fun a => mkInt k (wrapK k (Int.mul (.negSucc a) y))) x
noncomputable def quoV (k : IntKind) (x y : Int) : Option V := ite2 (isZero y) (mkInt k (wrapK k (divQ x y))) none
noncomputable def remV (k : IntKind) (x y : Int) : Option V := ite2 (isZero y) (mkInt k (divR x y)) none
noncomputable def andV (k : IntKind) (x y : Int) : Option V := mkBits k (Nat.land (bitsU k x) (bitsU k y))
noncomputable def orV (k : IntKind) (x y : Int) : Option V := mkBits k (Nat.lor (bitsU k x) (bitsU k y))
noncomputable def xorV (k : IntKind) (x y : Int) : Option V := mkBits k (Nat.xor (bitsU k x) (bitsU k y))
noncomputable def andNotV (k : IntKind) (x y : Int) : Option V := mkBits k (Nat.land (bitsU k x) (Nat.sub (Nat.sub (modU k) 1) (bitsU k y)))
noncomputable def pow2 (k : IntKind) (y : Nat) : Nat := Nat.pow 2 (ite2 (Nat.ble y (bitsOf k)) (bitsOf k) y)
noncomputable def shlV (k : IntKind) (x y : Int) : Option V :=
  Int.rec (fun n => Int.rec (fun m => mkFit k (Nat.mul m (pow2 k n))) (fun m => mkInt k (wrapK k (Int.mul (.negSucc m) (.ofNat (pow2 k n))))) x) (fun _ => none) y
noncomputable def shrV (k : IntKind) (x y : Int) : Option V :=
  Int.rec (fun n => Int.rec (fun m => mkInt k (.ofNat (Nat.div m (pow2 k n)))) (fun m => mkInt k (.negSucc (Nat.div m (pow2 k n)))) x) (fun _ => none) y
/-- An operator on two numbers; sh: it is a shift: the second one's kind may be another. -/
inductive BF where
  | mk (sh : Bool) (f : IntKind → Int → Int → Option V)
  | no
noncomputable def binF (op : BinOp) : BF := match op with
  | .add => .mk false addV
  | .sub => .mk false subV
  | .mul => .mk false mulV
  | .quo => .mk false quoV
  | .rem => .mk false remV
  | .and => .mk false andV
  | .or => .mk false orV
  | .xor => .mk false xorV
  | .andNot => .mk false andNotV
  | .shl => .mk true shlV
  | .shr => .mk true shrV
  | .eql => .mk false fun _ a b => mkBool (eqI a b)
  | .neq => .mk false fun _ a b => mkNot (eqI a b)
  | .lss => .mk false fun _ a b => mkBool (ltI a b)
  | .geq => .mk false fun _ a b => mkNot (ltI a b)
  | .gtr => .mk false fun _ a b => mkBool (ltI b a)
  | .leq => .mk false fun _ a b => mkNot (ltI b a)
noncomputable def intGo (f : IntKind → Int → Int → Option V) (k j : IntKind) (a b : Int) (sh : Bool) : Option V := ite2 sh (ite2 (kindEq k j) none (f k a b)) (f k a b)
noncomputable def intOp (op : BinOp) (k j : IntKind) (a b : Int) : Option V := BF.rec (fun sh f => intGo f k j a b sh) none (binF op)

/-! ### Types -/
section
variable (P : Program)
def szOf (t : TypeId) : Option Nat := match P.info? t with
  | some i => some i.size
  | none => none
def aggOfD : Option TypeDesc → Option Bool
  | some (.struct _) => some true
  | some (.array _ _) => some true
  | some _ => some false
  | none => none
def aggOf (t : TypeId) : Option Bool := aggOfD (P.underlying t)
/-- How a variable of a type is read: none: one cell; n: an aggregate of n cells. -/
def shapeOf (t : TypeId) : Option (Option Nat) := match aggOf P t with
  | some true => match szOf P t with
    | some n => some (some n)
    | none => none
  | some false => some none
  | none => none
def ofVals (f : Value → Option V) : List Value → Option (List V)
  | [] => some []
  | x :: xs => match f x with
    | none => none
    | some y => match ofVals f xs with
      | none => none
      | some ys => some (y :: ys)
def ofVal : Nat → Value → Option V
  | 0, _ => none
  | d + 1, v =>
    match v with
    | .bool b => some (.bool b)
    | .int k n => some (.int k n)
    | .string s => some (.str (s.data.toList.map UInt8.toNat))
    | .pointer none => some .nilp
    | .slice none 0 0 => some .nilsl
    | .map none => some .nilmap
    | .func (.func f) ⟨[]⟩ ⟨[]⟩ => some (.fn f [] [])
    | .nilFunc => some .nilfn
    | .nilIface => some .nilif
    | .agg cs => match ofVals (ofVal d) cs.toList with
      | some l => some (.agg l)
      | none => none
    | .tuple cs => match ofVals (ofVal d) cs.toList with
      | some l => some (.tup l)
      | none => none
    | _ => none
def zeroV (t : TypeId) : Option V := match P.info? t with
  | some i => match i.zero with
    | some v => ofVal 8 v
    | none => none
  | none => none
def V.cells : V → List V
  | .agg l => l
  | v => [v]
/-- May a value stand in one cell? -/
def V.one : V → Bool
  | .agg _ | .tup _ => false
  | _ => true
/-- How many bytes an element has. -/
def byOf (t : TypeId) : Option Nat := match P.info? t with
  | some i => some i.bytes
  | none => none

/-! ### Cells -/
noncomputable def cellsOf (t : T V) : Nat → Nat → Option (List V)
  | 0, _ => some []
  | n + 1, off => match t.get off with
    | none => none
    | some v => match cellsOf t n (Nat.succ off) with
      | none => none
      | some l => some (v :: l)
/-- A value laid into a cell; ex: only into one that there is. -/
noncomputable def layPut (v : V) (off : Nat) (t : T V) : Option (T V) := seqT (t.put off (some v)) none some
noncomputable def layCell (ex : Bool) (v : V) (off : Nat) (t : T V) : Option (T V) := match v.one with
  | false => none
  | true => match ex with
    | false => layPut v off t
    | true => match t.get off with
      | none => none
      | some _ => layPut v off t
noncomputable def layCells (ex : Bool) : List V → Nat → T V → Option (T V)
  | [], _, t => some t
  | v :: l, off, t => match layCell ex v off t with
    | none => none
    | some t => layCells ex l (Nat.succ off) t
noncomputable def newCells (l : List V) (s : S) : R Nat :=
  match layCells false l 0 .lf with
  | none => .no "newCells"
  | some t => new (.cells t false) s
noncomputable def cellsIn (x : AB) (off n : Nat) (s : S) : R (List V) := match x with
  | .cells t _ => match cellsOf t n off with
    | some l => .ok l s
    | none => .no "getCells: no such cells"
  | _ => .no "getCells: no cells"
noncomputable def getCells (b off n : Nat) (s : S) : R (List V) := (get b s).bind fun x s => cellsIn x off n s
noncomputable def cellIn (x : AB) (off : Nat) (s : S) : R V := match x with
  | .cells t _ => match t.get off with
    | some v => .ok v s
    | none => .no "getCell: no such cell"
  | _ => .no "getCell: no cells"
noncomputable def getCell (b off : Nat) (s : S) : R V := (get b s).bind fun x s => cellIn x off s
noncomputable def cellsTo (x : AB) (b off : Nat) (l : List V) (s : S) : R Unit := match x with
  | .cells t st => match layCells true l off t with
    | some t => put b (some (.cells t st)) s
    | none => .no "setCells: no such cells"
  | _ => .no "setCells: no cells"
noncomputable def setCells (b off : Nat) (l : List V) (s : S) : R Unit := match l with
  | [] => .ok () s
  | v :: l => (get b s).bind fun x s => cellsTo x b off (v :: l) s
noncomputable def loadAt (b off : Nat) (n : Option Nat) (s : S) : R V := match n with
  | none => getCell b off s
  | some n => (getCells b off n s).bind fun l s => .ok (.agg l) s
noncomputable def load (t : TypeId) (x : V) (s : S) : R V := match x with
  | .ptr b off => match shapeOf P t with
    | some n => loadAt b off n s
    | none => .no "load: type"
  | _ => .no "load: no address"
noncomputable def storeAt (n b off : Nat) (l : List V) (s : S) : R Unit := match Nat.beq l.length n with
  | false => .no "store: another size"
  | true => setCells b off l s
noncomputable def store (t : TypeId) (x v : V) (s : S) : R Unit := match x with
  | .ptr b off => match szOf P t with
    | some n => storeAt n b off v.cells s
    | none => .no "store: type"
  | _ => .no "store: no address"
def partOf (t : TypeId) (cs : List V) (off : Nat) : Option V := match shapeOf P t with
  | some (some n) => some (.agg ((cs.drop off).take n))
  | some none => cs[off]?
  | none => none
def repl (n : Nat) (l : List V) : List V := match n with
  | 0 => []
  | n + 1 => l ++ repl n l
def setAt (cs : List V) (off : Nat) (l : List V) : List V := cs.take off ++ l ++ cs.drop (Nat.add off l.length)
def fillV (place : Nat → Option (Nat × Nat)) (cs : List V) : List (Nat × V) → Option (List V)
  | [] => some cs
  | (i, v) :: rest => match place i with
    | none => none
    | some (off, size) => match Nat.beq v.cells.length size, Nat.ble (Nat.add off size) cs.length with
      | true, true => fillV place (setAt cs off v.cells) rest
      | _, _ => none
/-- Of each of a struct's fields where it lies, and how many cells it has. -/
def places : List Field → Option (List (Nat × Nat))
  | [] => some []
  | f :: fs => match szOf P f.type with
    | none => none
    | some n => match places fs with
      | none => none
      | some l => some ((f.offset, n) :: l)

/-! ### Equality -/
def eqNats : List Nat → List Nat → Bool
  | [], [] => true
  | a :: x, b :: y => match Nat.beq a b with
    | true => eqNats x y
    | false => false
  | _, _ => false
def eqBool (a b : Bool) : Bool := match a, b with
  | true, true => true
  | false, false => true
  | _, _ => false
def isPlain : AB → Bool
  | .cells _ false => true
  | _ => false
/-- Two places in two blocks: they are not one. -/
noncomputable def eqFar (a b : Nat) (s : S) : R Bool := (get a s).bind fun x s => (get b s).bind fun y s => match isPlain x, isPlain y with
  | true, true => .ok false s
  | _, _ => .no "==: pointers"
noncomputable def eqPtr (e : TypeId) (a i b j : Nat) (s : S) : R Bool := match szOf P e with
  | some (_ + 1) => match Nat.beq a b with
    | true => .ok (Nat.beq i j) s
    | false => eqFar a b s
  | _ => .no "==: pointers to nothing"
/-- Two rows of numbers of a kind. -/
noncomputable def eqInts (k : IntKind) : List V → List V → Option Bool
  | [], [] => some true
  | .int j a :: x, .int l b :: y => match kindEq j k, kindEq l k with
    | true, true => match eqI a b with
      | true => eqInts k x y
      | false => some false
    | _, _ => none
  | _, _ => none
/-- Two arrays of numbers. -/
noncomputable def eqArr (t : TypeId) (n : Nat) (e : TypeId) (a b : List V) : Option Bool := match P.underlying e, szOf P e, P.eqGuardType P.depth t, Nat.beq a.length n with
  | some (.int k), some 1, false, true => eqInts k a b
  | _, _, _, _ => none
noncomputable def okB (r : Option Bool) (s : S) : R Bool := match r with
  | some r => .ok r s
  | none => .no "==: arrays"
noncomputable def eqV (t : TypeId) (x y : V) (s : S) : R Bool :=
  match P.underlying t, x, y with
  | some .bool, .bool a, .bool b => .ok (eqBool a b) s
  | some .string, .str a, .str b => .ok (eqNats a b) s
  | some (.pointer _), .nilp, .nilp => .ok true s
  | some (.pointer _), .nilp, .ptr _ _ => .ok false s
  | some (.pointer _), .ptr _ _, .nilp => .ok false s
  | some (.pointer e), .ptr a i, .ptr b j => eqPtr P e a i b j s
  | some (.slice _), .nilsl, .nilsl => .ok true s
  | some (.slice _), .nilsl, .sl _ _ _ _ => .ok false s
  | some (.slice _), .sl _ _ _ _, .nilsl => .ok false s
  | some (.map _ _), .nilmap, .nilmap => .ok true s
  | some (.map _ _), .nilmap, .map _ => .ok false s
  | some (.map _ _), .map _, .nilmap => .ok false s
  | some (.func _ _ _), .nilfn, .nilfn => .ok true s
  | some (.func _ _ _), .nilfn, .fn _ _ _ => .ok false s
  | some (.func _ _ _), .fn _ _ _, .nilfn => .ok false s
  | some (.array n e), .agg a, .agg b => okB (eqArr P t n e a b) s
  | _, _, _ => .no "==: not taken"

/-! ### Keys -/
noncomputable def keyEq : V → V → Option Bool
  | .int j a, .int k b => match kindEq j k with
    | true => some (eqI a b)
    | false => none
  | .str a, .str b => some (eqNats a b)
  | _, _ => none
noncomputable def findKey (k : V) : List (V × V × Nat) → Option (Option (V × Nat))
  | [] => some none
  | (q, v, n) :: es => match keyEq k q with
    | some true => some (some (v, n))
    | some false => findKey k es
    | none => none
noncomputable def setKey (k v : V) : List (V × V × Nat) → List (V × V × Nat)
  | [] => []
  | (q, u, n) :: es => match keyEq k q with
    | some true => (k, v, n) :: es
    | _ => (q, u, n) :: setKey k v es
noncomputable def dropKey (k : V) : List (V × V × Nat) → List (V × V × Nat)
  | [] => []
  | (q, u, n) :: es => match keyEq k q with
    | some true => es
    | _ => (q, u, n) :: dropKey k es
/-- Is a map's key type one that is compared at once, and the key of it? -/
def plainKey (t : TypeId) (k : V) : Bool := match P.underlying t, k with
  | some (.int _), .int _ _ => true
  | some .string, .str _ => true
  | _, _ => false
def entriesIn (x : AB) (s : S) : R (List (V × V × Nat)) := match x with
  | .map es _ => .ok es s
  | _ => .no "map expected"
noncomputable def mapOf (x : V) (s : S) : R (List (V × V × Nat)) := match x with
  | .nilmap => .ok [] s
  | .map b => (get b s).bind entriesIn
  | _ => .no "map expected"

/-! ### Slices -/
def asLen (v : V) : Option Nat := match v with
  | .int _ (.ofNat n) => some n
  | _ => none
/-- A bound: up to the most, or, where that is unknown, up to the length. -/
def boundTo (v : V) (most : Nat) : Option Nat := match asLen v with
  | none => none
  | some n => match Nat.ble n most with
    | true => some n
    | false => none
def capOr (m : Option Nat) (len : Nat) : Nat := match m with
  | some m => m
  | none => len
def maxBound (c : Option Nat) (mx : Option V) : Option (Option Nat) := match mx with
  | none => some c
  | some v => match c with
    | none => none
    | some c => match boundTo v c with
      | some m => some (some m)
      | none => none
def highBound (len : Nat) (m : Option Nat) (hi mx : Option V) : Option Nat := match hi with
  | some v => boundTo v (capOr m len)
  | none => match mx with
    | none => some len
    | some _ => none
def lowBound (h : Nat) (lo : Option V) : Option Nat := match lo with
  | none => some 0
  | some v => boundTo v h
/-- The bounds of a slice expression; c: the capacity, where it is known. -/
def bounds (len : Nat) (c : Option Nat) (lo hi mx : Option V) : Option (Nat × Nat × Option Nat) := match maxBound c mx with
  | none => none
  | some m => match highBound len m hi mx with
    | none => none
    | some h => match lowBound h lo with
      | none => none
      | some l => some (l, h, m)
noncomputable def mkSl (b off len : Nat) (c : Cap) : V := seqN off fun off => seqN len fun len => match c with
  | .of z => .sl b off len (.of z)
  | .is c => seqN c fun c => .sl b off len (.is c)
/-- A slice of a row that begins at a place. -/
noncomputable def slRow (b off z : Nat) (r : Nat × Nat × Option Nat) : V := match r with
  | (l, h, some m) => match Nat.beq m l with
    | true => mkSl b off (Nat.sub h l) (.is (Nat.sub m l))
    | false => mkSl b (Nat.add off (Nat.mul l z)) (Nat.sub h l) (.is (Nat.sub m l))
  | (l, h, none) => mkSl b (Nat.add off (Nat.mul l z)) (Nat.sub h l) (.of z)
noncomputable def slArr (b off n : Nat) (e : TypeId) (lo hi mx : Option V) : Option V := match szOf P e with
  | none => none
  | some z => match bounds n (some n) lo hi mx with
    | none => none
    | some r => some (slRow b off z r)
/-- What is known of a capacity, if it is of such elements. -/
def capOf (z : Nat) (c : Cap) : Option (Option Nat) := match c with
  | .is c => some (some c)
  | .of z' => match Nat.beq z z' with
    | true => some none
    | false => none
noncomputable def slSl (b off len : Nat) (c : Cap) (e : TypeId) (lo hi mx : Option V) : Option V := match szOf P e with
  | none => none
  | some z => match capOf z c with
    | none => none
    | some c => match bounds len c lo hi mx with
      | none => none
      | some r => some (slRow b off z r)
noncomputable def sliceOp (t : TypeId) (x : V) (lo hi mx : Option V) : Option V :=
  match P.underlying t, x with
  | some (.array n e), .ptr b off => slArr P b off n e lo hi mx
  | some (.pointer arr), .ptr b off => match P.underlying arr with
    | some (.array n e) => slArr P b off n e lo hi mx
    | _ => none
  | some (.slice e), .sl b off len cap => slSl P b off len cap e lo hi mx
  | some (.slice e), .nilsl => match szOf P e, bounds 0 (some 0) lo hi mx with
    | some _, some _ => some .nilsl
    | _, _ => none
  | some .string, .str s => match mx with
    | some _ => none
    | none => match bounds s.length (some s.length) lo hi none with
      | some (l, h, _) => some (.str ((s.drop l).take (Nat.sub h l)))
      | none => none
  | _, _ => none
def lenOf : V → Option Nat
  | .nilsl => some 0
  | .sl _ _ n _ => some n
  | .str s => some s.length
  | _ => none
noncomputable def firstCells (z n : Nat) (v : V) (s : S) : R (List V) := match v with
  | .nilsl => .ok [] s
  | .sl b off _ _ => match Nat.mul n z with
    | 0 => .ok [] s
    | m + 1 => getCells b off (Nat.succ m) s
  | .str l => .ok ((l.take n).map fun c => .int .u8 (.ofNat c)) s
  | _ => .no "slice or string expected"

/-! ### append -/
/-- A row of cells made by an append. -/
noncomputable def growRow (st : Bool) (z len : Nat) (l : List V) (s : S) : R V := match layCells false l 0 .lf with
  | none => .no "append: cells"
  | some t => (new (.cells t st) s).bind fun b s => seqN len fun len => .ok (.sl b 0 len (.of z)) s
def mostLen : Nat := 1073741824
/-- What an append knows of its types: an element's cells, its zero, its bytes; and whether what is appended are so many zeros. -/
structure AT where
  z : Nat
  zero : List V
  by8 : Nat
  zeros : Bool
def zerosOf (l : List TypeId) : Option Bool := match l with
  | xT :: _ => match P.underlying xT with
    | some (.int _) => some true
    | some _ => some false
    | none => none
  | [] => some false
def appT (argTypes : List TypeId) : Option AT := match argTypes with
  | [] => none
  | sT :: rest => match P.underlying sT with
    | some (.slice e) => match szOf P e, zeroV P e, byOf P e, zerosOf P rest with
      | some (z + 1), some zc, some y, some q => match Nat.beq zc.cells.length (Nat.succ z) with
        | true => some ⟨Nat.succ z, zc.cells, y, q⟩
        | false => none
      | _, _, _, _ => none
    | _ => none
/-- How many are appended. -/
def appN (t : AT) (x : V) : Option Nat := match t.zeros with
  | true => asLen x
  | false => lenOf x
noncomputable def appWhat (t : AT) (n : Nat) (x : V) (s : S) : R (List V) := match t.zeros with
  | true => .ok (repl n t.zero) s
  | false => firstCells t.z n x s
/-- Behind an append onto a row of unknown room its old name is forgotten. -/
noncomputable def appUnknown (t : AT) (b off len n : Nat) (add : List V) (x : AB) (s : S) : R V := match x with
  | .cells c st => match cellsOf c (Nat.mul len t.z) off with
    | none => .no "append: no such cells"
    | some old => (put b none s).bind fun _ s => growRow st t.z (Nat.add len n) (old ++ add) s
  | _ => .no "append: no cells"
noncomputable def appKnown (t : AT) (b off len c n : Nat) (add : List V) (s : S) : R V := match Nat.ble (Nat.add len n) c with
  | true => (setCells b (Nat.add off (Nat.mul len t.z)) add s).bind fun _ s => .ok (mkSl b off (Nat.add len n) (.is c)) s
  | false => (firstCells t.z len (.sl b off len (.is c)) s).bind fun old s => growRow false t.z (Nat.add len n) (old ++ add) s
noncomputable def appTo (t : AT) (v : V) (n : Nat) (add : List V) (s : S) : R V := match v with
  | .nilsl => match n with
    | 0 => .ok .nilsl s
    | n + 1 => growRow false t.z (Nat.succ n) add s
  | .sl b off len (.is c) => appKnown t b off len c n add s
  | .sl b off len (.of z) => match n with
    | 0 => .ok (.sl b off len (.of z)) s
    | n + 1 => match Nat.beq t.z z with
      | true => (get b s).bind fun x s => appUnknown t b off len (Nat.succ n) add x s
      | false => .no "append: another size"
  | _ => .no "append: slice expected"
noncomputable def appFit (t : AT) (v : V) (n : Nat) (add : List V) (s : S) : R V := match Nat.beq add.length (Nat.mul n t.z) with
  | true => appTo t v n add s
  | false => .no "append: cells"
noncomputable def appGo (t : AT) (v x : V) (n len : Nat) (s : S) : R V := match Nat.ble (Nat.mul (Nat.add len n) (Nat.succ t.by8)) mostLen with
  | false => .no "append: too great"
  | true => (appWhat t n x s).bind fun add s => appFit t v n add s
noncomputable def appendOp (argTypes : List TypeId) (v x : V) (s : S) : R V := match appT P argTypes with
  | none => .no "append: types"
  | some t => match appN t x, lenOf v with
    | some n, some len => appGo t v x n len s
    | _, _ => .no "append: operands"
end
end Go.Ex

/- The executor: operations, regions, code, calls, rounds. -/
namespace Go.Ex

/-- What an operation comes to: a value, a call, or a round of a loop over a function. -/
inductive Nx where
  | val (v : V)
  | call (f : FuncId) (args : List V)
  | round (l : Nat) (args : List V)

noncomputable def R.val (r : R V) : R Nx := R.rec (fun w => .no w) (fun v s => .ok (.val v) s) r
noncomputable def optV (why : String) (v : Option V) (s : S) : R Nx := Option.rec (.no why) (fun v => .ok (.val v) s) v

section
variable (P : Program)
noncomputable def constV (v : Value) : Option V := match v with
  | .int k n => some (.int k n)
  | .bool b => some (.bool b)
  | v => ofVal 8 v
noncomputable def orUndef (v : Option V) : Option V := Option.rec (some (.tup [])) some v
noncomputable def getT (p : B) (a : T V) : Option V := orUndef (T.getB p a)
/-- How an operand is read. -/
structure OC where
  f : T V → Option V
noncomputable def evC (x : Operand) : OC := match x with
  | .tmp t => ⟨getT (path t)⟩
  | .const v => ⟨fun _ => constV v⟩
  | .global g => ⟨fun _ => ite2 (Nat.ble 1000 g) (some (.ptr g 0)) none⟩
  | .func f => ⟨fun _ => some (.fn f [] [])⟩
noncomputable def evl (x : Operand) (a : T V) : Option V := (evC x).f a
noncomputable def consV (v : V) (l : Option (List V)) : Option (List V) := Option.rec none (fun l => some (v :: l)) l
noncomputable def evls (a : T V) : List Operand → Option (List V)
  | [] => some []
  | x :: xs => Option.rec none (fun v => consV v (evls a xs)) (evl x a)
noncomputable def consP (i : Nat) (v : V) (l : Option (List (Nat × V))) : Option (List (Nat × V)) := Option.rec none (fun l => some ((i, v) :: l)) l
noncomputable def evParts (a : T V) : List (Nat × Operand) → Option (List (Nat × V))
  | [] => some []
  | (i, x) :: xs => Option.rec none (fun v => consP i v (evParts a xs)) (evl x a)
/-- An operand that may be left out. -/
noncomputable def evO (a : T V) (x : Option Operand) : Option (Option V) := match x with
  | none => some none
  | some x => Option.rec none (fun v => some (some v)) (evl x a)

/-! ### Builtins -/
noncomputable def least (mx : Bool) (k : IntKind) (a b : Int) : V := match mx with
  | false => match ltI b a with
    | true => .int k b
    | false => .int k a
  | true => match ltI a b with
    | true => .int k b
    | false => .int k a
noncomputable def minMax (mx : Bool) : V → List V → Option V
  | x, [] => some x
  | .int k a, .int _ b :: l => minMax mx (least mx k a b) l
  | _, _ => none
def intV (n : Nat) : V := .int .i64 (.ofNat n)
noncomputable def lenV (n : Nat) : V := seqN n fun n => .int .i64 (.ofNat n)
noncomputable def lenOp (t : TypeId) (x : V) (s : S) : R V :=
  match P.underlying t, x with
  | some (.array n _), _ => .ok (intV n) s
  | some (.pointer arr), _ => match P.underlying arr with
    | some (.array n _) => .ok (intV n) s
    | _ => .no "len: pointer"
  | some (.slice _), .nilsl => .ok (intV 0) s
  | some (.slice _), .sl _ _ n _ => .ok (intV n) s
  | some .string, .str l => .ok (lenV l.length) s
  | some (.map _ _), x => (mapOf x s).bind fun es s => .ok (lenV es.length) s
  | _, _ => .no "len: not taken"
noncomputable def copyTo (n : Nat) (d : V) (l : List V) (s : S) : R V := match d with
  | .sl b off _ _ => (setCells b off l s).bind fun _ s => .ok (lenV n) s
  | .nilsl => .ok (intV 0) s
  | _ => .no "copy: to what"
noncomputable def copyGo (z n : Nat) (d x : V) (s : S) : R V := (firstCells z n x s).bind fun l s => copyTo n d l s
noncomputable def copyOp (t : TypeId) (d x : V) (s : S) : R V := match P.underlying t with
  | some (.slice e) => match szOf P e, lenOf x, lenOf d with
    | some z, some m, some n => copyGo z (Nat.min m n) d x s
    | _, _, _ => .no "copy"
  | _ => .no "copy: type"
noncomputable def deleteIn (b : Nat) (k : V) (x : AB) (s : S) : R V := match x with
  | .map es c => match findKey k es with
    | none => .no "delete: key"
    | some _ => (put b (some (.map (dropKey k es) c)) s).bind fun _ s => .ok (.tup []) s
  | _ => .no "delete: map expected"
noncomputable def deleteOp (t : TypeId) (m k : V) (s : S) : R V := match P.underlying t, m with
  | some (.map kt _), .map b => match plainKey P kt k with
    | true => (get b s).bind fun x s => deleteIn b k x s
    | false => .no "delete: key's type"
  | _, _ => .no "delete: not taken"
noncomputable def clearOp (t : TypeId) (x : V) (s : S) : R V := match P.underlying t, x with
  | some (.slice _), .nilsl => .ok (.tup []) s
  | some (.slice e), .sl b off n _ => match zeroV P e with
    | some z => (setCells b off (repl n z.cells) s).bind fun _ s => .ok (.tup []) s
    | none => .no "clear: zero"
  | _, _ => .no "clear: not taken"
noncomputable def optR (why : String) (v : Option V) (s : S) : R V := Option.rec (.no why) (fun v => .ok v s) v
noncomputable def builtin1 (b : Builtin) (t : TypeId) (x : V) (s : S) : R V := match b with
  | .len => lenOp P t x s
  | .clear => clearOp P t x s
  | .min => .ok x s
  | .max => .ok x s
  | _ => .no "builtin: not taken"
noncomputable def builtin2 (b : Builtin) (ts : List TypeId) (t : TypeId) (x y : V) (s : S) : R V := match b with
  | .append => appendOp P ts x y s
  | .copy => copyOp P t x y s
  | .delete => deleteOp P t x y s
  | .min => optR "min" (minMax false x [y]) s
  | .max => optR "max" (minMax true x [y]) s
  | _ => .no "builtin: not taken"
noncomputable def builtinOp (b : Builtin) (ts : List TypeId) (args : List V) (s : S) : R V := match ts, args with
  | t :: _, [x] => builtin1 P b t x s
  | t :: _, [x, y] => builtin2 P b ts t x y s
  | _, x :: l => match b with
    | .min => optR "min" (minMax false x l) s
    | .max => optR "max" (minMax true x l) s
    | _ => .no "builtin: not taken"
  | _, _ => .no "builtin: no operand"

/-! ### Maps -/
def foundV (ok : Bool) (v : V) (s : S) : R V := match ok with
  | true => .ok (.tup [v, .bool true]) s
  | false => .ok v s
def missV (ok : Bool) (z : Option V) (s : S) : R V := match z with
  | none => .no "lookup: zero"
  | some z => match ok with
    | true => .ok (.tup [z, .bool false]) s
    | false => .ok z s
noncomputable def lookIn (et : TypeId) (k : V) (ok : Bool) (es : List (V × V × Nat)) (s : S) : R V := match findKey k es with
  | none => .no "lookup: key"
  | some (some (v, _)) => foundV ok v s
  | some none => missV ok (zeroV P et) s
noncomputable def lookupOp (t : TypeId) (x k : V) (ok : Bool) (s : S) : R V := match P.underlying t with
  | some (.map kt et) => match plainKey P kt k with
    | true => (mapOf x s).bind fun es s => lookIn P et k ok es s
    | false => .no "lookup: key's type"
  | _ => .no "lookup: type"
noncomputable def updateIn (b : Nat) (k v : V) (x : AB) (s : S) : R V := match x with
  | .map es c => match findKey k es with
    | none => .no "mapUpdate: key"
    | some (some _) => (put b (some (.map (setKey k v es) c)) s).bind fun _ s => .ok (.tup []) s
    | some none => (put b (some (.map (es ++ [(k, v, c)]) (Nat.succ c))) s).bind fun _ s => .ok (.tup []) s
  | _ => .no "mapUpdate: map expected"
noncomputable def updateOp (t : TypeId) (x k v : V) (s : S) : R V := match P.underlying t, x with
  | some (.map kt _), .map b => match plainKey P kt k with
    | true => (get b s).bind fun x s => updateIn b k v x s
    | false => .no "mapUpdate: key's type"
  | _, _ => .no "mapUpdate: not taken"
noncomputable def rangeIn (m : Nat) (x : AB) (s : S) : R V := match x with
  | .map _ c => (new (.miter (some m) c [] c) s).bind fun b s => .ok (.ptr b 0) s
  | _ => .no "range: map expected"
noncomputable def rangeOp (t : TypeId) (x : V) (s : S) : R V := match P.underlying t, x with
  | some (.map _ _), .nilmap => (new (.miter none 0 [] 0) s).bind fun b s => .ok (.ptr b 0) s
  | some (.map _ _), .map m => (get m s).bind fun x s => rangeIn m x s
  | _, _ => .no "range: not taken"
def hasNat (n : Nat) : List Nat → Bool
  | [] => false
  | m :: l => match Nat.beq n m with
    | true => true
    | false => hasNat n l
/-- The entries that are still to come. -/
def leftOf (seen : List Nat) : List (V × V × Nat) → List (V × V × Nat)
  | [] => []
  | (k, v, n) :: es => match hasNat n seen with
    | true => leftOf seen es
    | false => (k, v, n) :: leftOf seen es
noncomputable def nextLeft (r m since : Nat) (seen : List Nat) (c : Nat) (l : List (V × V × Nat)) (s : S) : R V := match l with
  | [] => .ok (.tup [.bool false]) s
  | [(k, v, n)] => match Nat.ble since n with
    | true => .no "next: a new entry"
    | false => (put r (some (.miter (some m) since (seen ++ [n]) c)) s).bind fun _ s => .ok (.tup [.bool true, k, v]) s
  | _ => .no "next: more than one"
def emptyL {α : Type} (l : List α) : Bool := match l with
  | [] => true
  | _ => false
/-- Are all entries new ones? -/
def allNew (last : Nat) : List (V × V × Nat) → Bool
  | [] => true
  | (_, _, n) :: es => match Nat.ble last n with
    | true => allNew last es
    | false => false
noncomputable def nextMap (r m since : Nat) (seen : List Nat) (last : Nat) (x : AB) (s : S) : R V := match x with
  | .map es c => match emptyL seen, emptyL es, allNew last es with
    | false, false, true => .no "next: a map of new entries"
    | _, _, _ => nextLeft r m since seen c (leftOf seen es) s
  | _ => .no "next: map expected"
noncomputable def nextIn (r : Nat) (x : AB) (s : S) : R V := match x with
  | .miter none _ _ _ => .ok (.tup [.bool false]) s
  | .miter (some m) since seen last => (get m s).bind fun x s => nextMap r m since seen last x s
  | _ => .no "next: iterator expected"
noncomputable def nextOp (x : V) (isString : Bool) (s : S) : R V := match x, isString with
  | .ptr r 0, false => (get r s).bind fun x s => nextIn r x s
  | _, _ => .no "next: not taken"
def entryAt (n : Nat) : List (V × V × Nat) → Option (V × V)
  | [] => none
  | (k, v, m) :: es => match Nat.beq m n with
    | true => some (k, v)
    | false => entryAt n es
def entryMap (n stepped : Nat) (x : AB) (s : S) : R V := match x with
  | .map es c => match Nat.beq c stepped with
    | false => .no "entry: an insertion"
    | true => match entryAt n es with
      | some (k, v) => .ok (.tup [k, v]) s
      | none => .no "entry: removed"
  | _ => .no "entry: map expected"
def lastOf : List Nat → Option Nat
  | [] => none
  | [n] => some n
  | _ :: l => lastOf l
noncomputable def entryIn (x : AB) (s : S) : R V := match x with
  | .miter (some m) _ seen stepped => match lastOf seen with
    | none => .no "entry: no step yet"
    | some n => (get m s).bind fun x s => entryMap n stepped x s
  | _ => .no "entry: iterator expected"
noncomputable def entryOp (x : V) (s : S) : R V := match x with
  | .ptr r 0 => (get r s).bind entryIn
  | _ => .no "entry: not taken"

/-! ### Operations -/
/-- The call of a function's value. -/
def callOf (f : V) (args : List V) (s : S) : R Nx := match f with
  | .fn f first cap => .ok (.call f (first ++ args ++ cap)) s
  | .yield l => .ok (.round l args) s
  | _ => .no "call: no function"
def pickV (c x y : Option V) : Option V := match c, x, y with
  | some (.bool true), some v, some _ => some v
  | some (.bool false), some _, some v => some v
  | _, _, _ => none
noncomputable def ptrNew (r : R Nat) : R Nx := r.bind fun b s => .ok (.val (.ptr b 0)) s
noncomputable def buildOp (t : TypeId) (ps : Option (List (Nat × V))) : Option V := match ps, zeroV P t with
  | some ps, some z => match P.underlying t with
    | some (.struct fs) => match places P fs.toList with
      | some pl => match fillV (fun i => pl[i]?) z.cells ps with
        | some l => some (.agg l)
        | none => none
      | none => none
    | some (.array _ e) => match szOf P e with
      | some n => match fillV (fun i => some (Nat.mul i n, n)) z.cells ps with
        | some l => some (.agg l)
        | none => none
      | none => none
    | _ => none
  | _, _ => none
noncomputable def rowOp (e : TypeId) (len : Nat) (ps : List (Nat × V)) (s : S) : R V := match szOf P e, zeroV P e with
  | some n, some z => match Nat.ble (Nat.mul len n) 16777216, Nat.beq z.cells.length n, fillV (fun i => some (Nat.mul i n, n)) (repl len z.cells) ps with
    | true, true, some l => (newCells l s).bind fun b s => .ok (.sl b 0 len (.is len)) s
    | _, _, _ => .no "buildSlice"
  | _, _ => .no "buildSlice: type"
noncomputable def buildSliceOp (t : TypeId) (len : Nat) (ps : Option (List (Nat × V))) (s : S) : R V := match P.underlying t, ps with
  | some (.slice e), some ps => rowOp P e len ps s
  | _, _ => .no "buildSlice"
noncomputable def loadOp (t : TypeId) (x : Option V) (s : S) : R V := match x with
  | some v => load P t v s
  | none => .no "load"
def nilCheckV (x : Option V) : Option V := match x with
  | some (.ptr b off) => some (.ptr b off)
  | some (.fn f l c) => some (.fn f l c)
  | _ => none
noncomputable def eqOp (op : BinOp) (t : TypeId) (u v : V) (s : S) : R V := match op with
  | .eql => (eqV P t u v s).bind fun b s => optR "==" (mkBool b) s
  | .neq => (eqV P t u v s).bind fun b s => optR "!=" (mkNot b) s
  | _ => .no "binOp: not taken"
noncomputable def unOpV (op : UnOp) (x : Option V) : Option V := match op, x with
  | .not, some (.bool b) => mkNot b
  | .neg, some (.int k n) => subV k 0 n
  | .xor, some (.int k n) => mkBits k (Nat.xor (Nat.sub (modU k) 1) (bitsU k n))
  | _, _ => none
def byteList : List V → Option (List Nat)
  | [] => some []
  | .int .u8 (.ofNat m) :: l => match Nat.ble m 255, byteList l with
    | true, some r => some (m :: r)
    | _, _ => none
  | _ => none
def strOf (l : List V) (s : S) : R V := match byteList l with
  | some l => .ok (.str l) s
  | none => .no "convert: bytes"
noncomputable def toStr (e : TypeId) (x : V) (s : S) : R V := match P.underlying e with
  | some (.int .u8) => match lenOf x with
    | some n => (firstCells 1 n x s).bind strOf
    | none => .no "convert: to string"
  | _ => .no "convert: to string"
noncomputable def markIn (b : Nat) (v : V) (x : AB) (s : S) : R V := match x with
  | .cells t _ => (put b (some (.cells t true)) s).bind fun _ s => .ok v s
  | _ => .no "convert: cells"
/-- Is it sure that a slice lies in the block of its name? -/
def surely (n : Nat) (c : Cap) : Bool := match c, n with
  | .of _, 0 => false
  | _, _ => true
noncomputable def convSl (a d e : TypeId) (b n : Nat) (c : Cap) (v : V) (s : S) : R V := match Nat.beq a d, P.underlying e, surely n c with
  | true, some (.int .u8), true => (get b s).bind fun x s => markIn b v x s
  | _, _, _ => .no "convert: slices"
noncomputable def convertOp (a d : TypeId) (x : Option V) (s : S) : R V := match P.underlying a, P.underlying d, x with
  | some _, some (.int k), some (.int _ n) => optR "convert" (mkInt k (wrapK k n)) s
  | some (.slice e), some .string, some .nilsl => toStr P e .nilsl s
  | some (.slice e), some .string, some (.sl b off n c) => toStr P e (.sl b off n c) s
  | some (.slice _), some (.slice e), some (.sl b off n c) => convSl P a d e b n c (.sl b off n c) s
  | _, _, _ => .no "convert: not taken"
def funcV (fn : Fn) (l c : Option (List V)) : Option V := match fn, l, c with
  | .func f, some l, some c => some (.fn f l c)
  | _, _, _ => none
noncomputable def newMap (s : S) : R V := (new (.map [] 0) s).bind fun b s => .ok (.map b) s
noncomputable def makeMapOp (t : TypeId) (x : Option (Option V)) (s : S) : R V := match x with
  | some none => newMap s
  | some (some (.int _ _)) => match P.underlying t with
    | some (.map _ _) => newMap s
    | _ => .no "makeMap"
  | _ => .no "makeMap"
noncomputable def makeRow (e : TypeId) (n m : Nat) (s : S) : R V := match zeroV P e, szOf P e, byOf P e with
  | some z, some sz, some y => match Nat.ble n m, Nat.ble (Nat.mul m (Nat.succ y)) mostLen, Nat.beq z.cells.length sz with
    | true, true, true => (newCells (repl m z.cells) s).bind fun b s => .ok (.sl b 0 n (.is m)) s
    | _, _, _ => .no "makeSlice: size"
  | _, _, _ => .no "makeSlice: type"
noncomputable def makeSliceOp (t : TypeId) (l c : Option V) (s : S) : R V := match P.underlying t, l, c with
  | some (.slice e), some (.int _ (.ofNat n)), some (.int _ (.ofNat m)) => makeRow P e n m s
  | _, _, _ => .no "makeSlice"
noncomputable def sliceV (t : TypeId) (x : Option V) (lo hi mx : Option (Option V)) : Option V := match x, lo, hi, mx with
  | some x, some lo, some hi, some mx => sliceOp P t x lo hi mx
  | _, _, _, _ => none
def fieldOf (t : TypeId) (i : Nat) : Option Field := match P.underlying t with
  | some (.struct fs) => fs.toList[i]?
  | _ => none
/-- How far a field lies from its struct's begin. -/
def fieldOff (t : TypeId) (i : Nat) : Option Nat := match fieldOf P t i with
  | some f => match szOf P f.type with
    | some (_ + 1) => some f.offset
    | _ => none
  | none => none
def fieldV (t : TypeId) (x : Option V) (i : Nat) : Option V := match fieldOf P t i, x with
  | some f, some (.agg cs) => partOf P f.type cs f.offset
  | _, _ => none
noncomputable def ptrAt (b off i n : Nat) (z : Option Nat) : Option V := match z, Nat.ble n i with
  | some z, false => seqN (Nat.add off (Nat.mul i z)) fun off => some (.ptr b off)
  | _, _ => none
noncomputable def indexAddrV (t : TypeId) (x i : Option V) : Option V := match P.underlying t, x, i with
  | some (.array n e), some (.ptr b off), some (.int _ (.ofNat i)) => ptrAt b off i n (szOf P e)
  | some (.slice e), some (.sl b off n _), some (.int _ (.ofNat i)) => ptrAt b off i n (szOf P e)
  | _, _, _ => none
def indexArr (n : Nat) (e : TypeId) (cs : List V) (i : Nat) : Option V := match szOf P e, Nat.ble n i with
  | some z, false => partOf P e cs (Nat.mul i z)
  | _, _ => none
noncomputable def indexV (t : TypeId) (x i : Option V) : Option V := match P.underlying t, x, i with
  | some (.array n e), some (.agg cs), some (.int _ (.ofNat i)) => indexArr P n e cs i
  | some .string, some (.str l), some (.int _ (.ofNat i)) => match l[i]? with
    | some c => some (.int .u8 (.ofNat c))
    | none => none
  | _, _, _ => none
def extractV (x : Option V) (i : Nat) : Option V := match x with
  | some (.tup l) => l[i]?
  | _ => none
noncomputable def lookupO (t : TypeId) (x k : Option V) (ok : Bool) (s : S) : R V := match x, k with
  | some x, some k => lookupOp P t x k ok s
  | _, _ => .no "lookup"
noncomputable def updateO (t : TypeId) (x k v : Option V) (s : S) : R V := match x, k, v with
  | some x, some k, some v => updateOp P t x k v s
  | _, _, _ => .no "mapUpdate"
noncomputable def rangeO (t : TypeId) (x : Option V) (s : S) : R V := match x with
  | some x => rangeOp P t x s
  | none => .no "range"
noncomputable def nextO (x : Option V) (b : Bool) (s : S) : R V := match x with
  | some x => nextOp x b s
  | none => .no "next"
noncomputable def entryO (x : Option V) (s : S) : R V := match x with
  | some x => entryOp x s
  | none => .no "entry"
noncomputable def callBuiltin (b : Builtin) (ts : List TypeId) (args : Option (List V)) (s : S) : R V := match args with
  | some args => builtinOp P b ts args s
  | none => .no "builtin: operand"
def callValue (f : Option V) (args : Option (List V)) (s : S) : R Nx := match f, args with
  | some f, some args => callOf f args s
  | _, _ => .no "call: operand"
noncomputable def callOp (a : T V) (c : Call) (s : S) : R Nx := match c.callee with
  | .builtin b => R.val (callBuiltin P b c.argTypes.toList (evls a c.args.toList) s)
  | .value f => callValue (evl f a) (evls a c.args.toList) s
  | .invoke _ _ => .no "invoke: not taken"
/-- An operation, made ready: p: it looks at its operands alone. -/
inductive OpC where
  | p (f : T V → Option V)
  | m (f : T V → S → R Nx)
  | no (why : String)
abbrev OF := T V → Option V
noncomputable def opPick (c x y : OF) (a : T V) : Option V := pickV (c a) (x a) (y a)
noncomputable def opAlloc (z : Option V) (_ : T V) (s : S) : R Nx := Option.rec (.no "alloc") (fun z => ptrNew (newCells z.cells s)) z
noncomputable def opBox (x : OF) (a : T V) (s : S) : R Nx := Option.rec (.no "box") (fun v => ptrNew (newCells v.cells s)) (x a)
noncomputable def opBuild (t : TypeId) (ps : List (Nat × Operand)) (a : T V) : Option V := buildOp P t (evParts a ps)
noncomputable def opBuildSlice (t : TypeId) (n : Nat) (ps : List (Nat × Operand)) (a : T V) (s : S) : R Nx := R.val (buildSliceOp P t n (evParts a ps) s)
/-- A load of one cell. -/
noncomputable def load1 (x : V) (s : S) : R V := match x with
  | .ptr b off => getCell b off s
  | _ => .no "load: no address"
noncomputable def opLoad1 (x : OF) (a : T V) (s : S) : R Nx := Option.rec (.no "load") (fun v => R.val (load1 v s)) (x a)
noncomputable def loadN (n : Nat) (x : V) (s : S) : R V := match x with
  | .ptr b off => loadAt b off (some n) s
  | _ => .no "load: no address"
noncomputable def opLoadN (n : Nat) (x : OF) (a : T V) (s : S) : R Nx := Option.rec (.no "load") (fun v => R.val (loadN n v s)) (x a)
noncomputable def opLoad (sh : Option (Option Nat)) (x : OF) : OpC := match sh with
  | none => .no "load: type"
  | some none => .m (opLoad1 x)
  | some (some n) => .m (opLoadN n x)
noncomputable def storeN (n : Nat) (x v : V) (s : S) : R Nx := match x with
  | .ptr b off => R.rec (fun w => .no w) (fun _ s => .ok (.val (.tup [])) s) (storeAt n b off v.cells s)
  | _ => .no "store: no address"
noncomputable def opStore (n : Nat) (x y : OF) (a : T V) (s : S) : R Nx := Option.rec (.no "store") (fun u => Option.rec (.no "store") (fun v => storeN n u v s) (y a)) (x a)
noncomputable def opStoreC (n : Option Nat) (x y : OF) : OpC := match n with
  | none => .no "store: type"
  | some n => .m (opStore n x y)
noncomputable def opNil (x : OF) (a : T V) : Option V := nilCheckV (x a)
noncomputable def binI (f : IntKind → Int → Int → Option V) (sh : Bool) (u v : V) : Option V := match u, v with
  | .int k m, .int j n => intGo f k j m n sh
  | _, _ => none
noncomputable def opBinI (f : IntKind → Int → Int → Option V) (sh : Bool) (x y : OF) (a : T V) : Option V := Option.rec none (fun u => Option.rec none (fun v => binI f sh u v) (y a)) (x a)
noncomputable def opEq (op : BinOp) (t : TypeId) (x y : OF) (a : T V) (s : S) : R Nx := Option.rec (.no "==") (fun u => Option.rec (.no "==") (fun v => R.val (eqOp P op t u v s)) (y a)) (x a)
noncomputable def opBin (op : BinOp) (t : TypeId) (x y : OF) : OpC := match P.underlying t with
  | some (.int _) => BF.rec (fun sh f => .p (opBinI f sh x y)) (.no "binOp") (binF op)
  | _ => .m (opEq P op t x y)
noncomputable def opUn (op : UnOp) (x : OF) (a : T V) : Option V := unOpV op (x a)
noncomputable def opConv (t u : TypeId) (x : OF) (a : T V) (s : S) : R Nx := R.val (convertOp P t u (x a) s)
noncomputable def convI (k : IntKind) (v : V) : Option V := match v with
  | .int _ n => mkInt k (wrapK k n)
  | _ => none
noncomputable def opConvI (k : IntKind) (x : OF) (a : T V) : Option V := Option.rec none (convI k) (x a)
noncomputable def opConvC (t u : TypeId) (x : OF) : OpC := match P.underlying t, P.underlying u with
  | some _, some (.int k) => .p (opConvI k x)
  | _, _ => .m (opConv P t u x)
noncomputable def opFunc (fn : Fn) (l c : List Operand) (a : T V) : Option V := funcV fn (evls a l) (evls a c)
noncomputable def opMap (t : TypeId) (r : Option Operand) (a : T V) (s : S) : R Nx := R.val (makeMapOp P t (evO a r) s)
noncomputable def opMake (t : TypeId) (l c : OF) (a : T V) (s : S) : R Nx := R.val (makeSliceOp P t (l a) (c a) s)
noncomputable def opSlice (t : TypeId) (x : OF) (lo hi mx : Option Operand) (a : T V) : Option V := sliceV P t (x a) (evO a lo) (evO a hi) (evO a mx)
noncomputable def ptrOff (n : Nat) (x : V) : Option V := match x with
  | .ptr b off => seqN (Nat.add off n) fun off => some (.ptr b off)
  | _ => none
noncomputable def opFieldAddr (n : Nat) (x : OF) (a : T V) : Option V := Option.rec none (ptrOff n) (x a)
noncomputable def opFieldAddrC (n : Option Nat) (x : OF) : OpC := match n with
  | none => .no "fieldAddr: type"
  | some n => .p (opFieldAddr n x)
noncomputable def opField (t : TypeId) (x : OF) (i : Nat) (a : T V) : Option V := fieldV P t (x a) i
noncomputable def opIndexAddr (t : TypeId) (x i : OF) (a : T V) : Option V := indexAddrV P t (x a) (i a)
noncomputable def opIndex (t : TypeId) (x i : OF) (a : T V) : Option V := indexV P t (x a) (i a)
noncomputable def opLookup (t : TypeId) (x k : OF) (ok : Bool) (a : T V) (s : S) : R Nx := R.val (lookupO P t (x a) (k a) ok s)
noncomputable def opUpdate (t : TypeId) (m k x : OF) (a : T V) (s : S) : R Nx := R.val (updateO P t (m a) (k a) (x a) s)
noncomputable def opRange (t : TypeId) (x : OF) (a : T V) (s : S) : R Nx := R.val (rangeO P t (x a) s)
noncomputable def opNext (x : OF) (b : Bool) (a : T V) (s : S) : R Nx := R.val (nextO (x a) b s)
noncomputable def opEntry (x : OF) (a : T V) (s : S) : R Nx := R.val (entryO (x a) s)
noncomputable def opExtract (x : OF) (i : Nat) (a : T V) : Option V := extractV (x a) i
noncomputable def opCall (c : Call) (a : T V) (s : S) : R Nx := callOp P a c s
noncomputable def opC (op : Op) : OpC := match op with
  | .move x => OC.rec (fun f => .p f) (evC x)
  | .assign x => OC.rec (fun f => .p f) (evC x)
  | .pick c x y => .p (opPick (evl c) (evl x) (evl y))
  | .alloc t => .m (opAlloc (zeroV P t))
  | .box _ x => OC.rec (fun f => .m (opBox f)) (evC x)
  | .build t ps => .p (opBuild P t ps.toList)
  | .buildSlice t n ps => .m (opBuildSlice P t n ps.toList)
  | .load t x => OC.rec (fun f => opLoad (shapeOf P t) f) (evC x)
  | .store t x y => OC.rec (fun f => OC.rec (fun g => opStoreC (szOf P t) f g) (evC y)) (evC x)
  | .nilCheck x => OC.rec (fun f => .p (opNil f)) (evC x)
  | .binOp op t x y _ => OC.rec (fun f => OC.rec (fun g => opBin P op t f g) (evC y)) (evC x)
  | .unOp op _ x => .p (opUn op (evl x))
  | .convert t u x => OC.rec (fun f => opConvC P t u f) (evC x)
  | .makeFunc fn l c => .p (opFunc fn l.toList c.toList)
  | .makeMap t r => .m (opMap P t r)
  | .makeSlice t l c => .m (opMake P t (evl l) (evl c))
  | .slice t x lo hi mx => .p (opSlice P t (evl x) lo hi mx)
  | .fieldAddr t x i => OC.rec (fun f => opFieldAddrC (fieldOff P t i) f) (evC x)
  | .field t x i => .p (opField P t (evl x) i)
  | .indexAddr t x i => OC.rec (fun f => OC.rec (fun g => .p (opIndexAddr P t f g)) (evC i)) (evC x)
  | .index t x i => .p (opIndex P t (evl x) (evl i))
  | .lookup t x k ok => .m (opLookup P t (evl x) (evl k) ok)
  | .mapUpdate t m k x => .m (opUpdate P t (evl m) (evl k) (evl x))
  | .insert t m k x => .m (opUpdate P t (evl m) (evl k) (evl x))
  | .range t x => .m (opRange P t (evl x))
  | .next x b => .m (opNext (evl x) b)
  | .entry x => .m (opEntry (evl x))
  | .extract x i => OC.rec (fun f => .p (opExtract f i)) (evC x)
  | .call c => .m (opCall P c)
  | _ => .no "op: not taken"

/-! ### Regions -/
/-- An activation: its temporaries, how many, and the blocks of deferred calls that it owes. -/
structure A where
  tmps : T V
  n : Nat
  marks : List Nat
  deriving Inhabited

inductive E where
  | norm
  | exit (id : Nat)
  | ret

/-- How functions are called, and rounds made. -/
structure Rec where
  call : FuncId → List V → S → R V
  round : Nat → List V → S → R V

noncomputable def setTmpD (d : Nat) (v : V) (s : S) (t : T V) (n : Nat) (m : List Nat) : R A :=
  ite2 (Nat.ble n d) (seqT (t.put d (some v)) (.no "temporary") fun t => .ok ⟨t, n, m⟩ s) (.no "no such temporary")
noncomputable def setTmp (dst : Option Tmp) (v : V) (t : T V) (n : Nat) (m : List Nat) (s : S) : R A := Option.rec (.ok ⟨t, n, m⟩ s) (fun d => setTmpD d v s t n m) dst

noncomputable def runNx (r : Rec) (x : Nx) (s : S) : R V := Nx.rec (fun v => .ok v s) (fun f args => r.call f args s) (fun l args => r.round l args s) x
noncomputable def runM (r : Rec) (f : T V → S → R Nx) (t : T V) (s : S) : R V := R.rec (fun w => .no w) (fun x s => runNx r x s) (f t s)

/-- An operation of a region; those that come ahead of it in every order; and its guard: what stands in a place. -/
structure It where
  op : OpC
  dst : Option Tmp
  b : Nat
  g : Option (Nat × Bool)

noncomputable def isB (want : Bool) (v : V) : Bool := match v with
  | .bool b => eqBool b want
  | _ => false
noncomputable def wantedV (t : T V) (g : Option (Nat × Bool)) : Bool := Option.rec true (fun g => Prod.rec (fun d want => Option.rec false (isB want) (t.get d)) g) g

/-- What was read and written by each operation. -/
abbrev Log := List (Nat × Nat × Nat)
/-- Are those of the operations ahead that need not come ahead apart from what this one reads and writes? -/
def clearAll (b r w : Nat) : Log → Bool
  | [] => true
  | (i, r', w') :: l => match Nat.testBit b i with
    | true => clearAll b r w l
    | false => match Nat.beq (Nat.land w' (Nat.lor r w)) 0 with
      | true => match Nat.beq (Nat.land w r') 0 with
        | true => clearAll b r w l
        | false => false
      | false => false
def logIn (b i r w : Nat) (l : Log) : Option Log := match Nat.lor r w with
  | 0 => some l
  | _ + 1 => match clearAll b r w l with
    | true => some ((i, r, w) :: l)
    | false => none

/-! The operations one behind the other: of each a step, and what follows. -/
abbrev KA := Rec → A → S → R A
/-- A value is put, and on. -/
noncomputable def putK (k : KA) (d : Nat) (r : Rec) (t : T V) (n : Nat) (m : List Nat) (s : S) (v : V) : R A :=
  ite2 (Nat.ble n d) (seqT (t.put d (some v)) (.no "temporary") fun t => k r ⟨t, n, m⟩ s) (.no "no such temporary")
noncomputable def putO (k : KA) (dst : Option Nat) (r : Rec) (t : T V) (n : Nat) (m : List Nat) (s : S) (v : V) : R A := Option.rec (k r ⟨t, n, m⟩ s) (fun d => putK k d r t n m s v) dst
noncomputable def pStep (k : KA) (f : OF) (dst : Option Nat) (r : Rec) (s : S) (t : T V) (n : Nat) (m : List Nat) : R A := Option.rec (.no "operation") (putO k dst r t n m s) (f t)
noncomputable def mStep (k : KA) (f : T V → S → R Nx) (dst : Option Nat) (r : Rec) (s : S) (t : T V) (n : Nat) (m : List Nat) : R A := R.rec (fun w => .no w) (fun v s => putO k dst r t n m s v) (runM r f t s)
noncomputable def gStep (go skip : S → T V → Nat → List Nat → R A) (g : Option (Nat × Bool)) (s : S) (t : T V) (n : Nat) (m : List Nat) : R A := ite2 (wantedV t g) (skip s t n m) (go s t n m)
/-- Steps made ready. -/
structure KC where
  f : KA
noncomputable def pK (k : KA) (f : OF) (dst : Option Nat) (r : Rec) (a : A) (s : S) : R A := A.rec (pStep k f dst r s) a
noncomputable def mK (k : KA) (f : T V → S → R Nx) (dst : Option Nat) (r : Rec) (a : A) (s : S) : R A := A.rec (mStep k f dst r s) a
noncomputable def pgK (k : KA) (f : OF) (dst : Option Nat) (g : Option (Nat × Bool)) (r : Rec) (a : A) (s : S) : R A :=
  A.rec (gStep (pStep k f dst r) (fun s t n m => putO k dst r t n m s (.tup [])) g s) a
noncomputable def mgK (k : KA) (f : T V → S → R Nx) (dst : Option Nat) (g : Option (Nat × Bool)) (r : Rec) (a : A) (s : S) : R A :=
  A.rec (gStep (mStep k f dst r) (fun s t n m => putO k dst r t n m s (.tup [])) g s) a
noncomputable def stepK (o : It) (k : KA) : KC := match o.op, o.g with
  | .p f, none => ⟨pK k f o.dst⟩
  | .m f, none => ⟨mK k f o.dst⟩
  | .p f, g => ⟨pgK k f o.dst g⟩
  | .m f, g => ⟨mgK k f o.dst g⟩
  | .no w, none => ⟨fun _ _ _ => .no w⟩
  | .no w, g => ⟨mgK k (fun _ _ => .no w) o.dst g⟩
noncomputable def seqK : List It → KC
  | [] => ⟨fun _ a s => .ok a s⟩
  | o :: l => KC.rec (stepK o) (seqK l)

/-! The same, with what was read and written told on. -/
abbrev KL := Log → Rec → A → S → R A
noncomputable def logK (k : KL) (b i : Nat) (dst : Option Nat) (l : Log) (rc : Rec) (t : T V) (n : Nat) (m : List Nat) (s : S) (v : V) (x : Nat × Nat) : R A :=
  Prod.rec (fun r w => Option.rec (.no "region: an order matters") (fun l => putO (k l) dst rc t n m s v) (logIn b i r w l)) x
noncomputable def dStep (k : KL) (f : T V → S → R Nx) (b i : Nat) (dst : Option Nat) (l : Log) (r : Rec) (s : S) (t : T V) (n : Nat) (m : List Nat) : R A :=
  R.rec (fun w => .no w) (fun x s => Prod.rec (logK k b i dst l r t n m s) x) (apart (runM r f t) s)
structure KD where
  f : KL
noncomputable def pD (k : KL) (f : OF) (dst : Option Nat) (l : Log) (r : Rec) (a : A) (s : S) : R A := A.rec (pStep (k l) f dst r s) a
noncomputable def mD (k : KL) (f : T V → S → R Nx) (b i : Nat) (dst : Option Nat) (l : Log) (r : Rec) (a : A) (s : S) : R A := A.rec (dStep k f b i dst l r s) a
noncomputable def pgD (k : KL) (f : OF) (dst : Option Nat) (g : Option (Nat × Bool)) (l : Log) (r : Rec) (a : A) (s : S) : R A :=
  A.rec (gStep (pStep (k l) f dst r) (fun s t n m => putO (k l) dst r t n m s (.tup [])) g s) a
noncomputable def mgD (k : KL) (f : T V → S → R Nx) (b i : Nat) (dst : Option Nat) (g : Option (Nat × Bool)) (l : Log) (r : Rec) (a : A) (s : S) : R A :=
  A.rec (gStep (dStep k f b i dst l r) (fun s t n m => putO (k l) dst r t n m s (.tup [])) g s) a
noncomputable def stepD (o : It) (i : Nat) (k : KL) : KD := match o.op, o.g with
  | .p f, none => ⟨pD k f o.dst⟩
  | .m f, none => ⟨mD k f o.b i o.dst⟩
  | .p f, g => ⟨pgD k f o.dst g⟩
  | .m f, g => ⟨mgD k f o.b i o.dst g⟩
  | .no w, none => ⟨fun _ _ _ _ => .no w⟩
  | .no w, g => ⟨mgD k (fun _ _ => .no w) o.b i o.dst g⟩
noncomputable def drawK : List It → Nat → KD
  | [], _ => ⟨fun _ _ a s => .ok a s⟩
  | o :: l, i => KD.rec (stepD o i) (drawK l (Nat.succ i))

/-! What is known of a region ahead of its run. -/
def dstAt (ops : List Oper) (j : Nat) : Option Nat := match ops[j]? with
  | some q => q.dst
  | none => none
def guardAt (ops : List Oper) (o : Oper) : Option (Option (Nat × Bool)) := match o.guard with
  | none => some none
  | some (j, want) => match dstAt ops j with
    | some d => some (some (d, want))
    | none => none
def bitAt (ms : List Nat) (i : Nat) : Nat := match ms[i]? with
  | some m => m
  | none => 0
def edgeMask (ms : List Nat) : List Edge → Nat
  | [] => 0
  | e :: es => match Region.binds .any e with
    | true => Nat.lor (Nat.lor (Nat.shiftLeft 1 e.on) (bitAt ms e.on)) (edgeMask ms es)
    | false => edgeMask ms es
def maskOf : List Nat → Nat
  | [] => 0
  | n :: l => Nat.lor (Nat.shiftLeft 1 n) (maskOf l)
def tmpsIn : List Operand → List Nat
  | [] => []
  | .tmp t :: l => t :: tmpsIn l
  | _ :: l => tmpsIn l
def guardMask (g : Option (Nat × Bool)) : Nat := match g with
  | some (d, _) => Nat.shiftLeft 1 d
  | none => 0
def dstMask (d : Option Nat) : Nat := match d with
  | some d => Nat.shiftLeft 1 d
  | none => 0
def looks (o : Oper) (g : Option (Nat × Bool)) : Nat := Nat.lor (maskOf (tmpsIn o.op.operands.toList)) (guardMask g)
/-- The region's operations, one by one; ms: what comes ahead of each so far; acc: what each looks at and writes. -/
noncomputable def prepGo (draw : Bool) (ops : List Oper) : List Oper → Nat → List Nat → Log → Option (List It)
  | [], _, _, _ => some []
  | o :: rest, i, ms, acc => match guardAt ops o with
    | none => none
    | some g => match draw with
      | false => match prepGo draw ops rest (Nat.succ i) ms acc with
        | some l => some (⟨opC P o.op, o.dst, 0, g⟩ :: l)
        | none => none
      | true => seqN (edgeMask ms o.after.toList) fun b => seqN (looks o g) fun lk => seqN (dstMask o.dst) fun d =>
        match Nat.ble (Nat.shiftLeft 1 i) b, clearAll b lk d acc with
        | false, true => match prepGo draw ops rest (Nat.succ i) (ms ++ [b]) ((i, lk, d) :: acc) with
          | some l => some (⟨opC P o.op, o.dst, b, g⟩ :: l)
          | none => none
        | _, _ => none
noncomputable def prep (draw : Bool) (ops : Array Oper) : Option (List It) := prepGo P draw ops.toList ops.toList 0 [] []
noncomputable def regionSeq (k : KA) (r : Rec) (_ : Option Nat) (a : A) (s : S) : R (E × A) := R.rec (fun w => .no w) (fun a s => .ok (.norm, a) s) (k r a s)
/-- Code made ready. -/
structure CC where
  f : Rec → Option Nat → A → S → R (E × A)
noncomputable def regionC (draw : Bool) (ops : Array Oper) : CC := match prep P draw ops with
  | none => ⟨fun _ _ _ _ => .no "region: temporaries"⟩
  | some l => match draw with
    | true => KD.rec (fun k => ⟨regionSeq (k [])⟩) (drawK l 0)
    | false => KC.rec (fun k => ⟨regionSeq k⟩) (seqK l)

/-! ### Code -/
abbrev CF := Rec → Option Nat → A → S → R (E × A)
noncomputable def seqE (g : CF) (r : Rec) (ro : Option Nat) (s : S) (e : E) (a : A) : R (E × A) := E.rec (g r ro a s) (fun j => .ok (.exit j, a) s) (.ok (.ret, a) s) e
noncomputable def seqF (f g : CF) (r : Rec) (ro : Option Nat) (a : A) (s : S) : R (E × A) := R.rec (fun w => .no w) (fun x s => Prod.rec (seqE g r ro s) x) (f r ro a s)
noncomputable def condV (f g : CF) (r : Rec) (ro : Option Nat) (a : A) (s : S) (c : V) : R (E × A) := match c with
  | .bool b => ite2 b (g r ro a s) (f r ro a s)
  | _ => .no "cond"
noncomputable def condF (c : OF) (f g : CF) (r : Rec) (ro : Option Nat) (a : A) (s : S) : R (E × A) := Option.rec (.no "cond") (condV f g r ro a s) (c a.tmps)
noncomputable def blockE (id : Nat) (s : S) (e : E) (a : A) : R (E × A) := E.rec (.ok (.norm, a) s) (fun j => ite2 (Nat.beq j id) (.ok (.exit j, a) s) (.ok (.norm, a) s)) (.ok (.ret, a) s) e
noncomputable def blockF (id : Nat) (f : CF) (r : Rec) (ro : Option Nat) (a : A) (s : S) : R (E × A) := R.rec (fun w => .no w) (fun x s => Prod.rec (blockE id s) x) (f r ro a s)
noncomputable def loopE (f : A → S → R (E × A)) (s : S) (e : E) (a : A) : R (E × A) := E.rec (f a s) (fun j => .ok (.exit j, a) s) (.ok (.ret, a) s) e
/-- Rounds of a loop: 2 to the power k at most. -/
noncomputable def rounds (body : A → S → R (E × A)) (k : Nat) : A → S → R (E × A) :=
  Nat.rec body (fun _ ih a s => R.rec (fun w => .no w) (fun x s => Prod.rec (loopE ih s) x) (ih a s)) k
noncomputable def endE (s : S) (e : E) (a : A) : R (E × A) := E.rec (.no "loop: too many rounds") (fun j => .ok (.exit j, a) s) (.ok (.ret, a) s) e
noncomputable def loopF (f : CF) (r : Rec) (ro : Option Nat) (a : A) (s : S) : R (E × A) := R.rec (fun w => .no w) (fun x s => Prod.rec (endE s) x) (rounds (f r ro) 14 a s)
def jumpOf (p : Option Code) (a : A) (s : S) : R (E × A) := match p with
  | none => .ok (.norm, a) s
  | some (.exit id) => .ok (.exit id, a) s
  | some .ret => .ok (.ret, a) s
  | some _ => .no "rangeFunc: jump"
noncomputable def rangeEndIn (l : Nat) (a : A) (x : AB) (s : S) : R (E × A) := match x with
  | .loop st p _ _ _ _ _ _ => match st with
    | .busy => .no "rangeFunc: busy"
    | _ => (put l none s).bind fun _ s => jumpOf p a s
  | _ => .no "rangeFunc: loop expected"
noncomputable def rangeEnd (l : Nat) (a : A) (s : S) : R (E × A) := (get l s).bind fun x s => rangeEndIn l a x s
noncomputable def rangeCalled (r : Rec) (l : Nat) (a : A) (x : Nx) (s : S) : R (E × A) := match x with
  | .call g args => (r.call g args s).bind fun _ s => rangeEnd l a s
  | _ => .no "rangeFunc: no function"
def deferIn (x : AB) (s : S) : R (Nat × List Nat) := match x with
  | .loop _ _ _ _ _ _ _ d => .ok (d, []) s
  | _ => .no "rangeFunc: loop expected"
noncomputable def deferAt (ro : Option Nat) (s : S) : R (Nat × List Nat) := match ro with
  | none => (new (.dfr false) s).bind fun d s => .ok (d, [d]) s
  | some l => (get l s).bind deferIn
noncomputable def rangeNew (r : Rec) (fv : V) (params : List Nat) (assign body : Code) (a : A) (d : Nat × List Nat) (s : S) : R (E × A) :=
  (new (.loop .ready none a.n a.tmps params assign body d.1) s).bind fun l s => (callOf fv [.yield l] s).bind fun x s => rangeCalled r l ⟨a.tmps, a.n, d.2 ++ a.marks⟩ x s
noncomputable def rangeStep (r : Rec) (ro : Option Nat) (fv : Option V) (params : List Nat) (assign body : Code) (a : A) (s : S) : R (E × A) := match fv with
  | none => .no "rangeFunc: operand"
  | some fv => (deferAt ro s).bind fun d s => rangeNew r fv params assign body a d s
noncomputable def rangeF (f : OF) (params : List Nat) (assign body : Code) (r : Rec) (ro : Option Nat) (a : A) (s : S) : R (E × A) := rangeStep r ro (f a.tmps) params assign body a s
noncomputable def codeC : Code → CC
  | .skip => ⟨fun _ _ a s => .ok (.norm, a) s⟩
  | .label _ => ⟨fun _ _ a s => .ok (.norm, a) s⟩
  | .region _ ops draw => regionC P draw ops
  | .seq x y => CC.rec (fun f => CC.rec (fun g => ⟨seqF f g⟩) (codeC y)) (codeC x)
  | .cond c x y => CC.rec (fun f => CC.rec (fun g => ⟨condF (evl c) f g⟩) (codeC y)) (codeC x)
  | .block id x => CC.rec (fun f => ⟨blockF id f⟩) (codeC x)
  | .loop x => CC.rec (fun f => ⟨loopF f⟩) (codeC x)
  | .exit id => ⟨fun _ _ a s => .ok (.exit id, a) s⟩
  | .ret => ⟨fun _ _ a s => .ok (.ret, a) s⟩
  | .rangeFunc f params assign body => ⟨rangeF (evl f) params.toList assign body⟩
  | _ => ⟨fun _ _ _ _ => .no "code: not taken"⟩

/-! ### Calls -/
noncomputable def argTmps : List V → Nat → T V → Option (T V)
  | [], _, t => some t
  | v :: l, i, t => seqT (t.put i (some v)) none (argTmps l (Nat.succ i))
noncomputable def resultOf (a : T V) (x : ResultVar) (s : S) : R V := match x with
  | .tmp t => optR "result" (orUndef (a.get t)) s
  | .cell t ty => loadOp P ty (orUndef (a.get t)) s
noncomputable def resultsOf (a : T V) : List ResultVar → S → R (List V)
  | [], s => .ok [] s
  | x :: l, s => (resultOf P a x s).bind fun v s => (resultsOf a l s).bind fun vs s => .ok (v :: vs) s
noncomputable def takeIn (d : Nat) (x : AB) (s : S) : R Unit := match x with
  | .dfr false => put d (some (.dfr true)) s
  | _ => .no "deferred"
noncomputable def takeMarks : List Nat → S → R Unit
  | [], s => .ok () s
  | d :: l, s => (get d s).bind fun x s => (takeIn d x s).bind fun _ s => takeMarks l s
def oneOf (vs : List V) (s : S) : R V := match vs with
  | [v] => .ok v s
  | vs => .ok (.tup vs) s
noncomputable def callEnd (rs : List ResultVar) (x : E × A) (s : S) : R V := match x with
  | (.exit _, _) => .no "call: exit"
  | (_, ⟨t, _, m⟩) => (takeMarks m s).bind fun _ s => (resultsOf P t rs s).bind oneOf
noncomputable def callGo (r : Rec) (n : Nat) (rs : List ResultVar) (c : CF) (args : List V) (s : S) : R V := match argTmps args 0 .lf, Nat.ble args.length n with
  | some t, true => (c r none ⟨t, n, []⟩ s).bind fun x s => callEnd P rs x s
  | _, _ => .no "call: arguments"
/-- A function made ready. -/
inductive FC where
  | no
  | mk (n : Nat) (rs : List ResultVar) (c : CF)
noncomputable def funcC (f : FuncId) : FC := match P.funcs[f]? with
  | none => .no
  | some fn => match fn.body with
    | none => .no
    | some c => CC.rec (fun g => FC.mk fn.ntmps fn.results.toList g) (codeC P c)
noncomputable def callStep (r : Rec) (f : FuncId) (args : List V) (s : S) : R V := FC.rec (.no "call: no such function") (fun n rs c => callGo P r n rs c args s) (funcC P f)

noncomputable def setAll : List Nat → List V → T V → Option (T V)
  | [], [], a => some a
  | t :: ts, v :: vs, a => seqT (a.put t (some v)) none (setAll ts vs)
  | _, _, _ => none
def belowAll (n : Nat) : List Nat → Bool
  | [] => true
  | t :: ts => match Nat.ble n t with
    | true => false
    | false => belowAll n ts
noncomputable def roundLeft (l n : Nat) (t : T V) (ps : List Nat) (x y : Code) (d : Nat) (e : E) (s : S) : R V := match e with
  | .norm => (put l (some (.loop .ready none n t ps x y d)) s).bind fun _ s => .ok (.bool true) s
  | .ret => (put l (some (.loop .done (some .ret) n t ps x y d)) s).bind fun _ s => .ok (.bool false) s
  | .exit id => (put l (some (.loop .done (some (.exit id)) n t ps x y d)) s).bind fun _ s => .ok (.bool false) s
noncomputable def roundEndIn (l : Nat) (e : E) (x : AB) (s : S) : R V := match x with
  | .loop _ _ n t ps x y d => roundLeft l n t ps x y d e s
  | _ => .no "round: loop expected"
noncomputable def roundEnd (l : Nat) (x : E × A) (s : S) : R V := match x with
  | (e, ⟨_, _, []⟩) => (get l s).bind fun x s => roundEndIn l e x s
  | _ => .no "round: marks"
noncomputable def roundBody (r : Rec) (l : Nat) (body : Code) (a : A) (x : AB) (s : S) : R V := match x with
  | .loop .ready p n t ps x y d => (put l (some (.loop .busy p n t ps x y d)) s).bind fun _ s => ((codeC P body).f r (some l) a s).bind fun x s => roundEnd l x s
  | _ => .no "round: not ready"
noncomputable def roundThen (r : Rec) (l : Nat) (body : Code) (x : E × A) (s : S) : R V := match x with
  | (.norm, a) => (get l s).bind fun x s => roundBody P r l body a x s
  | _ => .no "round: assign"
noncomputable def roundGo (r : Rec) (l n : Nat) (t : Option (T V)) (assign body : Code) (s : S) : R V := match t with
  | none => .no "round: arguments"
  | some t => ((codeC P assign).f r (some l) ⟨t, n, []⟩ s).bind fun x s => roundThen P r l body x s
noncomputable def roundIn (r : Rec) (l : Nat) (args : List V) (x : AB) (s : S) : R V := match x with
  | .loop _ _ n t ps assign body _ => match belowAll n ps with
    | true => roundGo P r l n (setAll ps args t) assign body s
    | false => .no "round: places"
  | _ => .no "round: loop expected"
noncomputable def roundStep (r : Rec) (l : Nat) (args : List V) (s : S) : R V := (get l s).bind fun x s => roundIn P r l args x s

noncomputable def recStep (r : Rec) : Rec := ⟨callStep P r, roundStep P r⟩
def rec0 : Rec := ⟨fun _ _ _ => .no "fuel", fun _ _ _ => .no "fuel"⟩
noncomputable def recN (n : Nat) : Rec := Nat.rec rec0 (fun _ r => recStep P r) n
end
end Go.Ex
