/- R, part 3: the plain run: operations, regions, code, functions. -/
import Derived.Test.YtpegolnoadpjhaaR2
set_option linter.unusedVariables false
namespace Go.Proofs.Ytpegolnoadpjhaa.R
open Go.RowKit

/-- A function as plain data sees it. -/
structure FSem where
  fid : Nat
  ins : Asps
  outs : Asps
  den : ins.D → Option (outs.D × ins.M)

structure Shape where
  regs : List (List Nat)
  asps : Asps

structure Hints where
  loops : List (Nat × Shape) := []
  conds : List (Nat × Shape) := []
  blocks : List (Nat × Shape) := []
  regions : List (Nat × Shape) := []
  order : List (Nat × List Nat) := []

/-- A function that is handed a row whose elements' slices it may write: what it gives back; nothing is known of the row behind it. -/
structure EatSem where
  fid : Nat
  e : TypeId
  t : Ty
  den : List t.D → Int → Option Int

/-- A function that is handed a row of numbers and hands it on, or nil: it says which. -/
structure PassSem where
  fid : Nat
  e : TypeId
  t : Ty
  den : List t.D → Option Bool

/-- A function that is handed a row of numbers and a number, and hands the row or a new one back; the old one is lost to the caller. -/
structure TakeSem where
  fid : Nat
  e : TypeId
  t : Ty
  den : List t.D → Int → Option (List t.D)

/-- The library's stable sort, handed a row and a comparison that reads the row: what the row holds behind it. -/
structure SortSem where
  fid : Nat
  less : Nat
  T : TypeId
  e : TypeId
  t : Ty
  den : List t.D → Option (List t.D)

structure Ctx where
  P : Program
  N : Nat
  fns : List FSem
  h : Hints
  eats : List EatSem := []
  passes : List PassSem := []
  takes : List TakeSem := []
  sorts : List SortSem := []

def lim : Nat := 1073741824
/-- An index in range; a slice's bounds; room for an append; a size that is asked for. -/
def inB (i : Int) (n : Nat) : Bool := decide (0 ≤ i ∧ i < (n : Int))
def slB (a b : Int) (n : Nat) : Bool := decide (0 ≤ a ∧ a ≤ b ∧ b ≤ (n : Int))
def capB (n m : Nat) : Bool := decide (n + m ≤ lim)
def makeB (a b : Int) : Bool := decide (0 ≤ a ∧ a ≤ (lim : Int) ∧ b = a)
def nilB (a b : Int) : Bool := decide (a = 0 ∧ b = 0)

/-! ### types -/
def sizeT (P : Program) (T : TypeId) : Option Nat := match P.info? T with | some i => some i.size | none => none
def aggT (P : Program) (T : TypeId) : Option Bool := match P.underlying T with | some (.struct _) => some true | some (.array _ _) => none | some _ => some false | none => none
def elemT (P : Program) (T : TypeId) : Option TypeId := match P.underlying T with | some (.slice e) => (match mapT e with | false => some e | true => none) | _ => none
def fieldT (P : Program) (T : TypeId) (f : Nat) : Option (Nat × TypeId) := match P.underlying T with | some (.struct fs) => (match fs[f]? with | some x => some (x.offset, x.type) | none => none) | _ => none
def zeroT (P : Program) (T : TypeId) : Option Value := match P.info? T with | some i => i.zero | none => none
def bytesT (P : Program) (T : TypeId) : Option Nat := match P.info? T with | some i => some i.bytes | none => none
/-- A map from int to int. -/
def mapOf (P : Program) (T : TypeId) : Bool := match P.underlying T with
  | some (.map k e) => (match P.underlying k, P.underlying e, zeroT P e with | some (.int .i64), some (.int .i64), some (.int .i64 z) => decide (z = 0) | _, _, _ => false)
  | _ => false
def mapTy : Ty := .pair (.int .i64) (.int .i64)

mutual
def tyOf (P : Program) : Nat → TypeId → Option Ty
  | 0, _ => none
  | k + 1, T => match P.underlying T with
    | some (.int i) => some (.int i)
    | some .bool => some .bool
    | some .string => some .str
    | some (.slice e) => (match tyOf P k e with | some t => some (.slice e t) | none => none)
    | some (.struct fs) => tyOfs P k (fs.toList.map (·.type))
    | _ => none
def tyOfs (P : Program) : Nat → List TypeId → Option Ty
  | 0, _ => none
  | _ + 1, [] => some .unit
  | k + 1, [T] => tyOf P k T
  | k + 1, T :: Ts => match tyOf P k T, tyOfs P k Ts with | some a, some b => some (.pair a b) | _, _ => none
end

def constEs : List Value → List Ent
  | [] => []
  | v :: l => constE v :: constEs l

def isNil : List Ent → Bool
  | [.nil] => true
  | _ => false
/-- A slice of a few slices: made of a constant length. -/
def fewT (P : Program) (T : TypeId) : Operand → Operand → Option (TypeId × Nat)
  | .const (.int .i64 (.ofNat n)), .const (.int .i64 (.ofNat m)) => match elemT P T with
    | some e => match elemT P e, zeroT P e, sizeT P e, bytesT P e with
      | some _, some z, some 1, some by_ => match Nat.beq n m && (Nat.ble 1 n && Nat.ble n 16 && Nat.ble by_ 65536) && isNil (constEs z.cells.toList) with
        | true => some (e, n)
        | false => none
      | _, _, _, _ => none
    | none => none
  | _, _ => none


/-- An entry that is known to be the value of one cell. -/
def Ent.one (m : List (Nat × Slot)) : Ent → Bool
  | .val _ S => okSM m S
  | .nil => true
  | .own ρ => (lk m ρ).isSome
  | .cptr κ _ => (lk m κ).isSome
  | .rptr _ S => okSM m S
  | .fn _ _ => true
  | _ => false
def oneAll (m : List (Nat × Slot)) : List Ent → Bool
  | [] => true
  | e :: l => e.one m && oneAll m l
def leafsOf (m : List (Nat × Slot)) (agg : Bool) (e : Ent) : Option (List Ent) :=
  match agg, e with
  | true, .agg ls => (match oneAll m ls with | true => some ls | false => none)
  | true, _ => none
  | false, e => (match e.one m with | true => some [e] | false => none)
def ofLeafs (agg : Bool) (ls : List Ent) : Ent := match agg, ls with | true, ls => .agg ls | false, [e] => e | false, _ => .bot
/-- How many cells; whether it is a struct. -/
def shapeT (P : Program) (T : TypeId) : Option (Nat × Bool) :=
  match sizeT P T, aggT P T with
  | some n, some true => some (n, true)
  | some n, some false => (match Nat.beq n 1 with | true => some (1, false) | false => none)
  | _, _ => none

def St.setReg (σ : St) (ρ : Nat) (sl : Slot) (reg : Reg) : St := { σ with mem := (ρ, { sl with ver := sl.ver + 1, reg := reg }) :: rm σ.mem ρ }
def St.add (σ : St) (reg : Reg) : St := { σ with mem := (σ.next, ⟨0, false, true, reg⟩) :: σ.mem, next := σ.next + 1 }

/-- Leaves written over a part of others. -/
def splice {α : Type} (cur : List α) (off n : Nat) (new : List α) : List α := cur.take off ++ new ++ cur.drop (off + n)

/-- Entries as leaves of the types that stand there. -/
def leafDyns (σ : St) : List Dyn → List Ent → Option (List Dyn × List Src)
  | [], [] => some ([], [])
  | x :: xs, e :: es => match e.leaf σ x.t, leafDyns σ xs es with
    | some (d, S), some (ds, S') => some (⟨x.t, d⟩ :: ds, S ++ S')
    | _, _ => none
  | _, _ => none

/-! ### numbers -/
def ieq (x y : Int) : Bool := decide (x = y)
def ilt (x y : Int) : Bool := decide (x < y)
def ile (x y : Int) : Bool := decide (x ≤ y)
def iadd (k : IntKind) (x y : Int) : Int := k.wrap (x + y)
def isub (k : IntKind) (x y : Int) : Int := k.wrap (x - y)
def imul (k : IntKind) (x y : Int) : Int := k.wrap (x * y)
def iand (k : IntKind) (x y : Int) : Int := k.wrap ((BitVec.ofInt k.bits x &&& BitVec.ofInt k.bits y).toNat : Int)
def ior (k : IntKind) (x y : Int) : Int := k.wrap ((BitVec.ofInt k.bits x ||| BitVec.ofInt k.bits y).toNat : Int)
def ixor (k : IntKind) (x y : Int) : Int := k.wrap ((BitVec.ofInt k.bits x ^^^ BitVec.ofInt k.bits y).toNat : Int)
def iquo (k : IntKind) (x y : Int) : Int := k.wrap (x.tdiv y)
def irem (x y : Int) : Int := x.tmod y
def ishl (k : IntKind) (x y : Int) : Int := k.wrap (x * 2 ^ (min y.toNat k.bits))
def ishr (k : IntKind) (x y : Int) : Int := x.fdiv (2 ^ (min y.toNat k.bits))
def intOp (op : BinOp) (k : IntKind) (x y : Int) : Option Dyn :=
  match op with
  | .add => some ⟨.int k, iadd k x y⟩
  | .sub => some ⟨.int k, isub k x y⟩
  | .mul => some ⟨.int k, imul k x y⟩
  | .and => some ⟨.int k, iand k x y⟩
  | .or => some ⟨.int k, ior k x y⟩
  | .xor => some ⟨.int k, ixor k x y⟩
  | .eql => some ⟨.bool, ieq x y⟩
  | .neq => some ⟨.bool, !ieq x y⟩
  | .lss => some ⟨.bool, ilt x y⟩
  | .leq => some ⟨.bool, ile x y⟩
  | .gtr => some ⟨.bool, ilt y x⟩
  | .geq => some ⟨.bool, ile y x⟩
  | _ => none
/-- Division and shifts: under a condition. -/
def intOp2 (op : BinOp) (k : IntKind) (x y : Int) : Option (Bool × Dyn) :=
  match op with
  | .quo => some (!ieq y 0, ⟨.int k, iquo k x y⟩)
  | .rem => some (!ieq y 0, ⟨.int k, irem x y⟩)
  | .shl => some (ile 0 y, ⟨.int k, ishl k x y⟩)
  | .shr => some (ile 0 y, ⟨.int k, ishr k x y⟩)
  | _ => none
def strOp (op : BinOp) (x y : ByteArray) : Option (Bool × Dyn) :=
  match op with
  | .add => some (capB x.size y.size, ⟨.str, x ++ y⟩)
  | .eql => some (true, ⟨.bool, x.toList == y.toList⟩)
  | .neq => some (true, ⟨.bool, !(x.toList == y.toList)⟩)
  | .lss => some (true, ⟨.bool, Op.bytesLess x.toList y.toList⟩)
  | _ => none
def beq_ (x y : Bool) : Bool := x == y
def cellEq : TypeDesc → Dyn → Dyn → Option Bool
  | .int _, ⟨.int i, a⟩, ⟨.int j, b⟩ => (match decide (i = j) with | true => some (ieq a b) | false => none)
  | .bool, ⟨.bool, a⟩, ⟨.bool, b⟩ => some (beq_ a b)
  | .string, ⟨.str, a⟩, ⟨.str, b⟩ => some (a.toList == b.toList)
  | _, _, _ => none
/-- Structs whose fields are one cell each: field by field. -/
def fieldsEq (P : Program) : Nat → List Field → List Ent → List Ent → Option Bool
  | _, [], [], [] => some true
  | o, f :: fs, .val x _ :: xs, .val y _ :: ys => match decide (f.name ≠ "_"), Nat.beq f.offset o, P.underlying f.type with
    | true, true, some d => (match cellEq d x y, fieldsEq P (o + 1) fs xs ys with | some a, some b => some (a && b) | _, _ => none)
    | _, _, _ => none
  | _, _, _, _ => none
def structEq (P : Program) (T : TypeId) (xs ys : List Ent) : Option Bool :=
  match P.underlying T with
  | some (.struct fs) => (match P.stoodInHeld T, P.eqGuardType P.depth T with | false, false => fieldsEq P 0 fs.toList xs ys | _, _ => none)
  | _ => none

/-- xs[i]: its element's leaves. -/
def bt (s : ByteArray) (i : Int) : Int := ((s.toList.getD i.toNat 0).toNat : Int)

def placesT (P : Program) (T : TypeId) : Option (List (Nat × Nat)) :=
  match P.underlying T with
  | some (.struct fs) => fs.toList.mapM (fun f => (P.info? f.type).map fun i => (f.offset, i.size))
  | _ => none

/-- Parts laid over the leaves of a zero value. -/
def fillE (P : Program) (N : Nat) (T : TypeId) (σ : St) : List Ent → List (Nat × Operand) → Option (List Ent)
  | cur, [] => some cur
  | cur, (i, x) :: rest => match fieldT P T i with
    | some (off, ft) => match shapeT P ft with
      | some (n, g) => match leafsOf σ.mem g (σ.ev N x) with
        | some new => match Nat.beq new.length n, Nat.ble (off + n) cur.length with
          | true, true => fillE P N T σ (splice cur off n new) rest
          | _, _ => none
        | none => none
      | none => none
    | none => none

/-- The elements of a slice literal, all of them, in order. -/
def litE (σ : St) (N : Nat) (t : Ty) (g : Bool) : Nat → List (Nat × Operand) → Option (List t.D × List Src)
  | _, [] => some ([], [])
  | k, (i, x) :: rest => match leafsOf σ.mem g (σ.ev N x) with
    | some ls => match Nat.beq i k, takeTy σ t ls, litE σ N t g (k + 1) rest with
      | true, some (d, S, []), some (ds, S') => some (d :: ds, S ++ S')
      | _, _, _ => none
    | none => none

/-! ### one operation -/
section
variable {R : Type}

def fits : Asps → List Ent → Bool
  | .nil, [] => true
  | .v _ _ _ r, _ :: es => fits r es
  | .row _ _ _ _ _ r, _ :: es => fits r es
  | .ptr _ _ r, _ :: es => fits r es
  | .fn f c r, .fn f' cs :: es => Nat.beq f f' && fits c cs && fits r es
  | .st c r, .agg cs :: es => fits c cs && fits r es
  | _, _ => false

def findF (g : Nat) (es : List Ent) : List FSem → Option FSem
  | [] => none
  | F :: l => match Nat.beq F.fid g, fits F.ins es with | true, true => some F | _, _ => findF g es l

/-- What came back of what was lent. -/
def Asps.upd (f : Nat → List Src) : (p : Asps) → List Ent → p.M → St → Option St
  | .nil, _, _, σ => some σ
  | .v _ _ _ r, _ :: es, d, σ => r.upd f es d σ
  | .row i t _ _ m r, .own ρ :: es, d, σ => match lk σ.mem ρ with
    | some sl => match sl.reg with
      | .row i' t' _ _ => (match Nat.beq i i' && t.eqb t' with
        | true => r.upd f es d.2 (σ.setReg ρ sl (.row i t d.1 (flatS t (srcs f m))))
        | false => none)
      | _ => none
    | none => none
  | .row _ _ _ _ _ r, .nil :: es, d, σ => r.upd f es d.2 σ
  | .ptr T c r, .cptr κ _ :: es, d, σ => match lk σ.mem κ with
    | some sl => match sl.reg with
      | .cell T' _ => (match Nat.beq (celT T) T' && c.plain with
        | true => r.upd f es d.2 (σ.setReg κ sl (.cell (celT T) (c.mk (newS f) d.1 0).1))
        | false => none)
      | _ => none
    | none => none
  | .fn _ c r, .fn _ cs :: es, d, σ => match c.upd f cs d.1 σ with
    | some σ' => r.upd f es d.2 σ'
    | none => none
  | .st c r, .agg cs :: es, d, σ => match c.upd f cs d.1 σ with
    | some σ' => r.upd f es d.2 σ'
    | none => none
  | _, _, _, _ => none

/-- Made anew, all of it; of what came in, all of it. -/
def allNew : List Src → Bool
  | [] => true
  | .ext j :: l => Nat.beq j 999 && allNew l
  | _ :: _ => false
def allOld : List Src → Bool
  | [] => true
  | .ext j :: l => !Nat.beq j 999 && allOld l
  | _ :: _ => false
/-! what is left when slices of slices have turned -/
mutual
def meltE : Ent → Ent
  | .val x S => (match x.t.flat, allOld S with | true, _ => .val x [] | false, true => .val x S | _, _ => .bot)
  | .rptr _ _ => .bot
  | .fn f cs => .fn f (meltEs cs)
  | .agg es => .agg (meltEs es)
  | .tup es => .tup (meltEs es)
  | .bot => .bot
  | .nil => .nil
  | .own ρ => .own ρ
  | .cptr κ o => .cptr κ o
  | .eptr ρ i o => .eptr ρ i o
  | .ifc T ρ => .ifc T ρ
def meltEs : List Ent → List Ent
  | [] => []
  | e :: es => meltE e :: meltEs es
end
def meltSl (sl : Slot) : Slot := match sl with
  | ⟨v, fx, mn, .cell T es⟩ => ⟨v, fx, mn, .cell T (meltEs es)⟩
  | sl => sl
def rmAll (m : List (Nat × Slot)) : List Nat → List (Nat × Slot)
  | [] => m
  | k :: ks => rmAll (rm m k) ks
def softKeys : List (Nat × Slot) → List Nat
  | [] => []
  | (k, ⟨_, _, _, .row _ t _ S⟩) :: l => (match t.flat && S.isEmpty with | true => softKeys l | false => k :: softKeys l)
  | _ :: l => softKeys l
def mapL {α γ : Type} (f : α → γ) : List (Nat × α) → List (Nat × γ)
  | [] => []
  | (k, x) :: l => (k, f x) :: mapL f l
def meltSt (ρ : Nat) (σ : St) : St := { regs := mapL meltE σ.regs, mem := mapL meltSl (rmAll (rm σ.mem ρ) (softKeys σ.mem)), next := σ.next }
def findEat (g : Nat) : List EatSem → Option EatSem
  | [] => none
  | M :: l => match Nat.beq M.fid g with | true => some M | false => findEat g l
def eatK (M : EatSem) (σ : St) (es : List Ent) (k : Ent → St → Option R) : Option R :=
  match es with
  | [.own ρ, .val ⟨.int .i64, n⟩ _] => match lk σ.mem ρ with
    | some ⟨_, _, _, .row e t l S⟩ => (match Nat.beq e M.e && (!mapT e && allNew S), (Dyn.mk (.slice e t) l).as (.slice e M.t) with
      | true, some d => Option.bind (M.den d n) fun r => k (mkv ⟨.int .i64, r⟩ []) (meltSt ρ σ)
      | _, _ => none)
    | _ => none
  | _ => none

def findPass (g : Nat) : List PassSem → Option PassSem
  | [] => none
  | M :: l => match Nat.beq M.fid g with | true => some M | false => findPass g l
def passK (M : PassSem) (σ : St) (es : List Ent) (k : Ent → Option R) : Option R :=
  match es with
  | [.own ρ] => match lk σ.mem ρ with
    | some ⟨_, _, _, .row e t l S⟩ => (match Nat.beq e M.e && (!mapT e && (t.flat && S.isEmpty)), (Dyn.mk (.slice e t) l).as (.slice e M.t) with
      | true, some d => Option.bind (M.den d) fun b => cond b (k (.tup [.own ρ, mkv ⟨.bool, true⟩ []])) (k (.tup [.nil, mkv ⟨.bool, false⟩ []]))
      | _, _ => none)
    | _ => none
  | _ => none

def findTake (g : Nat) : List TakeSem → Option TakeSem
  | [] => none
  | M :: l => match Nat.beq M.fid g with | true => some M | false => findTake g l
def takeK (M : TakeSem) (σ : St) (es : List Ent) (k : Ent → St → Option R) : Option R :=
  match es with
  | [.own ρ, .val ⟨.int .i64, n⟩ _] => match lk σ.mem ρ with
    | some ⟨_, fx, mn, .row e t l S⟩ => (match Nat.beq e M.e && (!fx && (!mapT e && (t.flat && S.isEmpty))), (Dyn.mk (.slice e t) l).as (.slice e M.t) with
      | true, some d => Option.bind (M.den d n) fun r => k (.own σ.next) { σ with mem := (σ.next, ⟨0, false, mn, .row M.e M.t r []⟩) :: rm σ.mem ρ, next := σ.next + 1 }
      | _, _ => none)
    | _ => none
  | [.nil, .val ⟨.int .i64, n⟩ _] => (match !mapT M.e && M.t.flat with
    | true => Option.bind (M.den [] n) fun r => k (.own σ.next) { σ with mem := (σ.next, ⟨0, false, true, .row M.e M.t r []⟩) :: σ.mem, next := σ.next + 1 }
    | false => none)
  | _ => none

def findSort (g : Nat) : List SortSem → Option SortSem
  | [] => none
  | M :: l => match Nat.beq M.fid g with | true => some M | false => findSort g l
def sortK (M : SortSem) (σ : St) (es : List Ent) (k : St → Option R) : Option R :=
  match es with
  | [.ifc T ρ, .fn g [.cptr κ off]] => match Nat.beq T M.T && (Nat.beq g M.less && Nat.beq off 0), lk σ.mem κ with
    | true, some ⟨_, _, _, .cell _ [.own ρ']⟩ => match lk σ.mem ρ with
      | some ⟨v, fx, mn, .row e t l S⟩ => (match Nat.beq ρ ρ' && (Nat.beq e M.e && (!mapT e && (t.flat && S.isEmpty))), (Dyn.mk (.slice e t) l).as (.slice e M.t) with
        | true, some d => Option.bind (M.den d) fun r => k (σ.setReg ρ ⟨v, fx, mn, .row e t l S⟩ (.row M.e M.t r []))
        | _, _ => none)
      | _ => none
    | _, _ => none
  | _ => none

def packEs : List Ent → Ent
  | [e] => e
  | es => .tup es

def callF (F : FSem) (es : List Ent) (σ : St) (k : Ent → St → Option R) : Option R :=
  match F.ins.args σ es with
  | some (d, g) => match g.free && single g.src && F.ins.noMine && F.ins.inOk with
    | true => Option.bind (F.den d) fun r =>
      match F.ins.upd g.map es r.2 σ with
      | some σ1 =>
        let y := F.outs.mk g.map r.1 σ1.next
        k (packEs y.1) { σ1 with mem := y.2.1 ++ σ1.mem, next := y.2.2 }
      | none => none
    | false => none
  | none => none

def loadE (P : Program) (T : TypeId) (σ : St) (a : Ent) : Option Ent :=
  match shapeT P T with
  | some (n, g) => match a with
    | .rptr ls S => match Nat.ble n ls.length, σ.okS S with | true, true => some (ofLeafs g (vals S (ls.take n))) | _, _ => none
    | .cptr κ off => match lk σ.mem κ with
      | some ⟨_, _, _, .cell _ es⟩ => match Nat.ble (off + n) es.length && Nat.ble off 999999 with | true => some (ofLeafs g ((es.drop off).take n)) | false => none
      | _ => none
    | .eptr ρ i off => match lk σ.mem ρ with
      | some ⟨_, _, _, .row _ t l S⟩ => match Nat.ble (off + n) t.n, σ.okS S with | true, true => some (ofLeafs g (vals S (((leaves t (rd t l i)).drop off).take n))) | _, _ => none
      | _ => none
    | _ => none
  | none => none

def storeE (P : Program) (T : TypeId) (σ : St) (a v : Ent) : Option St :=
  match shapeT P T with
  | some (n, g) => match leafsOf σ.mem g v with
    | some new => match Nat.beq new.length n with
      | true => match a with
        | .cptr κ off => match lk σ.mem κ with
          | some sl => match sl.reg with
            | .cell U es => match Nat.ble (off + n) es.length && Nat.ble off 999999 with | true => some (σ.setReg κ sl (.cell U (splice es off n new))) | false => none
            | _ => none
          | none => none
        | .eptr ρ i off => match lk σ.mem ρ with
          | some sl => match sl.reg with
            | .row e t l S =>
              match Nat.ble (off + n) t.n, σ.okS S, leafDyns σ (((leaves t (rd t l i)).drop off).take n) new with
              | true, true, some (ds, S') => match ofLeaves t (splice (leaves t (rd t l i)) off n ds), srcFree [ρ] S' with
                | some (d, []), true => some (σ.setReg ρ sl (.row e t (l.set i.toNat d) (flatS t (S ++ S'))))
                | _, _ => none
              | _, _, _ => none
            | _ => none
          | none => none
        | _ => none
      | false => none
    | none => none
  | none => none

/-- The elements that an append's second argument has. -/
def ownElems (σ : St) (e : TypeId) (t : Ty) (ρ : Nat) : Option (List t.D × List Src) :=
  match lk σ.mem ρ with
  | some ⟨_, _, _, .row e' t' l S⟩ => match Nat.beq e e' && !mapT e', σ.okS S, (Dyn.mk (.slice e t') l).as (.slice e t) with | true, true, some d => some (d, S) | _, _, _ => none
  | _ => none
def elemsE (σ : St) (e : TypeId) (t : Ty) (y : Ent) : Option (List t.D × List Src) :=
  match y with
  | .own ρ => ownElems σ e t ρ
  | y => y.leaf σ (.slice e t)

def appendK (P : Program) (T : TypeId) (σ : St) (x y : Ent) (k : Ent → St → Option R) : Option R :=
  match elemT P T with
  | some e => match tyOf P 20 e, bytesT P e, sizeT P e, zeroT P e with
    | some t, some by_, some n, some z => match Nat.ble by_ 65536, Nat.ble 1 by_, Nat.ble 1 n, Nat.beq n t.n, takeTy σ t (constEs z.cells.toList) with
      | true, true, true, true, some (_, [], []) => match elemsE σ e t y with
        | some (m, S') => match x with
          | .nil => cond (capB 0 (List.length m)) (k (.own σ.next) (σ.add (.row e t m (flatS t S')))) none
          | .own ρ => match lk σ.mem ρ with
            | some ⟨_, fx, mn, .row e' t' l S⟩ =>
              match Nat.beq e e', fx, σ.okS S, (Dyn.mk (.slice e t') l).as (.slice e t), srcFree [ρ] S', (match y with | .own ρ' => !Nat.beq ρ ρ' | _ => true) with
              | true, false, true, some l, true, true =>
                cond (capB (List.length l) (List.length m)) (k (.own σ.next) { regs := σ.regs, mem := (σ.next, ⟨0, false, mn, .row e t (List.append l m) (flatS t (S ++ S'))⟩) :: rm σ.mem ρ, next := σ.next + 1 }) none
              | _, _, _, _, _, _ => none
            | _ => none
          | _ => none
        | none => none
      | _, _, _, _, _ => none
    | _, _, _, _ => none
  | none => none

def boundE (σ : St) (N : Nat) : Option Operand → Option (Option Int)
  | none => some none
  | some x => match σ.ev N x with | .val ⟨.int _, i⟩ _ => some (some i) | _ => none

def sliceK (P : Program) (T : TypeId) (σ : St) (x : Ent) (lo hi : Option Int) (k : Ent → Option R) : Option R :=
  match x with
  | .val ⟨.slice e t, l⟩ S => match elemT P T with
    | some e' => match sizeT P e' with
      | some n => match σ.okS S, Nat.beq n t.n with
        | true, true => cond (slB (lo.getD 0) (hi.getD ((List.length l : Nat) : Int)) (List.length l))
          (k (mkv ⟨.slice e t, List.drop (lo.getD 0).toNat (List.take (hi.getD ((List.length l : Nat) : Int)).toNat l)⟩ S)) none
        | _, _ => none
      | none => none
    | none => none
  | .own ρ => match lk σ.mem ρ with
    | some ⟨v, _, _, .row e t l S⟩ => match elemT P T with
      | some e' => match sizeT P e' with
        | some n => match σ.okS S && !mapT e, Nat.beq n t.n with
          | true, true => cond (slB (lo.getD 0) (hi.getD ((List.length l : Nat) : Int)) (List.length l))
            (k (mkv ⟨.slice e t, List.drop (lo.getD 0).toNat (List.take (hi.getD ((List.length l : Nat) : Int)).toNat l)⟩ (.reg ρ v :: S))) none
          | _, _ => none
        | none => none
      | none => none
    | _ => none
  | .nil => match elemT P T with
    | some e' => match sizeT P e' with
      | some n => cond (nilB (lo.getD 0) (hi.getD 0)) (k .nil) none
      | none => none
    | none => none
  | .val ⟨.str, s⟩ _ => match P.underlying T with
    | some .string => cond (slB (lo.getD 0) (hi.getD (ByteArray.size s : Int)) (ByteArray.size s))
      (k (mkv ⟨.str, ByteArray.extract s (lo.getD 0).toNat (hi.getD (ByteArray.size s : Int)).toNat⟩ [])) none
    | _ => none
  | _ => none

def imin (x y : Int) : Int := if y < x then y else x
def imax (x y : Int) : Int := if y > x then y else x
def foldInts (g : Int → Int → Int) (k : IntKind) : Int → List Ent → Option Int
  | a, [] => some a
  | a, .val ⟨.int k', b⟩ _ :: es => match decide (k = k') with | true => foldInts g k (g a b) es | false => none
  | _, _ => none

def builtinK (P : Program) (b : Builtin) (ts : List TypeId) (es : List Ent) (σ : St) (k : Ent → St → Option R) : Option R :=
  match b, ts, es with
  | .len, [T], [e] => match e with
    | .val ⟨.slice _ _, l⟩ S => (match σ.okS S, elemT P T with | true, some _ => k (mkv ⟨.int .i64, ((List.length l : Nat) : Int)⟩ []) σ | _, _ => none)
    | .val ⟨.str, s⟩ _ => (match P.underlying T with | some .string => k (mkv ⟨.int .i64, ((ByteArray.size s : Nat) : Int)⟩ []) σ | _ => none)
    | .nil => (match elemT P T with | some _ => k (mkv ⟨.int .i64, (0 : Int)⟩ []) σ | none => none)
    | .cptr κ off => (match lk σ.mem κ, elemT P T, Nat.ble 1000000 off with
      | some _, some _, true => k (mkv ⟨.int .i64, ((off - 1000000 : Nat) : Int)⟩ []) σ
      | _, _, _ => none)
    | .own ρ => (match lk σ.mem ρ, elemT P T with
      | some ⟨_, _, _, .row e _ l _⟩, some _ => (match mapT e with | false => k (mkv ⟨.int .i64, ((l.length : Nat) : Int)⟩ []) σ | true => none)
      | _, _ => none)
    | _ => none
  | .append, [T, T'], [x, y] => (match Nat.beq T T' with | true => appendK P T σ x y k | false => none)
  | .min, _, .val ⟨.int i, a⟩ _ :: es => (match foldInts imin i a es with | some r => k (mkv ⟨.int i, r⟩ []) σ | none => none)
  | .max, _, .val ⟨.int i, a⟩ _ :: es => (match foldInts imax i a es with | some r => k (mkv ⟨.int i, r⟩ []) σ | none => none)
  | _, _, _ => none

def isShift : BinOp → Bool
  | .shl | .shr => true
  | _ => false

/-- Two ways that come to the same. -/
noncomputable def agree (x y : Option R) : Option R := open Classical in if x = y then x else none
/-- A slice against nil: an empty one may be nil or not. -/
noncomputable def nilK {A : Type} (l : List A) (a b : Option R) : Option R := cond (List.isEmpty l) (agree a b) b
noncomputable def binK (P : Program) (op : BinOp) (T : TypeId) (m : List (Nat × Slot)) (x y : Ent) (k : Ent → Option R) : Option R :=
  match x, y with
  | .val ⟨.int i, a⟩ _, .val ⟨.int j, b⟩ _ => match intOp2 op i a b with
    | some (c, d) => (match decide (i = j) || isShift op with | true => cond c (k (mkv d [])) none | false => none)
    | none => match decide (i = j), intOp op i a b with
      | true, some d => k (mkv d [])
      | _, _ => none
  | .val ⟨.str, a⟩ _, .val ⟨.str, b⟩ _ => match strOp op a b with
    | some (c, d) => cond c (k (mkv d [])) none
    | none => none
  | .val ⟨.bool, a⟩ _, .val ⟨.bool, b⟩ _ => match P.underlying T with
    | some .bool => (match op with
      | .eql => k (mkv ⟨.bool, beq_ a b⟩ [])
      | .neq => k (mkv ⟨.bool, !(beq_ a b)⟩ [])
      | _ => none)
    | _ => none
  | .agg xs, .agg ys => match structEq P T xs ys with
    | some b => (match op with
      | .eql => k (mkv ⟨.bool, b⟩ [])
      | .neq => k (mkv ⟨.bool, !b⟩ [])
      | _ => none)
    | none => none
  | .val ⟨.slice _ _, l⟩ S, .nil => match okSM m S, elemT P T, op with
    | true, some _, .eql => nilK l (k (mkv ⟨.bool, true⟩ [])) (k (mkv ⟨.bool, false⟩ []))
    | true, some _, .neq => nilK l (k (mkv ⟨.bool, false⟩ [])) (k (mkv ⟨.bool, true⟩ []))
    | _, _, _ => none
  | .nil, .nil => match elemT P T, op with
    | some _, .eql => k (mkv ⟨.bool, true⟩ [])
    | some _, .neq => k (mkv ⟨.bool, false⟩ [])
    | _, _ => none
  | _, _ => none

/-- A pointer to what stands. -/
def ptrOk (σ : St) : Ent → Bool
  | .rptr _ S => σ.okS S
  | .cptr κ o => (lk σ.mem κ).isSome && Nat.ble o 999999
  | .eptr ρ _ _ => match lk σ.mem ρ with | some ⟨_, _, _, .row _ _ _ _⟩ => true | _ => false
  | _ => false

def ptrArith (P : Program) (T : TypeId) (f : Nat) (σ : St) (a : Ent) : Option Ent :=
  match fieldT P T f with
  | some (off, ft) => match sizeT P ft with
    | some n => match Nat.ble 1 n, ptrOk σ a, a with
      | true, true, .rptr ls S => some (.rptr (ls.drop off) S)
      | true, true, .cptr κ o => match Nat.ble (o + off) 999999 with | true => some (.cptr κ (o + off)) | false => none
      | true, true, .eptr ρ i o => some (.eptr ρ i (o + off))
      | _, _, _ => none
    | none => none
  | none => none

/-- One of a few cells: the way parts. -/
def cellsK (κ : Nat) (i : Int) (k : Ent → Option R) : Nat → Nat → Option R
  | _, 0 => none
  | j, m + 1 => cond (decide (i = (j : Int))) (k (.cptr κ j)) (cellsK κ i k (j + 1) m)
def indexK (P : Program) (T : TypeId) (σ : St) (x ix : Ent) (k : Ent → Option R) : Option R :=
  match ix with
  | .val ⟨.int .i64, i⟩ _ => match elemT P T with
    | some e => match sizeT P e with
      | some n => match x with
        | .val ⟨.slice _ t, l⟩ S => match σ.okS S, Nat.beq n t.n with
          | true, true => cond (inB i (List.length l)) (k (.rptr (leaves t (rd t l i)) S)) none
          | _, _ => none
        | .cptr κ off => match lk σ.mem κ with
          | some ⟨_, _, _, .cell _ es⟩ => match Nat.ble 1000000 off && (Nat.ble off 1000016 && Nat.beq n 1), Nat.beq (off - 1000000) es.length with
            | true, true => cellsK κ i k 0 (off - 1000000)
            | _, _ => none
          | _ => none
        | .own ρ => match lk σ.mem ρ with
          | some ⟨_, _, _, .row e' t l _⟩ => match Nat.beq n t.n && !mapT e' with
            | true => cond (inB i (List.length l)) (k (.eptr ρ i 0)) none
            | false => none
          | _ => none
        | _ => none
      | none => none
    | none => none
  | _ => none

/-- What lies under a key, and whether something does. -/
def lookE (P : Program) (T : TypeId) (σ : St) (m key : Ent) : Option Ent :=
  match m, key with
  | .own ρ, .val ⟨.int .i64, k⟩ _ => match lk σ.mem ρ with
    | some ⟨_, _, _, .row e t l S⟩ => (match mapOf P T && (Nat.beq e (1000000 + T) && σ.okS S), (Dyn.mk (.slice e t) l).as (.slice e mapTy) with
      | true, some d => some (.tup [mkv ⟨.int .i64, (mget d k).getD 0⟩ [], mkv ⟨.bool, (mget d k).isSome⟩ []])
      | _, _ => none)
    | _ => none
  | _, _ => none
/-- A value put under a key. -/
def putE (P : Program) (T : TypeId) (σ : St) (m key v : Ent) : Option St :=
  match m, key, v with
  | .own ρ, .val ⟨.int .i64, k⟩ _, .val ⟨.int .i64, x⟩ _ => match lk σ.mem ρ with
    | some sl => (match sl.reg with
      | .row e t l S => (match mapOf P T && (Nat.beq e (1000000 + T) && σ.okS S), (Dyn.mk (.slice e t) l).as (.slice e mapTy) with
        | true, some d => some (σ.setReg ρ sl (.row e mapTy (mput d k x) []))
        | _, _ => none)
      | _ => none)
    | none => none
  | _, _, _ => none


/-- Bytes as a string. -/
def ofBytes (l : List Int) : ByteArray := l.foldl (fun r n => r.push (UInt8.ofNat n.toNat)) ByteArray.empty
def bytesK (P : Program) (src dst : TypeId) (σ : St) (x : Ent) (k : Ent → Option R) : Option R :=
  match elemT P src, P.underlying dst with
  | some e, some .string => match P.underlying e, x.leaf σ (.slice e (.int .u8)) with
    | some (.int .u8), some (l, _) => k (mkv ⟨.str, ofBytes l⟩ [])
    | _, _ => none
  | _, _ => none
def strAtK (P : Program) (T : TypeId) (x i : Ent) (k : Ent → Option R) : Option R :=
  match P.underlying T, x, i with
  | some .string, .val ⟨.str, s⟩ _, .val ⟨.int .i64, n⟩ _ => cond (inB n (ByteArray.size s)) (k (mkv ⟨.int .u8, bt s n⟩ [])) none
  | _, _, _ => none
def dstOk (N : Nat) : Option Tmp → Bool | some d => Nat.blt d N | none => true

/-- One operation. -/
noncomputable def step (E : Ctx) (o : Oper) (σ : St) (K : St → Option R) : Option R :=
  match dstOk E.N o.dst with
  | false => none
  | true =>
  let k (e : Ent) : Option R := K (σ.put o.dst e)
  match o.op with
  | .move x | .assign x => k (σ.ev E.N x)
  | .pick c a b => match σ.ev E.N c with
    | .val ⟨.bool, c⟩ _ => cond c (k (σ.ev E.N a)) (k (σ.ev E.N b))
    | _ => none
  | .load T a => match loadE E.P T σ (σ.ev E.N a) with | some e => k e | none => none
  | .store T a v => match storeE E.P T σ (σ.ev E.N a) (σ.ev E.N v) with | some σ' => K (σ'.put o.dst .bot) | none => none
  | .fieldAddr T a f => match ptrArith E.P T f σ (σ.ev E.N a) with | some e => k e | none => none
  | .indexAddr T x i => indexK E.P T σ (σ.ev E.N x) (σ.ev E.N i) k
  | .nilCheck x => match ptrOk σ (σ.ev E.N x) with
    | true => k (σ.ev E.N x)
    | false => none
  | .extract t i => match σ.ev E.N t with
    | .tup es => (match es[i]? with | some e => k e | none => none)
    | _ => none
  | .makeMap T none => (match mapOf E.P T with
    | true => K ((σ.add (.row (1000000 + T) mapTy [] [])).put o.dst (.own σ.next))
    | false => none)
  | .lookup T m x true => (match lookE E.P T σ (σ.ev E.N m) (σ.ev E.N x) with
    | some e => k e
    | none => none)
  | .mapUpdate T m x v => (match putE E.P T σ (σ.ev E.N m) (σ.ev E.N x) (σ.ev E.N v) with
    | some σ' => K (σ'.put o.dst .bot)
    | none => none)
  | .binOp op T x y _ => binK E.P op T σ.mem (σ.ev E.N x) (σ.ev E.N y) k
  | .unOp op _ x => match op, σ.ev E.N x with
    | .not, .val ⟨.bool, b⟩ _ => k (mkv ⟨.bool, Bool.not b⟩ [])
    | .neg, .val ⟨.int i, a⟩ _ => k (mkv ⟨.int i, isub i 0 a⟩ [])
    | _, _ => none
  | .convert src dst x => match E.P.underlying src, E.P.underlying dst, σ.ev E.N x with
    | some (.int _), some (.int i), .val ⟨.int _, a⟩ _ => k (mkv ⟨.int i, i.wrap a⟩ [])
    | _, _, e => bytesK E.P src dst σ e k
  | .index T x i => strAtK E.P T (σ.ev E.N x) (σ.ev E.N i) k
  | .alloc T => match zeroT E.P T with
    | some z => K ((σ.add (.cell T (constEs z.cells.toList))).put o.dst (.cptr σ.next 0))
    | none => none
  | .box T x => match shapeT E.P T with
    | some (n, g) => (match leafsOf σ.mem g (σ.ev E.N x) with
      | some ls => K ((σ.add (.cell T ls)).put o.dst (.cptr σ.next 0))
      | none => none)
    | none => none
  | .build T parts => match zeroT E.P T, placesT E.P T with
    | some z, some _ => (match fillE E.P E.N T σ (constEs z.cells.toList) parts.toList with
      | some es => k (.agg es)
      | none => none)
    | _, _ => none
  | .buildSlice T len parts => match elemT E.P T with
    | some e => match tyOf E.P 20 e, shapeT E.P e, zeroT E.P e with
      | some t, some (n, g), some _ => (match Nat.beq n t.n && Nat.ble 1 t.n, Nat.ble (len * n) 16777216, Nat.beq parts.size len, litE σ E.N t g 0 parts.toList with
        | true, true, true, some (l, S) => K ((σ.add (.row e t l (flatS t S))).put o.dst (.own σ.next))
        | _, _, _, _ => none)
      | _, _, _ => none
    | none => none
  | .makeSlice T l c => match fewT E.P T l c with
   | some (e, n) => K ((σ.add (.cell e (List.replicate n .nil))).put o.dst (.cptr σ.next (1000000 + n)))
   | none => match elemT E.P T with
    | some e => match tyOf E.P 20 e, zeroT E.P e, sizeT E.P e, bytesT E.P e with
      | some t, some z, some n, some by_ => (match Nat.beq n t.n, Nat.ble by_ 65536, Nat.ble 1 t.n, takeTy σ t (constEs z.cells.toList), σ.ev E.N l, σ.ev E.N c with
        | true, true, true, some (d, [], []), .val ⟨.int .i64, a⟩ _, .val ⟨.int .i64, b⟩ _ =>
          cond (makeB a b) (K ((σ.add (.row e t (List.replicate a.toNat d) [])).put o.dst (.own σ.next))) none
        | _, _, _, _, _, _ => none)
      | _, _, _, _ => none
    | none => none
  | .slice T x lo hi mx => match boundE σ E.N lo, boundE σ E.N hi, mx with
    | some a, some b, none => sliceK E.P T σ (σ.ev E.N x) a b k
    | _, _, _ => none
  | .makeInterface T x => match E.P.concrete T, σ.ev E.N x with
    | true, .own ρ => k (.ifc T ρ)
    | _, _ => none
  | .makeFunc (.func f) first caps => match first.toList with
    | [] => k (.fn f (σ.evs E.N caps.toList))
    | _ => none
  | .call c => match c.callee with
    | .builtin b => builtinK E.P b c.argTypes.toList (σ.evs E.N c.args.toList) σ fun e σ' => K (σ'.put o.dst e)
    | .value f => match σ.ev E.N f with
      | .fn g caps => (match findEat g E.eats with
        | some M => eatK M σ (σ.evs E.N c.args.toList ++ caps) fun e σ' => K (σ'.put o.dst e)
        | none => match findPass g E.passes with
          | some M => passK M σ (σ.evs E.N c.args.toList ++ caps) fun e => K (σ.put o.dst e)
          | none => match findTake g E.takes with
            | some M => takeK M σ (σ.evs E.N c.args.toList ++ caps) fun e σ' => K (σ'.put o.dst e)
            | none => match findSort g E.sorts with
              | some M => sortK M σ (σ.evs E.N c.args.toList ++ caps) fun σ' => K (σ'.put o.dst (.tup []))
              | none => match findF g (σ.evs E.N c.args.toList ++ caps) E.fns with
                | some F => callF F (σ.evs E.N c.args.toList ++ caps) σ fun e σ' => K (σ'.put o.dst e)
                | none => none)
      | _ => none
    | .invoke _ _ => none
  | _ => none

def Asps.noMut : Asps → Bool
  | .nil => true
  | .v _ _ _ r => r.noMut
  | .row _ _ _ _ _ _ => false
  | .ptr _ _ _ => false
  | .fn _ c r => c.noMut && r.noMut
  | .st c r => c.noMut && r.noMut
def Ty.scalar : Ty → Bool
  | .int _ | .bool | .str => true
  | _ => false
def Asps.scalars : Asps → Bool
  | .nil => true
  | .v agg t _ r => !agg && (t.scalar && r.scalars)
  | _ => false
def quietB : Builtin → Bool
  | .len | .min | .max => true
  | _ => false
/-- Operations that leave memory alone. -/
def quietO (o : Oper) : Bool :=
  match o.op with
  | .move _ | .assign _ | .pick _ _ _ | .load _ _ | .fieldAddr _ _ _ | .indexAddr _ _ _ | .nilCheck _ | .extract _ _ | .lookup _ _ _ true | .binOp _ _ _ _ _ | .unOp _ _ _ | .convert _ _ _ | .index _ _ _ | .slice _ _ _ _ _ | .build _ _ | .makeFunc _ _ _ => true
  | .call c => (match c.callee with | .builtin b => quietB b | _ => false)
  | _ => false
/-- One operation of a region that draws its order: it leaves memory alone, or calls what only reads and gives numbers back. -/
noncomputable def stepQ (E : Ctx) (o : Oper) (σ : St) (K : St → Option R) : Option R :=
  match quietO o with
  | true => step E o σ K
  | false => match dstOk E.N o.dst with
    | false => none
    | true => match o.op with
      | .call c => match c.callee with
        | .value f => match σ.ev E.N f with
          | .fn g caps => match findF g (σ.evs E.N c.args.toList ++ caps) E.fns with
            | some F => match F.ins.noMut && F.outs.scalars with
              | true => match F.ins.args σ (σ.evs E.N c.args.toList ++ caps) with
                | some (d, g) => (match g.free && single g.src && F.ins.noMine with
                  | true => Option.bind (F.den d) fun r => K (σ.put o.dst (packEs (F.outs.mk g.map r.1 0).1))
                  | false => none)
                | none => none
              | false => none
            | none => none
          | _ => none
        | _ => none
      | _ => none

/-- Operations one behind the other. -/
noncomputable def runOps (E : Ctx) (ops : Array Oper) : List Oper → St → (St → Option R) → Option R
  | [], σ, K => K σ
  | o :: rest, σ, K =>
    match o.guard with
    | none => step E o σ fun σ' => runOps E ops rest σ' K
    | some (j, want) => match ops[j]? with
      | some q => match q.dst with
        | some d => match σ.gt E.N d with
          | .val ⟨.bool, b⟩ _ =>
            cond (beq_ b want) (step E o (σ.put (some d) (mkv ⟨.bool, want⟩ [])) fun σ' => runOps E ops rest σ' K)
              (match dstOk E.N o.dst with
              | true => runOps E ops rest ((σ.put (some d) (mkv ⟨.bool, Bool.not want⟩ [])).put o.dst (.tup [])) K
              | false => none)
          | .tup _ => (match dstOk E.N o.dst with
            | true => runOps E ops rest (σ.put o.dst (.tup [])) K
            | false => none)
          | _ => none
        | none => none
      | none => none
noncomputable def runOpsQ (E : Ctx) (ops : Array Oper) : List Oper → St → (St → Option R) → Option R
  | [], σ, K => K σ
  | o :: rest, σ, K =>
    match o.guard with
    | none => stepQ E o σ fun σ' => runOpsQ E ops rest σ' K
    | some (j, want) => match ops[j]? with
      | some q => match q.dst with
        | some d => match σ.gt E.N d with
          | .val ⟨.bool, b⟩ _ =>
            cond (beq_ b want) (stepQ E o (σ.put (some d) (mkv ⟨.bool, want⟩ [])) fun σ' => runOpsQ E ops rest σ' K)
              (match dstOk E.N o.dst with
              | true => runOpsQ E ops rest ((σ.put (some d) (mkv ⟨.bool, Bool.not want⟩ [])).put o.dst (.tup [])) K
              | false => none)
          | .tup _ => (match dstOk E.N o.dst with
            | true => runOpsQ E ops rest (σ.put o.dst (.tup [])) K
            | false => none)
          | _ => none
        | none => none
      | none => none

/-! ### regions that draw their order and hold operations that change memory -/
/-- One operation with its guard. -/
def guarded (E : Ctx) (ops : Array Oper) (st : Oper → St → (St → Option R) → Option R) (o : Oper) (σ : St) (K : St → Option R) : Option R :=
  match o.guard with
  | none => st o σ K
  | some (j, want) => match ops[j]? with
    | some q => match q.dst with
      | some d => match σ.gt E.N d with
        | .val ⟨.bool, b⟩ _ =>
          cond (beq_ b want) (st o (σ.put (some d) (mkv ⟨.bool, want⟩ [])) K)
            (match dstOk E.N o.dst with
            | true => K ((σ.put (some d) (mkv ⟨.bool, Bool.not want⟩ [])).put o.dst (.tup []))
            | false => none)
        | .tup _ => (match dstOk E.N o.dst with
          | true => K (σ.put o.dst (.tup []))
          | false => none)
        | _ => none
      | none => none
    | none => none
noncomputable def agreeL : List (Option R) → Option R
  | [] => none
  | [x] => x
  | x :: l => agree x (agreeL l)
/-- It yields the same in whatever world. -/
def freeO (o : Oper) : Bool := match o.op with | .move _ | .assign _ => true | _ => false
/-- Operations that wait, directly or not, for number i. -/
def blockedL (i : Nat) : List (Oper × Nat) → List Nat → List Nat
  | [], bl => bl
  | (o, j) :: l, bl => match o.after.any (fun e => Region.binds .any e && (e.on == i || memNat e.on bl)) with
    | true => blockedL i l (j :: bl)
    | false => blockedL i l bl
def allUn (listed : Array Bool) : List Nat → Bool
  | [] => true
  | j :: l => !listed.getD j true && allUn listed l
/-- It only lays a new block. -/
def easyO (o : Oper) : Bool := match o.op with | .alloc _ => true | _ => false
def easyAt (ops : Array Oper) (j : Nat) : Bool := match ops[j]? with | some o => easyO o | none => false
def hardB (ops : Array Oper) (listed : Array Bool) (B : List Nat) : List Nat → Bool
  | [] => true
  | j :: l => (listed.getD j false || (memNat j B || easyAt ops j)) && hardB ops listed B l
def takeable (hl : List Nat) (ops : Array Oper) (listed : Array Bool) (i : Nat) : Bool :=
  !memNat i hl && (Region.free .any ops listed i && ((match ops[i]? with | some o => freeO o | none => false) ||
    (allUn listed (blockedL i ops.toList.zipIdx []) && hardB ops listed (blockedL i ops.toList.zipIdx []) hl)))
def pickT (hl : List Nat) (ops : Array Oper) (listed : Array Bool) : List Nat → Option Nat
  | [] => none
  | i :: l => match takeable hl ops listed i with | true => some i | false => pickT hl ops listed l
/-- Each order that may be drawn: 'hl': the operations that change memory. -/
noncomputable def runDraw (E : Ctx) (ops : Array Oper) (hl : List Nat) : Nat → Array Bool → St → (St → Option R) → Option R
  | 0, listed, σ, K => match Region.ready .any ops listed with | [] => K σ | _ => none
  | n + 1, listed, σ, K => match Region.ready .any ops listed with
    | [] => K σ
    | i :: rs => match pickT hl ops listed (i :: rs) with
      | some i => (match ops[i]? with
        | some o => guarded E ops (stepQ E) o σ fun σ' => runDraw E ops hl n (listed.setIfInBounds i true) σ' K
        | none => none)
      | none => agreeL ((i :: rs).map fun i => match ops[i]?, memNat i hl with
        | some o, true => guarded E ops (step E) o σ fun σ' => runDraw E ops hl n (listed.setIfInBounds i true) σ' K
        | some o, false => guarded E ops (stepQ E) o σ fun σ' => runDraw E ops hl n (listed.setIfInBounds i true) σ' K
        | none, _ => none)
end

/-! ### shapes -/
def firstRegs : List (List Nat) → List Nat
  | [] => []
  | (r :: _) :: l => r :: firstRegs l
  | [] :: l => 0 :: firstRegs l
mutual
def sameRef (m : List (Nat × Slot)) : Ent → Ent → Bool
  | .own a, .own b => Nat.beq a b && (lk m a).isSome
  | .cptr a o, .cptr b p => Nat.beq a b && (Nat.beq o p && (lk m a).isSome)
  | .fn f cs, .fn g ds => Nat.beq f g && sameRefs m cs ds
  | .agg cs, .agg ds => sameRefs m cs ds
  | _, _ => false
def sameRefs (m : List (Nat × Slot)) : List Ent → List Ent → Bool
  | [], [] => true
  | e :: es, f :: fs => sameRef m e f && sameRefs m es fs
  | _, _ => false
end
def allSame (σ : St) (r : Nat) : List Nat → Bool
  | [] => true
  | s :: l => sameRef σ.mem (σ.get r) (σ.get s) && allSame σ r l
def groupsOk (σ : St) : List (List Nat) → Bool
  | [] => true
  | (r :: rs) :: l => allSame σ r rs && groupsOk σ l
  | [] :: _ => false
def pack (sh : Shape) (σ : St) : Option sh.asps.D :=
  match groupsOk σ sh.regs, sh.asps.args σ ((firstRegs sh.regs).map σ.get) with
  | true, some (d, g) => (match g.within σ.mem with | true => some d | false => none)
  | _, _ => none
def setRs (e : Ent) : List Nat → List (Nat × Ent)
  | [] => []
  | r :: l => (r, e) :: setRs e l
def setAll : List (List Nat) → List Ent → List (Nat × Ent)
  | rs :: l, e :: es => setRs e rs ++ setAll l es
  | _, _ => []
def unpack (sh : Shape) (d : sh.asps.D) : St :=
  let x := sh.asps.mk (fun j => [.ext j]) d 0
  ⟨setAll sh.regs x.1, x.2.1, x.2.2⟩

/-- What a step comes to: what lies in all that the step stays in. -/
def Ans {X R : Type} (F : (X → Option R) → X → Option R) (x : X) (r : R) : Prop :=
  ∀ I : X → R → Prop, (∀ K : X → Option R, (∀ y s, K y = some s → I y s) → ∀ y s, F K y = some s → I y s) → I x r
/-- The least function that a step comes to. -/
noncomputable def fixD {X R : Type} (F : (X → Option R) → X → Option R) : X → Option R :=
  open Classical in fun x => if h : ∃ r, Ans F x r then some (Classical.choose h) else none

def joinK {X R : Type} (j : X → Option R) (o : Option X) : Option R := match o with | some x => j x | none => none

inductive Flow where
  | go | out (id : Nat) | ret

def canonK {R : Type} (sh : Option Shape) (σ : St) (K : St → Option R) : Option R :=
  match sh with
  | none => K σ
  | some sh => joinK (fun d => K (unpack sh d)) (pack sh σ)

/-- The code, then K. -/
noncomputable def run (E : Ctx) {R : Type} : Code → St → (Flow → St → Option R) → Option R
  | .skip, σ, K => K .go σ
  | .ret, σ, K => K .ret σ
  | .exit id, σ, K => K (.out id) σ
  | .seq a b, σ, K => run E a σ fun f σ' => match f with | .go => run E b σ' K | f => K f σ'
  | .region id ops draw, σ, K => match draw with
    | false => runOps E ops ops.toList σ fun σ' => canonK (lk E.h.regions id) σ' (K .go)
    | true => match lk E.h.order id with
      | none => runOpsQ E ops ops.toList σ fun σ' => canonK (lk E.h.regions id) σ' (K .go)
      | some hl => runDraw E ops hl ops.size (Array.replicate ops.size false) σ fun σ' => canonK (lk E.h.regions id) σ' (K .go)
  | .cond (.tmp c) a b, σ, K => match σ.gt E.N c with
    | .val ⟨.bool, t⟩ _ =>
      let K' : Flow → St → Option R := fun f σ' => match f with | .go => canonK (lk E.h.conds c) σ' (K .go) | f => K f σ'
      cond t (run E a σ K') (run E b σ K')
    | _ => none
  | .block id (.loop body), σ, K => match lk E.h.loops id with
    | some sh =>
      let Kx : Flow → St → Option R := fun f σ' => match f with
        | .out i => (match Nat.beq i id with | true => canonK (lk E.h.blocks id) σ' (K .go) | false => K (.out i) σ')
        | f => K f σ'
      joinK (fixD fun self d => run E body (unpack sh d) fun f σ' => match f with
        | .go => joinK self (pack sh σ')
        | f => Kx f σ') (pack sh σ)
    | none => none
  | .block id body, σ, K => run E body σ fun f σ' => match f with
    | .out i => (match Nat.beq i id with | true => canonK (lk E.h.blocks id) σ' (K .go) | false => K (.out i) σ')
    | .go => canonK (lk E.h.blocks id) σ' (K .go)
    | .ret => K .ret σ'
  | _, _, _ => none

/-- What stands in the result variables. -/
def resE (E : Ctx) (σ : St) : List ResultVar → Option (List Ent)
  | [] => some []
  | .tmp t :: l => (match resE E σ l with | some es => some (σ.gt E.N t :: es) | none => none)
  | .cell a T :: l => (match loadE E.P T σ (σ.gt E.N a), resE E σ l with | some e, some es => some (e :: es) | _, _ => none)

/-- The lent things as they stand. -/
def Asps.outM (σ : St) : (p : Asps) → List Ent → Option (p.M × Got)
  | .nil, [] => some ((), ⟨[], []⟩)
  | .v _ _ _ r, _ :: es => r.outM σ es
  | .row i t fx mn m r, .own ρ :: es =>
    match lk σ.mem ρ with
    | some ⟨k, _, _, .row i' t' l S⟩ => match Nat.beq i i', σ.okS S, (Dyn.mk (.slice i t') l).as (.slice i t), r.outM σ es with
      | true, true, some d, some (ds, g) => some ((d, ds), ⟨(m, S) :: g.src, ρ :: g.muts⟩)
      | _, _, _, _ => none
    | _ => none
  | .row i _ _ _ _ r, .nil :: es =>
    match mapT i, r.outM σ es with
    | false, some (ds, g) => some (([], ds), g)
    | _, _ => none
  | .ptr T c r, .cptr κ off :: es =>
    match lk σ.mem κ with
    | some ⟨k, _, _, .cell T' ls⟩ => match Nat.beq (celT T) T', Nat.beq off (offT T) && c.plain, c.args σ ls, r.outM σ es with
      | true, true, some (d, h), some (ds, g) => some ((d, ds), ⟨addNew h.src ++ g.src, κ :: g.muts⟩)
      | _, _, _, _ => none
    | _ => none
  | .fn f c r, .fn f' cs :: es =>
    match Nat.beq f f', c.outM σ cs, r.outM σ es with
    | true, some (d, h), some (ds, g) => some ((d, ds), ⟨h.src ++ g.src, h.muts ++ g.muts⟩)
    | _, _, _ => none
  | .st c r, .agg cs :: es =>
    match c.outM σ cs, r.outM σ es with
    | some (d, h), some (ds, g) => some ((d, ds), ⟨h.src ++ g.src, h.muts ++ g.muts⟩)
    | _, _ => none
  | _, _ => none

def nums (a : Nat) : Nat → List Nat
  | 0 => []
  | n + 1 => a :: nums (a + 1) n

/-- The end of a call. -/
def Asps.outOk : Asps → Bool
  | .nil => true
  | .v _ _ _ r => r.outOk
  | .row _ _ _ mn _ r => mn && r.outOk
  | .st c r => c.outOk && r.outOk
  | _ => false
def finish (E : Ctx) (ins outs : Asps) (rv : List ResultVar) (np : Nat) (σ : St) : Option (outs.D × ins.M) :=
  match resE E σ rv with
  | some es => match outs.args σ es, ins.outM σ ((nums E.N np).map σ.get) with
    | some (d, g), some (m, h) => (match (Got.mk (g.src ++ h.src) (g.muts ++ h.muts)).within σ.mem && (outs.outOk && ins.inOk) with | true => some (d, m) | false => none)
    | _, _ => none
  | none => none

/-- A call: slots from N on hold what came in, as it came. -/
noncomputable def runFn (E : Ctx) (ins outs : Asps) (rv : List ResultVar) (body : Code) (d : ins.D) : Option (outs.D × ins.M) :=
  let x := ins.mk (fun j => [.ext j]) d 0
  let n := x.1.length
  run E body ⟨setAll ((nums 0 n).map fun i => [i, E.N + i]) x.1, x.2.1, x.2.2⟩ fun f σ => match f with
    | .out _ => none
    | _ => finish E ins outs rv n σ

/-- The end of a call that takes a row: what it hands back. -/
def finishT (E : Ctx) (ins : Asps) (e : TypeId) (t : Ty) (rv : List ResultVar) (np : Nat) (σ : St) : Option (List t.D) :=
  match ins.outM σ ((nums E.N np).map σ.get) with
  | some (_, h) => (match (Got.mk h.src h.muts).within σ.mem && ins.inOk with
    | true => match resE E σ rv with
      | some [.own ρ] => match lk σ.mem ρ with
        | some ⟨_, _, _, .row e' t' l S⟩ => (match Nat.beq e e' && S.isEmpty, (Dyn.mk (.slice e t') l).as (.slice e t) with
          | true, some d => some d
          | _, _ => none)
        | _ => none
      | some [.nil] => some []
      | _ => none
    | false => none)
  | none => none
def takeIns (e : TypeId) (t : Ty) : Asps := .row e t true false [0] (.v false (.int .i64) [1] .nil)
noncomputable def runTake (E : Ctx) (e : TypeId) (t : Ty) (rv : List ResultVar) (body : Code) (l : List t.D) (k : Int) : Option (List t.D) :=
  let x := (takeIns e t).mk (fun j => [.ext j]) (l, (k, ())) 0
  let n := x.1.length
  run E body ⟨setAll ((nums 0 n).map fun i => [i, E.N + i]) x.1, x.2.1, x.2.2⟩ fun f σ => match f with
    | .out _ => none
    | _ => finishT E (takeIns e t) e t rv n σ

end Go.Proofs.Ytpegolnoadpjhaa.R
