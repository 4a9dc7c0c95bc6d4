/- R, part 2: the plain run of Go's code: what each operation does to plain data, told by a function. -/
import Derived.Test.YtpegolnoadpjhaaR1
set_option linter.unusedVariables false
namespace Go.Proofs.Ytpegolnoadpjhaa.R
open Go.RowKit

/-- What a value's memory may be part of: the j-th thing that came in; a row or variable of the call's own, as it was at a version. -/
inductive Src where
  | ext (j : Nat)
  | reg (ρ ver : Nat)

/-- What is known of a slot. -/
inductive Ent where
  | bot
  | val (x : Dyn) (S : List Src)
  | nil
  | own (ρ : Nat)
  | cptr (κ off : Nat)
  | eptr (ρ : Nat) (i : Int) (off : Nat)
  | rptr (ls : List Dyn) (S : List Src)
  | fn (f : Nat) (caps : List Ent)
  | agg (es : List Ent)
  | tup (es : List Ent)
  | ifc (T : TypeId) (ρ : Nat)

/-- Rows of a map: their element's type number is the map type's, from 1000000 on. -/
def mapT (e : Nat) : Bool := Nat.ble 1000000 e
/-- A map's entries, in the order of their first writing. -/
def mget : List (Int × Int) → Int → Option Int
  | [], _ => none
  | (a, b) :: l, k => cond (decide (a = k)) (some b) (mget l k)
def mput : List (Int × Int) → Int → Int → List (Int × Int)
  | [], k, v => [(k, v)]
  | (a, b) :: l, k, v => cond (decide (a = k)) ((k, v) :: l) ((a, b) :: mput l k v)

/-- Memory of the call's own (or lent to it): a row of elements; a variable. -/
inductive Reg where
  | row (e : TypeId) (t : Ty) (l : List t.D) (S : List Src)
  | cell (T : TypeId) (es : List Ent)

structure Slot where
  ver : Nat
  fixed : Bool
  mine : Bool
  reg : Reg

structure St where
  regs : List (Nat × Ent)
  mem : List (Nat × Slot)
  next : Nat

def lk {α : Type} : List (Nat × α) → Nat → Option α
  | [], _ => none
  | (k, x) :: l, n => match Nat.beq k n with | true => some x | false => lk l n

def rm {α : Type} : List (Nat × α) → Nat → List (Nat × α)
  | [], _ => []
  | (k, x) :: l, n => match Nat.beq k n with | true => rm l n | false => (k, x) :: rm l n

def St.get (σ : St) (r : Nat) : Ent := match lk σ.regs r with | some e => e | none => .bot

def constE : Value → Ent
  | .int k n => .val ⟨.int k, n⟩ []
  | .bool b => .val ⟨.bool, b⟩ []
  | .string s => .val ⟨.str, s⟩ []
  | .slice none n c => match Nat.beq n 0, Nat.beq c 0 with | true, true => .nil | _, _ => .bot
  | _ => .bot

/-- A slot of the code's own (slots from N on hold what came in). -/
def St.gt (σ : St) (N t : Nat) : Ent := match Nat.blt t N with | true => σ.get t | false => .bot

def St.ev (σ : St) (N : Nat) : Operand → Ent
  | .tmp t => σ.gt N t
  | .const v => constE v
  | .func f => .fn f []
  | .global _ => .bot

def St.evs (σ : St) (N : Nat) : List Operand → List Ent
  | [] => []
  | x :: l => σ.ev N x :: σ.evs N l

def okSrcM (m : List (Nat × Slot)) : Src → Bool
  | .ext _ => true
  | .reg ρ k => match lk m ρ with | some sl => Nat.beq sl.ver k | none => false

def okSM (m : List (Nat × Slot)) : List Src → Bool
  | [] => true
  | s :: l => okSrcM m s && okSM m l

def St.okS (σ : St) (S : List Src) : Bool := okSM σ.mem S

def St.put (σ : St) (dst : Option Tmp) (e : Ent) : St :=
  match dst with | some d => { σ with regs := (d, e) :: σ.regs } | none => σ

/-- A leaf's entry: what holds no slice has no sources. -/
def mkv (x : Dyn) (S : List Src) : Ent := .val x (match x.t.flat with | true => [] | false => S)

def vals (S : List Src) : List Dyn → List Ent
  | [] => []
  | x :: l => mkv x S :: vals S l

/-- An entry read as a leaf of type u. -/
def Ent.leaf (σ : St) (u : Ty) : Ent → Option (u.D × List Src)
  | .val x S => match σ.okS S, x.as u with | true, some d => some (d, S) | _, _ => none
  | .nil => match u with | .slice _ _ => some (([] : List _), []) | _ => none
  | .own ρ => match lk σ.mem ρ with
    | some ⟨k, _, _, .row e t l S⟩ => match σ.okS S && !mapT e, (Dyn.mk (.slice e t) l).as u with | true, some d => some (d, .reg ρ k :: S) | _, _ => none
    | _ => none
  | _ => none

/-- Entries read as a value of type u; what is left. -/
def takeTy (σ : St) : (u : Ty) → List Ent → Option (u.D × List Src × List Ent)
  | .pair a b, es => match takeTy σ a es with
    | some (x, S, es') => match takeTy σ b es' with
      | some (y, S', r) => some ((x, y), S ++ S', r)
      | none => none
    | none => none
  | .unit, es => some ((), [], es)
  | .int k, e :: r => match e.leaf σ (.int k) with | some (d, S) => some (d, S, r) | none => none
  | .bool, e :: r => match e.leaf σ .bool with | some (d, S) => some (d, S, r) | none => none
  | .str, e :: r => match e.leaf σ .str with | some (d, S) => some (d, S, r) | none => none
  | .opq, e :: r => match e.leaf σ .opq with | some (d, S) => some (d, S, r) | none => none
  | .slice i t, e :: r => match e.leaf σ (.slice i t) with | some (d, S) => some (d, S, r) | none => none
  | _, [] => none

/-! ### What comes in, goes out, is carried round a loop -/

/-- A list of things: a value; a row that is written; a variable that is written, by its entries; a function with what it captured. 'm': which things that came in its memory may be part of. -/
inductive Asps where
  | nil
  | v (agg : Bool) (t : Ty) (m : List Nat) (r : Asps)
  | row (e : TypeId) (t : Ty) (fx mn : Bool) (m : List Nat) (r : Asps)
  | ptr (T : TypeId) (c : Asps) (r : Asps)
  | fn (f : Nat) (c : Asps) (r : Asps)
  | st (c : Asps) (r : Asps)

def Asps.D : Asps → Type
  | .nil => Unit
  | .v _ t _ r => t.D × r.D
  | .row _ t _ _ _ r => List t.D × r.D
  | .ptr _ c r => c.D × r.D
  | .fn _ c r => c.D × r.D
  | .st c r => c.D × r.D

/-- What may have turned of it. -/
def Asps.M : Asps → Type
  | .nil => Unit
  | .v _ _ _ r => r.M
  | .row _ t _ _ _ r => List t.D × r.M
  | .ptr _ c r => c.D × r.M
  | .fn _ c r => c.M × r.M
  | .st c r => c.M × r.M

/-- A variable's type number from 2000000 on stands for a slice over a few cells of its own: (n + 2) * 1000000 + the elements' type; from 1000000000 on for a pointer to a part of a variable: the offset * 1000000000 + the variable's type. -/
def offT (T : Nat) : Nat := match Nat.ble 1000000000 T with | true => T / 1000000000 | false => (match Nat.ble 2000000 T with | true => 1000000 + (T / 1000000 - 2) | false => 0)
def celT (T : Nat) : Nat := match Nat.ble 1000000000 T with | true => T % 1000000000 | false => (match Nat.ble 2000000 T with | true => T % 1000000 | false => T)

def flatS (t : Ty) (S : List Src) : List Src := match t.flat with | true => [] | false => S

/-- Number 999 stands for what a call has made anew. -/
def srcs (f : Nat → List Src) : List Nat → List Src
  | [] => []
  | j :: l => (match Nat.beq j 999 with | true => .ext 999 :: f j | false => f j) ++ srcs f l

/-- What a lent variable holds behind a call may have been made in it: its sources, its masks. -/
def newS (f : Nat → List Src) (j : Nat) : List Src := .ext 999 :: (f 999 ++ f j)
def nm : List Nat → List Nat
  | [] => []
  | j :: l => 999 :: j :: l

/-- The entries and the memory of a list of things; regions are named from j on. -/
def Asps.mk (f : Nat → List Src) : (p : Asps) → p.D → (j : Nat) → List Ent × List (Nat × Slot) × Nat
  | .nil, _, j => ([], [], j)
  | .v agg t m r, d, j =>
    let x := r.mk f d.2 j
    let ls := vals (srcs f m) (leaves t d.1)
    ((match agg with | true => .agg ls | false => (match ls with | e :: _ => e | [] => .bot)) :: x.1, x.2.1, x.2.2)
  | .row e t fx mn m r, d, j =>
    let x := r.mk f d.2 (j + 1)
    (.own j :: x.1, (j, ⟨0, fx, mn, .row e t d.1 (flatS t (srcs f m))⟩) :: x.2.1, x.2.2)
  | .ptr T c r, d, j =>
    let y := c.mk f d.1 (j + 1)
    let x := r.mk f d.2 y.2.2
    (.cptr j (offT T) :: x.1, (j, ⟨0, true, false, .cell (celT T) y.1⟩) :: (y.2.1 ++ x.2.1), x.2.2)
  | .fn g c r, d, j =>
    let y := c.mk f d.1 j
    let x := r.mk f d.2 y.2.2
    (.fn g y.1 :: x.1, y.2.1 ++ x.2.1, x.2.2)
  | .st c r, d, j =>
    let y := c.mk f d.1 j
    let x := r.mk f d.2 y.2.2
    (.agg y.1 :: x.1, y.2.1 ++ x.2.1, x.2.2)

/-- What was got of entries: the sources of each value (by its mask), the regions that are handed on. -/
structure Got where
  src : List (List Nat × List Src)
  muts : List Nat

def aggLs : Bool → Ent → Option (List Ent)
  | true, .agg ls => some ls
  | true, _ => none
  | false, e => some [e]

/-- Values only. -/
def Asps.plain : Asps → Bool
  | .nil => true
  | .v _ _ _ r => r.plain
  | _ => false

/-- What is lent: variables hold values only. -/
def Asps.inOk : Asps → Bool
  | .nil => true
  | .v _ _ _ r => r.inOk
  | .row _ _ _ _ _ r => r.inOk
  | .ptr _ c r => c.plain && r.inOk
  | .fn _ c r => c.inOk && r.inOk
  | .st c r => c.inOk && r.inOk
/-- Nothing that comes in is told to be new. -/
def Asps.no999 : Asps → Bool
  | .nil => true
  | .v _ _ m r => !(m.any fun j => Nat.beq j 999) && r.no999
  | .row _ _ _ _ m r => !(m.any fun j => Nat.beq j 999) && r.no999
  | .ptr _ c r => c.no999 && r.no999
  | .fn _ c r => c.no999 && r.no999
  | .st c r => c.no999 && r.no999
/-- No row that is the reader's own. -/
def Asps.noMine : Asps → Bool
  | .nil => true
  | .v _ _ _ r => r.noMine
  | .row _ _ _ mn _ r => !mn && r.noMine
  | .ptr _ c r => c.noMine && r.noMine
  | .fn _ c r => c.noMine && r.noMine
  | .st c r => c.noMine && r.noMine

/-- Entries read as a list of things. -/
def Asps.args (σ : St) : (p : Asps) → List Ent → Option (p.D × Got)
  | .nil, [] => some ((), ⟨[], []⟩)
  | .v agg t m r, e :: es =>
    match aggLs agg e with
    | some ls => match takeTy σ t ls, r.args σ es with
      | some (d, S, []), some (ds, g) => some ((d, ds), ⟨(m, S) :: g.src, g.muts⟩)
      | _, _ => none
    | none => none
  | .row i t fx mn m r, .own ρ :: es =>
    match lk σ.mem ρ with
    | some ⟨k, fx', mn', .row i' t' l S⟩ => match Nat.beq i i', σ.okS S, (fx || !fx') && (mn' || !mn), (Dyn.mk (.slice i t') l).as (.slice i t), r.args σ es with
      | true, true, true, some d, some (ds, g) => some ((d, ds), ⟨(m, S) :: g.src, ρ :: g.muts⟩)
      | _, _, _, _, _ => none
    | _ => none
  | .row i t fx mn m r, .nil :: es =>
    match mapT i, r.args σ es with
    | false, some (ds, g) => some ((([] : List t.D), ds), ⟨(m, []) :: g.src, g.muts⟩)
    | _, _ => none
  | .ptr T c r, .cptr κ off :: es =>
    match lk σ.mem κ with
    | some ⟨k, _, _, .cell T' ls⟩ => match Nat.beq (celT T) T', Nat.beq off (offT T), c.args σ ls, r.args σ es with
      | true, true, some (d, h), some (ds, g) => some ((d, ds), ⟨h.src ++ g.src, κ :: (h.muts ++ g.muts)⟩)
      | _, _, _, _ => none
    | _ => none
  | .fn f c r, .fn f' cs :: es =>
    match Nat.beq f f', c.args σ cs, r.args σ es with
    | true, some (d, h), some (ds, g) => some ((d, ds), ⟨h.src ++ g.src, h.muts ++ g.muts⟩)
    | _, _, _ => none
  | .st c r, .agg cs :: es =>
    match c.args σ cs, r.args σ es with
    | some (d, h), some (ds, g) => some ((d, ds), ⟨h.src ++ g.src, h.muts ++ g.muts⟩)
    | _, _ => none
  | _, _ => none

def memNat (n : Nat) : List Nat → Bool
  | [] => false
  | m :: l => Nat.beq n m || memNat n l

def nodupNat : List Nat → Bool
  | [] => true
  | n :: l => !memNat n l && nodupNat l

/-- No source is one of these regions. -/
def srcFree (ms : List Nat) : List Src → Bool
  | [] => true
  | .ext _ :: l => srcFree ms l
  | .reg ρ _ :: l => !memNat ρ ms && srcFree ms l

def mineB (m : List (Nat × Slot)) (ρ : Nat) : Bool := match lk m ρ with | some sl => sl.mine | none => false

/-- .. and all that came in is in the mask, and the rest is the call's own. -/
def srcIn (m : List (Nat × Slot)) (mask ms : List Nat) : List Src → Bool
  | [] => true
  | .ext j :: l => memNat j mask && srcIn m mask ms l
  | .reg ρ _ :: l => !memNat ρ ms && (mineB m ρ && (memNat 999 mask && srcIn m mask ms l))

def allFree (ms : List Nat) : List (List Nat × List Src) → Bool
  | [] => true
  | x :: l => srcFree ms x.2 && allFree ms l
def allIn (m : List (Nat × Slot)) (ms : List Nat) : List (List Nat × List Src) → Bool
  | [] => true
  | x :: l => srcIn m x.1 ms x.2 && allIn m ms l

def Got.free (g : Got) : Bool := nodupNat g.muts && allFree g.muts g.src
def Got.within (m : List (Nat × Slot)) (g : Got) : Bool := nodupNat g.muts && allIn m g.muts g.src

/-- The sources of what came in as number j. -/
def srcAt (j : Nat) : List (List Nat × List Src) → List Src
  | [] => []
  | ([i], S) :: l => (match Nat.beq i j with | true => S ++ srcAt j l | false => srcAt j l)
  | _ :: l => srcAt j l
def Got.map (g : Got) (j : Nat) : List Src := srcAt j g.src
def addNew : List (List Nat × List Src) → List (List Nat × List Src)
  | [] => []
  | x :: l => (nm x.1, x.2) :: addNew l
/-- Each mask is a single number. -/
def single : List (List Nat × List Src) → Bool
  | [] => true
  | ([_], _) :: l => single l
  | _ => false

end Go.Proofs.Ytpegolnoadpjhaa.R
