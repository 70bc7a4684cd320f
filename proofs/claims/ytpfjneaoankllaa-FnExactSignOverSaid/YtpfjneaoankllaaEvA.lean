/- A reader of translated code over typed data, and that its single operations tell the truth. -/
import Derived.WalkKit
import Derived.Orders
import Derived.OrdersHeld
import Derived.WalkSmall
import Derived.Lib.SliceRun
import Derived.Laws.BytesString
import Derived.Laws.Strings2
set_option linter.unusedVariables false
set_option linter.unusedSimpArgs false
/-! A READER OF THE TRANSLATED CODE OVER TYPED DATA: what a function of the program computes, told over lists and numbers, without memory. -/
namespace Go.Proofs.Ytpfjneaoankllaa.Ev
/-- What a slice sees of its row. -/
inductive Slc where
  | all | pre (n : Nat) | sub (o n : Nat)
/-- One cell of a variable that is told cell by cell. -/
inductive RC where
  | int (k : IntKind) (n : Int) | bool (b : Bool) | str (s : ByteArray) | emp | ref (r : Nat) (s : Slc) | dead
/-- The layouts of data; var: a variable of the call's own that is told cell by cell. -/
inductive Ty where
  | int (k : IntKind) | bool | str | pair (a b : Ty) | slice (t : TypeId) (e : Ty) | unit | var (n : Nat)
  deriving DecidableEq
@[reducible] def Ty.den : Ty → Type
  | .int _ => Int | .bool => Bool | .str => ByteArray | .pair a b => a.den × b.den | .slice _ e => List e.den | .unit => Unit | .var _ => List RC
def Ty.size : Ty → Nat
  | .pair a b => a.size + b.size | .unit => 0 | .var n => n | _ => 1
def Ty.zero : (e : Ty) → e.den
  | .int _ => (0 : Int) | .bool => false | .str => ByteArray.empty | .pair a b => (a.zero, b.zero) | .slice _ _ => ([] : List _) | .unit => () | .var _ => ([] : List RC)
/-- One memory cell, as data. -/
inductive Cell where
  | int (k : IntKind) (n : Int) | bool (b : Bool) | str (s : ByteArray)
  | emp                                                        -- a slice of capacity 0
  | lst (t : TypeId) (e : Ty) (l : List e.den) (fr : Bool)     -- a slice that is only read
  | own (t : TypeId) (e : Ty) (l : List e.den) (s : Slc)       -- a slice that is handed over (results) or lent for writing (arguments)
  | optr (t : TypeId) (e : Ty) (l : List e.den)                -- a variable that is lent for writing
  | ref (r : Nat) (s : Slc) | ptr (r i j : Nat) | fn (f : FuncId) | dead
inductive Comp where
  | one (c : Cell) | agg (cs : List Cell)
inductive Val where
  | v (c : Comp) | tup (cs : List Comp) | dead | un
structure Reg where
  t : TypeId
  e : Ty
  l : List e.den
  own : Bool
  fr : Bool
structure State where
  ts : List Val
  hid : List Cell
  σ : List (Option Reg)
structure TI where
  e : Ty
  agg : Bool
  fl : List (Nat × TypeId)
abbrev Tab := List (Nat × TI)
def look.{u} {α : Type u} : List (Nat × α) → Nat → Option α
  | [], _ => none
  | (k, x) :: r, t => match Nat.beq k t with
    | true => some x
    | false => look r t
def nth {α : Type} : List α → Nat → Option α
  | [], _ => none
  | x :: _, 0 => some x
  | _ :: r, n + 1 => nth r n
def put {α : Type} : List α → Nat → α → List α
  | [], _, _ => []
  | _ :: r, 0, y => y :: r
  | x :: r, n + 1, y => x :: put r n y
def app.{u} {α : Type u} : List α → List α → List α
  | [], y => y
  | x :: r, y => x :: app r y
def count {α : Type} : List α → Nat
  | [] => 0
  | _ :: r => Nat.succ (count r)
def firsts {α : Type} : Nat → List α → List α
  | 0, _ => []
  | _ + 1, [] => []
  | n + 1, x :: r => x :: firsts n r
def lasts {α : Type} : Nat → List α → List α
  | 0, l => l
  | _ + 1, [] => []
  | n + 1, _ :: r => lasts n r
def RC.cell : RC → Cell
  | .int k n => .int k n | .bool b => .bool b | .str s => .str s | .emp => .emp | .ref r s => .ref r s | .dead => .dead
def cellsOf : List RC → List Cell
  | [] => []
  | c :: r => c.cell :: cellsOf r
def rcOf : List Cell → Option (List RC)
  | [] => some []
  | c :: r => match (match c with | .int k n => some (RC.int k n) | .bool b => some (.bool b) | .str s => some (.str s) | .emp => some .emp | .ref r s => some (.ref r s) | .dead => some .dead | _ => none), rcOf r with
    | some x, some l => some (x :: l)
    | _, _ => none
def deadC : Nat → List Cell
  | 0 => []
  | n + 1 => .dead :: deadC n
def isVar : Ty → Bool
  | .var _ => true
  | _ => false
/-- What lies in a variable that is told cell by cell. -/
def varOf : Reg → Option (List RC)
  | ⟨_, .var _, [x], true, _⟩ => some x
  | _ => none
/-- The cells of a datum. -/
def enc : (e : Ty) → e.den → Bool → List Cell
  | .int k, x, _ => [.int k x]
  | .bool, x, _ => [.bool x]
  | .str, x, _ => [.str x]
  | .unit, _, _ => []
  | .pair a b, x, fr => app (enc a x.1 fr) (enc b x.2 fr)
  | .slice t e, l, fr => [.lst t e l fr]
  | .var n, _, _ => deadC n
/-- The datum that cells bear. -/
def dec : (e : Ty) → List Cell → Option (e.den × List Cell)
  | .int k, .int k' n :: r => if k = k' then some (n, r) else none
  | .bool, .bool b :: r => some (b, r)
  | .str, .str s :: r => some (s, r)
  | .unit, r => some ((), r)
  | .slice _ _, .emp :: r => some (([] : List _), r)
  | .slice _ e, .lst _ e' l _ :: r => if h : e' = e then some ((h ▸ l : List e.den), r) else none
  | .pair a b, r => match dec a r with
    | some (x, r1) => match dec b r1 with
      | some (y, r2) => some ((x, y), r2)
      | none => none
    | none => none
  | _, _ => none
def dec1 (e : Ty) (cs : List Cell) : Option e.den := match dec e cs with
  | some (x, []) => some x
  | _ => none
/-- No slices within. -/
def flat : Ty → Bool
  | .slice _ _ => false
  | .var _ => false
  | .pair a b => flat a && flat b
  | _ => true
def orB (a b : Bool) : Bool := match a with | true => true | false => b
/-- A read at a place that is known to be there. -/
def appL {α : Type} (x y : List α) : List α := x ++ y
def setL {α : Type} (l : List α) (i : Nat) (x : α) : List α := l.set i x
def repL {α : Type} (n : Nat) (x : α) : List α := List.replicate n x
def preL {α : Type} (l : List α) (n : Nat) : List α := l.take n
def subL {α : Type} (l : List α) (o n : Nat) : List α := (l.drop o).take n
def nat (n : Int) : Nat := n.toNat
def nadd (a b : Nat) : Nat := a + b
def llen {α : Type} (l : List α) : Nat := l.length
def nsub (a b : Nat) : Nat := a - b
def strApp (a b : ByteArray) : ByteArray := a ++ b
def strEq (a b : ByteArray) : Bool := a.toList == b.toList
def okCat (a b : ByteArray) : Bool := decide (a.size + b.size ≤ 9223372036854775807)
def boolEq (a b : Bool) : Bool := a == b
def bnot (a : Bool) : Bool := !a
def rd (e : Ty) (l : List e.den) (i : Nat) : e.den := l.getD i e.zero
/-- A branch. -/
def br {R : Type} (b : Bool) (x y : Option R) : Option R := if b = true then x else y
def view {α : Type} (l : List α) : Slc → List α
  | .all => l
  | .pre n => preL l n
  | .sub o n => subL l o n
def vlen {α : Type} (l : List α) : Slc → Nat
  | .all => l.length
  | .pre n => n
  | .sub _ n => n
def State.put (st : State) (d : Option Tmp) (v : Val) : State := match d with
  | some d => ⟨Ev.put st.ts d v, st.hid, st.σ⟩
  | none => st
def State.reg (st : State) (r : Nat) : Option Reg := match nth st.σ r with
  | some (some g) => some g
  | _ => none
def State.new (st : State) (g : Reg) : State := ⟨st.ts, st.hid, app st.σ [some g]⟩
def State.set (st : State) (r : Nat) (g : Option Reg) : State := ⟨st.ts, st.hid, Ev.put st.σ r g⟩
def constC : Value → Cell
  | .int k n => .int k n | .bool b => .bool b | .string s => .str s | .slice none 0 0 => .emp | .func (.func f) a b => (match a.toList, b.toList with | [], [] => .fn f | _, _ => .dead) | _ => .dead
def State.ev (st : State) : Operand → Val
  | .tmp t => match nth st.ts t with | some v => v | none => .dead
  | .const (.agg cs) => .v (.agg (cs.toList.map constC))
  | .const v => .v (.one (constC v))
  | .func f => .v (.one (.fn f))
  | .global _ => .dead
/-- A slice's cell as a value of its own: a row is laid for it. (t: the slice's type) -/
def imp (T : Tab) (t : TypeId) (st : State) : Cell → Cell × State
  | .emp => match look T t with
    | some ⟨.slice te e, _, _⟩ => (.ref (count st.σ) .all, st.new ⟨te, e, [], true, true⟩)
    | _ => (.emp, st)
  | .lst te e l fr => (.ref (count st.σ) .all, st.new ⟨te, e, l, false, fr⟩)
  | .own te e l s => (.ref (count st.σ) s, st.new ⟨te, e, l, true, true⟩)
  | c => (c, st)
def impV (T : Tab) (t : TypeId) (st : State) : Val → Val × State
  | .v (.one c) => match imp T t st c with | (c', st') => (.v (.one c'), st')
  | v => (v, st)
/-- A cell made free of rows: what it reads. -/
def expC (st : State) : Cell → Option Cell
  | .ref r s => match st.reg r with
    | some g => some (.lst g.t g.e (view g.l s) g.fr)
    | none => none
  | .ptr _ _ _ => none
  | .dead => none
  | .own _ _ _ _ => none
  | .optr _ _ _ => none
  | c => some c
def expL (st : State) : List Cell → Option (List Cell)
  | [] => some []
  | c :: r => match expC st c with
    | some c' => match expL st r with
      | some r' => some (c' :: r')
      | none => none
    | none => none
/-- A cell made free of rows, for good: its row must be one that may be read ever after. -/
def embC (st : State) : Cell → Option Cell
  | .ref r s => match st.reg r with
    | some ⟨t, e, l, own, fr⟩ => match own, fr with
      | true, false => none
      | _, _ => some (.lst t e (view l s) fr)
    | none => none
  | c => expC st c
def embL (st : State) : List Cell → Option (List Cell)
  | [] => some []
  | c :: r => match embC st c with
    | some c' => match embL st r with
      | some r' => some (c' :: r')
      | none => none
    | none => none
/-- A cell made free of rows: no row of the call's own. -/
def offC (st : State) : Cell → Option Cell
  | .ref r s => match st.reg r with
    | some ⟨t, e, l, false, fr⟩ => some (.lst t e (view l s) fr)
    | _ => none
  | c => expC st c
def offL (st : State) : List Cell → Option (List Cell)
  | [] => some []
  | c :: r => match offC st c with
    | some c' => match offL st r with
      | some r' => some (c' :: r')
      | none => none
    | none => none
/-- The rows behind cells are written no more. -/
def freeze (st : State) : List Cell → State
  | [] => st
  | .ref r _ :: rest => match st.reg r with
    | some g => freeze (st.set r (some ⟨g.t, g.e, g.l, false, g.fr⟩)) rest
    | none => freeze st rest
  | _ :: rest => freeze st rest
def frs : List Cell → Bool
  | [] => true
  | .lst _ _ _ fr :: r => fr && frs r
  | _ :: r => frs r
def Comp.cells : Comp → List Cell
  | .one c => [c]
  | .agg cs => cs
def unfrees : List Cell → List Cell := fun cs => cs
/-! ### Contracts -/
inductive Mode where
  | rd | mt | tk | rp
/-- How a parameter is handed over: as data that is read; a slice or a variable that is lent (mt) or given away (tk); a function. -/
inductive PT where
  | rd (e : Ty) | ag (e : Ty) | ow (t : TypeId) (e : Ty) (tk : Bool) (pre : Bool) | op (t : TypeId) (e : Ty) | fn (f : FuncId) | rp (t : TypeId) (e : Ty)
@[reducible] def PT.den : PT → Type
  | .rd e => e.den | .ag e => e.den | .ow _ e _ false => List e.den | .ow _ e _ true => List e.den × Nat | .op _ e => e.den | .fn _ => Unit | .rp _ e => e.den
def PT.mode : PT → Mode
  | .ow _ _ false _ => .mt | .ow _ _ true _ => .tk | .op _ _ => .mt | .rp _ _ => .rp | _ => .rd
/-- How a result comes back: as data; a slice of its own. -/
inductive RT where
  | rd (e : Ty) (fr : Bool) | ag (e : Ty) (fr : Bool) | ow (t : TypeId) (e : Ty) (pre : Bool)
@[reducible] def RT.den : RT → Type
  | .rd e _ => e.den | .ag e _ => e.den | .ow _ e false => List e.den | .ow _ e true => List e.den × Nat
@[reducible] def dens : List Type → Type
  | [] => Unit
  | [a] => a
  | a :: b :: r => a × dens (b :: r)
@[reducible] def Args (ps : List PT) : Type := dens (ps.map PT.den)
/-- What lent parameters hold behind the call. -/
@[reducible] def backs : List PT → List Type
  | [] => []
  | .ow _ e false _ :: r => List e.den :: backs r
  | .op _ e :: r => e.den :: backs r
  | _ :: r => backs r
@[reducible] def outs (ps : List PT) (rs : List RT) : List Type := rs.map RT.den ++ backs ps
@[reducible] def Res (ps : List PT) (rs : List RT) : Type := dens (outs ps rs)
/-- pg, rg: which parameters and results come together in one struct (0: one by itself; n + 1: so many cells). -/
structure Con where
  ps : List PT
  rs : List RT
  alias : Bool
  f : Args ps → Option (Res ps rs)
  pg : List Nat
  rg : List Nat
def cellVals : List Cell → List Val
  | [] => []
  | c :: r => .v (.one c) :: cellVals r
/-- Structs taken apart. -/
def unpk : List Nat → List Val → Option (List Val)
  | [], vs => some vs
  | 0 :: g, v :: vs => match unpk g vs with
    | some r => some (v :: r)
    | none => none
  | (n + 1) :: g, .v (.agg cs) :: vs => match Nat.beq (count cs) (n + 1), unpk g vs with
    | true, some r => some (app (cellVals cs) r)
    | _, _ => none
  | _, _ => none
def cellOfV : List Val → List Cell
  | [] => []
  | .v (.one c) :: r => c :: cellOfV r
  | _ :: r => .dead :: cellOfV r
/-- Structs put together. -/
def pkT : List Nat → List Val → List Val
  | [], vs => vs
  | 0 :: g, v :: vs => v :: pkT g vs
  | 0 :: _, [] => []
  | (n + 1) :: g, vs => .v (.agg (cellOfV (firsts (n + 1) vs))) :: pkT g (lasts (n + 1) vs)
def cellOfC : List Comp → List Cell
  | [] => []
  | .one c :: r => c :: cellOfC r
  | _ :: r => .dead :: cellOfC r
def pkC : List Nat → List Comp → List Comp
  | [], cs => cs
  | 0 :: g, c :: cs => c :: pkC g cs
  | 0 :: _, [] => []
  | (n + 1) :: g, cs => .agg (cellOfC (firsts (n + 1) cs)) :: pkC g (lasts (n + 1) cs)
def hd {a : Type} : {r : List Type} → dens (a :: r) → a
  | [], x => x
  | _ :: _, x => x.1
def tl {a : Type} : {r : List Type} → dens (a :: r) → dens r
  | [], _ => ()
  | _ :: _, x => x.2
def cons {a : Type} : {r : List Type} → a → dens r → dens (a :: r)
  | [], x, _ => x
  | _ :: _, x, y => (x, y)
/-- An argument as its parameter reads it. -/
def argD : (p : PT) → Comp → Option p.den
  | .rd e, .one c => dec1 e [c]
  | .ag e, .agg cs => dec1 e cs
  | .ow t e _ false, .one (.own t' e' l .all) => if h : e' = e ∧ t' = t then some (h.1 ▸ l) else none
  | .ow t e _ true, .one (.own t' e' l (.pre n)) => if h : e' = e ∧ t' = t then some ((h.1 ▸ l : List e.den), n) else none
  | .ow t e _ true, .one (.own t' e' l .all) => if h : e' = e ∧ t' = t then some ((h.1 ▸ l : List e.den), llen l) else none
  | .op t e, .one (.optr t' e' [x]) => if h : e' = e ∧ t' = t then some (h.1 ▸ x) else none
  | .fn f, .one (.fn g) => if f = g then some () else none
  | .rp t e, .one (.lst t' e' [x] _) => if h : e' = e ∧ t' = t then some (h.1 ▸ x) else none
  | _, _ => none
def argsD : (ps : List PT) → List Comp → Option (Args ps)
  | [], [] => some ()
  | p :: ps, c :: cs => match argD p c with
    | some x => match argsD ps cs with
      | some y => some (cons x y)
      | none => none
    | none => none
  | _, _ => none
/-- The rows that a call is lent or given are away. -/
def takeA (st : State) : List Mode → List Val → Option State
  | [], [] => some st
  | .rd :: ms, _ :: vs => takeA st ms vs
  | .rp :: ms, _ :: vs => takeA st ms vs
  | .mt :: ms, .v (.one (.ref r _)) :: vs => match st.reg r with
    | some ⟨_, _, _, true, _⟩ => takeA (st.set r none) ms vs
    | _ => none
  | .mt :: ms, .v (.one (.ptr r _ _)) :: vs => match st.reg r with
    | some ⟨_, _, _, true, _⟩ => takeA (st.set r none) ms vs
    | _ => none
  | .tk :: ms, .v (.one (.ref r _)) :: vs => match st.reg r with
    | some ⟨_, _, _, true, true⟩ => takeA (st.set r none) ms vs
    | _ => none
  | _, _ => none
/-- What a call reads is written no more: its results may lie there. -/
def lockA (st : State) : List Mode → List Val → Option State
  | [], [] => some st
  | .rd :: ms, .v c :: vs => match embL st c.cells with
    | some _ => lockA (freeze st c.cells) ms vs
    | none => none
  | .mt :: ms, _ :: vs => lockA st ms vs
  | .tk :: ms, _ :: vs => lockA st ms vs
  | _, _ => none
/-- A variable that is only read, as data. -/
def ptrL (off : Bool) (st2 : State) (r : Nat) : Option Comp := match off, st2.reg r with
  | false, some ⟨t, e, [x], _, fr⟩ => some (.one (.lst t e [x] fr))
  | _, _ => none
/-- Arguments as data. st: ahead of the call; st2: without what is lent. -/
def expA (off : Bool) (st st2 : State) : List Mode → List Val → Option (List Comp)
  | [], [] => some []
  | .rd :: ms, .v (.one c) :: vs => match (match off with | true => offC st2 c | false => expC st2 c) with
    | some c' => match expA off st st2 ms vs with
      | some r => some (.one c' :: r)
      | none => none
    | none => none
  | .rd :: ms, .v (.agg cs) :: vs => match (match off with | true => offL st2 cs | false => expL st2 cs) with
    | some cs' => match expA off st st2 ms vs with
      | some r => some (.agg cs' :: r)
      | none => none
    | none => none
  | .rp :: ms, .v (.one (.ptr r 0 0)) :: vs => match ptrL off st2 r with
    | some c' => match expA off st st2 ms vs with
      | some c => some (c' :: c)
      | none => none
    | none => none
  | .mt :: ms, .v (.one (.ref r s)) :: vs => match st.reg r with
    | some ⟨t, e, l, true, _⟩ => match expA off st st2 ms vs with
      | some c => some (.one (.own t e l s) :: c)
      | none => none
    | _ => none
  | .mt :: ms, .v (.one (.ptr r 0 0)) :: vs => match st.reg r with
    | some ⟨t, e, l, true, _⟩ => match expA off st st2 ms vs with
      | some c => some (.one (.optr t e l) :: c)
      | none => none
    | _ => none
  | .tk :: ms, .v (.one (.ref r s)) :: vs => match st.reg r with
    | some ⟨t, e, l, true, true⟩ => match expA off st st2 ms vs with
      | some c => some (.one (.own t e l s) :: c)
      | none => none
    | _ => none
  | _, _ => none
/-- What was lent comes back. -/
def giveBack (st st2 : State) : (ps : List PT) → List Val → dens (backs ps) → Option State
  | [], [], _ => some st2
  | .rd _ :: ps, _ :: vs, b => giveBack st st2 ps vs b
  | .ag _ :: ps, _ :: vs, b => giveBack st st2 ps vs b
  | .fn _ :: ps, _ :: vs, b => giveBack st st2 ps vs b
  | .rp _ _ :: ps, _ :: vs, b => giveBack st st2 ps vs b
  | .ow _ _ true _ :: ps, _ :: vs, b => giveBack st st2 ps vs b
  | .ow t e false _ :: ps, .v (.one (.ref r _)) :: vs, b => match st.reg r with
    | some g => giveBack st (st2.set r (some ⟨t, e, hd b, true, g.fr⟩)) ps vs (tl b)
    | none => none
  | .op t e :: ps, .v (.one (.ptr r _ _)) :: vs, b => match st.reg r with
    | some g => giveBack st (st2.set r (some ⟨t, e, [hd b], true, g.fr⟩)) ps vs (tl b)
    | none => none
  | _, _, _ => none
/-- A call's results and what comes behind them. -/
def resC : (rs : List RT) → {b : List Type} → dens (rs.map RT.den ++ b) → List Comp × dens b
  | [], _, x => ([], x)
  | .rd e fr :: rs, _, x => match resC rs (tl x) with | (cs, y) => ((match enc e (hd x) fr with | [c] => .one c | cs => .agg cs) :: cs, y)
  | .ag e fr :: rs, _, x => match resC rs (tl x) with | (cs, y) => (.agg (enc e (hd x) fr) :: cs, y)
  | .ow t e false :: rs, _, x => match resC rs (tl x) with | (cs, y) => (.one (.own t e (hd x) .all) :: cs, y)
  | .ow t e true :: rs, _, x => match resC rs (tl x) with | (cs, y) => (.one (.own t e (hd x).1 (.pre (hd x).2)) :: cs, y)
/-- What was handed over gets rows. -/
def ownR (st : State) : List Comp → List Comp × State
  | [] => ([], st)
  | .one (.own te e l s) :: r => match ownR (st.new ⟨te, e, l, true, true⟩) r with
    | (cs, st') => (.one (.ref (count st.σ) s) :: cs, st')
  | c :: r => match ownR st r with
    | (cs, st') => (c :: cs, st')
/-- The value of a call's results. -/
def impR (T : Tab) (t : TypeId) (g : List Nat) (st : State) (rs : List Comp) : Val × State := match ownR st rs with
  | (cs, st') => match pkC g cs with
    | [c] => impV T t st' (.v c)
    | cs => (.tup cs, st')
/-! ### Operations -/
def shl (k : IntKind) (x y : Int) : Int := k.wrap (x * 2 ^ (min (nat y) k.bits))
def shr (k : IntKind) (x y : Int) : Int := x.fdiv (2 ^ (min (nat y) k.bits))
def add (k : IntKind) (x y : Int) : Int := k.wrap (x + y)
def sub (k : IntKind) (x y : Int) : Int := k.wrap (x - y)
def mul (k : IntKind) (x y : Int) : Int := k.wrap (x * y)
def quo (k : IntKind) (x y : Int) : Int := k.wrap (x.tdiv y)
def rem (x y : Int) : Int := x.tmod y
/-- Comparisons are sealed: else the kernel may count down from a great number. -/
theorem seal_ex {A : Type} (a : A) : ∃ x, x = a := ⟨a, rfl⟩
noncomputable def eqI (x y : Int) : Bool := Classical.choose (seal_ex (fun x y : Int => decide (x = y))) x y
noncomputable def neI (x y : Int) : Bool := Classical.choose (seal_ex (fun x y : Int => !decide (x = y))) x y
noncomputable def ltI (x y : Int) : Bool := Classical.choose (seal_ex (fun x y : Int => decide (x < y))) x y
noncomputable def leI (x y : Int) : Bool := Classical.choose (seal_ex (fun x y : Int => decide (x ≤ y))) x y
theorem eqI_eq (x y : Int) : eqI x y = decide (x = y) := by unfold eqI; rw [Classical.choose_spec (seal_ex (fun x y : Int => decide (x = y)))]
theorem neI_eq (x y : Int) : neI x y = !decide (x = y) := by unfold neI; rw [Classical.choose_spec (seal_ex (fun x y : Int => !decide (x = y)))]
theorem ltI_eq (x y : Int) : ltI x y = decide (x < y) := by unfold ltI; rw [Classical.choose_spec (seal_ex (fun x y : Int => decide (x < y)))]
theorem leI_eq (x y : Int) : leI x y = decide (x ≤ y) := by unfold leI; rw [Classical.choose_spec (seal_ex (fun x y : Int => decide (x ≤ y)))]
def mx (x y : Int) : Int := if y > x then y else x
def mn (x y : Int) : Int := if y < x then y else x
noncomputable def binE {R : Type} (isB : Bool) (op : BinOp) (x y : Cell) (K : Cell → Option R) : Option R :=
  match x, y with
  | .int k a, .int k' b => match op with
    | .shl => br (ltI b 0) none (K (.int k (shl k a b)))
    | .shr => br (ltI b 0) none (K (.int k (shr k a b)))
    | op => if k = k' then (match op with
      | .add => K (.int k (add k a b))
      | .sub => K (.int k (sub k a b))
      | .mul => K (.int k (mul k a b))
      | .quo => br (eqI b 0) none (K (.int k (quo k a b)))
      | .rem => br (eqI b 0) none (K (.int k (rem a b)))
      | .and => K (.int k (bits .and k a b))
      | .or => K (.int k (bits .or k a b))
      | .xor => K (.int k (bits .xor k a b))
      | .andNot => K (.int k (bits .andNot k a b))
      | .eql => K (.bool (eqI a b))
      | .neq => K (.bool (neI a b))
      | .lss => K (.bool (ltI a b))
      | .leq => K (.bool (leI a b))
      | .gtr => K (.bool (ltI b a))
      | .geq => K (.bool (leI b a))
      | _ => none) else none
  | .bool a, .bool b => match isB, op with
    | true, .eql => K (.bool (boolEq a b))
    | true, .neq => K (.bool (bnot (boolEq a b)))
    | _, _ => none
  | .str a, .str b => match op with
    | .eql => K (.bool (strEq a b))
    | .neq => K (.bool (bnot (strEq a b)))
    | .add => br (okCat a b) (K (.str (strApp a b))) none
    | _ => none
  | _, _ => none
def unE {R : Type} (op : UnOp) (x : Cell) (K : Cell → Option R) : Option R :=
  match op, x with
  | .neg, .int k n => K (.int k (sub k 0 n))
  | .not, .bool b => K (.bool (bnot b))
  | _, _ => none
/-- What can be told of as data. -/
def sure (st : State) : Comp → Bool
  | .one c => match expC st c with | some _ => true | none => false
  | .agg _ => true
def parts (st : State) : List (Nat × Operand) → Option (List (Nat × List Cell))
  | [] => some []
  | (i, x) :: r => match st.ev x with
    | .v c => match sure st c, parts st r with
      | true, some r' => some ((i, c.cells) :: r')
      | _, _ => none
    | _ => none
def splice (row : List Cell) (j : Nat) (cs : List Cell) : List Cell := app (firsts j row) (app cs (lasts (j + count cs) row))
def fillE (fl : List (Nat × TypeId)) (T : Tab) : List Cell → List (Nat × List Cell) → Option (List Cell)
  | row, [] => some row
  | row, (i, cs) :: r => match nth fl i with
    | some (off, t) => match look T t with
      | some ti => match Nat.beq ti.e.size (count cs), Nat.ble (off + count cs) (count row) with
        | true, true => fillE fl T (splice row off cs) r
        | _, _ => none
      | none => none
    | none => none
/-- The parts are numbers i, i + 1, .., each of so many cells. -/
def inOrd (sz : Nat) : Nat → Nat → List (Nat × List Cell) → Bool
  | _, 0, [] => true
  | i, n + 1, (k, cs) :: r => match Nat.beq k i, Nat.beq (count cs) sz with
    | true, true => inOrd sz (i + 1) n r
    | _, _ => false
  | _, _, _ => false
def decN (e : Ty) : Nat → List Cell → Option (List e.den)
  | 0, [] => some []
  | n + 1, cs => match dec e cs with
    | some (x, r) => match decN e n r with
      | some l => some (x :: l)
      | none => none
    | none => none
  | 0, _ :: _ => none
def partCells : List (Nat × List Cell) → List Cell
  | [] => []
  | (_, cs) :: r => app cs (partCells r)
/-- Where slice s of row r, seen so, has its element i. -/
def at_ : Slc → Nat → Nat
  | .sub o _, i => nadd o i
  | _, i => i
/-- A new variable's cells. -/
def zeroRC : List Cell → List RC
  | [] => []
  | .int k n :: r => .int k n :: zeroRC r
  | .bool b :: r => .bool b :: zeroRC r
  | .str s :: r => .str s :: zeroRC r
  | .lst _ _ [] _ :: r => .emp :: zeroRC r
  | _ :: r => .dead :: zeroRC r
def loadE {R : Type} (T : Tab) (t : TypeId) (st : State) (a : Val) (K : Val → State → Option R) : Option R :=
  match a, look T t with
  | .v (.one (.ptr r i j)), some ti => match st.reg r with
    | some g => match varOf g with
      | some rcs => match ti.agg, firsts ti.e.size (lasts j (cellsOf rcs)), Nat.ble (j + ti.e.size) g.e.size with
        | true, cs, true => K (.v (.agg cs)) st
        | false, [c], true => K (.v (.one c)) st
        | _, _, _ => none
      | none => match Nat.ble (j + ti.e.size) g.e.size with
        | true => match ti.agg, firsts ti.e.size (lasts j (enc g.e (rd g.e g.l i) g.fr)) with
          | true, cs => K (.v (.agg cs)) st
          | false, [c] => match imp T t st c with | (c', st') => K (.v (.one c')) st'
          | false, _ => none
        | false => none
    | none => none
  | _, _ => none
/-- The types of a datum's cells. -/
def tysOf : Ty → List Ty
  | .pair a b => app (tysOf a) (tysOf b)
  | .unit => []
  | e => [e]
def tlT : List Ty → List Ty
  | [] => []
  | _ :: r => r
/-- Data as a cell of a variable: a row is laid for it. -/
def imp1 : State → List Ty → Cell → Cell × State
  | st, .slice te e :: _, .emp => (.ref (count st.σ) .all, st.new ⟨te, e, [], true, true⟩)
  | st, _, .lst te e l fr => (.ref (count st.σ) .all, st.new ⟨te, e, l, false, fr⟩)
  | st, _, c => (c, st)
def impLs : State → List Ty → List Cell → List Cell × State
  | st, _, [] => ([], st)
  | st, tys, c :: r => match imp1 st tys c with
    | (c', st') => match impLs st' (tlT tys) r with
      | (r', st'') => (c' :: r', st'')
def storeE {R : Type} (T : Tab) (t : TypeId) (st : State) (a v : Val) (K : State → Option R) : Option R :=
  match a, v with
  | .v (.one (.ptr r i j)), .v c => match embL st c.cells, look T t with
    | some cs, some ti => match (match st.reg r with | some g => varOf g | none => none) with
      | some _ => match impLs st (tysOf ti.e) c.cells with
        | (cs1, st1) => match st1.reg r with
          | some ⟨t', .var n, [rcs], true, fr⟩ => match Nat.ble (j + count cs1) n, Nat.beq ti.e.size (count cs1), rcOf cs1 with
            | true, true, some new => K (st1.set r (some ⟨t', .var n, [app (firsts j rcs) (app new (lasts (j + count new) rcs))], true, fr⟩))
            | _, _, _ => none
          | _ => none
      | none => match (freeze st c.cells).reg r with
        | some ⟨t', e, l, true, fr⟩ => match Nat.ble (j + count cs) e.size, Nat.beq ti.e.size (count cs), dec1 e (splice (enc e (rd e l i) fr) j cs) with
          | true, true, some x => K ((freeze st c.cells).set r (some ⟨t', e, setL l i x, true, fr && frs cs⟩))
          | _, _, _ => none
        | _ => none
    | _, _ => none
  | _, _ => none
def ilen {α : Type} (l : List α) : Int := (l.length : Int)
def inat (n : Nat) : Int := (n : Int)
def ivlen {α : Type} (l : List α) : Slc → Int
  | .all => ilen l
  | .pre n => inat n
  | .sub _ n => inat n
def okIx (n m : Int) : Bool := decide (0 ≤ n ∧ n < m)
def okSl (n m : Int) : Bool := decide (0 ≤ n ∧ n ≤ m)
def okLHM (l h m : Int) : Bool := decide (0 ≤ l ∧ l ≤ h ∧ h ≤ m)
def okMake (n m : Int) (by_ : Nat) : Bool := decide (0 ≤ n ∧ n ≤ m ∧ m * (by_ : Int) ≤ 140737488355328)
def okApp (n by_ : Nat) : Bool := decide (n * by_ ≤ 140737488355328)
/-- The greatest number of bytes of a row that is appended to or made. -/
def room : Nat := 140737488355328
def appendE {R : Type} (T : Tab) (B : List (Nat × Nat)) (t : TypeId) (st : State) (s x : Val) (K : Val → State → Option R) : Option R :=
  match look T t, x with
  | some ⟨.slice te e, false, _⟩, .v (.one cx) => match expC st cx with
    | some cx' => match dec1 (.slice te e) [cx'], look B te with
      | some ys, some by_ => match s with
        | .v (.one .emp) => br (okApp ys.length by_) (K (.v (.one (.ref (count st.σ) .all))) (st.new ⟨te, e, ys, true, orB (flat e) (frs [cx'])⟩)) none
        | .v (.one (.ref r .all)) => match st.reg r with
          | some ⟨te', e', l, true, fr⟩ => if h : e' = e ∧ te' = te then
              br (okApp (nadd l.length ys.length) by_) (K (.v (.one (.ref (count st.σ) .all))) ((st.set r none).new ⟨te, e, appL (h.1 ▸ l : List e.den) ys, true, fr && orB (flat e) (frs [cx'])⟩)) none
            else none
          | _ => none
        | _ => none
      | _, _ => none
    | none => none
  | _, _ => none
def compOf : Val → Option Cell
  | .v (.one c) => some c
  | _ => none
def lenE (T : Tab) (t : TypeId) : Val → State → Option Int
  | .v (.one (.ref r s)), st => match look T t, st.reg r with
    | some ⟨.slice _ _, false, _⟩, some g => some (ivlen g.l s)
    | _, _ => none
  | .v (.one .emp), _ => match look T t with
    | some ⟨.slice _ _, false, _⟩ => some 0
    | _ => none
  | .v (.one (.str s)), _ => match look T t with
    | some ⟨.str, false, _⟩ => some (inat s.size)
    | _ => none
  | _, _ => none
def evs (st : State) : List Operand → List Val
  | [] => []
  | o :: r => st.ev o :: evs st r
def callE {R : Type} (T : Tab) (env : FuncId → List Con) (t : TypeId) (st : State) (f : FuncId) (args : List Val) (K : Val → State → Option R) : Option R :=
  go (env f)
where
  go : List Con → Option R
    | [] => none
    | c :: cs => match unpk c.pg args with
      | some args => match (match c.alias with | true => lockA st (c.ps.map PT.mode) args | false => some st) with
        | some st1 => match takeA st1 (c.ps.map PT.mode) args with
          | some st2 => match expA c.alias st1 st2 (c.ps.map PT.mode) args with
            | some asx => match argsD c.ps asx with
              | some x => (c.f x).bind fun y => match resC c.rs y with
                | (rs, b) => match giveBack st1 st2 c.ps args b with
                  | some st3 => match impR T t c.rg st3 rs with | (v, st4) => K v st4
                  | none => none
              | none => go cs
            | none => go cs
          | none => go cs
        | none => go cs
      | none => go cs
def conOf (l : List (Nat × List Con)) (f : FuncId) : List Con := match look l f with
  | some cs => cs
  | none => []
structure Env where
  T : Tab
  B : List (Nat × Nat)          -- bytes of a type
  F : FuncId → List Con
  V : List Nat := []            -- types whose new variables are told cell by cell
/-- t is a slice's type with elements of so many cells. -/
def isSl (T : Tab) (t : TypeId) (n : Nat) : Bool := match look T t with
  | some ⟨.slice _ e, false, _⟩ => Nat.beq e.size n
  | _ => false
def isK (T : Tab) (t : TypeId) (e : Ty) : Bool := match look T t with
  | some ⟨e', false, _⟩ => decide (e' = e)
  | _ => false
def andB (a b : Bool) : Bool := a && b
def hasN (n : Nat) : List Nat → Bool
  | [] => false
  | m :: r => match Nat.beq n m with | true => true | false => hasN n r
/-- Data held against each other. -/
noncomputable def eqD : (e : Ty) → e.den → e.den → Bool
  | .int _, x, y => eqI x y
  | .bool, x, y => boolEq x y
  | .str, x, y => strEq x y
  | .pair a b, x, y => andB (eqD a x.1 y.1) (eqD b x.2 y.2)
  | _, _, _ => true
def scl : Ty → Bool
  | .int _ => true | .bool => true | .str => true | _ => false
/-- All parts are single cells. -/
def allScl : Ty → Bool
  | .pair a b => scl a && allScl b
  | e => scl e
noncomputable def eqA (T : Tab) (t : TypeId) (op : BinOp) (cs ds : List Cell) : Option Bool := match look T t with
  | some ti => match ti.agg && allScl ti.e with
    | true => match op, dec1 ti.e cs, dec1 ti.e ds with
      | .eql, some x, some y => some (eqD ti.e x y)
      | .neq, some x, some y => some (bnot (eqD ti.e x y))
      | _, _, _ => none
    | false => none
  | none => none
def isS (T : Tab) (t : TypeId) : Bool := match look T t with
  | some ⟨.str, false, _⟩ => true
  | _ => false
def strSub (b : ByteArray) (n m : Nat) : ByteArray := b.extract n m
/-- The text of bytes. -/
def bytesStr (l : List Int) : ByteArray := l.foldl (fun r n => r.push (UInt8.ofNat n.toNat)) ByteArray.empty
def bytesV (g : Reg) (s : Slc) : Option ByteArray := match g with
  | ⟨_, .int .u8, l, _, _⟩ => some (bytesStr (view l s))
  | _ => none
open Classical in
/-- Two ways that come to the same. -/
noncomputable def agree {R : Type} (x y : Option R) : Option R := if x = y then x else none
/-- A slice held against nil: does it have elements? -/
noncomputable def nilQ (T : Tab) (t : TypeId) (st : State) (op : BinOp) (a b : Cell) : Option Bool := match op, a, b with
  | .eql, .ref r s, .emp => match st.reg r with
    | some g => match isSl T t g.e.size with
      | true => some (ltI 0 (ivlen g.l s))
      | false => none
    | none => none
  | _, _, _ => none
/-- An array's layout: so many cells of one kind, then nothing. -/
def arrOf : Ty → Option (Ty × Nat)
  | .pair a r => match scl a with
    | true => match r with
      | .unit => some (a, 1)
      | r => match arrOf r with
        | some (b, n) => if b = a then some (a, n + 1) else none
        | none => none
    | false => none
  | _ => none
def isArr (x : TI) : Option (Ty × Nat) := match x.agg, x.fl with
  | true, [] => arrOf x.e
  | _, _ => none
def intsOf (k : IntKind) : List Cell → Option (List Int)
  | [] => some []
  | .int k' n :: r => if k' = k then (match intsOf k r with
    | some l => some (n :: l)
    | none => none) else none
  | _ => none
def strAt (s : ByteArray) (i : Nat) : Int := ((s.data.getD i 0).toNat : Int)
/-- An array written out. -/
def buildA {R : Type} (n : Nat) (st : State) (ps : List (Nat × Operand)) (K : List Cell → Option R) : Option R := match parts st ps with
  | some pl => match inOrd 1 0 n pl with
    | true => K (partCells pl)
    | false => none
  | none => none
/-- A part of an array or a text. -/
def indexA {R : Type} (T : Tab) (t : TypeId) (x : Val) (n : Int) (K : Cell → Option R) : Option R := match x, look T t with
  | .v (.agg cs), some ti => match isArr ti with
    | some (.int k, m) => match intsOf k cs with
      | some l => match Nat.beq m (count l) with
        | true => br (okIx n (inat m)) (K (.int k (rd (.int k) l (nat n)))) none
        | false => none
      | none => none
    | _ => none
  | .v (.one (.str s)), some ⟨.str, false, _⟩ => br (okIx n (inat s.size)) (K (.int .u8 (strAt s (nat n)))) none
  | _, _ => none
/-- An array that is written no more, as a row. -/
def sliceA {R : Type} (T : Tab) (t ty : TypeId) (st : State) (r : Nat) (n : Int) (K : Val → State → Option R) : Option R := match look T t, look T ty, st.reg r with
  | some ti, some ⟨.slice te (.int k), false, _⟩, some ⟨_, e, xs, _, fr⟩ => match isArr ti, intsOf k (enc e (rd e xs 0) fr), embC st (.ref r .all) with
    | some (.int k', m), some l, some _ => match decide (k' = k ∧ e = ti.e ∧ m = count l) with
      | true => br (okSl n (inat m)) (K (.v (.one (.ref (count (freeze st [.ref r .all]).σ) (.pre (nat n))))) ((freeze st [.ref r .all]).new ⟨te, .int k, l, false, fr⟩)) none
      | false => none
    | _, _, _ => none
  | _, _, _ => none
/-- What is built starts so. -/
def zeroB (E : Env) (t : TypeId) (ti : TI) : List Cell := match hasN t E.V with
  | true => cellsOf (zeroRC (enc ti.e ti.e.zero true))
  | false => enc ti.e ti.e.zero true
noncomputable def opE {R : Type} (E : Env) (o : Oper) (st : State) (K : State → Option R) : Option R :=
  let T := E.T
  match o.op with
  | .move x => match impV T o.type st (st.ev x) with | (v, st') => K (st'.put o.dst v)
  | .assign x => match impV T o.type st (st.ev x) with | (v, st') => K (st'.put o.dst v)
  | .pick c a b => match st.ev c with
    | .v (.one (.bool q)) => br q (K (st.put o.dst (st.ev a))) (K (st.put o.dst (st.ev b)))
    | _ => none
  | .alloc t => match look T t with
    | some ti => match hasN t E.V with
      | true => match impLs st (tysOf ti.e) (cellsOf (zeroRC (enc ti.e ti.e.zero true))) with
        | (cs1, st1) => match rcOf cs1 with
          | some rcs => K ((st1.new ⟨t, .var ti.e.size, [rcs], true, true⟩).put o.dst (.v (.one (.ptr (count st1.σ) 0 0))))
          | none => none
      | false => K ((st.new ⟨t, ti.e, [ti.e.zero], true, true⟩).put o.dst (.v (.one (.ptr (count st.σ) 0 0))))
    | none => none
  | .box t x => match look T t, st.ev x with
    | some ti, .v c => match hasN t E.V with
     | true => match expL st c.cells with
      | some _ => match impLs st (tysOf ti.e) c.cells with
        | (cs1, st1) => match rcOf cs1, Nat.beq (count cs1) ti.e.size with
          | some rcs, true => K ((st1.new ⟨t, .var ti.e.size, [rcs], true, true⟩).put o.dst (.v (.one (.ptr (count st1.σ) 0 0))))
          | _, _ => none
      | none => none
     | false => match embL st c.cells with
      | some cs => match dec1 ti.e cs with
        | some x => K (((freeze st c.cells).new ⟨t, ti.e, [x], true, frs cs⟩).put o.dst (.v (.one (.ptr (count st.σ) 0 0))))
        | none => none
      | none => none
    | _, _ => none
  | .build t ps => match look T t with
    | some ti => match isArr ti with
      | some (_, n) => buildA n st ps.toList fun cs => K (st.put o.dst (.v (.agg cs)))
      | none => match ti.agg, parts st ps.toList with
        | true, some pl => match fillE ti.fl T (zeroB E t ti) pl with
          | some cs => K (st.put o.dst (.v (.agg cs)))
          | none => none
        | _, _ => none
    | none => none
  | .index t x ix => match st.ev ix with
    | .v (.one (.int _ n)) => indexA T t (st.ev x) n fun c => K (st.put o.dst (.v (.one c)))
    | _ => none
  | .buildSlice t n ps => match look T t, parts st ps.toList with
    | some ⟨.slice te e, false, _⟩, some pl => match inOrd e.size 0 n pl, Nat.ble (n * e.size) 16777216, embL st (partCells pl) with
      | true, true, some cs => match decN e n cs with
        | some l => K (((freeze st (partCells pl)).new ⟨te, e, l, true, frs cs⟩).put o.dst (.v (.one (.ref (count st.σ) .all))))
        | none => none
      | _, _, _ => none
    | _, _ => none
  | .load t a => loadE T t st (st.ev a) fun v st' => K (st'.put o.dst v)
  | .store t a x => storeE T t st (st.ev a) (st.ev x) fun st' => K (st'.put o.dst .dead)
  | .nilCheck x => match st.ev x with
    | .v (.one (.ptr r i j)) => match st.reg r with
      | some _ => K (st.put o.dst (.v (.one (.ptr r i j))))
      | none => none
    | .v (.one (.fn f)) => K (st.put o.dst (.v (.one (.fn f))))
    | _ => none
  | .binOp op t x y _ => match st.ev x, st.ev y with
    | .v (.one a), .v (.one b) => match nilQ T t st op a b with
      | some q => br q (K (st.put o.dst (.v (.one (.bool false))))) (agree (K (st.put o.dst (.v (.one (.bool false))))) (K (st.put o.dst (.v (.one (.bool true))))))
      | none => binE (isK T t .bool) op a b fun c => K (st.put o.dst (.v (.one c)))
    | .v (.agg cs), .v (.agg ds) => match eqA T t op cs ds with
      | some q => K (st.put o.dst (.v (.one (.bool q))))
      | none => none
    | _, _ => none
  | .unOp op _ x => match st.ev x with
    | .v (.one a) => unE op a fun c => K (st.put o.dst (.v (.one c)))
    | _ => none
  | .convert s t x => match look T t, st.ev x, look T s with
    | some ⟨.int k, false, _⟩, .v (.one (.int _ n)), some _ => K (st.put o.dst (.v (.one (.int k (k.wrap n)))))
    | some ⟨.str, false, _⟩, .v (.one (.ref r sl)), some ⟨.slice te (.int .u8), false, _⟩ => match st.reg r, isK T te (.int .u8) with
      | some g, true => match bytesV g sl with
        | some b => K (st.put o.dst (.v (.one (.str b))))
        | none => none
      | _, _ => none
    | _, _, _ => none
  | .makeSlice t l c => match look T t, st.ev l, st.ev c with
    | some ⟨.slice te e, false, _⟩, .v (.one (.int .i64 n)), .v (.one (.int .i64 m)) => match look E.B te with
      | some by_ => br (okMake n m by_) (K ((st.new ⟨te, e, repL (nat n) e.zero, true, true⟩).put o.dst (.v (.one (.ref (count st.σ) .all))))) none
      | none => none
    | _, _, _ => none
  | .slice t x none (some h) none => match st.ev x, st.ev h with
    | .v (.one (.ref r s)), .v (.one (.int .i64 n)) => match st.reg r, s with
      | some g, .sub a m => match isSl T t g.e.size with
        | true => br (okSl n (inat m)) (K (st.put o.dst (.v (.one (.ref r (.sub a (nat n))))))) none
        | false => none
      | some g, _ => match isSl T t g.e.size with
        | true => br (okSl n (ilen g.l)) (K (st.put o.dst (.v (.one (.ref r (.pre (nat n))))))) none
        | false => none
      | none, _ => none
    | .v (.one (.ptr r 0 0)), .v (.one (.int .i64 n)) => sliceA T t o.type st r n fun v st' => K (st'.put o.dst v)
    | _, _ => none
  | .slice t x (some l) none none => match st.ev x, st.ev l with
    | .v (.one (.ref r s)), .v (.one (.int .i64 n)) => match st.reg r with
      | some g => match isSl T t g.e.size with
        | true => br (okSl n (ivlen g.l s)) (K (st.put o.dst (.v (.one (.ref r (.sub (at_ s (nat n)) (nsub (vlen g.l s) (nat n)))))))) none
        | false => none
      | none => none
    | _, _ => none
  | .slice t x (some l) (some h) none => match st.ev x, st.ev l, st.ev h with
    | .v (.one (.ref r s)), .v (.one (.int .i64 n)), .v (.one (.int .i64 m)) => match st.reg r, isSl T t (match st.reg r with | some g => g.e.size | none => 0) with
      | some g, true => br (okLHM n m (ivlen g.l s)) (K (st.put o.dst (.v (.one (.ref r (.sub (at_ s (nat n)) (nsub (nat m) (nat n)))))))) none
      | _, _ => none
    | .v (.one (.str b)), .v (.one (.int .i64 n)), .v (.one (.int .i64 m)) => match isS T t with
      | true => br (okLHM n m (inat b.size)) (K (st.put o.dst (.v (.one (.str (strSub b (nat n) (nat m))))))) none
      | false => none
    | _, _, _ => none
  | .fieldAddr t x i => match st.ev x, look T t with
    | .v (.one (.ptr r a j)), some ti => match nth ti.fl i with
      | some (off, ft) => match look T ft with
        | some fi => match Nat.ble 1 fi.e.size, st.reg r with
          | true, some _ => K (st.put o.dst (.v (.one (.ptr r a (j + off)))))
          | _, _ => none
        | none => none
      | none => none
    | _, _ => none
  | .field t x i => match st.ev x, look T t with
    | .v (.agg cs), some ti => match nth ti.fl i with
      | some (off, ft) => match look T ft with
        | some fi => match fi.agg, firsts fi.e.size (lasts off cs) with
          | true, cs' => match Nat.beq (count cs') fi.e.size with
            | true => K (st.put o.dst (.v (.agg cs')))
            | false => none
          | false, [c] => match imp T ft st c with | (c', st') => K (st'.put o.dst (.v (.one c')))
          | false, _ => none
        | none => none
      | none => none
    | _, _ => none
  | .indexAddr t x ix => match st.ev x, st.ev ix with
    | .v (.one (.ref r s)), .v (.one (.int _ n)) => match st.reg r with
      | some g => match isSl T t g.e.size with
        | true => br (okIx n (ivlen g.l s)) (K (st.put o.dst (.v (.one (.ptr r (at_ s (nat n)) 0))))) none
        | false => none
      | none => none
    | _, _ => none
  | .extract x i => match st.ev x with
    | .tup cs => match nth cs i with
      | some (.one c) => match imp T o.type st c with | (c', st') => K (st'.put o.dst (.v (.one c')))
      | some c => K (st.put o.dst (.v c))
      | none => none
    | _ => none
  | .call c => match c.callee with
    | .value f => match st.ev f with
      | .v (.one (.fn f)) => callE T E.F o.type st f (evs st c.args.toList) fun v st' => K (st'.put o.dst v)
      | _ => none
    | .builtin .len => match c.args.toList, c.argTypes.toList with
      | [x], [t] => match lenE T t (st.ev x) st with
        | some n => K (st.put o.dst (.v (.one (.int .i64 n))))
        | none => none
      | _, _ => none
    | .builtin .append => match c.args.toList, c.argTypes.toList with
      | [s, x], [t, t'] => match Nat.beq t t' with
        | true => appendE T E.B t st (st.ev s) (st.ev x) fun v st' => K (st'.put o.dst v)
        | false => none
      | _, _ => none
    | .builtin .max => match evs st c.args.toList with
      | [.v (.one (.int k a)), .v (.one (.int k' b))] => if k = k' then K (st.put o.dst (.v (.one (.int k (mx a b))))) else none
      | _ => none
    | .builtin .min => match evs st c.args.toList with
      | [.v (.one (.int k a)), .v (.one (.int k' b))] => if k = k' then K (st.put o.dst (.v (.one (.int k (mn a b))))) else none
      | _ => none
    | _ => none
  | _ => none
/-- One operation, under its guard. -/
noncomputable def guardE {R : Type} (E : Env) (ops : List Oper) (o : Oper) (st : State) (K : State → Option R) : Option R :=
  match o.guard with
  | none => opE E o st K
  | some (j, want) => match nth ops j with
    | some oj => match oj.dst with
      | some d => match nth st.ts d with
        | some .un => K (st.put o.dst .un)
        | some (.v (.one (.bool q))) => br q
            (match want with | true => opE E o (st.put (some d) (.v (.one (.bool true)))) K | false => K ((st.put (some d) (.v (.one (.bool true)))).put o.dst .un))
            (match want with | true => K ((st.put (some d) (.v (.one (.bool false)))).put o.dst .un) | false => opE E o (st.put (some d) (.v (.one (.bool false)))) K)
        | _ => none
      | none => none
    | none => none
noncomputable def opsE {R : Type} (E : Env) (ops : List Oper) : List Nat → State → (State → Option R) → Option R
  | [], st, K => K st
  | i :: r, st, K => match nth ops i with
    | some o => guardE E ops o st fun st' => opsE E ops r st' K
    | none => none
/-! ### Forgetting: at a loop's head and at joins the state is laid anew, with what is alive -/
structure Live where
  t : Tmp
  lend : Bool      -- as a slice that is only read
def liveRefs (st : State) : List Live → List Nat
  | [] => []
  | ⟨t, _⟩ :: r => match nth st.ts t with
    | some (.v c) => app (go c.cells) (liveRefs st r)
    | _ => liveRefs st r
where
  go : List Cell → List Nat
    | [] => []
    | .ref r _ :: x => r :: go x
    | .ptr r _ _ :: x => r :: go x
    | _ :: x => go x
def times : Nat → List Nat → Nat
  | _, [] => 0
  | n, m :: r => match Nat.beq n m with | true => Nat.succ (times n r) | false => times n r
/-- What is alive behind the only slice of a row. -/
def shut (s : Slc) (k : Nat) : Option Nat := match s, k with
  | .pre n, 1 => some n
  | _, _ => none
/-- A slice's cell of a state, laid into the new state's rows; m: which old row is which new one (none: it was cut). -/
def keepR (st : State) (refs : List Nat) (r : Nat) (s : Slc) (σ : List (Option Reg)) (m : List (Nat × Option Nat)) : Cell × List (Option Reg) × List (Nat × Option Nat) :=
  match st.reg r with
    | some g => match isVar g.e with
      | true => (.dead, σ, m)
      | false => match g.own, look m r with
        | true, some (some r') => (.ref r' s, σ, m)
        | true, some none => (.dead, σ, m)
        | true, none => match shut s (times r refs) with
          | some n => (.ref (count σ) .all, app σ [some ⟨g.t, g.e, preL g.l n, true, g.fr⟩], (r, none) :: m)
          | none => (.ref (count σ) s, app σ [some g], (r, some (count σ)) :: m)
        | false, _ => (.ref (count σ) .all, app σ [some ⟨g.t, g.e, view g.l s, false, g.fr⟩], m)
    | none => (.dead, σ, m)
def rcRef : Cell → RC
  | .ref r s => .ref r s
  | _ => .dead
/-- A variable's cells. -/
def keepV (st : State) (refs : List Nat) : List RC → List (Option Reg) → List (Nat × Option Nat) → List RC × List (Option Reg) × List (Nat × Option Nat)
  | [], σ, m => ([], σ, m)
  | .ref r s :: l, σ, m => match keepR st refs r s σ m with
    | (c', σ', m') => match keepV st refs l σ' m' with
      | (l', σ'', m'') => (rcRef c' :: l', σ'', m'')
  | c :: l, σ, m => match keepV st refs l σ m with
    | (l', σ', m') => (c :: l', σ', m')
def setVar (g : Reg) (x : List RC) : Reg := match g with
  | ⟨t, .var n, _, o, fr⟩ => ⟨t, .var n, [x], o, fr⟩
  | g => g
/-- A cell of a state, laid into the new state's rows. -/
def keepC (st : State) (refs : List Nat) (c : Cell) (σ : List (Option Reg)) (m : List (Nat × Option Nat)) : Cell × List (Option Reg) × List (Nat × Option Nat) :=
  match c with
  | .ref r s => keepR st refs r s σ m
  | .ptr r i j => match st.reg r with
    | some g => match g.own, look m r with
      | true, some (some r') => (.ptr r' i j, σ, m)
      | true, some none => (.dead, σ, m)
      | true, none => match varOf g with
        | some rcs => match keepV st refs rcs σ m with
          | (rcs', σ', m') => match look m' r with
            | none => (.ptr (count σ') i j, app σ' [some (setVar g rcs')], (r, some (count σ')) :: m')
            | some _ => (.dead, σ', m')
        | none => match isVar g.e with
          | true => (.dead, σ, m)
          | false => (.ptr (count σ) i j, app σ [some g], (r, some (count σ)) :: m)
      | false, _ => match isVar g.e with
        | true => (.dead, σ, m)
        | false => (.ptr (count σ) i j, app σ [some g], m)
    | none => (.dead, σ, m)
  | c => (c, σ, m)
def keepL (st : State) (refs : List Nat) : List Cell → List (Option Reg) → List (Nat × Option Nat) → List Cell × List (Option Reg) × List (Nat × Option Nat)
  | [], σ, m => ([], σ, m)
  | c :: r, σ, m => match keepC st refs c σ m with
    | (c', σ', m') => match keepL st refs r σ' m' with
      | (r', σ'', m'') => (c' :: r', σ'', m'')
def deads : Nat → List Val
  | 0 => []
  | n + 1 => .dead :: deads n
def canonGo (st : State) (refs : List Nat) : List Live → List Cell → List Val → List (Option Reg) → List (Nat × Option Nat) → State
  | [], hid, ts, σ, _ => ⟨ts, hid, σ⟩
  | ⟨t, _⟩ :: r, hid, ts, σ, m => match nth st.ts t with
    | some (.v (.one c)) => match keepC st refs c σ m with
      | (c', σ', m') => canonGo st refs r hid (put ts t (.v (.one c'))) σ' m'
    | some (.v (.agg cs)) => match keepL st refs cs σ m with
      | (cs', σ', m') => canonGo st refs r hid (put ts t (.v (.agg cs'))) σ' m'
    | _ => canonGo st refs r hid ts σ m
/-- A variable that is written no more. -/
def freezeP (st : State) (q : Nat) : State := match st.reg q with
  | some g => match isVar g.e, embC st (.ref q .all) with
    | false, some _ => freeze st [.ref q .all]
    | _, _ => st
  | none => st
/-- What is only read is written no more. -/
def lendGo (st : State) : List Live → State
  | [] => st
  | ⟨t, true⟩ :: r => match nth st.ts t with
    | some (.v (.one (.ptr q _ _))) => lendGo (freezeP st q) r
    | some (.v c) => match embL st c.cells with
      | some _ => lendGo (freeze st c.cells) r
      | none => lendGo st r
    | _ => lendGo st r
  | ⟨_, false⟩ :: r => lendGo st r
def canonAll (refs : List Nat) (live : List Live) (st : State) : State := match keepL st refs st.hid [] [] with
  | (hid, σ, m) => canonGo st refs live hid (deads (count st.ts)) σ m
def canon (live : List Live) (st : State) : State := canonAll (app (liveRefs.go st.hid) (liveRefs st live)) live (lendGo st live)
def imps (b c : Bool) : Bool := match b with | true => c | false => true
/-! ### Shapes of states: what is left open are leaves -/
inductive SC where
  | int (k : IntKind) | bool | str | boolc (b : Bool) | emp | lst (t : TypeId) (e : Ty) (fr : Bool) | ref (r : Nat) | refp (r : Nat) | refs (r : Nat) | ptr (r i j : Nat) | ptrv (r j : Nat) | fn (f : FuncId) | dead
inductive SV where
  | one (c : SC) | agg (cs : List SC) | dead
inductive SR where
  | row (t : TypeId) (e : Ty) (own fr : Bool)
  | var (t : TypeId) (n : Nat) (fr : Bool) (cs : List SC)
structure Shape where
  ts : List SV
  hid : List SC
  σ : List SR
@[reducible] def SC.ty : SC → List Type
  | .int _ => [Int] | .bool => [Bool] | .str => [ByteArray] | .lst _ e _ => [List e.den] | .refp _ => [Nat] | .refs _ => [Nat, Nat] | .ptrv _ _ => [Nat] | _ => []
@[reducible] def tyL : List SC → List Type
  | [] => []
  | c :: r => c.ty ++ tyL r
@[reducible] def tyV : List SV → List Type
  | [] => []
  | .one c :: r => c.ty ++ tyV r
  | .agg cs :: r => tyL cs ++ tyV r
  | .dead :: r => tyV r
@[reducible] def tyR : List SR → List Type
  | [] => []
  | .row _ e _ _ :: r => List e.den :: tyR r
  | .var _ _ _ cs :: r => tyL cs ++ tyR r
@[reducible] def Shape.ty (s : Shape) : List Type := tyR s.σ ++ (tyL s.hid ++ tyV s.ts)
def split : (a : List Type) → {b : List Type} → dens (a ++ b) → dens a × dens b
  | [], _, x => ((), x)
  | _ :: r, _, x => match split r (tl x) with | (y, z) => (cons (hd x) y, z)
def join : (a : List Type) → {b : List Type} → dens a → dens b → dens (a ++ b)
  | [], _, _, y => y
  | _ :: r, _, x, y => cons (hd x) (join r (tl x) y)
def SC.mk : (s : SC) → dens s.ty → Cell
  | .int k, x => .int k x
  | .bool, x => .bool x
  | .str, x => .str x
  | .boolc b, _ => .bool b
  | .emp, _ => .emp
  | .lst t e fr, x => .lst t e x fr
  | .ref r, _ => .ref r .all
  | .refp r, x => .ref r (.pre x)
  | .refs r, x => .ref r (.sub x.1 x.2)
  | .ptr r i j, _ => .ptr r i j
  | .ptrv r j, x => .ptr r x j
  | .fn f, _ => .fn f
  | .dead, _ => .dead
def SC.load : (s : SC) → Cell → Option (dens s.ty)
  | .int k, .int k' x => if k = k' then some x else none
  | .bool, .bool x => some x
  | .str, .str x => some x
  | .boolc true, .bool true => some ()
  | .boolc false, .bool false => some ()
  | .emp, .emp => some ()
  | .lst t e fr, .lst t' e' l fr' => if h : e' = e ∧ t' = t ∧ fr' = fr then some (h.1 ▸ l : List e.den) else none
  | .ref r, .ref r' .all => if r = r' then some () else none
  | .refp r, .ref r' (.pre n) => if r = r' then some n else none
  | .refs r, .ref r' (.sub o n) => if r = r' then some (o, n) else none
  | .ptr r i j, .ptr r' i' j' => if r = r' ∧ i = i' ∧ j = j' then some () else none
  | .ptrv r j, .ptr r' i j' => if r = r' ∧ j = j' then some i else none
  | .fn f, .fn f' => if f = f' then some () else none
  | .dead, _ => some ()
  | _, _ => none
def mkL : (s : List SC) → dens (tyL s) → List Cell
  | [], _ => []
  | c :: r, x => match split c.ty x with | (y, z) => c.mk y :: mkL r z
def loadL : (s : List SC) → List Cell → Option (dens (tyL s))
  | [], [] => some ()
  | c :: r, d :: l => match c.load d with
    | some x => match loadL r l with
      | some y => some (join c.ty x y)
      | none => none
    | none => none
  | _, _ => none
def mkV : (s : List SV) → dens (tyV s) → List Val
  | [], _ => []
  | .one c :: r, x => match split c.ty x with | (y, z) => .v (.one (c.mk y)) :: mkV r z
  | .agg cs :: r, x => match split (tyL cs) x with | (y, z) => .v (.agg (mkL cs y)) :: mkV r z
  | .dead :: r, x => .dead :: mkV r x
def loadV : (s : List SV) → List Val → Option (dens (tyV s))
  | [], [] => some ()
  | .one c :: r, .v (.one d) :: l => match c.load d with
    | some x => match loadV r l with
      | some y => some (join c.ty x y)
      | none => none
    | none => none
  | .agg cs :: r, .v (.agg ds) :: l => match loadL cs ds with
    | some x => match loadV r l with
      | some y => some (join (tyL cs) x y)
      | none => none
    | none => none
  | .dead :: r, _ :: l => loadV r l
  | _, _ => none
/-- Cells as a variable's own. -/
def rcT : List Cell → List RC
  | [] => []
  | c :: r => (match c with | .int k n => .int k n | .bool b => .bool b | .str s => .str s | .emp => .emp | .ref r s => .ref r s | _ => .dead) :: rcT r
def mkR : (s : List SR) → dens (tyR s) → List (Option Reg)
  | [], _ => []
  | .row t e own fr :: r, x => some ⟨t, e, hd x, own, fr⟩ :: mkR r (tl x)
  | .var t n fr cs :: r, x => match split (tyL cs) x with | (y, z) => some ⟨t, .var n, [rcT (mkL cs y)], true, fr⟩ :: mkR r z
/-- A flag that may be forgotten: a row of its own stays one; what was new may pass for old. -/
def loadR : (s : List SR) → List (Option Reg) → Option (dens (tyR s))
  | [], [] => some ()
  | .row t' e' own' fr' :: r, some ⟨t, e, l, own, fr⟩ :: σ => if h : e = e' ∧ t = t' ∧ own = own' ∧ imps fr' fr = true then (match loadR r σ with
      | some y => some (cons (h.1 ▸ l : List e'.den) y)
      | none => none) else none
  | .var t' n' fr' cs :: r, some ⟨t, .var n, [rcs], true, fr⟩ :: σ => if t = t' ∧ n = n' ∧ imps fr' fr = true then (match loadL cs (cellsOf rcs) with
    | some x => match loadR r σ with
      | some y => some (join (tyL cs) x y)
      | none => none
    | none => none) else none
  | _, _ => none
def Shape.mk' (s : Shape) (x : dens s.ty) : State := match split (tyR s.σ) x with
  | (a, b) => match split (tyL s.hid) b with
    | (h, c) => ⟨mkV s.ts c, mkL s.hid h, mkR s.σ a⟩
def Shape.load (s : Shape) (st : State) : Option (dens s.ty) := match loadR s.σ st.σ with
  | some a => match loadL s.hid st.hid with
    | some h => match loadV s.ts st.ts with
      | some c => some (join (tyR s.σ) a (join (tyL s.hid) h c))
      | none => none
    | none => none
  | none => none
/-! ### Code -/
inductive Ex where
  | normal | exit (id : Nat) | ret
def Ex.same : Ex → Ex → Bool
  | .normal, .normal => true
  | .exit a, .exit b => Nat.beq a b
  | .ret, .ret => true
  | _, _ => false
@[reducible] def kons (R : Type) : List (Ex × Shape) → List Type
  | [] => []
  | y :: r => (dens y.2.ty → Option R) :: kons R r
/-- A part of the text that is told by a function of its own: a loop's body, or what stands ahead of a join. -/
structure Sub where
  live : List Live                  -- what is alive at its begin
  sh : Shape
  out : List Live                   -- what is alive behind it, where it goes on
  ys : List (Ex × Shape)
  f : (R : Type) → Nat → dens sh.ty → dens (kons R ys) → Option R
/-- The orders of a drawn region: operation i is next; or any of several. -/
inductive Ord where
  | done | step (i : Nat) (r : Ord) | fork (i : Nat) (r o : Ord)
structure Ann where
  sub : List (Nat × Sub)                   -- by the number of its first region
  exit : List (Nat × List Live)            -- behind a block
  sched : List (Nat × Ord)                 -- a drawn region's order
  ret : Option (List Live)                 -- at a return
def firstRegion : Code → Nat
  | .region id _ _ => id
  | .seq a _ => firstRegion a
  | .block _ a => firstRegion a
  | .loop a => firstRegion a
  | .cond _ a _ => firstRegion a
  | _ => 999
def canonIf (o : Option (List Live)) (st : State) : State := match o with
  | some l => canon l st
  | none => st
def upto : Nat → List Nat
  | 0 => []
  | n + 1 => app (upto n) [n]
def mkK {R : Type} : (ys : List (Ex × Shape)) → (Ex → State → Option R) → dens (kons R ys)
  | [], _ => ()
  | (e, sh) :: ys, K => cons (fun y => K e (sh.mk' y)) (mkK ys K)
def disp {R : Type} : (ys : List (Ex × Shape)) → dens (kons R ys) → Ex → State → Option R
  | [], _, _, _ => none
  | (e', sh) :: ys, ks, e, st => match Ex.same e' e with
    | true => match sh.load st with
      | some y => (hd ks) y
      | none => none
    | false => disp ys (tl ks) e st
/-- It yields a value, whatever the memory. -/
def isPure (o : Oper) : Bool := match o.op with
  | .move _ => true
  | .assign _ => true
  | .pick _ _ _ => true
  | .build _ _ => true
  | .nilCheck _ => true
  | .binOp _ _ _ _ _ => true
  | .unOp _ _ _ => true
  | .slice _ _ _ _ _ => true
  | .fieldAddr _ _ _ => true
  | .field _ _ _ => true
  | .index _ _ _ => true
  | .indexAddr _ _ _ => true
  | .extract _ _ => true
  | .call ⟨.builtin .len, _, _⟩ => true
  | .call ⟨.builtin .max, _, _⟩ => true
  | .call ⟨.builtin .min, _, _⟩ => true
  | _ => false
def isLoad (o : Oper) : Bool := match o.op with
  | .load _ _ => true
  | .convert _ _ _ => true
  | _ => false
/-- Contracts that change nothing: all is read only. -/
def mildF (l : List Con) : Bool := l.all fun k => k.ps.all fun p => match p.mode with | .rd => true | .rp => true | _ => false
def mildE (E : Env) (f : FuncId) : Bool := mildF (E.F f)
def mildOp (M : FuncId → Bool) (o : Oper) : Bool := match o.op with
  | .call c => match c.callee with
    | .value (.func f) => M f
    | _ => false
  | .alloc _ => true
  | _ => false
/-- It may change the memory. -/
def turns (M : FuncId → Bool) (ops : Array Oper) (i : Nat) : Bool := match ops[i]? with
  | some o => !(isPure o || (isLoad o || mildOp M o))
  | none => false
/-- Operation d waits for operation i, by a chain of at most so many edges. -/
def waitsB (md : Region.Mode) (ops : Array Oper) (i : Nat) : Nat → Nat → Bool
  | 0, _ => false
  | fuel + 1, d => match ops[d]? with
    | some o => o.after.any fun e => Region.binds md e && (e.on == i || waitsB md ops i fuel e.on)
    | none => false
def shutB (md : Region.Mode) (ops : Array Oper) (listed : Array Bool) : Bool :=
  (List.range ops.size).all fun j => !listed.getD j false || match ops[j]? with
    | some o => o.after.all fun e => !Region.binds md e || listed.getD e.on false
    | none => true
def heldB (md : Region.Mode) (ops : Array Oper) (D : Nat → Bool) (listed : Array Bool) (i : Nat) : Bool :=
  (List.range ops.size).all fun d => !D d || listed.getD d true || waitsB md ops i ops.size d
/-- A store to a variable that is new in this region. -/
def freshB (md : Region.Mode) (ops : Array Oper) (listed : Array Bool) (d : Nat) : Bool := match ops[d]? with
  | some od => match od.op with
    | .store _ (.tmp x) _ => (List.range ops.size).any fun j => match ops[j]? with
      | some oj => (match oj.op with | .alloc _ => true | _ => false) && (oj.dst == some x && (!listed.getD j true && od.after.any fun e => Region.binds md e && e.on == j))
      | none => false
    | _ => false
  | none => false
def heldB2 (md : Region.Mode) (ops : Array Oper) (D : Nat → Bool) (listed : Array Bool) (i : Nat) : Bool :=
  (List.range ops.size).all fun d => !D d || (listed.getD d true || (waitsB md ops i ops.size d || freshB md ops listed d))
/-- Allocations write temporaries of their own. -/
def allocDB (ops : Array Oper) : Bool :=
  (List.range ops.size).all fun jA => match ops[jA]? with
    | some oA => match oA.op, oA.dst with
      | .alloc _, some x => (List.range ops.size).all fun j => j == jA || (match ops[j]? with | some oj => !(oj.dst == some x) | none => true)
      | _, _ => true
    | none => true
/-- The next operation may be number i. -/
def stepB (M : FuncId → Bool) (ops : Array Oper) (listed : Array Bool) (i : Nat) : Bool := match ops[i]? with
  | some o => match isPure o, isLoad o with
    | true, _ => Region.free .any ops listed i && (Region.ready .any ops listed).contains i
    | false, true => Region.free .any ops listed i && (Region.ready .any ops listed).contains i && shutB .any ops listed && heldB2 .any ops (turns M ops) listed i
    | false, false => Region.ready .any ops listed == [i]
  | none => false
def Ord.heads : Ord → List Nat
  | .done => []
  | .step i _ => [i]
  | .fork i _ o => i :: o.heads
def Ord.within : Ord → Nat → Bool
  | .done, _ => true
  | .step _ _, 0 => false
  | .step _ r, n + 1 => r.within n
  | .fork _ _ _, 0 => false
  | .fork _ r o, n + 1 => r.within n && o.within (n + 1)
def hardB (ops : Array Oper) (i : Nat) : Bool := match ops[i]? with
  | some o => !isPure o && !isLoad o
  | none => false
def schedGo (M : FuncId → Bool) (ops : Array Oper) : Ord → Bool → Array Bool → Bool
  | .done, tail, listed => !tail && Region.ready .any ops listed == []
  | .step i r, tail, listed => ((tail && hardB ops i) || (!tail && stepB M ops listed i)) && schedGo M ops r false (listed.setIfInBounds i true)
  | .fork i r o, tail, listed => (tail || Region.ready .any ops listed == i :: o.heads) && (hardB ops i && schedGo M ops r false (listed.setIfInBounds i true) && schedGo M ops o true listed)
def schedOk (M : FuncId → Bool) (ops : Array Oper) (s : Ord) : Bool := Region.noSelect ops && (allocDB ops && s.within ops.size && schedGo M ops s false (Array.replicate ops.size false))
noncomputable def treeE {R : Type} (E : Env) (ops : List Oper) : Ord → State → (State → Option R) → Option R
  | .done, st, K => K st
  | .step i r, st, K => match nth ops i with
    | some o => guardE E ops o st fun st' => treeE E ops r st' K
    | none => none
  | .fork i r t, st, K => match nth ops i with
    | some o => agree (guardE E ops o st fun st' => treeE E ops r st' K) (treeE E ops t st K)
    | none => none
def loopKey (c : Code) : Nat := 2 * firstRegion c + 1
def seqKey : Code → Nat
  | .region id _ _ => 2 * id
  | a => 2 * firstRegion a + 20000
def subE {R : Type} (s : Sub) (n : Nat) (st : State) (K : Ex → State → Option R) : Option R :=
  match s.sh.load (canon s.live st) with
  | some x => s.f R n x (mkK s.ys K)
  | none => none
noncomputable def execE {R : Type} (E : Env) (A : Ann) (n : Nat) : Code → State → (Ex → State → Option R) → Option R
  | .skip, st, K => K .normal st
  | .region id ops draw, st, K => match draw with
    | false => opsE E ops.toList (upto (count ops.toList)) st fun st' => K .normal st'
    | true => match look A.sched id with
      | some s => match schedOk (mildE E) ops s with
        | true => treeE E ops.toList s st fun st' => K .normal st'
        | false => none
      | none => none
  | .seq a b, st, K => match look A.sub (seqKey a) with
    | some s => subE s n st fun e st' => match e with
      | .normal => execE E A n b st' K
      | e => K e st'
    | none => execE E A n a st fun e st' => match e with
      | .normal => execE E A n b st' K
      | e => K e st'
  | .cond c x y, st, K => match c with
    | .tmp t => match nth st.ts t with
      | some (.v (.one (.bool q))) => br q (execE E A n x (st.put (some t) (.v (.one (.bool true)))) K) (execE E A n y (st.put (some t) (.v (.one (.bool false)))) K)
      | _ => none
    | _ => none
  | .block id c, st, K => execE E A n c st fun e st' => match e with
    | .normal => K .normal (canonIf (look A.exit id) st')
    | .exit id' => match Nat.beq id' id with
      | true => K .normal st'
      | false => K (.exit id') st'
    | .ret => K .ret st'
  | .loop c, st, K => match look A.sub (loopKey c) with
    | some s => subE s n st K
    | none => none
  | .exit id, st, K => K (.exit id) (canonIf (look A.exit id) st)
  | .ret, st, K => K .ret (canonIf A.ret st)
  | _, _, _ => none
/-- What is to be shown of a part of the text. -/
def OkSeq (E : Env) (A : Ann) (n : Nat) (s : Sub) (a : Code) : Prop :=
  ∀ (R : Type) (k : Nat) (x : dens s.sh.ty) (ks : dens (kons R s.ys)),
    execE E A n a (s.sh.mk' x) (fun e st => match e with | .normal => disp s.ys ks .normal (canon s.out st) | e => disp s.ys ks e st) = s.f R k x ks
def OkLoop (E : Env) (A : Ann) (n : Nat) (s : Sub) (c : Code) : Prop :=
  (∀ (R : Type) (x : dens s.sh.ty) (ks : dens (kons R s.ys)), none = s.f R 0 x ks) ∧
  ∀ (R : Type) (k : Nat) (x : dens s.sh.ty) (ks : dens (kons R s.ys)),
    execE E A n c (s.sh.mk' x) (fun e st => match e with
      | .normal => match s.sh.load (canon s.live st) with | some x' => s.f R k x' ks | none => none
      | e => disp s.ys ks e st) = s.f R (k + 1) x ks
def partsOf (A : Ann) : Code → List (Bool × Sub × Code)
  | .seq a b => match look A.sub (seqKey a) with
    | some s => (false, s, a) :: app (partsOf A a) (partsOf A b)
    | none => app (partsOf A a) (partsOf A b)
  | .cond _ a b => app (partsOf A a) (partsOf A b)
  | .block _ a => partsOf A a
  | .loop a => match look A.sub (loopKey a) with
    | some s => (true, s, a) :: partsOf A a
    | none => []
  | _ => []
def OkPart (E : Env) (A : Ann) (n : Nat) : Bool × Sub × Code → Prop
  | (false, s, c) => OkSeq E A n s c
  | (true, s, c) => OkLoop E A n s c
def OkAll (E : Env) (A : Ann) (n : Nat) : List (Bool × Sub × Code) → Prop
  | [] => True
  | p :: r => OkPart E A n p ∧ OkAll E A n r
def getP (l : List (Bool × Sub × Code)) (i : Nat) : Bool × Sub × Code := match l, i with
  | [], _ => (false, ⟨[], ⟨[], [], []⟩, [], [], fun _ _ _ _ => none⟩, .skip)
  | p :: _, 0 => p
  | _ :: r, i + 1 => getP r i
def bodyOf (fn : Func) : Code := match fn.body with
  | some c => c
  | none => .skip
/-! ### A function -/
/-- The rows that are lent or given, and what of them must come back. -/
def entryOwn : (ps : List PT) → Args ps → Nat → List Cell × List (Option Reg)
  | [], _, _ => ([], [])
  | .ow t e tk false :: ps, x, k => match entryOwn ps (tl x) (k + 1) with
    | (hid, σ) => ((match tk with | true => hid | false => .ref k .all :: hid), some ⟨t, e, hd x, true, tk⟩ :: σ)
  | .ow t e tk true :: ps, x, k => match entryOwn ps (tl x) (k + 1) with
    | (hid, σ) => ((match tk with | true => hid | false => .ref k .all :: hid), some ⟨t, e, (hd x).1, true, tk⟩ :: σ)
  | .op t e :: ps, x, k => match entryOwn ps (tl x) (k + 1) with
    | (hid, σ) => (.ref k .all :: hid, some ⟨t, e, [hd x], true, false⟩ :: σ)
  | .rd _ :: ps, x, k => entryOwn ps (tl x) k
  | .ag _ :: ps, x, k => entryOwn ps (tl x) k
  | .fn _ :: ps, x, k => entryOwn ps (tl x) k
  | .rp _ _ :: ps, x, k => entryOwn ps (tl x) k
def pushV (st : State) (v : Val) : State := ⟨app st.ts [v], st.hid, st.σ⟩
/-- The parameters, one behind the other; k: the next row that was lent. -/
def entryTs : (ps : List PT) → Args ps → Nat → State → State
  | [], _, _, st => st
  | .rd e :: ps, x, k, st => entryTs ps (tl x) k (match enc e (hd x) false with
    | [.lst t e' l _] => pushV (st.new ⟨t, e', l, false, false⟩) (.v (.one (.ref (count st.σ) .all)))
    | [c] => pushV st (.v (.one c))
    | _ => pushV st .dead)
  | .ag e :: ps, x, k, st => entryTs ps (tl x) k (pushV st (.v (.agg (enc e (hd x) false))))
  | .ow _ _ _ false :: ps, x, k, st => entryTs ps (tl x) (k + 1) (pushV st (.v (.one (.ref k .all))))
  | .ow _ _ _ true :: ps, x, k, st => entryTs ps (tl x) (k + 1) (pushV st (.v (.one (.ref k (.pre (hd x).2)))))
  | .op _ _ :: ps, x, k, st => entryTs ps (tl x) (k + 1) (pushV st (.v (.one (.ptr k 0 0))))
  | .fn f :: ps, x, k, st => entryTs ps (tl x) k (pushV st (.v (.one (.fn f))))
  | .rp t e :: ps, x, k, st => entryTs ps (tl x) k (pushV (st.new ⟨t, e, [hd x], false, false⟩) (.v (.one (.ptr (count st.σ) 0 0))))
def entry (ps : List PT) (x : Args ps) : State := match entryOwn ps x 0 with
  | (hid, σ) => entryTs ps x 0 ⟨[], hid, σ⟩
/-- What is handed out as data is written no more. -/
def lockR : (rs : List RT) → List Val → State → Option State
  | [], [], st => some st
  | .ow _ _ _ :: rs, _ :: vs, st => lockR rs vs st
  | .rd _ _ :: rs, .v c :: vs, st => match embL st c.cells with
    | some _ => lockR rs vs (freeze st c.cells)
    | none => none
  | .ag _ _ :: rs, .v c :: vs, st => match embL st c.cells with
    | some _ => lockR rs vs (freeze st c.cells)
    | none => none
  | _, _, _ => none
/-- A result's datum; the row that is handed over. -/
def resD (st : State) : (r : RT) → Val → Option (r.den × List Nat)
  | .rd e fr, .v (.one c) => match offC st c with
    | some c' => match dec1 e [c'], imps fr (frs [c']) with
      | some x, true => some (x, [])
      | _, _ => none
    | none => none
  | .ag e fr, .v (.agg cs) => match offL st cs with
    | some cs' => match dec1 e cs', imps fr (frs cs') with
      | some x, true => some (x, [])
      | _, _ => none
    | none => none
  | .ow _ _ false, .v (.one .emp) => some ([], [])
  | .ow _ _ true, .v (.one .emp) => some (([], 0), [])
  | .ow t e false, .v (.one (.ref r s)) => match st.reg r with
    | some ⟨t', e', l, true, true⟩ => if h : e' = e ∧ t' = t then (match s with
      | .all => some ((h.1 ▸ l : List e.den), [r])
      | .pre n => some (preL (h.1 ▸ l : List e.den) n, [r])
      | .sub _ _ => none) else none
    | _ => none
  | .ow t e true, .v (.one (.ref r (.pre n))) => match st.reg r with
    | some ⟨t', e', l, true, true⟩ => if h : e' = e ∧ t' = t then some (((h.1 ▸ l : List e.den), n), [r]) else none
    | _ => none
  | .ow t e true, .v (.one (.ref r .all)) => match st.reg r with
    | some ⟨t', e', l, true, true⟩ => if h : e' = e ∧ t' = t then some (((h.1 ▸ l : List e.den), llen l), [r]) else none
    | _ => none
  | _, _ => none
def resAll (st : State) : (rs : List RT) → List Val → Option (dens (rs.map RT.den) × List Nat)
  | [], [] => some ((), [])
  | r :: rs, v :: vs => match resD st r v with
    | some (x, ks) => match resAll st rs vs with
      | some (y, ks') => some (cons x y, app ks ks')
      | none => none
    | none => none
  | _, _ => none
def hasNat (n : Nat) : List Nat → Bool
  | [] => false
  | m :: r => match Nat.beq n m with | true => true | false => hasNat n r
def noTwice : List Nat → Bool
  | [] => true
  | n :: r => match hasNat n r with | true => false | false => noTwice r
def backD (st : State) (ks : List Nat) : (ps : List PT) → List Cell → Option (dens (backs ps))
  | [], _ => some ()
  | .rd _ :: ps, cs => backD st ks ps cs
  | .ag _ :: ps, cs => backD st ks ps cs
  | .fn _ :: ps, cs => backD st ks ps cs
  | .rp _ _ :: ps, cs => backD st ks ps cs
  | .ow _ _ true _ :: ps, cs => backD st ks ps cs
  | .ow t e false _ :: ps, .ref r .all :: cs => match st.reg r, hasNat r ks with
    | some ⟨t', e', l, true, _⟩, false => if h : e' = e ∧ t' = t then (match backD st ks ps cs with
      | some y => some (cons (h.1 ▸ l : List e.den) y)
      | none => none) else none
    | _, _ => none
  | .op t e :: ps, .ref r .all :: cs => match st.reg r, hasNat r ks with
    | some ⟨t', e', [x], true, _⟩, false => if h : e' = e ∧ t' = t then (match backD st ks ps cs with
      | some y => some (cons (h.1 ▸ x : e.den) y)
      | none => none) else none
    | _, _ => none
  | _, _ => none
def joinD : (rs : List RT) → {b : List Type} → dens (rs.map RT.den) → dens b → dens (rs.map RT.den ++ b)
  | [], _, _, y => y
  | _ :: rs, _, x, y => cons (hd x) (joinD rs (tl x) y)
/-- The cells of a row's place. -/
def regC (g : Reg) (i : Nat) : List Cell := match varOf g with
  | some rcs => cellsOf rcs
  | none => enc g.e (rd g.e g.l i) g.fr
/-- A variable's content, as it lies. -/
def varV (T : Tab) (t : TypeId) (st : State) (a : Val) : Val := match a, look T t with
  | .v (.one (.ptr r i j)), some ti => match st.reg r with
    | some g => match Nat.ble (j + ti.e.size) g.e.size with
      | true => match ti.agg, firsts ti.e.size (lasts j (regC g i)) with
        | true, cs => .v (.agg cs)
        | false, [c] => .v (.one c)
        | false, _ => .dead
      | false => .dead
    | none => .dead
  | _, _ => .dead
def valOf (T : Tab) (st : State) : ResultVar → Val
  | .tmp t => match nth st.ts t with | some v => v | none => .dead
  | .cell a t => varV T t st (match nth st.ts a with | some v => v | none => .dead)
def vals (T : Tab) (st : State) : List ResultVar → List Val
  | [] => []
  | r :: rs => valOf T st r :: vals T st rs
def finE (T : Tab) (fn : Func) (g : List Nat) (ps : List PT) (rs : List RT) (st : State) : Option (Res ps rs) :=
  match unpk g (vals T st fn.results.toList) with
  | some vs => match lockR rs vs st with
    | some st' => match resAll st' rs vs with
      | some (x, ks) => match noTwice ks, backD st' ks ps st'.hid with
        | true, some y => some (joinD rs x y)
        | _, _ => none
      | none => none
    | none => none
  | none => none
/-- Contracts that are spoken of. -/
def okP : PT → Bool
  | .ow _ e _ _ => flat e
  | .op _ e => flat e
  | _ => true
def okPs : List PT → Bool
  | [] => true
  | p :: ps => match okP p with | true => okPs ps | false => false
def okR (alias : Bool) : RT → Bool
  | .rd e fr => orB alias (orB fr (flat e))
  | .ag e fr => orB alias (orB fr (flat e))
  | .ow _ e _ => match isVar e with | true => false | false => true
def okRs (alias : Bool) : List RT → Bool
  | [] => true
  | r :: rs => match okR alias r with | true => okRs alias rs | false => false
noncomputable def runE (E : Env) (A : Ann) (n : Nat) (fn : Func) (pg rg : List Nat) (ps : List PT) (rs : List RT) (x : Args ps) : Option (Res ps rs) :=
  match fn.body with
  | some c => match entry ps x with
    | ⟨ts, hid, σ⟩ => execE E A n c ⟨app (pkT pg ts) (deads (fn.ntmps - count (pkT pg ts))), hid, σ⟩ fun e st => match e with
      | .exit _ => none
      | _ => finE E.T fn rg ps rs st
  | none => none
end Go.Proofs.Ytpfjneaoankllaa.Ev

/-! What the reader tells holds of the code: the relation between its states and memory. -/
namespace Go.Proofs.Ytpfjneaoankllaa.Ev
open Go.RowKit
/-! ### Lists -/
theorem nth_eq {α : Type} : ∀ (l : List α) (i : Nat), nth l i = l[i]?
  | [], _ => by simp [nth]
  | _ :: _, 0 => by simp [nth]
  | _ :: r, i + 1 => by simp [nth, nth_eq r i]
theorem put_eq {α : Type} : ∀ (l : List α) (i : Nat) (x : α), put l i x = l.set i x
  | [], _, _ => by simp [put]
  | _ :: _, 0, _ => by simp [put]
  | _ :: r, i + 1, x => by simp [put, put_eq r i x]
theorem app_eq.{u} {α : Type u} : ∀ (l m : List α), app l m = l ++ m
  | [], _ => by simp [app]
  | _ :: r, m => by simp [app, app_eq r m]
theorem count_eq {α : Type} : ∀ (l : List α), count l = l.length
  | [] => rfl
  | _ :: r => by simp [count, count_eq r]
theorem firsts_eq {α : Type} : ∀ (n : Nat) (l : List α), firsts n l = l.take n
  | 0, _ => by simp [firsts]
  | _ + 1, [] => by simp [firsts]
  | n + 1, _ :: r => by simp [firsts, firsts_eq n r]
theorem lasts_eq {α : Type} : ∀ (n : Nat) (l : List α), lasts n l = l.drop n
  | 0, _ => by simp [lasts]
  | _ + 1, [] => by simp [lasts]
  | n + 1, _ :: r => by simp [lasts, lasts_eq n r]
theorem deads_eq : ∀ n, deads n = List.replicate n Val.dead
  | 0 => rfl
  | n + 1 => by simp [deads, deads_eq n, List.replicate_succ]
theorem upto_eq : ∀ n, upto n = List.range n
  | 0 => rfl
  | n + 1 => by rw [upto, app_eq, upto_eq n, List.range_succ]
theorem br_some {R : Type} {b : Bool} {x y : Option R} {r : R} (h : br b x y = some r) : (b = true ∧ x = some r) ∨ (b = false ∧ y = some r) := by
  unfold br at h
  cases b
  · exact .inr ⟨rfl, by simpa using h⟩
  · exact .inl ⟨rfl, by simpa using h⟩
/-! ### Data in memory -/
/-- The values vs hold the datum x, in w; what it leads to lies in blocks that meet N. -/
def RD (w : World) (N : Nat → Prop) : (e : Ty) → e.den → List Value → Prop
  | .int k, x, vs => vs = [.int k x]
  | .bool, x, vs => vs = [.bool x]
  | .str, x, vs => vs = [.string x]
  | .unit, _, vs => vs = []
  | .var n, _, vs => vs.length = n ∧ ∀ v ∈ vs, v.oneCell' = true
  | .pair a b, x, vs => ∃ v1 v2, vs = v1 ++ v2 ∧ RD w N a x.1 v1 ∧ RD w N b x.2 v2
  | .slice _ e, l, vs => ∃ A c, vs = [.slice A l.length c] ∧ l.length ≤ c ∧
      ∀ i (h : i < l.length), ∃ a us, A = some a ∧ N a.block ∧ RD w N e l[i] us ∧ ∀ j u, us[j]? = some u → w.cell? (a.add (i * e.size + j)) = some u
theorem RD.size {w : World} {N : Nat → Prop} : ∀ {e : Ty} {x : e.den} {vs : List Value}, RD w N e x vs → vs.length = e.size
  | .int _, _, _, h => by cases h; rfl
  | .bool, _, _, h => by cases h; rfl
  | .str, _, _, h => by cases h; rfl
  | .unit, _, _, h => by cases h; rfl
  | .var _, _, _, h => h.1
  | .pair _ _, _, _, h => by
    obtain ⟨_, _, rfl, h1, h2⟩ := h
    simp [h1.size, h2.size, Ty.size]
  | .slice _ _, _, _, h => by obtain ⟨_, _, rfl, _⟩ := h; rfl
theorem RD.mono {w w' : World} {N N' : Nat → Prop} (hN : ∀ k, N k → N' k) (hw : ∀ k, N k → w'.heap[k]? = w.heap[k]?) : ∀ {e : Ty} {x : e.den} {vs : List Value}, RD w N e x vs → RD w' N' e x vs
  | .int _, _, _, h => h
  | .bool, _, _, h => h
  | .str, _, _, h => h
  | .unit, _, _, h => h
  | .var _, _, _, h => h
  | .pair _ _, _, _, h => by
    obtain ⟨v1, v2, rfl, h1, h2⟩ := h
    exact ⟨v1, v2, rfl, h1.mono hN hw, h2.mono hN hw⟩
  | .slice _ e, l, _, h => by
    obtain ⟨A, c, rfl, hc, h⟩ := h
    refine ⟨A, c, rfl, hc, fun i hi => ?_⟩
    obtain ⟨a, us, h1, h2, h3, h4⟩ := h i hi
    refine ⟨a, us, h1, hN _ h2, h3.mono hN hw, fun j u hu => ?_⟩
    have := h4 j u hu
    have hb : (a.add (i * e.size + j)).block = a.block := by unfold Addr.add; split <;> rfl
    rw [World.cell?_of_block (w := w) (by rw [hb]; exact hw _ h2)]
    exact this
/-- Rows laid one behind the other. -/
def RDs (w : World) (N : Nat → Prop) (e : Ty) : List e.den → List Value → Prop
  | [], xs => xs = []
  | x :: l, xs => ∃ v1 v2, xs = v1 ++ v2 ∧ RD w N e x v1 ∧ RDs w N e l v2
theorem RDs.size {w : World} {N : Nat → Prop} {e : Ty} : ∀ {l : List e.den} {xs : List Value}, RDs w N e l xs → xs.length = l.length * e.size
  | [], _, h => by cases h; simp
  | _ :: _, _, h => by
    obtain ⟨_, _, rfl, h1, h2⟩ := h
    simp [h1.size, h2.size, Nat.add_mul, Nat.add_comm]
theorem RDs.mono {w w' : World} {N N' : Nat → Prop} (hN : ∀ k, N k → N' k) (hw : ∀ k, N k → w'.heap[k]? = w.heap[k]?) {e : Ty} : ∀ {l : List e.den} {xs : List Value}, RDs w N e l xs → RDs w' N' e l xs
  | [], _, h => h
  | _ :: _, _, h => by
    obtain ⟨v1, v2, rfl, h1, h2⟩ := h
    exact ⟨v1, v2, rfl, h1.mono hN hw, h2.mono hN hw⟩
theorem RDs.app {w : World} {N : Nat → Prop} {e : Ty} : ∀ {l m : List e.den} {xs ys : List Value}, RDs w N e l xs → RDs w N e m ys → RDs w N e (l ++ m) (xs ++ ys)
  | [], _, _, _, h, h' => by cases h; exact h'
  | _ :: _, _, _, _, h, h' => by
    obtain ⟨v1, v2, rfl, h1, h2⟩ := h
    exact ⟨v1, _, by rw [List.append_assoc], h1, h2.app h'⟩
theorem RDs.at {w : World} {N : Nat → Prop} {e : Ty} : ∀ {l : List e.den} {xs : List Value}, RDs w N e l xs → ∀ i (h : i < l.length), ∃ us, RD w N e l[i] us ∧ ∀ j u, us[j]? = some u → xs[i * e.size + j]? = some u
  | [], _, _, i, hi => by cases hi
  | _ :: _, _, h, 0, _ => by
    obtain ⟨v1, v2, rfl, h1, h2⟩ := h
    refine ⟨v1, h1, fun j u hu => ?_⟩
    have : j < v1.length := (List.getElem?_eq_some_iff.1 hu).1
    rw [Nat.zero_mul, Nat.zero_add, List.getElem?_append_left this]
    exact hu
  | _ :: l, _, h, i + 1, hi => by
    obtain ⟨v1, v2, rfl, h1, h2⟩ := h
    obtain ⟨us, h3, h4⟩ := h2.at i (by simpa using hi)
    refine ⟨us, h3, fun j u hu => ?_⟩
    rw [List.getElem?_append_right (by rw [h1.size, Nat.add_mul]; omega), h1.size, show (i + 1) * e.size + j - e.size = i * e.size + j from by rw [Nat.add_mul]; omega]
    exact h4 j u hu
theorem RDs.set {w : World} {N : Nat → Prop} {e : Ty} {x : e.den} {us : List Value} (hx : RD w N e x us) : ∀ {l : List e.den} {xs : List Value} (i : Nat), RDs w N e l xs → i < l.length →
    RDs w N e (l.set i x) (xs.take (i * e.size) ++ us ++ xs.drop (i * e.size + e.size))
  | [], _, _, _, hi => by cases hi
  | _ :: _, _, 0, h, _ => by
    obtain ⟨v1, v2, rfl, h1, h2⟩ := h
    refine ⟨us, v2, ?_, hx, h2⟩
    simp [h1.size]
  | _ :: l, _, i + 1, h, hi => by
    obtain ⟨v1, v2, rfl, h1, h2⟩ := h
    refine ⟨v1, _, ?_, h1, h2.set hx i (by simpa using hi)⟩
    have e1 : (i + 1) * e.size = v1.length + i * e.size := by rw [h1.size, Nat.add_mul]; omega
    rw [e1, List.take_append, List.take_of_length_le (by omega), Nat.add_sub_cancel_left, List.drop_append, List.drop_of_length_le (l := v1) (by omega), List.nil_append, show v1.length + i * e.size + e.size - v1.length = i * e.size + e.size from by omega]
    simp
theorem RDs.take {w : World} {N : Nat → Prop} {e : Ty} : ∀ {l : List e.den} {xs : List Value} (n : Nat), RDs w N e l xs → RDs w N e (l.take n) (xs.take (n * e.size))
  | [], _, n, h => by cases h; simp [RDs]
  | _ :: _, _, 0, _ => by simp [RDs]
  | _ :: _, _, n + 1, h => by
    obtain ⟨v1, v2, rfl, h1, h2⟩ := h
    refine ⟨v1, v2.take (n * e.size), ?_, h1, h2.take n⟩
    rw [show (n + 1) * e.size = v1.length + n * e.size from by rw [h1.size, Nat.add_mul]; omega, List.take_append, List.take_of_length_le (by omega), Nat.add_sub_cancel_left]
theorem RDs.replicate {w : World} {N : Nat → Prop} {e : Ty} {x : e.den} {us : List Value} (hx : RD w N e x us) : ∀ n, RDs w N e (List.replicate n x) (List.replicate n us).flatten
  | 0 => by simp [RDs]
  | n + 1 => by
    rw [List.replicate_succ, List.replicate_succ]
    exact ⟨us, _, by simp, hx, RDs.replicate hx n⟩
/-! ### The relation -/
/-- Where row r lies: its first cell, its capacity. -/
abbrev Lay := Nat → Option Addr × Nat
def live (σ : List (Option Reg)) (r : Nat) (g : Reg) : Prop := σ[r]? = some (some g)
theorem reg_eq {st : State} {r : Nat} {g : Reg} : st.reg r = some g ↔ live st.σ r g := by
  unfold State.reg live
  rw [nth_eq]
  split
  · rename_i g' h; rw [h]; simp
  · rename_i h
    constructor
    · intro h'; cases h'
    · intro h'; exact absurd h' (h g)
/-- The blocks that the rows of the call's own lie in. -/
def Own (ι : Lay) (σ : List (Option Reg)) (k : Nat) : Prop := ∃ r g a, live σ r g ∧ g.own = true ∧ (ι r).1 = some a ∧ a.block = k
structure Cx where
  w0 : World
  M : Nat → Prop          -- blocks that were lent or given
  T : Nat → Prop          -- blocks that were given
  tm : ∀ k, T k → M k
  N0 : Nat → Prop         -- blocks that the arguments are read in
  hid : List Value        -- the slices and variables that were lent
def Cx.n0 (cx : Cx) : Nat := cx.w0.heap.size
/-- Blocks that no argument is read in. -/
def Cx.New (cx : Cx) (k : Nat) : Prop := cx.n0 ≤ k ∨ cx.T k
/-- The blocks that may be read. -/
def Rdb (cx : Cx) (w : World) (ι : Lay) (σ : List (Option Reg)) (fr : Bool) (k : Nat) : Prop :=
  k < w.heap.size ∧ ¬ Own ι σ k ∧ (cx.New k ∨ (fr = false ∧ cx.N0 k))
/-- A slice that sees a row. -/
def SlR (A : Option Addr) (c size len : Nat) : Slc → Value → Prop
  | .all, v => v = .slice A len c
  | .pre n, v => n ≤ len ∧ v = .slice A n c
  | .sub o n, v => o + n ≤ len ∧ ∃ A' c', v = .slice A' n c' ∧ n ≤ c' ∧ (0 < n → ∃ a, A = some a ∧ A' = some (a.add (o * size)))
def CR (cx : Cx) (w : World) (ι : Lay) (σ : List (Option Reg)) : Cell → Value → Prop
  | .int k n, v => v = .int k n
  | .bool b, v => v = .bool b
  | .str s, v => v = .string s
  | .emp, v => v = .slice none 0 0
  | .lst t e l fr, v => RD w (Rdb cx w ι σ fr) (.slice t e) l [v]
  | .ref r s, v => r < σ.length ∧ ∀ g, live σ r g → SlR (ι r).1 (ι r).2 g.e.size g.l.length s v
  | .ptr r i j, v => r < σ.length ∧ ∀ g, live σ r g → ∃ a, (ι r).1 = some a ∧ i < g.l.length ∧ v = .pointer (some (a.add (i * g.e.size + j)))
  | .fn f, v => v = .func (.func f) #[] #[]
  | .dead, _ => True
  | .own _ _ _ _, _ => False
  | .optr _ _ _, _ => False
inductive All2 {α β : Type} (R : α → β → Prop) : List α → List β → Prop
  | nil : All2 R [] []
  | cons {a b l m} : R a b → All2 R l m → All2 R (a :: l) (b :: m)
theorem All2.imp {α β : Type} {R R' : α → β → Prop} (h : ∀ a b, R a b → R' a b) : ∀ {l : List α} {m : List β}, All2 R l m → All2 R' l m
  | _, _, .nil => .nil
  | _, _, .cons h1 h2 => .cons (h _ _ h1) (h2.imp h)
def CompR (R : Cell → Value → Prop) : Comp → Value → Prop
  | .one c, v => R c v
  | .agg cs, v => ∃ vs, v = .agg vs ∧ All2 R cs vs.toList
def VR (R : Cell → Value → Prop) : Val → Value → Prop
  | .v c, v => CompR R c v
  | .tup cs, v => ∃ vs, v = .tuple vs ∧ All2 (CompR R) cs vs.toList
  | .dead, _ => True
  | .un, v => v = undef
/-- What lies in a variable that is told cell by cell. -/
def VarR (cx : Cx) (w : World) (ι : Lay) (σ : List (Option Reg)) : (e : Ty) → List e.den → List Value → Prop
  | .var _, l, xs => ∀ rcs : List RC, l = [rcs] → All2 (CR cx w ι σ) (cellsOf rcs) xs
  | _, _, _ => True
theorem VarR.nv {cx : Cx} {w : World} {ι : Lay} {σ : List (Option Reg)} : ∀ {e : Ty} (_ : isVar e = false) {l : List e.den} {xs : List Value}, VarR cx w ι σ e l xs
  | .var _, h, _, _ => by cases h
  | .int _, _, _, _ => trivial
  | .bool, _, _, _ => trivial
  | .str, _, _, _ => trivial
  | .pair _ _, _, _, _ => trivial
  | .slice _ _, _, _, _ => trivial
  | .unit, _, _, _ => trivial
theorem VarR.nil {cx : Cx} {w : World} {ι : Lay} {σ : List (Option Reg)} : ∀ {e : Ty} {xs : List Value}, VarR cx w ι σ e ([] : List e.den) xs
  | .var _, _ => fun _ h => by cases h
  | .int _, _ => trivial
  | .bool, _ => trivial
  | .str, _ => trivial
  | .pair _ _, _ => trivial
  | .slice _ _, _ => trivial
  | .unit, _ => trivial
theorem VarR.imp {cx : Cx} {w w' : World} {ι ι' : Lay} {σ σ' : List (Option Reg)} (h : ∀ c v, CR cx w ι σ c v → CR cx w' ι' σ' c v) : ∀ {e : Ty} {l : List e.den} {xs : List Value}, VarR cx w ι σ e l xs → VarR cx w' ι' σ' e l xs
  | .var _, _, _, hv => fun rcs h1 => (hv rcs h1).imp h
  | .int _, _, _, _ => trivial
  | .bool, _, _, _ => trivial
  | .str, _, _, _ => trivial
  | .pair _ _, _, _, _ => trivial
  | .slice _ _, _, _, _ => trivial
  | .unit, _, _, _ => trivial
/-- A row of the frame. -/
def RegR (cx : Cx) (w : World) (ι : Lay) (σ : List (Option Reg)) (A : Option Addr) (c : Nat) (g : Reg) : Prop :=
  (g.own = true → ∃ xs, RDs w (Rdb cx w ι σ g.fr) g.e g.l xs ∧ w.ownsRow 0 g.t g.e.size (.slice A g.l.length c) g.l.length xs ∧
    (∀ a, A = some a → (g.fr = true → cx.New a.block) ∧ (cx.New a.block ∨ cx.M a.block)) ∧ VarR cx w ι σ g.e g.l xs) ∧
  (g.own = false → RD w (Rdb cx w ι σ g.fr) (.slice g.t g.e) g.l [.slice A g.l.length c])
/-- What was there is as it was, but for what was lent. -/
structure Kp (M : Nat → Prop) (w w' : World) : Prop where
  os : w'.os = w.os
  tape : w'.tape = w.tape
  output : w'.output = w.output
  size : w.heap.size ≤ w'.heap.size
  block : ∀ k, k < w.heap.size → ¬ M k → w'.heap[k]? = w.heap[k]?
structure Sim (cx : Cx) (ι : Lay) (st : State) (ts : Array Value) (w : World) : Prop where
  keep : Kp cx.M cx.w0 w
  regs : ∀ r g, live st.σ r g → RegR cx w ι st.σ (ι r).1 (ι r).2 g
  apart : ∀ r r' g g' a a', live st.σ r g → live st.σ r' g' → g.own = true → g'.own = true → (ι r).1 = some a → (ι r').1 = some a' → a.block = a'.block → r = r'
  size : st.ts.length = ts.size
  tmps : ∀ (i : Nat) (v : Val), st.ts[i]? = some v → ∃ u, ts[i]? = some u ∧ VR (CR cx w ι st.σ) v u
  hid : All2 (CR cx w ι st.σ) st.hid cx.hid
theorem ownsRow_block {w : World} {t : TypeId} {size n c : Nat} {A : Option Addr} {xs : List Value} (h : w.ownsRow 0 t size (.slice A n c) n xs) : ∀ a, A = some a → a.block < w.heap.size := by
  intro a ha
  have := h.lt a.block (by simp [Value.ownBlock, ha])
  exact this.2
theorem Own.lt {cx : Cx} {ι : Lay} {st : State} {ts : Array Value} {w : World} (h : Sim cx ι st ts w) {k : Nat} (hk : Own ι st.σ k) : k < w.heap.size := by
  obtain ⟨r, g, a, h1, h2, h3, rfl⟩ := hk
  obtain ⟨xs, _, h5, _⟩ := (h.regs r g h1).1 h2
  exact ownsRow_block h5 a h3
theorem live_lt {σ : List (Option Reg)} {r : Nat} {g : Reg} (h : live σ r g) : r < σ.length := (List.getElem?_eq_some_iff.1 h).1
theorem live_fun {σ : List (Option Reg)} {r : Nat} {g g' : Reg} (h : live σ r g) (h' : live σ r g') : g = g' := by
  unfold live at h h'
  rw [h] at h'
  simpa using h'
/-- From one frame's memory to a later one: rows of the call's own alone are written. -/
structure On (cx : Cx) (ι : Lay) (σ : List (Option Reg)) (w : World) (ι' : Lay) (σ' : List (Option Reg)) (w' : World) : Prop where
  size : w.heap.size ≤ w'.heap.size
  own : ∀ k, k < w.heap.size → Own ι' σ' k → Own ι σ k
  heap : ∀ k, k < w.heap.size → ¬ Own ι σ k → w'.heap[k]? = w.heap[k]?
  len : σ.length ≤ σ'.length
  refs : ∀ r g', live σ' r g' → r < σ.length → ∃ g, live σ r g ∧ ι' r = ι r ∧ g'.e.size = g.e.size ∧ g'.l.length = g.l.length
section
variable {cx : Cx} {ι ι' : Lay} {σ σ' : List (Option Reg)} {w w' : World}
theorem On.rdb (h : On cx ι σ w ι' σ' w') {fr : Bool} {k : Nat} (hk : Rdb cx w ι σ fr k) : Rdb cx w' ι' σ' fr k :=
  ⟨Nat.lt_of_lt_of_le hk.1 h.size, fun ho => hk.2.1 (h.own k hk.1 ho), hk.2.2⟩
theorem On.same (h : On cx ι σ w ι' σ' w') {fr : Bool} {k : Nat} (hk : Rdb cx w ι σ fr k) : w'.heap[k]? = w.heap[k]? := h.heap k hk.1 hk.2.1
theorem On.rd (h : On cx ι σ w ι' σ' w') {fr : Bool} {e : Ty} {x : e.den} {vs : List Value} (hx : RD w (Rdb cx w ι σ fr) e x vs) : RD w' (Rdb cx w' ι' σ' fr) e x vs := hx.mono (fun _ => h.rdb) (fun _ => h.same)
theorem On.rds (h : On cx ι σ w ι' σ' w') {fr : Bool} {e : Ty} {l : List e.den} {vs : List Value} (hx : RDs w (Rdb cx w ι σ fr) e l vs) : RDs w' (Rdb cx w' ι' σ' fr) e l vs := hx.mono (fun _ => h.rdb) (fun _ => h.same)
theorem On.cr (h : On cx ι σ w ι' σ' w') : ∀ {c : Cell} {v : Value}, CR cx w ι σ c v → CR cx w' ι' σ' c v
  | .int _ _, _, hc => hc
  | .bool _, _, hc => hc
  | .str _, _, hc => hc
  | .emp, _, hc => hc
  | .lst _ _ _ _, _, hc => h.rd hc
  | .ref r s, v, hc => by
    refine ⟨Nat.lt_of_lt_of_le hc.1 h.len, fun g' hg => ?_⟩
    obtain ⟨g, h1, h2, h3, h4⟩ := h.refs r g' hg hc.1
    rw [h2, h3, h4]
    exact hc.2 g h1
  | .ptr r i j, v, hc => by
    refine ⟨Nat.lt_of_lt_of_le hc.1 h.len, fun g' hg => ?_⟩
    obtain ⟨g, h1, h2, h3, h4⟩ := h.refs r g' hg hc.1
    rw [h2, h3, h4]
    exact hc.2 g h1
  | .fn _, _, hc => hc
  | .dead, _, hc => hc
  | .own _ _ _ _, _, hc => hc
  | .optr _ _ _, _, hc => hc
end
theorem All2.length {α β : Type} {R : α → β → Prop} : ∀ {l : List α} {m : List β}, All2 R l m → l.length = m.length
  | _, _, .nil => rfl
  | _, _, .cons _ h => by simp [h.length]
theorem All2.app {α β : Type} {R : α → β → Prop} : ∀ {l : List α} {m : List β} {l' : List α} {m' : List β}, All2 R l m → All2 R l' m' → All2 R (l ++ l') (m ++ m')
  | _, _, _, _, .nil, h => h
  | _, _, _, _, .cons h1 h2, h => .cons h1 (h2.app h)
theorem All2.take {α β : Type} {R : α → β → Prop} : ∀ {l : List α} {m : List β} (n : Nat), All2 R l m → All2 R (l.take n) (m.take n)
  | _, _, 0, _ => by simp; exact .nil
  | _, _, _ + 1, .nil => by simp; exact .nil
  | _, _, n + 1, .cons h1 h2 => by simp; exact .cons h1 (h2.take n)
theorem All2.drop {α β : Type} {R : α → β → Prop} : ∀ {l : List α} {m : List β} (n : Nat), All2 R l m → All2 R (l.drop n) (m.drop n)
  | _, _, 0, h => by simpa using h
  | _, _, _ + 1, .nil => by simp; exact .nil
  | _, _, n + 1, .cons h1 h2 => by simp; exact h2.drop n
theorem All2.at {α β : Type} {R : α → β → Prop} : ∀ {l : List α} {m : List β}, All2 R l m → ∀ (i : Nat) a, l[i]? = some a → ∃ b, m[i]? = some b ∧ R a b
  | _, _, .nil, i, a, h => by simp at h
  | _, _, .cons h1 h2, 0, a, h => by simp at h; subst h; exact ⟨_, by simp, h1⟩
  | _, _, .cons h1 h2, i + 1, a, h => by simp at h; obtain ⟨b, h3, h4⟩ := h2.at i a h; exact ⟨b, by simpa using h3, h4⟩
theorem CompR.imp {R R' : Cell → Value → Prop} (h : ∀ a b, R a b → R' a b) : ∀ {c : Comp} {v : Value}, CompR R c v → CompR R' c v
  | .one _, _, hc => h _ _ hc
  | .agg _, _, ⟨vs, e, hc⟩ => ⟨vs, e, hc.imp h⟩
theorem VR.imp {R R' : Cell → Value → Prop} (h : ∀ a b, R a b → R' a b) : ∀ {c : Val} {v : Value}, VR R c v → VR R' c v
  | .v _, _, hc => CompR.imp h hc
  | .tup _, _, ⟨vs, e, hc⟩ => ⟨vs, e, hc.imp fun _ _ => CompR.imp h⟩
  | .dead, _, hc => hc
  | .un, _, hc => hc
theorem ownsRow_of {w w' : World} {t : TypeId} {size n c : Nat} {A : Option Addr} {xs : List Value} (h : w.ownsRow 0 t size (.slice A n c) n xs) (hb : ∀ a, A = some a → w'.heap[a.block]? = w.heap[a.block]?) : w'.ownsRow 0 t size (.slice A n c) n xs := by
  refine ⟨h.1, ?_⟩
  rcases h.2 with h | ⟨g, cap, cur, e, h1, h2, h3⟩
  · exact .inl h
  · refine .inr ⟨g, cap, cur, e, h1, ?_, h3⟩
    injection e with e1 e2 e3
    rw [hb _ e1]
    exact h2
section
variable {cx : Cx} {ι ι' : Lay} {σ σ' : List (Option Reg)} {w w' : World}
theorem RegR.on {A : Option Addr} {c : Nat} {g : Reg} (h : RegR cx w ι σ A c g) (ho : On cx ι σ w ι' σ' w') (hb : g.own = true → ∀ a, A = some a → w'.heap[a.block]? = w.heap[a.block]?) : RegR cx w' ι' σ' A c g := by
  refine ⟨fun hg => ?_, fun hg => ho.rd (h.2 hg)⟩
  obtain ⟨xs, h1, h2, h3, h4⟩ := h.1 hg
  exact ⟨xs, ho.rds h1, ownsRow_of h2 (hb hg), h3, h4.imp fun _ _ => ho.cr⟩
theorem Kp.trans {M : Nat → Prop} {w0 : World} (h : Kp M w0 w) (h' : Kp (fun k => ¬ (k < w0.heap.size ∧ ¬ M k)) w w') : Kp M w0 w' :=
  ⟨h'.os.trans h.os, h'.tape.trans h.tape, h'.output.trans h.output, Nat.le_trans h.size h'.size, fun k hk hm => (h'.block k (Nat.lt_of_lt_of_le hk h.size) (fun hn => hn ⟨hk, hm⟩)).trans (h.block k hk hm)⟩
/-- The frame goes on: what is told of its memory. -/
theorem Sim.on {st st' : State} {ts : Array Value} (h : Sim cx ι st ts w) (ho : On cx ι st.σ w ι' st'.σ w') (hk : Kp (fun k => Own ι st.σ k) w w')
    (ets : st'.ts = st.ts) (ehid : st'.hid = st.hid)
    (hregs : ∀ r g, live st'.σ r g → RegR cx w' ι' st'.σ (ι' r).1 (ι' r).2 g)
    (hap : ∀ r r' g g' a a', live st'.σ r g → live st'.σ r' g' → g.own = true → g'.own = true → (ι' r).1 = some a → (ι' r').1 = some a' → a.block = a'.block → r = r') : Sim cx ι' st' ts w' := by
  refine ⟨h.keep.trans ⟨hk.os, hk.tape, hk.output, hk.size, fun k hk1 hk2 => hk.block k hk1 fun hown => ?_⟩, hregs, hap, by rw [ets]; exact h.size, fun i v hv => ?_, by rw [ehid]; exact h.hid.imp fun _ _ => ho.cr⟩
  · obtain ⟨r, g, a, h1, h2, h3, rfl⟩ := hown
    obtain ⟨xs, _, _, h5, _⟩ := (h.regs r g h1).1 h2
    have h6 := (h5 a h3).2
    rcases h6 with (h6 | h6) | h6
    · exact hk2 (fun hh => absurd hh.1 (by unfold Cx.n0 at h6; omega))
    · exact hk2 (fun hh => hh.2 (cx.tm _ h6))
    · exact hk2 (fun hh => hh.2 h6)
  · rw [ets] at hv
    obtain ⟨u, h1, h2⟩ := h.tmps i v hv
    exact ⟨u, h1, h2.imp fun _ _ => ho.cr⟩
/-- New blocks, draws: nothing that was there is touched. -/
theorem Sim.grow {st : State} {ts : Array Value} (h : Sim cx ι st ts w) (hk : Kp (fun _ => False) w w') : Sim cx ι st ts w' := by
  have ho : On cx ι st.σ w ι st.σ w' := ⟨hk.size, fun _ _ h => h, fun k h1 _ => hk.block k h1 id, Nat.le_refl _, fun r g' h1 _ => ⟨g', h1, rfl, rfl, rfl⟩⟩
  refine h.on ho ⟨hk.os, hk.tape, hk.output, hk.size, fun k h1 _ => hk.block k h1 id⟩ rfl rfl (fun r g hg => (h.regs r g hg).on ho fun hown a ha => hk.block _ ?_ id) h.apart
  obtain ⟨xs, _, h5, _⟩ := (h.regs r g hg).1 hown
  exact ownsRow_block h5 a ha
def lay (ι : Lay) (n : Nat) (x : Option Addr × Nat) : Lay := fun r => if r = n then x else ι r
theorem live_new {σ : List (Option Reg)} {g g' : Reg} {r : Nat} : live (σ ++ [some g]) r g' ↔ live σ r g' ∨ (r = σ.length ∧ g' = g) := by
  unfold live
  rcases Nat.lt_trichotomy r σ.length with h | h | h
  · rw [List.getElem?_append_left h]
    simp; omega
  · subst h
    simp [eq_comm]
  · rw [List.getElem?_eq_none (by simp; omega), List.getElem?_eq_none (by omega)]
    simp; omega
/-- A new row: a block that has just come, or a row that is only read. -/
theorem Sim.add {st : State} {ts : Array Value} (h : Sim cx ι st ts w) (hk : Kp (fun _ => False) w w') (g : Reg) (A : Option Addr) (c : Nat)
    (hown : g.own = true → (∀ a, A = some a → w.heap.size ≤ a.block) ∧ ∃ xs, w'.ownsRow 0 g.t g.e.size (.slice A g.l.length c) g.l.length xs ∧ VarR cx w ι st.σ g.e g.l xs ∧
      ((∀ k, Rdb cx w ι st.σ g.fr k → Rdb cx w' (lay ι st.σ.length (A, c)) (st.σ ++ [some g]) g.fr k) → RDs w' (Rdb cx w' (lay ι st.σ.length (A, c)) (st.σ ++ [some g]) g.fr) g.e g.l xs))
    (hrd : g.own = false → RD w (Rdb cx w ι st.σ g.fr) (.slice g.t g.e) g.l [.slice A g.l.length c]) : Sim cx (lay ι st.σ.length (A, c)) (st.new g) ts w' := by
  have hσ : (st.new g).σ = st.σ ++ [some g] := by simp [State.new, app_eq]
  have hl : ∀ r, r < st.σ.length → lay ι st.σ.length (A, c) r = ι r := fun r hr => by unfold lay; rw [if_neg (by omega)]
  have hnew : lay ι st.σ.length (A, c) st.σ.length = (A, c) := by unfold lay; rw [if_pos rfl]
  have ho : On cx ι st.σ w (lay ι st.σ.length (A, c)) (st.new g).σ w' := by
    rw [hσ]
    refine ⟨hk.size, fun k h1 h2 => ?_, fun k h1 _ => hk.block k h1 id, by simp, fun r g' h1 h2 => ?_⟩
    · obtain ⟨r, g', a, h3, h4, h5, rfl⟩ := h2
      rcases live_new.1 h3 with h3 | ⟨rfl, rfl⟩
      · rw [hl r (live_lt h3)] at h5
        exact ⟨r, g', a, h3, h4, h5, rfl⟩
      · rw [hnew] at h5
        have := (hown h4).1 a h5
        omega
    · rcases live_new.1 h1 with h3 | ⟨rfl, rfl⟩
      · exact ⟨g', h3, hl r h2, rfl, rfl⟩
      · omega
  refine h.on ho ⟨hk.os, hk.tape, hk.output, hk.size, fun k h1 _ => hk.block k h1 id⟩ rfl rfl (fun r g' hg => ?_) (fun r r' g1 g2 a a' h1 h2 h3 h4 h5 h6 h7 => ?_)
  · rw [hσ] at hg
    rcases live_new.1 hg with h3 | ⟨rfl, rfl⟩
    · rw [hl r (live_lt h3)]
      exact (h.regs r g' h3).on ho fun hown' a ha => by
        obtain ⟨xs, _, h5, _⟩ := (h.regs r g' h3).1 hown'
        exact hk.block _ (ownsRow_block h5 a ha) id
    · rw [hnew]
      refine ⟨fun hg' => ?_, fun hg' => ho.rd (hrd hg')⟩
      obtain ⟨h1, xs, h2, h2v, h3⟩ := hown hg'
      refine ⟨xs, ?_, h2, fun a ha => ?_, h2v.imp fun _ _ => ho.cr⟩
      · rw [hσ]; exact h3 (fun k hk => by have := ho.rdb hk; rw [hσ] at this; exact this)
      · have hge : cx.n0 ≤ a.block := by have := h.keep.size; have := h1 a ha; unfold Cx.n0; omega
        exact ⟨fun _ => .inl hge, .inl (.inl hge)⟩
  · rw [hσ] at h1 h2
    have lt : ∀ r g a, live st.σ r g → g.own = true → (ι r).1 = some a → a.block < w.heap.size := fun r g a h1 h2 h3 => by
      obtain ⟨xs, _, h5, _⟩ := (h.regs r g h1).1 h2
      exact ownsRow_block h5 a h3
    rcases live_new.1 h1 with h8 | ⟨rfl, rfl⟩ <;> rcases live_new.1 h2 with h9 | ⟨rfl, rfl⟩
    · rw [hl _ (live_lt h8)] at h5
      rw [hl _ (live_lt h9)] at h6
      exact h.apart r r' g1 g2 a a' h8 h9 h3 h4 h5 h6 h7
    · rw [hl _ (live_lt h8)] at h5
      rw [hnew] at h6
      have := lt r g1 a h8 h3 h5
      have := (hown h4).1 a' h6
      omega
    · rw [hl _ (live_lt h9)] at h6
      rw [hnew] at h5
      have := lt r' g2 a' h9 h4 h6
      have := (hown h3).1 a h5
      omega
    · rfl
end
theorem live_set {σ : List (Option Reg)} {r r' : Nat} {o : Option Reg} {g : Reg} : live (σ.set r o) r' g ↔ (r' = r ∧ r < σ.length ∧ o = some g) ∨ (r' ≠ r ∧ live σ r' g) := by
  unfold live
  rw [List.getElem?_set]
  by_cases h : r = r'
  · subst h
    by_cases hl : r < σ.length
    · simp [hl]
    · simp [hl]
  · simp [h, Ne.symm h]
section
variable {cx : Cx} {ι ι' : Lay} {w w' : World} {st : State} {ts : Array Value} {r : Nat} {g : Reg}
theorem set_σ (st : State) (r : Nat) (o : Option Reg) : (st.set r o).σ = st.σ.set r o := by simp [State.set, put_eq]
theorem Sim.ownlt (h : Sim cx ι st ts w) (hr : live st.σ r g) (ho : g.own = true) {a : Addr} (ha : (ι r).1 = some a) : a.block < w.heap.size := by
  obtain ⟨xs, _, h5, _⟩ := (h.regs r g hr).1 ho
  exact ownsRow_block h5 a ha
theorem Sim.kill (h : Sim cx ι st ts w) (r : Nat) : Sim cx ι (st.set r none) ts w := by
  have ho : On cx ι st.σ w ι (st.set r none).σ w := by
    rw [set_σ]
    refine ⟨Nat.le_refl _, fun k _ h2 => ?_, fun _ _ _ => rfl, by simp, fun r' g' h1 _ => ?_⟩
    · obtain ⟨r', g', a, h3, h4⟩ := h2
      rcases live_set.1 h3 with ⟨_, _, h5⟩ | ⟨_, h5⟩
      · cases h5
      · exact ⟨r', g', a, h5, h4⟩
    · rcases live_set.1 h1 with ⟨_, _, h5⟩ | ⟨_, h5⟩
      · cases h5
      · exact ⟨g', h5, rfl, rfl, rfl⟩
  have back : ∀ r' g', live (st.set r none).σ r' g' → live st.σ r' g' := fun r' g' h1 => by
    rw [set_σ] at h1
    rcases live_set.1 h1 with ⟨_, _, h5⟩ | ⟨_, h5⟩
    · cases h5
    · exact h5
  exact h.on ho ⟨rfl, rfl, rfl, Nat.le_refl _, fun _ _ _ => rfl⟩ rfl rfl (fun r' g' hg => (h.regs r' g' (back r' g' hg)).on ho (fun _ _ _ => rfl)) (fun r1 r2 g1 g2 a a' h1 h2 => h.apart r1 r2 g1 g2 a a' (back _ _ h1) (back _ _ h2))
/-- A row that is written no more. -/
theorem Sim.freeze1 (h : Sim cx ι st ts w) (hr : live st.σ r g) (hfr : g.own = true → g.fr = true) : Sim cx ι (st.set r (some ⟨g.t, g.e, g.l, false, g.fr⟩)) ts w := by
  have back : ∀ r' g', live (st.set r (some ⟨g.t, g.e, g.l, false, g.fr⟩)).σ r' g' → (r' = r ∧ g' = ⟨g.t, g.e, g.l, false, g.fr⟩) ∨ (r' ≠ r ∧ live st.σ r' g') := fun r' g' h1 => by
    rw [set_σ] at h1
    rcases live_set.1 h1 with ⟨h4, _, h5⟩ | h5
    · exact .inl ⟨h4, (Option.some.inj h5).symm⟩
    · exact .inr h5
  have ho : On cx ι st.σ w ι (st.set r (some ⟨g.t, g.e, g.l, false, g.fr⟩)).σ w := by
    refine ⟨Nat.le_refl _, fun k _ h2 => ?_, fun _ _ _ => rfl, by rw [set_σ]; simp, fun r' g' h1 _ => ?_⟩
    · obtain ⟨r', g', a, h3, h4, h5⟩ := h2
      rcases back r' g' h3 with ⟨_, rfl⟩ | ⟨_, h6⟩
      · cases h4
      · exact ⟨r', g', a, h6, h4, h5⟩
    · rcases back r' g' h1 with ⟨rfl, rfl⟩ | ⟨_, h6⟩
      · exact ⟨g, hr, rfl, rfl, rfl⟩
      · exact ⟨g', h6, rfl, rfl, rfl⟩
  refine h.on ho ⟨rfl, rfl, rfl, Nat.le_refl _, fun _ _ _ => rfl⟩ rfl rfl (fun r' g' hg => ?_) (fun r1 r2 g1 g2 a a' h1 h2 h3 h4 => ?_)
  · rcases back r' g' hg with ⟨rfl, rfl⟩ | ⟨_, h6⟩
    · refine ⟨fun h => (by cases h), fun _ => ?_⟩
      cases ho' : g.own with
      | false => exact ho.rd ((h.regs r' g hr).2 ho')
      | true =>
        obtain ⟨xs, h1, h2, h3, _⟩ := (h.regs r' g hr).1 ho'
        have hlen : g.l.length ≤ (ι r').2 := by
          rcases h2.2 with ⟨e, hl⟩ | ⟨b, cap, cur, e, _, _, h4, _⟩
          · rw [hl]; exact Nat.zero_le _
          · injection e with _ _ e3; rw [e3]; exact h4
        refine ⟨(ι r').1, (ι r').2, rfl, hlen, fun i hi => ?_⟩
        obtain ⟨us, h4, h5⟩ := h1.at i hi
        cases hA : (ι r').1 with
        | none =>
          rw [hA] at h2
          rcases h2.2 with ⟨_, hl⟩ | ⟨b, cap, cur, e, _⟩
          · rw [hl] at hi; cases hi
          · injection e with e1; cases e1
        | some a =>
          refine ⟨a, us, rfl, ?_, ho.rd h4, fun j u hu => ?_⟩
          · refine ⟨h.ownlt hr ho' hA, ?_, ?_⟩
            · rintro ⟨r2, g2, a2, h6, h7, h8, h9⟩
              rcases back r2 g2 h6 with ⟨_, rfl⟩ | ⟨hne, h10⟩
              · cases h7
              · exact hne (h.apart r2 r' g2 g a2 a h10 hr h7 ho' h8 hA h9)
            · exact .inl ((h3 a hA).1 (hfr ho'))
          · have := h2.cells (g := a.block) (by simp [Value.ownBlock, hA]) (i * g.e.size + j) u (h5 j u hu)
            rcases h2.2 with ⟨e, hl⟩ | ⟨b, cap, cur, e, _⟩
            · rw [hl] at hi; cases hi
            · injection e with e1
              rw [hA] at e1
              injection e1 with e1
              subst e1
              exact this
    · exact (h.regs r' g' h6).on ho (fun _ _ _ => rfl)
  · rcases back r1 g1 h1 with ⟨_, rfl⟩ | ⟨_, h5⟩
    · cases h3
    · rcases back r2 g2 h2 with ⟨_, rfl⟩ | ⟨_, h6⟩
      · cases h4
      · exact h.apart r1 r2 g1 g2 a a' h5 h6 h3 h4
/-- A row of the call's own is written: its block alone has turned. -/
theorem Sim.write (h : Sim cx ι st ts w) (hr : live st.σ r g) (hown : g.own = true) (l' : List g.e.den) (fr' : Bool) (hlen : l'.length = g.l.length) (hfr : fr' = true → g.fr = true)
    (hk : Kp (fun k => ∃ a, (ι r).1 = some a ∧ a.block = k) w w')
    (hnew : ∃ xs, w'.ownsRow 0 g.t g.e.size (.slice (ι r).1 g.l.length (ι r).2) g.l.length xs ∧ VarR cx w ι st.σ g.e l' xs ∧ RDs w (Rdb cx w ι st.σ fr') g.e l' xs) : Sim cx ι (st.set r (some ⟨g.t, g.e, l', true, fr'⟩)) ts w' := by
  have hrlt := live_lt hr
  have back : ∀ r' g', live (st.set r (some ⟨g.t, g.e, l', true, fr'⟩)).σ r' g' → (r' = r ∧ g' = ⟨g.t, g.e, l', true, fr'⟩) ∨ (r' ≠ r ∧ live st.σ r' g') := fun r' g' h1 => by
    rw [set_σ] at h1
    rcases live_set.1 h1 with ⟨h4, _, h5⟩ | h5
    · exact .inl ⟨h4, (Option.some.inj h5).symm⟩
    · exact .inr h5
  have blk : ∀ k, (∃ a, (ι r).1 = some a ∧ a.block = k) → Own ι st.σ k := fun k ⟨a, h1, h2⟩ => ⟨r, g, a, hr, hown, h1, h2⟩
  have ho : On cx ι st.σ w ι (st.set r (some ⟨g.t, g.e, l', true, fr'⟩)).σ w' := by
    refine ⟨hk.size, fun k _ h2 => ?_, fun k h1 h2 => hk.block k h1 fun h3 => h2 (blk k h3), by rw [set_σ]; simp, fun r' g' h1 _ => ?_⟩
    · obtain ⟨r', g', a, h3, h4, h5⟩ := h2
      rcases back r' g' h3 with ⟨rfl, rfl⟩ | ⟨_, h6⟩
      · exact ⟨r', g, a, hr, hown, h5⟩
      · exact ⟨r', g', a, h6, h4, h5⟩
    · rcases back r' g' h1 with ⟨rfl, rfl⟩ | ⟨_, h6⟩
      · exact ⟨g, hr, rfl, rfl, hlen⟩
      · exact ⟨g', h6, rfl, rfl, rfl⟩
  refine h.on ho ⟨hk.os, hk.tape, hk.output, hk.size, fun k h1 h2 => hk.block k h1 fun h3 => h2 (blk k h3)⟩ rfl rfl (fun r' g' hg => ?_) (fun r1 r2 g1 g2 a a' h1 h2 h3 h4 h5 h6 h7 => ?_)
  · rcases back r' g' hg with ⟨rfl, rfl⟩ | ⟨hne, h6⟩
    · refine ⟨fun _ => ?_, fun h => (by cases h)⟩
      obtain ⟨xs, h1, hv, h2⟩ := hnew
      obtain ⟨_, _, _, h3, _⟩ := (h.regs r' g hr).1 hown
      refine ⟨xs, ho.rds h2, ?_, fun a ha => ⟨fun h4 => (h3 a ha).1 (hfr h4), (h3 a ha).2⟩, hv.imp fun _ _ => ho.cr⟩
      dsimp only
      rw [hlen]
      exact h1
    · refine (h.regs r' g' h6).on ho fun hown' a ha => hk.block _ (h.ownlt h6 hown' ha) ?_
      rintro ⟨a2, h7, h8⟩
      exact hne (h.apart r' r g' g a a2 h6 hr hown' hown ha h7 h8.symm)
  · have q : ∀ r1 g1, live (st.set r (some ⟨g.t, g.e, l', true, fr'⟩)).σ r1 g1 → g1.own = true → ∃ g1', live st.σ r1 g1' ∧ g1'.own = true := fun r1 g1 h1 h3 => by
      rcases back r1 g1 h1 with ⟨rfl, rfl⟩ | ⟨_, h5⟩
      · exact ⟨g, hr, hown⟩
      · exact ⟨g1, h5, h3⟩
    obtain ⟨g1', h8, h9⟩ := q r1 g1 h1 h3
    obtain ⟨g2', h10, h11⟩ := q r2 g2 h2 h4
    exact h.apart r1 r2 g1' g2' a a' h8 h10 h9 h11 h5 h6 h7
/-- A row gives way to a longer one, in its own block or a new one. -/
theorem Sim.replace (h : Sim cx ι st ts w) (hr : live st.σ r g) (hown : g.own = true) (g' : Reg) (hown' : g'.own = true) (hfr : g'.fr = true → g.fr = true) (A : Option Addr) (c : Nat)
    (hk : Kp (fun k => ∃ a, (ι r).1 = some a ∧ a.block = k) w w')
    (hb : ∀ a, A = some a → w.heap.size ≤ a.block ∨ ∃ a', (ι r).1 = some a' ∧ a'.block = a.block)
    (hnew : ∃ xs, w'.ownsRow 0 g'.t g'.e.size (.slice A g'.l.length c) g'.l.length xs ∧ VarR cx w ι st.σ g'.e g'.l xs ∧ RDs w (Rdb cx w ι st.σ g'.fr) g'.e g'.l xs) : Sim cx (lay ι st.σ.length (A, c)) ((st.set r none).new g') ts w' := by
  have hrlt := live_lt hr
  have hσ : ((st.set r none).new g').σ = st.σ.set r none ++ [some g'] := by simp [State.new, app_eq, set_σ]
  have hlen : (st.σ.set r none).length = st.σ.length := by simp
  have back : ∀ r' g1, live ((st.set r none).new g').σ r' g1 → (r' ≠ r ∧ live st.σ r' g1 ∧ lay ι st.σ.length (A, c) r' = ι r') ∨ (r' = st.σ.length ∧ g1 = g' ∧ lay ι st.σ.length (A, c) r' = (A, c)) := fun r' g1 h1 => by
    rw [hσ] at h1
    rcases live_new.1 h1 with h2 | ⟨h2, rfl⟩
    · rcases live_set.1 h2 with ⟨_, _, h5⟩ | ⟨h4, h5⟩
      · cases h5
      · refine .inl ⟨h4, h5, ?_⟩
        have := live_lt h5
        unfold lay
        rw [if_neg (by omega)]
    · rw [hlen] at h2
      exact .inr ⟨h2, rfl, by unfold lay; rw [if_pos h2]⟩
  have blk : ∀ k, (∃ a, (ι r).1 = some a ∧ a.block = k) → Own ι st.σ k := fun k ⟨a, h1, h2⟩ => ⟨r, g, a, hr, hown, h1, h2⟩
  have ho : On cx ι st.σ w (lay ι st.σ.length (A, c)) ((st.set r none).new g').σ w' := by
    refine ⟨hk.size, fun k hk1 h2 => ?_, fun k h1 h2 => hk.block k h1 fun h3 => h2 (blk k h3), by rw [hσ]; simp, fun r' g1 h1 hlt => ?_⟩
    · obtain ⟨r', g1, a, h3, h4, h5, rfl⟩ := h2
      rcases back r' g1 h3 with ⟨_, h6, h7⟩ | ⟨rfl, rfl, h7⟩
      · rw [h7] at h5; exact ⟨r', g1, a, h6, h4, h5, rfl⟩
      · rw [h7] at h5
        rcases hb a h5 with h8 | h8
        · omega
        · exact blk _ h8
    · rcases back r' g1 h1 with ⟨_, h6, h7⟩ | ⟨rfl, _⟩
      · exact ⟨g1, h6, h7, rfl, rfl⟩
      · omega
  refine h.on ho ⟨hk.os, hk.tape, hk.output, hk.size, fun k h1 h2 => hk.block k h1 fun h3 => h2 (blk k h3)⟩ rfl rfl (fun r' g1 hg => ?_) (fun r1 r2 g1 g2 a a' h1 h2 h3 h4 h5 h6 h7 => ?_)
  · rcases back r' g1 hg with ⟨hne, h6, h7⟩ | ⟨rfl, rfl, h7⟩
    · rw [h7]
      refine (h.regs r' g1 h6).on ho fun hown1 a ha => hk.block _ (h.ownlt h6 hown1 ha) ?_
      rintro ⟨a2, h8, h9⟩
      exact hne (h.apart r' r g1 g a a2 h6 hr hown1 hown ha h8 h9.symm)
    · rw [h7]
      refine ⟨fun _ => ?_, fun h => by rw [hown'] at h; cases h⟩
      obtain ⟨xs, h1, hv, h2⟩ := hnew
      refine ⟨xs, ho.rds h2, h1, fun a ha => ?_, hv.imp fun _ _ => ho.cr⟩
      obtain ⟨_, _, _, h3, _⟩ := (h.regs r g hr).1 hown
      rcases hb a ha with h8 | ⟨a', h8, h9⟩
      · have hge : cx.n0 ≤ a.block := by have := h.keep.size; unfold Cx.n0; omega
        exact ⟨fun _ => .inl hge, .inl (.inl hge)⟩
      · rw [← h9]
        exact ⟨fun h4 => (h3 a' h8).1 (hfr h4), (h3 a' h8).2⟩
  · rcases back r1 g1 h1 with ⟨hne1, h8, h9⟩ | ⟨rfl, rfl, h9⟩ <;> rcases back r2 g2 h2 with ⟨hne2, h10, h11⟩ | ⟨rfl, rfl, h11⟩
    · rw [h9] at h5
      rw [h11] at h6
      exact h.apart r1 r2 g1 g2 a a' h8 h10 h3 h4 h5 h6 h7
    · rw [h9] at h5
      rw [h11] at h6
      have := h.ownlt h8 h3 h5
      rcases hb a' h6 with h12 | ⟨a2, h12, h13⟩
      · omega
      · exact absurd (h.apart r1 r g1 g a a2 h8 hr h3 hown h5 h12 (h7.trans h13.symm)) hne1
    · rw [h9] at h5
      rw [h11] at h6
      have := h.ownlt h10 h4 h6
      rcases hb a h5 with h12 | ⟨a2, h12, h13⟩
      · omega
      · exact absurd (h.apart r2 r g2 g a' a2 h10 hr h4 hown h6 h12 (h7.symm.trans h13.symm)) hne2
    · rfl
/-- A temporary is set. -/
theorem Sim.put (h : Sim cx ι st ts w) (d : Option Tmp) (v : Val) (u : Value) (hv : VR (CR cx w ι st.σ) v u) : Sim cx ι (st.put d v) (Act.put ⟨ts, []⟩ d u).tmps w := by
  cases d with
  | none => exact h
  | some d =>
    refine ⟨h.keep, h.regs, h.apart, ?_, fun i v' hi => ?_, h.hid⟩
    · simp [State.put, put_eq, Act.put, h.size]
    · simp only [State.put, put_eq, Act.put] at hi ⊢
      rw [List.getElem?_set] at hi
      by_cases hd : d = i
      · subst hd
        rw [if_pos rfl] at hi
        split at hi
        · rename_i hlt
          obtain rfl := Option.some.inj hi
          exact ⟨u, by rw [Array.getElem?_setIfInBounds_self, if_pos (by rw [← h.size]; exact hlt)], hv⟩
        · cases hi
      · rw [if_neg hd] at hi
        obtain ⟨u', h1, h2⟩ := h.tmps i v' hi
        exact ⟨u', by rw [Array.getElem?_setIfInBounds_ne hd]; exact h1, h2⟩
end
end Go.Proofs.Ytpfjneaoankllaa.Ev

namespace Go.Proofs.Ytpfjneaoankllaa.Ev
open Go.RowKit
/-! ### The tables -/
def zeroV : Ty → List Value
  | .int k => [.int k 0] | .bool => [.bool false] | .str => [.string ByteArray.empty] | .unit => [] | .pair a b => zeroV a ++ zeroV b | .slice _ _ => [.slice none 0 0] | .var n => List.replicate n (.bool false)
theorem zeroV_rd {w : World} {N : Nat → Prop} : ∀ e : Ty, RD w N e e.zero (zeroV e)
  | .int _ => rfl
  | .bool => rfl
  | .str => rfl
  | .unit => rfl
  | .var n => ⟨by show (List.replicate n (Value.bool false)).length = n; simp, fun v hv => by have := (List.mem_replicate.1 hv).2; rw [this]; rfl⟩
  | .pair a b => ⟨_, _, rfl, zeroV_rd a, zeroV_rd b⟩
  | .slice _ _ => ⟨none, 0, rfl, Nat.le_refl _, fun i hi => by simp [Ty.zero] at hi⟩
def sameV : Value → Value → Bool
  | .int k n, .int k' n' => decide (k = k' ∧ n = n')
  | .bool a, .bool b => a == b
  | .string a, .string b => a.size == 0 && b.size == 0
  | .slice none 0 0, .slice none 0 0 => true
  | _, _ => false
def sameL : List Value → List Value → Bool
  | [], [] => true
  | a :: l, b :: m => sameV a b && sameL l m
  | _, _ => false
theorem sameV_eq {a b : Value} (h : sameV a b = true) : a = b := by
  unfold sameV at h
  split at h
  · simp at h; rw [h.1, h.2]
  · simp at h; rw [h]
  · rename_i a b
    simp at h
    rw [h.1, h.2]
  · rfl
  · cases h
theorem sameL_eq : ∀ {a b : List Value}, sameL a b = true → a = b
  | [], [], _ => rfl
  | a :: l, b :: m, h => by
    simp [sameL] at h
    rw [sameV_eq h.1, sameL_eq h.2]
  | [], _ :: _, h => by cases h
  | _ :: _, [], h => by cases h
def aggD : TypeDesc → Bool
  | .struct _ => true | .array _ _ => true | _ => false
def eOk (P : Program) (t : TypeId) (e : Ty) : Bool := match P.info? t with
  | some i => decide (i.size = e.size) && (match i.zero with | some z => sameL z.cells.toList (zeroV e) | none => false)
  | none => false
def flOk (P : Program) : List Field → List (Nat × TypeId) → Bool
  | [], [] => true
  | f :: fs, (o, t) :: l => decide (f.offset = o ∧ f.type = t) && (P.info? f.type).isSome && flOk P fs l
  | _, _ => false
/-- No variable that is told cell by cell, nor within. -/
def nvIn : Ty → Bool
  | .var _ => false
  | .slice _ e => !isVar e
  | _ => true
/-- Fields that are one cell each, held against each other by '=='. -/
def scOk (P : Program) (e : Ty) (t : TypeId) : Bool := match e, P.underlying t with
  | .int k, some (.int k') => decide (k = k')
  | .bool, some .bool => true
  | .str, some .string => true
  | _, _ => false
def eqFs (P : Program) : Ty → Nat → List Field → Bool
  | e, off, [f] => decide (f.offset = off) && decide (f.name ≠ "_") && scOk P e f.type
  | .pair a b, off, f :: g :: r => decide (f.offset = off) && decide (f.name ≠ "_") && scOk P a f.type && eqFs P b (off + 1) (g :: r)
  | _, _, _ => false
def eqTy (P : Program) (t : TypeId) (e : Ty) : Bool := match P.underlying t with
  | some (.struct fs) => !P.eqGuardType P.depth t && !P.stoodInHeld t && eqFs P e 0 fs.toList
  | _ => false
def tiOk (P : Program) (t : TypeId) (x : TI) : Bool := (eOk P t x.e && nvIn x.e) && (!(x.agg && allScl x.e) || eqTy P t x.e) && match P.underlying t with
  | some d => decide (aggD d = x.agg) && (match x.e, d with
    | .slice te e, .slice te' => decide (te = te') && eOk P te e && decide (0 < e.size)
    | .slice _ _, _ => x.agg
    | .int k, .int k' => decide (k = k')
    | .int _, _ => x.agg
    | .str, .string => true
    | .str, _ => x.agg
    | .bool, .bool => true
    | .bool, _ => x.agg
    | _, _ => true) && (match d with
    | .struct fs => flOk P fs.toList x.fl && (isArr x).isNone
    | .array n te => decide (x.fl.length = 0) && (match isArr x with | some (a, m) => decide (m = n) && (eOk P te a && scOk P a te) | none => false)
    | _ => decide (x.fl.length = 0))
  | none => false
def tabOk (P : Program) (T : Tab) : Bool := T.all fun p => tiOk P p.1 p.2
def bOk (P : Program) (B : List (Nat × Nat)) : Bool := B.all fun p => match P.info? p.1 with
  | some i => decide (i.bytes = p.2 ∧ 0 < p.2)
  | none => false
theorem look_mem {α : Type} {l : List (Nat × α)} {t : Nat} {x : α} (h : look l t = some x) : (t, x) ∈ l := by
  induction l with
  | nil => cases h
  | cons p r ih =>
    obtain ⟨k, y⟩ := p
    unfold look at h
    split at h
    · rename_i hk
      have : k = t := Nat.eq_of_beq_eq_true hk
      subst this
      obtain rfl := Option.some.inj h
      exact List.mem_cons_self
    · exact List.mem_cons_of_mem _ (ih h)
structure TOk (P : Program) (E : Env) : Prop where
  tab : tabOk P E.T = true
  bytes : bOk P E.B = true
theorem TOk.ti {P : Program} {E : Env} (h : TOk P E) {t : TypeId} {x : TI} (hx : look E.T t = some x) : tiOk P t x = true := by
  have := List.all_eq_true.1 h.tab _ (look_mem hx)
  exact this
theorem eOk_spec {P : Program} {t : TypeId} {e : Ty} (h : eOk P t e = true) : ∃ i z, P.info? t = some i ∧ i.size = e.size ∧ i.zero = some z ∧ z.cells.toList = zeroV e := by
  unfold eOk at h
  split at h
  · rename_i i hi
    simp only [Bool.and_eq_true, decide_eq_true_eq] at h
    split at h
    · rename_i z hz
      exact ⟨i, z, hi, h.1, hz, sameL_eq h.2⟩
    · cases h.2
  · cases h
theorem TOk.e {P : Program} {E : Env} (h : TOk P E) {t : TypeId} {x : TI} (hx : look E.T t = some x) : ∃ i z, P.info? t = some i ∧ i.size = x.e.size ∧ i.zero = some z ∧ z.cells.toList = zeroV x.e := by
  have := h.ti hx
  simp only [tiOk, Bool.and_eq_true] at this
  exact eOk_spec this.1.1.1
theorem TOk.nv {P : Program} {E : Env} (h : TOk P E) {t : TypeId} {x : TI} (hx : look E.T t = some x) : isVar x.e = false ∧ ∀ te e, x.e = .slice te e → isVar e = false := by
  have := h.ti hx
  simp only [tiOk, Bool.and_eq_true] at this
  have h1 := this.1.1.2
  constructor
  · cases he : x.e <;> first | rfl | (rw [he] at h1; cases h1)
  · intro te e he
    rw [he] at h1
    simpa [nvIn] using h1
theorem TOk.eq {P : Program} {E : Env} (h : TOk P E) {t : TypeId} {x : TI} (hx : look E.T t = some x) (ha : x.agg = true) (hs : allScl x.e = true) : eqTy P t x.e = true := by
  have := h.ti hx
  simp only [tiOk, Bool.and_eq_true] at this
  have := this.1.2
  simpa [ha, hs] using this
theorem TOk.d {P : Program} {E : Env} (h : TOk P E) {t : TypeId} {x : TI} (hx : look E.T t = some x) : ∃ d, P.underlying t = some d ∧ aggD d = x.agg ∧ (∀ fs, d = .struct fs → flOk P fs.toList x.fl = true) ∧ ((∀ fs, d ≠ .struct fs) → x.fl = []) ∧ (x.agg = false → ∀ k, x.e = .int k → d = .int k) ∧ (x.agg = false → x.e = .str → d = .string) ∧ (x.agg = false → x.e = .bool → d = .bool) := by
  have := h.ti hx
  simp only [tiOk, Bool.and_eq_true] at this
  obtain ⟨_, h2⟩ := this
  split at h2
  · rename_i d hd
    simp only [Bool.and_eq_true, decide_eq_true_eq] at h2
    obtain ⟨⟨h3, h4⟩, h5⟩ := h2
    refine ⟨d, hd, h3, fun fs e => ?_, fun hn => ?_, fun ha k hk => ?_, fun ha hk => ?_, fun ha hk => ?_⟩
    · subst e
      simp only [Bool.and_eq_true] at h5
      exact h5.1
    · split at h5
      · rename_i fs; exact absurd rfl (hn fs)
      · simp only [Bool.and_eq_true, decide_eq_true_eq] at h5
        exact List.eq_nil_of_length_eq_zero h5.1
      · simp at h5; exact h5
    · rw [hk, ha] at h4
      cases d <;> simp at h4
      rw [h4]
    · rw [hk, ha] at h4
      cases d <;> simp at h4
      rfl
    · rw [hk, ha] at h4
      cases d <;> simp at h4
      rfl
  · cases h2
theorem TOk.arr {P : Program} {E : Env} (h : TOk P E) {t : TypeId} {x : TI} (hx : look E.T t = some x) {a : Ty} {m : Nat} (ha : isArr x = some (a, m)) : ∃ te, P.underlying t = some (.array m te) ∧ eOk P te a = true ∧ scOk P a te = true := by
  have := h.ti hx
  simp only [tiOk, Bool.and_eq_true] at this
  obtain ⟨_, h2⟩ := this
  split at h2
  · rename_i d hd
    simp only [Bool.and_eq_true, decide_eq_true_eq] at h2
    obtain ⟨⟨h3, h4⟩, h5⟩ := h2
    have hagg : x.agg = true := by
      unfold isArr at ha
      split at ha
      · assumption
      · cases ha
    cases d with
    | struct fs => simp [ha] at h5
    | array n te =>
      simp only [ha, Bool.and_eq_true, decide_eq_true_eq] at h5
      obtain ⟨_, rfl, h6, h7⟩ := h5
      exact ⟨te, hd, h6, h7⟩
    | _ => rw [hagg] at h3; cases h3
  · cases h2
theorem TOk.slice {P : Program} {E : Env} (h : TOk P E) {t te : TypeId} {e : Ty} {agg : Bool} {fl : List (Nat × TypeId)} (hx : look E.T t = some ⟨.slice te e, agg, fl⟩) (ha : agg = false) : P.underlying t = some (.slice te) ∧ 0 < e.size ∧ ∃ i z, P.info? te = some i ∧ i.size = e.size ∧ i.zero = some z ∧ z.cells.toList = zeroV e := by
  subst ha
  have := h.ti hx
  simp only [tiOk, Bool.and_eq_true] at this
  obtain ⟨_, h2⟩ := this
  split at h2
  · rename_i d hd
    simp only [Bool.and_eq_true, decide_eq_true_eq] at h2
    obtain ⟨⟨h3, h4⟩, h5⟩ := h2
    cases d <;> simp at h4
    obtain ⟨⟨rfl, h6⟩, h7⟩ := h4
    exact ⟨hd, h7, eOk_spec h6⟩
  · cases h2
theorem flOk_at {P : Program} : ∀ {fs : List Field} {l : List (Nat × TypeId)} {i : Nat} {o : Nat} {t : TypeId}, flOk P fs l = true → l[i]? = some (o, t) → ∃ f, fs[i]? = some f ∧ f.offset = o ∧ f.type = t
  | [], [], _, _, _, _, h => by simp at h
  | f :: fs, (o, t) :: l, 0, _, _, h, h' => by
    simp only [flOk, Bool.and_eq_true, decide_eq_true_eq] at h
    simp at h'
    exact ⟨f, by simp, h.1.1.1.trans h'.1, h.1.1.2.trans h'.2⟩
  | f :: fs, (o, t) :: l, i + 1, _, _, h, h' => by
    simp only [flOk, Bool.and_eq_true] at h
    simpa using flOk_at h.2 (by simpa using h')
  | [], _ :: _, _, _, _, h, _ => by cases h
  | _ :: _, [], _, _, _, h, _ => by cases h
theorem flOk_places {P : Program} : ∀ {fs : List Field} {l : List (Nat × TypeId)}, flOk P fs l = true → ∃ places, fs.mapM (fun f => (P.info? f.type).map fun i => (f.offset, i.size)) = some places ∧
    ∀ (i : Nat) o t, l[i]? = some (o, t) → ∃ inf, P.info? t = some inf ∧ places[i]? = some (o, inf.size)
  | [], [], _ => ⟨[], by simp, fun i o t h => by simp at h⟩
  | f :: fs, (o, t) :: l, h => by
    simp only [flOk, Bool.and_eq_true, decide_eq_true_eq] at h
    obtain ⟨⟨⟨rfl, rfl⟩, h2⟩, h3⟩ := h
    obtain ⟨inf, hi⟩ := Option.isSome_iff_exists.1 h2
    obtain ⟨places, h4, h5⟩ := flOk_places h3
    refine ⟨(f.offset, inf.size) :: places, by simp [List.mapM_cons, hi, h4], fun i o t h => ?_⟩
    cases i with
    | zero => simp at h; obtain ⟨rfl, rfl⟩ := h; exact ⟨inf, hi, rfl⟩
    | succ i => simpa using h5 i o t (by simpa using h)
  | [], _ :: _, h => by cases h
  | _ :: _, [], h => by cases h
theorem TOk.field {P : Program} {E : Env} (h : TOk P E) {t : TypeId} {x : TI} (hx : look E.T t = some x) {i o : Nat} {ft : TypeId} (hi : nth x.fl i = some (o, ft)) : ∃ fs f, P.underlying t = some (.struct fs) ∧ fs[i]? = some f ∧ f.offset = o ∧ f.type = ft := by
  obtain ⟨d, hd, _, h3, h4, _⟩ := h.d hx
  rw [nth_eq] at hi
  cases d with
  | struct fs =>
    obtain ⟨f, h5, h6⟩ := flOk_at (h3 fs rfl) hi
    exact ⟨fs, f, hd, by simpa using h5, h6⟩
  | _ =>
    rw [h4 (by intro fs; simp)] at hi
    simp at hi
/-! ### Reading -/
section
variable {cx : Cx} {ι : Lay} {st : State} {ts : Array Value} {w : World}
abbrev CRs (cx : Cx) (ι : Lay) (st : State) (w : World) : Cell → Value → Prop := CR cx w ι st.σ
theorem constC_rel (v : Value) : CRs cx ι st w (constC v) v := by
  unfold constC
  cases v with
  | slice A n c =>
    rcases A with _ | a
    · rcases n with _ | n
      · rcases c with _ | c
        · simp [CR]
        · simp [CR]
      · simp [CR]
    · simp [CR]
  | func fn first captured =>
    cases fn with
    | func f =>
      dsimp only
      split
      · rename_i h1 h2
        have h1 := Array.toList_eq_nil_iff.1 h1
        have h2 := Array.toList_eq_nil_iff.1 h2
        simp [CR, h1, h2]
      · simp [CR]
    | _ => simp [CR]
  | _ => simp [CR]
theorem Sim.ev {a : Act} (h : Sim cx ι st a.tmps w) (x : Operand) : VR (CRs cx ι st w) (st.ev x) (a.eval x) := by
  cases x with
  | tmp t =>
    simp only [State.ev, Act.eval, nth_eq]
    split
    · rename_i v hv
      obtain ⟨u, h1, h2⟩ := h.tmps t v hv
      rw [Array.getD_eq_getD_getElem?, h1]
      exact h2
    · trivial
  | const v =>
    unfold State.ev
    split
    · rename_i t e; cases e
    · rename_i cs e
      injection e with e
      subst e
      refine ⟨cs, rfl, ?_⟩
      have : ∀ l : List Value, All2 (CRs cx ι st w) (l.map constC) l := by
        intro l
        induction l with
        | nil => exact .nil
        | cons a r ih => exact .cons (constC_rel a) ih
      exact this _
    · rename_i e
      injection e with e
      subst e
      exact constC_rel _
    · rename_i e; cases e
    · rename_i e; cases e
  | global g => trivial
  | func f => rfl
theorem deadC_rel : ∀ (n : Nat) (vs : List Value), vs.length = n → All2 (CRs cx ι st w) (deadC n) vs
  | 0, [], _ => .nil
  | 0, _ :: _, h => by cases h
  | n + 1, [], h => by cases h
  | n + 1, v :: vs, h => .cons trivial (deadC_rel n vs (by simpa using h))
theorem enc_rel {fr : Bool} : ∀ {e : Ty} {x : e.den} {vs : List Value}, RD w (Rdb cx w ι st.σ fr) e x vs → All2 (CRs cx ι st w) (enc e x fr) vs
  | .int _, _, _, h => by cases h; exact .cons rfl .nil
  | .bool, _, _, h => by cases h; exact .cons rfl .nil
  | .str, _, _, h => by cases h; exact .cons rfl .nil
  | .unit, _, _, h => by cases h; exact .nil
  | .var n, _, vs, h => deadC_rel n vs h.1
  | .pair _ _, _, _, h => by
    obtain ⟨v1, v2, rfl, h1, h2⟩ := h
    rw [enc, app_eq]
    exact (enc_rel h1).app (enc_rel h2)
  | .slice _ _, _, _, h => by
    obtain ⟨A, c, rfl, h'⟩ := h
    exact .cons ⟨A, c, rfl, h'⟩ .nil
theorem Rdb.le {σ : List (Option Reg)} {fr fr' : Bool} (h : fr' = true → fr = true) {k : Nat} (hk : Rdb cx w ι σ fr k) : Rdb cx w ι σ fr' k := by
  refine ⟨hk.1, hk.2.1, hk.2.2.imp id fun h1 => ⟨?_, h1.2⟩⟩
  cases fr' with
  | false => rfl
  | true => rw [h rfl] at h1; cases h1.1
theorem RD.le {σ : List (Option Reg)} {fr fr' : Bool} (h : fr' = true → fr = true) {e : Ty} {x : e.den} {vs : List Value} (hx : RD w (Rdb cx w ι σ fr) e x vs) : RD w (Rdb cx w ι σ fr') e x vs := hx.mono (fun _ hk => hk.le h) (fun _ _ => rfl)
theorem RDs.le {σ : List (Option Reg)} {fr fr' : Bool} (h : fr' = true → fr = true) {e : Ty} {x : List e.den} {vs : List Value} (hx : RDs w (Rdb cx w ι σ fr) e x vs) : RDs w (Rdb cx w ι σ fr') e x vs := hx.mono (fun _ hk => hk.le h) (fun _ _ => rfl)
theorem frs_app : ∀ {l m : List Cell}, frs (l ++ m) = (frs l && frs m)
  | [], _ => rfl
  | c :: l, m => by
    cases c <;> simp [frs, frs_app, Bool.and_assoc]
theorem dec_rel {fr : Bool} : ∀ {e : Ty} {cs rest : List Cell} {x : e.den} {vs : List Value}, dec e cs = some (x, rest) → All2 (CRs cx ι st w) cs vs → (fr = true → frs cs = true) →
    ∃ v1 v2, vs = v1 ++ v2 ∧ RD w (Rdb cx w ι st.σ fr) e x v1 ∧ All2 (CRs cx ι st w) rest v2 ∧ (fr = true → frs rest = true)
  | .int k, cs, rest, x, vs, h, hr, hf => by
    cases hr with
    | nil => simp [dec] at h
    | cons h1 h2 =>
      rename_i c v l m
      cases c <;> simp [dec] at h
      obtain ⟨rfl, rfl, rfl⟩ := h
      exact ⟨[v], m, rfl, by cases h1; rfl, h2, hf⟩
  | .bool, cs, rest, x, vs, h, hr, hf => by
    cases hr with
    | nil => simp [dec] at h
    | cons h1 h2 =>
      rename_i c v l m
      cases c <;> simp [dec] at h
      obtain ⟨rfl, rfl⟩ := h
      exact ⟨[v], m, rfl, by cases h1; rfl, h2, hf⟩
  | .str, cs, rest, x, vs, h, hr, hf => by
    cases hr with
    | nil => simp [dec] at h
    | cons h1 h2 =>
      rename_i c v l m
      cases c <;> simp [dec] at h
      obtain ⟨rfl, rfl⟩ := h
      exact ⟨[v], m, rfl, by cases h1; rfl, h2, hf⟩
  | .var n, cs, rest, x, vs, h, hr, hf => by
    cases cs with
    | nil => simp [dec] at h
    | cons c cs => cases c <;> simp [dec] at h
  | .unit, cs, rest, x, vs, h, hr, hf => by
    simp [dec] at h
    subst h
    exact ⟨[], vs, rfl, rfl, hr, hf⟩
  | .pair a b, cs, rest, x, vs, h, hr, hf => by
    unfold dec at h
    split at h
    · rename_i x1 r1 h1
      split at h
      · rename_i x2 r2 h2
        simp only [Option.some.injEq, Prod.mk.injEq] at h
        obtain ⟨rfl, rfl⟩ := h
        obtain ⟨v1, v2, rfl, h3, h4, h5⟩ := dec_rel h1 hr hf
        obtain ⟨v3, v4, rfl, h6, h7, h8⟩ := dec_rel h2 h4 h5
        exact ⟨v1 ++ v3, v4, by rw [List.append_assoc], ⟨v1, v3, rfl, h3, h6⟩, h7, h8⟩
      · cases h
    · cases h
  | .slice t e, cs, rest, x, vs, h, hr, hf => by
    cases hr with
    | nil => simp [dec] at h
    | cons h1 h2 =>
      rename_i c v l m
      cases c <;> simp [dec] at h
      · obtain ⟨rfl, rfl⟩ := h
        exact ⟨[v], m, rfl, by cases h1; exact ⟨none, 0, rfl, Nat.le_refl _, fun i hi => by simp at hi⟩, h2, hf⟩
      · rename_i t' e' l' fr'
        obtain ⟨⟨he, hx⟩, rfl⟩ := h
        subst he
        subst hx
        refine ⟨[v], m, rfl, RD.le (fun hh => ?_) h1, h2, fun hh => ?_⟩
        · have := hf hh; simp [frs] at this; exact this.1
        · have := hf hh; simp [frs] at this; exact this.2
theorem dec1_rel {fr : Bool} {e : Ty} {cs : List Cell} {x : e.den} {vs : List Value} (h : dec1 e cs = some x) (hr : All2 (CRs cx ι st w) cs vs) (hf : fr = true → frs cs = true) : RD w (Rdb cx w ι st.σ fr) e x vs := by
  unfold dec1 at h
  split at h
  · rename_i y hy
    obtain rfl := Option.some.inj h
    obtain ⟨v1, v2, rfl, h1, h2, _⟩ := dec_rel hy hr hf
    cases h2
    simpa using h1
  · cases h
theorem dec1_nv {e : Ty} {cs : List Cell} {x : e.den} (h : dec1 e cs = some x) : isVar e = false := by
  cases e with
  | var n =>
    unfold dec1 at h
    cases cs with
    | nil => simp [dec] at h
    | cons c cs => cases c <;> simp [dec] at h
  | _ => rfl
/-- A row, read at one place. -/
theorem RegR.at {A : Option Addr} {c : Nat} {g : Reg} (h : RegR cx w ι st.σ A c g) (i : Nat) (hi : i < g.l.length) :
    ∃ a us, A = some a ∧ RD w (Rdb cx w ι st.σ g.fr) g.e g.l[i] us ∧ ∀ j u, us[j]? = some u → w.cell? (a.add (i * g.e.size + j)) = some u := by
  cases ho : g.own with
  | false =>
    obtain ⟨A', c', e, _, h1⟩ := h.2 ho
    simp only [List.cons.injEq, Value.slice.injEq, and_true] at e
    obtain ⟨a, us, h2, _, h3, h4⟩ := h1 i hi
    exact ⟨a, us, by rw [e.1]; exact h2, h3, h4⟩
  | true =>
    obtain ⟨xs, h1, h2, _⟩ := h.1 ho
    obtain ⟨us, h3, h4⟩ := h1.at i hi
    rcases h2.2 with ⟨_, hl⟩ | ⟨b, cap, cur, e, h5⟩
    · rw [hl] at hi; cases hi
    · injection e with e1 e2 e3
      refine ⟨⟨b, 0, none⟩, us, e1, h3, fun j u hu => ?_⟩
      exact h2.cells (g := b) (by rw [e1]; rfl) _ u (h4 j u hu)
theorem rd_get {e : Ty} {l : List e.den} {i : Nat} (hi : i < l.length) : rd e l i = l[i] := by
  unfold rd
  rw [List.getD_eq_getElem?_getD, List.getElem?_eq_getElem hi]
  rfl
theorem RegR.cap {A : Option Addr} {c : Nat} {g : Reg} (h : RegR cx w ι st.σ A c g) : g.l.length ≤ c := by
  cases ho : g.own with
  | false =>
    obtain ⟨A', c', e, h1, _⟩ := h.2 ho
    simp only [List.cons.injEq, Value.slice.injEq, and_true] at e
    rw [e.2.2]; exact h1
  | true =>
    obtain ⟨xs, h1, h2, _⟩ := h.1 ho
    rcases h2.2 with ⟨e, hl⟩ | ⟨b, cap, cur, e, _, _, h4, _⟩
    · rw [hl]; exact Nat.zero_le _
    · injection e with _ _ e3; rw [e3]; exact h4
theorem add_add' (a : Addr) (m n : Nat) : (a.add m).add n = a.add (m + n) := by
  unfold Addr.add
  split <;> split <;> simp_all <;> omega
end
end Go.Proofs.Ytpfjneaoankllaa.Ev

namespace Go.Proofs.Ytpfjneaoankllaa.Ev
open Go.RowKit
section
variable {cx : Cx} {ι : Lay} {st : State} {ts : Array Value} {w : World}
/-! ### Rows that are read ever after -/
/-- Only the flag 'own' has gone from a row. -/
theorem emb_set {r : Nat} {g : Reg} (hr : live st.σ r g) (hf : g.own = true → g.fr = true) : ∀ c, embC (st.set r (some ⟨g.t, g.e, g.l, false, g.fr⟩)) c = embC st c := by
  intro c
  cases c with
  | ref r' s =>
    simp only [embC]
    by_cases h : r' = r
    · subst h
      rw [reg_eq.2 hr, (reg_eq (st := st.set r' (some ⟨g.t, g.e, g.l, false, g.fr⟩)) (g := ⟨g.t, g.e, g.l, false, g.fr⟩)).2 (by rw [set_σ]; exact live_set.2 (.inl ⟨rfl, live_lt hr, rfl⟩))]
      obtain ⟨t, e, l, own, fr⟩ := g
      dsimp only at hf ⊢
      cases own <;> cases fr <;> simp_all
    · have : (st.set r (some ⟨g.t, g.e, g.l, false, g.fr⟩)).reg r' = st.reg r' := by
        unfold State.reg
        rw [nth_eq, nth_eq, set_σ, List.getElem?_set_ne (Ne.symm h)]
      rw [this]
  | _ => rfl
theorem embL_set {r : Nat} {g : Reg} (hr : live st.σ r g) (hf : g.own = true → g.fr = true) : ∀ cs, embL (st.set r (some ⟨g.t, g.e, g.l, false, g.fr⟩)) cs = embL st cs
  | [] => rfl
  | c :: cs => by unfold embL; rw [emb_set hr hf, embL_set hr hf cs]
theorem On.refl : On cx ι st.σ w ι st.σ w := ⟨Nat.le_refl _, fun _ _ h => h, fun _ _ _ => rfl, Nat.le_refl _, fun _ g' h1 _ => ⟨g', h1, rfl, rfl, rfl⟩⟩
theorem On.trans {ι1 ι2 : Lay} {σ1 σ2 : List (Option Reg)} {w1 w2 : World} {σ : List (Option Reg)} (h : On cx ι σ w ι1 σ1 w1) (h' : On cx ι1 σ1 w1 ι2 σ2 w2) : On cx ι σ w ι2 σ2 w2 := by
  refine ⟨Nat.le_trans h.size h'.size, fun k hk ho => h.own k hk (h'.own k (Nat.lt_of_lt_of_le hk h.size) ho), fun k hk ho => ?_, Nat.le_trans h.len h'.len, fun r g' h1 h2 => ?_⟩
  · exact (h'.heap k (Nat.lt_of_lt_of_le hk h.size) (fun hh => ho (h.own k hk hh))).trans (h.heap k hk ho)
  · obtain ⟨g1, h3, h4, h5, h6⟩ := h'.refs r g' h1 (Nat.lt_of_lt_of_le h2 h.len)
    obtain ⟨g2, h7, h8, h9, h10⟩ := h.refs r g1 h3 h2
    exact ⟨g2, h7, h4.trans h8, h5.trans h9, h6.trans h10⟩
theorem On.freeze1 {r : Nat} {g : Reg} (hr : live st.σ r g) : On cx ι st.σ w ι (st.set r (some ⟨g.t, g.e, g.l, false, g.fr⟩)).σ w := by
  have back : ∀ r' g', live (st.set r (some ⟨g.t, g.e, g.l, false, g.fr⟩)).σ r' g' → (r' = r ∧ g' = ⟨g.t, g.e, g.l, false, g.fr⟩) ∨ (r' ≠ r ∧ live st.σ r' g') := fun r' g' h1 => by
    rw [set_σ] at h1
    rcases live_set.1 h1 with ⟨h4, _, h5⟩ | h5
    · exact .inl ⟨h4, (Option.some.inj h5).symm⟩
    · exact .inr h5
  refine ⟨Nat.le_refl _, fun k _ h2 => ?_, fun _ _ _ => rfl, by rw [set_σ]; simp, fun r' g' h1 _ => ?_⟩
  · obtain ⟨r', g', a, h3, h4, h5⟩ := h2
    rcases back r' g' h3 with ⟨_, rfl⟩ | ⟨_, h6⟩
    · cases h4
    · exact ⟨r', g', a, h6, h4, h5⟩
  · rcases back r' g' h1 with ⟨rfl, rfl⟩ | ⟨_, h6⟩
    · exact ⟨g, hr, rfl, rfl, rfl⟩
    · exact ⟨g', h6, rfl, rfl, rfl⟩
/-- A view of a row that is only read. -/
theorem view_rd {N : Nat → Prop} {A : Option Addr} {c : Nat} {g : Reg} (h : RD w N (.slice g.t g.e) g.l [.slice A g.l.length c]) {s : Slc} {v : Value} (hs : SlR A c g.e.size g.l.length s v) :
    RD w N (.slice g.t g.e) (view g.l s) [v] := by
  obtain ⟨A', c', e, hc, h⟩ := h
  simp only [List.cons.injEq, Value.slice.injEq, and_true, true_and] at e
  obtain ⟨rfl, rfl⟩ := e
  cases s with
  | all => subst hs; exact ⟨A, c, rfl, hc, h⟩
  | pre n =>
    obtain ⟨hn, rfl⟩ := hs
    have hl : (preL g.l n).length = n := by unfold preL; rw [List.length_take]; omega
    refine ⟨A, c, by show [Value.slice A n c] = [Value.slice A (preL g.l n).length c]; rw [hl], by show (preL g.l n).length ≤ c; omega, fun i hi => ?_⟩
    have hi' : i < n := by have : i < (preL g.l n).length := hi; omega
    obtain ⟨a, us, h1, h2, h3, h4⟩ := h i (by omega)
    refine ⟨a, us, h1, h2, ?_, h4⟩
    have : (view g.l (.pre n))[i]'hi = g.l[i] := by show (g.l.take n)[i]'hi = _; exact List.getElem_take ..
    rw [this]; exact h3
  | sub o n =>
    obtain ⟨hn, A', c', rfl, hc', hA⟩ := hs
    have hl : (subL g.l o n).length = n := by unfold subL; rw [List.length_take, List.length_drop]; omega
    refine ⟨A', c', by show [Value.slice A' n c'] = [Value.slice A' (subL g.l o n).length c']; rw [hl], by show (subL g.l o n).length ≤ c'; omega, fun i hi => ?_⟩
    have hi' : i < n := by have : i < (subL g.l o n).length := hi; omega
    obtain ⟨a, us, h1, h2, h3, h4⟩ := h (o + i) (by omega)
    obtain ⟨a', h5, h6⟩ := hA (by omega)
    have : a' = a := Option.some.inj (h5.symm.trans h1)
    subst this
    refine ⟨_, us, h6, ?_, ?_, fun j u hu => ?_⟩
    · have : (a'.add (o * g.e.size)).block = a'.block := by unfold Addr.add; split <;> rfl
      rw [this]; exact h2
    · have q : ∀ h', ((g.l.drop o).take n)[i]'h' = g.l[o + i] := fun h' => by rw [List.getElem_take, List.getElem_drop]
      have : (view g.l (.sub o n))[i]'hi = g.l[o + i] := q hi
      rw [this]; exact h3
    · rw [add_add', show o * g.e.size + (i * g.e.size + j) = (o + i) * g.e.size + j from by rw [Nat.add_mul]; omega]
      exact h4 j u hu
theorem embL_rel : ∀ {cs cs' : List Cell} {vs : List Value} {st : State}, Sim cx ι st ts w → All2 (CRs cx ι st w) cs vs → embL st cs = some cs' →
    Sim cx ι (freeze st cs) ts w ∧ On cx ι st.σ w ι (freeze st cs).σ w ∧ All2 (CRs cx ι (freeze st cs) w) cs' vs
  | [], cs', vs, st, h, hr, he => by
    cases hr
    cases he
    exact ⟨h, On.refl, .nil⟩
  | c :: cs, cs', vs, st, h, hr, he => by
    cases hr with
    | cons h1 h2 =>
    rename_i v vs
    unfold embL at he
    split at he
    · rename_i c' hc'
      split at he
      · rename_i r' hr'
        obtain rfl := Option.some.inj he
        have plain : (∀ r s, c ≠ .ref r s) → freeze st (c :: cs) = freeze st cs ∧ CRs cx ι st w c' v := by
          intro hn
          refine ⟨by cases c <;> first | rfl | exact absurd rfl (hn _ _), ?_⟩
          cases c <;> simp [embC, expC] at hc' <;> first | (subst hc'; exact h1) | exact absurd rfl (hn _ _)
        by_cases hn : ∀ r s, c ≠ .ref r s
        · obtain ⟨e1, h3⟩ := plain hn
          rw [e1]
          obtain ⟨h4, h5, h6⟩ := embL_rel h h2 hr'
          exact ⟨h4, h5, .cons (h5.cr h3) h6⟩
        · have : ∃ r s, c = .ref r s := by
            cases c <;> first | exact ⟨_, _, rfl⟩ | exact absurd (fun _ _ => by simp) hn
          obtain ⟨r, s, rfl⟩ := this
          simp only [embC] at hc'
          split at hc'
          · rename_i t e l own fr hreg
            have hr := reg_eq.1 hreg
            have hf : own = true → fr = true := by
              intro ho
              subst ho
              cases fr
              · simp at hc'
              · rfl
            have hc'' : c' = .lst t e (view l s) fr := by
              cases own <;> cases fr <;> simp at hc' <;> exact hc'.symm
            subst hc''
            have e1 : freeze st (.ref r s :: cs) = freeze (st.set r (some ⟨t, e, l, false, fr⟩)) cs := by
              rw [freeze, hreg]
            have hs1 := h.freeze1 hr hf
            have ho1 : On cx ι st.σ w ι (st.set r (some ⟨t, e, l, false, fr⟩)).σ w := On.freeze1 (g := ⟨t, e, l, own, fr⟩) hr
            obtain ⟨h4, h5, h6⟩ := embL_rel hs1 (h2.imp fun _ _ => ho1.cr) ((embL_set hr hf cs).trans hr')
            rw [e1]
            refine ⟨h4, ho1.trans h5, .cons ?_ h6⟩
            refine h5.cr (c := .lst t e (view l s) fr) ?_
            have hl : live (st.set r (some ⟨t, e, l, false, fr⟩)).σ r ⟨t, e, l, false, fr⟩ := by rw [set_σ]; exact live_set.2 (.inl ⟨rfl, live_lt hr, rfl⟩)
            exact view_rd (g := ⟨t, e, l, false, fr⟩) ((hs1.regs r _ hl).2 rfl) (h1.2 ⟨t, e, l, own, fr⟩ hr)
          · cases hc'
      · cases he
    · cases he
/-! ### Operations -/
/-- What follows an operation. -/
def Nx {R : Type} (cx : Cx) (K : State → Option R) (r : R) (next : Act → World → Prop) : Prop :=
  ∀ st ι a w, Sim cx ι st a.tmps w → a.defers = [] → K st = some r → next a w
theorem act_put (a : Act) (d : Option Tmp) (u : Value) : (a.put d u).tmps = (Act.put ⟨a.tmps, []⟩ d u).tmps ∧ (a.put d u).defers = a.defers := by cases d <;> exact ⟨rfl, rfl⟩
section
variable {P : Program} {E : Env} {o : Oper} {a : Act} {R : Type} {K : State → Option R} {r : R} {next : Act → World → Prop} {Q : Exit → Act → World → Prop}
theorem Nx.put (hN : Nx cx K r next) (hs : Sim cx ι st a.tmps w) (hd : a.defers = []) {d : Option Tmp} {v : Val} {u : Value} (hv : VR (CRs cx ι st w) v u) (hK : K (st.put d v) = some r) : next (a.put d u) w := by
  refine hN _ ι _ w ?_ ?_ hK
  · rw [(act_put a d u).1]; exact hs.put d v u hv
  · rw [(act_put a d u).2]; exact hd
theorem wp_val {u : Value} {w' : World} (hrun : (execOp a.eval o).run P w = .ok (.value u) w') (hn : next (a.put o.dst u) w') : o.wp P a w next Q := by
  unfold Oper.wp
  rw [hrun]
  exact hn
theorem wp_skip' {w' : World} (hrun : (execOp a.eval o).run P w = .ok .skip w') (hn : next (a.put o.dst undef) w') : o.wp P a w next Q := by
  unfold Oper.wp
  rw [hrun]
  exact hn
/-- A slice's cell laid into a row. -/
theorem imp_rel {T : Tab} {t : TypeId} {c c' : Cell} {st' : State} {u : Value} (hs : Sim cx ι st ts w) (hc : CRs cx ι st w c u) (h : imp T t st c = (c', st')) : ∃ ι', Sim cx ι' st' ts w ∧ CRs cx ι' st' w c' u ∧ st'.ts = st.ts := by
  have kp : Kp (fun _ => False) w w := ⟨rfl, rfl, rfl, Nat.le_refl _, fun _ _ _ => rfl⟩
  have same : ∀ x : Cell × State, (x = (c', st')) → x = (c, st) → ∃ ι', Sim cx ι' st' ts w ∧ CRs cx ι' st' w c' u ∧ st'.ts = st.ts := fun x h1 h2 => by
    rw [h2] at h1
    injection h1 with h3 h4
    subst h3 h4
    exact ⟨ι, hs, hc, rfl⟩
  have hσ : ∀ g, (st.new g).σ = st.σ ++ [some g] := fun g => by simp [State.new, app_eq]
  have hself : ∀ (A : Option Addr) (n : Nat), lay ι st.σ.length (A, n) st.σ.length = (A, n) := fun A n => by unfold lay; rw [if_pos rfl]
  cases c with
  | emp =>
    simp only [imp] at h
    split at h
    · rename_i te e _ _ _
      injection h with h3 h4
      subst h3 h4
      refine ⟨lay ι st.σ.length (none, 0), hs.add kp ⟨te, e, [], true, true⟩ none 0 (fun _ => ⟨fun a ha => by (cases ha), [], World.ownsRow_nil w 0 te e.size, VarR.nil, fun _ => rfl⟩) (fun h => by cases h), ?_, rfl⟩
      rw [count_eq]
      refine ⟨by rw [hσ]; simp, fun g hg => ?_⟩
      rw [hσ] at hg
      rcases live_new.1 hg with h5 | ⟨_, rfl⟩
      · exact absurd (live_lt h5) (Nat.lt_irrefl _)
      · rw [hself]; exact hc
    · exact same _ h rfl
  | lst te e l fr =>
    simp only [imp] at h
    injection h with h3 h4
    subst h3 h4
    obtain ⟨A, n, e1, h5, h6⟩ := hc
    simp only [List.cons.injEq, and_true] at e1
    subst e1
    refine ⟨lay ι st.σ.length (A, n), hs.add kp ⟨te, e, l, false, fr⟩ A n (fun h => by cases h) (fun _ => ⟨A, n, rfl, h5, h6⟩), ?_, rfl⟩
    rw [count_eq]
    refine ⟨by rw [hσ]; simp, fun g hg => ?_⟩
    rw [hσ] at hg
    rcases live_new.1 hg with h7 | ⟨_, rfl⟩
    · exact absurd (live_lt h7) (Nat.lt_irrefl _)
    · rw [hself]; rfl
  | own _ _ _ _ => exact absurd hc id
  | _ => exact same _ h rfl
theorem impV_rel {T : Tab} {t : TypeId} {c c' : Val} {st' : State} {u : Value} (hs : Sim cx ι st ts w) (hc : VR (CRs cx ι st w) c u) (h : impV T t st c = (c', st')) : ∃ ι', Sim cx ι' st' ts w ∧ VR (CRs cx ι' st' w) c' u ∧ st'.ts = st.ts := by
  have same : impV T t st c = (c, st) → ∃ ι', Sim cx ι' st' ts w ∧ VR (CRs cx ι' st' w) c' u ∧ st'.ts = st.ts := fun h1 => by
    rw [h1] at h
    injection h with h3 h4
    subst h3 h4
    exact ⟨ι, hs, hc, rfl⟩
  cases c with
  | v c =>
    cases c with
    | one c =>
      simp only [impV] at h
      cases hi : imp T t st c with
      | mk c1 st1 =>
        simp only [hi] at h
        injection h with h3 h4
        subst h3 h4
        obtain ⟨ι', h5, h6, h7⟩ := imp_rel hs hc hi
        exact ⟨ι', h5, h6, h7⟩
    | agg cs => exact same rfl
  | _ => exact same rfl
theorem op_move {x : Operand} (ho : o.op = .move x ∨ o.op = .assign x) (hs : Sim cx ι st a.tmps w) (hd : a.defers = []) (hN : Nx cx K r next)
    (h : (match impV E.T o.type st (st.ev x) with | (v, st') => K (st'.put o.dst v)) = some r) : o.wp P a w next Q := by
  refine wp_val (u := a.eval x) (w' := w) (by rcases ho with ho | ho <;> simp [execOp, ho]) ?_
  cases hi : impV E.T o.type st (st.ev x) with
  | mk v st' =>
    rw [hi] at h
    obtain ⟨ι', h1, h2, _⟩ := impV_rel hs (hs.ev x) hi
    exact hN.put h1 hd h2 h
theorem op_pick {c x y : Operand} (ho : o.op = .pick c x y) (hs : Sim cx ι st a.tmps w) (hd : a.defers = []) (hN : Nx cx K r next)
    {q : Bool} (hq : st.ev c = .v (.one (.bool q))) (h : br q (K (st.put o.dst (st.ev x))) (K (st.put o.dst (st.ev y))) = some r) : o.wp P a w next Q := by
  have hc := hs.ev c
  rw [hq] at hc
  have hc : a.eval c = .bool q := hc
  refine wp_val (u := if q then a.eval x else a.eval y) (w' := w) (by simp [execOp, ho, hc, asBool]) ?_
  rcases br_some h with ⟨rfl, h⟩ | ⟨rfl, h⟩
  · exact hN.put hs hd (hs.ev x) h
  · exact hN.put hs hd (hs.ev y) h
/-- A new variable. -/
theorem newVar_sim {t : TypeId} {e : Ty} {x : e.den} {fr : Bool} {cells : Array Value} {u : Value} (hs : Sim cx ι st a.tmps w) (hd : a.defers = []) (hN : Nx cx K r next) (hsz : 0 < e.size ∨ True)
    (hv : VarR cx w ι st.σ e [x] cells.toList) (hx : RD w (Rdb cx w ι st.σ fr) e x cells.toList) (hu : u = .pointer (some ⟨w.heap.size, 0, none⟩))
    (h : K ((st.new ⟨t, e, [x], true, fr⟩).put o.dst (.v (.one (.ptr (count st.σ) 0 0)))) = some r) : next (a.put o.dst u) (w.alloc (.cells cells t)) := by
  subst hu
  have kp : Kp (fun _ => False) w (w.alloc (.cells cells t)) := ⟨rfl, rfl, rfl, by simp, fun k hk _ => Below.heap_alloc w _ k hk⟩
  have hc : cells.size = e.size := by have := hx.size; simpa using this
  have h1 := hs.add kp ⟨t, e, [x], true, fr⟩ (some ⟨w.heap.size, 0, none⟩) 1 (fun _ => ⟨fun a ha => by cases ha; exact Nat.le_refl _, cells.toList,
    ⟨by simp [hc], .inr ⟨w.heap.size, 1, cells, rfl, Nat.zero_le _, heap_alloc_new w _, Nat.le_refl _, by simp [maxLen], by simp [hc], by simp; rw [List.take_of_length_le (by simp [hc])]⟩⟩, hv,
    fun hm => ⟨cells.toList, [], by simp, hx.mono (fun k hk => hm k hk) (fun k hk => Below.heap_alloc w _ k hk.1), rfl⟩⟩) (fun h => by cases h)
  refine hN.put h1 hd (v := .v (.one (.ptr (count st.σ) 0 0))) ?_ h
  have hσ : (st.new ⟨t, e, [x], true, fr⟩).σ = st.σ ++ [some ⟨t, e, [x], true, fr⟩] := by simp [State.new, app_eq]
  rw [count_eq]
  refine ⟨by rw [hσ]; simp, fun g hg => ?_⟩
  rw [hσ] at hg
  rcases live_new.1 hg with h5 | ⟨_, rfl⟩
  · exact absurd (live_lt h5) (Nat.lt_irrefl _)
  · exact ⟨⟨w.heap.size, 0, none⟩, by unfold lay; rw [if_pos rfl], by simp, by simp [Addr.add]⟩
theorem op_alloc (hT : TOk P E) {t : TypeId} (ho : o.op = .alloc t) (hs : Sim cx ι st a.tmps w) (hd : a.defers = []) (hN : Nx cx K r next) {ti : TI} (hti : look E.T t = some ti)
    (h : K ((st.new ⟨t, ti.e, [ti.e.zero], true, true⟩).put o.dst (.v (.one (.ptr (count st.σ) 0 0)))) = some r) : o.wp P a w next Q := by
  obtain ⟨i, z, h1, h2, h3, h4⟩ := hT.e hti
  refine wp_val (u := .pointer (some ⟨w.heap.size, 0, none⟩)) (w' := w.alloc (.cells z.cells t)) ?_ (newVar_sim hs hd hN (.inr trivial) (VarR.nv (hT.nv hti).1) ?_ rfl h)
  · simp [execOp, ho, Instr.alloc, zeroValue, typeInfo, h1, h3, newVar, newRow]
  · rw [h4]; exact zeroV_rd _
theorem zeroV_one : ∀ (e : Ty) (v : Value), v ∈ zeroV e → v.oneCell' = true
  | .int _, v, h => by simp [zeroV] at h; subst h; rfl
  | .bool, v, h => by simp [zeroV] at h; subst h; rfl
  | .str, v, h => by simp [zeroV] at h; subst h; rfl
  | .unit, v, h => by simp [zeroV] at h
  | .slice _ _, v, h => by simp [zeroV] at h; subst h; rfl
  | .var n, v, h => by have := (List.mem_replicate.1 h).2; rw [this]; rfl
  | .pair a b, v, h => by
    rcases List.mem_append.1 h with h | h
    · exact zeroV_one a v h
    · exact zeroV_one b v h
theorem zeroRC_app : ∀ (l m : List Cell), zeroRC (l ++ m) = zeroRC l ++ zeroRC m
  | [], m => rfl
  | c :: l, m => by
    cases c with
    | lst t e l' fr =>
      cases l' with
      | nil => show RC.emp :: zeroRC (l ++ m) = RC.emp :: zeroRC l ++ zeroRC m; rw [zeroRC_app l m]; rfl
      | cons x r => show RC.dead :: zeroRC (l ++ m) = RC.dead :: zeroRC l ++ zeroRC m; rw [zeroRC_app l m]; rfl
    | _ => simp only [List.cons_append, zeroRC]; rw [zeroRC_app l m]
theorem cellsOf_app : ∀ (l m : List RC), cellsOf (l ++ m) = cellsOf l ++ cellsOf m
  | [], _ => rfl
  | c :: l, m => by show c.cell :: cellsOf (l ++ m) = c.cell :: (cellsOf l ++ cellsOf m); rw [cellsOf_app l m]
theorem zeroRC_rel : ∀ e : Ty, All2 (CRs cx ι st w) (cellsOf (zeroRC (enc e e.zero true))) (zeroV e)
  | .int _ => .cons rfl .nil
  | .bool => .cons rfl .nil
  | .str => .cons rfl .nil
  | .unit => .nil
  | .slice _ _ => .cons rfl .nil
  | .pair a b => by
    show All2 _ (cellsOf (zeroRC (enc (.pair a b) (a.zero, b.zero) true))) _
    rw [enc, app_eq, zeroRC_app, cellsOf_app]
    exact (zeroRC_rel a).app (zeroRC_rel b)
  | .var n => by
    show All2 (CRs cx ι st w) (cellsOf (zeroRC (deadC n))) (List.replicate n (Value.bool false))
    induction n with
    | zero => exact .nil
    | succ n ih => exact .cons trivial ih
/-- A new variable that is told cell by cell. -/
theorem zeroRC_new {e : Ty} {N : Nat → Prop} : VarR cx w ι st.σ (.var e.size) [zeroRC (enc e e.zero true)] (zeroV e) ∧ RD w N (.var e.size) (zeroRC (enc e e.zero true)) (zeroV e) := by
  refine ⟨fun rcs hr => ?_, ?_, fun v hv => zeroV_one e v hv⟩
  · cases hr
    exact zeroRC_rel e
  · exact (zeroV_rd (w := w) (N := fun _ => True) e).size
theorem rcOf_cells : ∀ {cs : List Cell} {rcs : List RC}, rcOf cs = some rcs → cellsOf rcs = cs ∧ rcs.length = cs.length
  | [], _, h => by cases h; exact ⟨rfl, rfl⟩
  | c :: cs, _, h => by
    simp only [rcOf] at h
    split at h
    · rename_i x l hx hl
      cases h
      obtain ⟨h1, h2⟩ := rcOf_cells hl
      refine ⟨?_, by simp [h2]⟩
      show x.cell :: cellsOf l = c :: cs
      rw [h1]
      congr 1
      cases c <;> simp at hx <;> (subst hx; rfl)
    · cases h
theorem On.addRd {g : Reg} {x : Option Addr × Nat} (hg : g.own = false ∨ x.1 = none) : On cx ι st.σ w (lay ι st.σ.length x) (st.new g).σ w := by
  have hσ : (st.new g).σ = st.σ ++ [some g] := by simp [State.new, app_eq]
  have hl : ∀ r, r < st.σ.length → lay ι st.σ.length x r = ι r := fun r hr => by unfold lay; rw [if_neg (by omega)]
  have hnew : lay ι st.σ.length x st.σ.length = x := by unfold lay; rw [if_pos rfl]
  rw [hσ]
  refine ⟨Nat.le_refl _, fun k h1 h2 => ?_, fun k h1 _ => rfl, by simp, fun r g' h1 h2 => ?_⟩
  · obtain ⟨r, g', a, h3, h4, h5, rfl⟩ := h2
    rcases live_new.1 h3 with h3 | ⟨rfl, rfl⟩
    · rw [hl r (live_lt h3)] at h5
      exact ⟨r, g', a, h3, h4, h5, rfl⟩
    · rw [hnew] at h5
      rcases hg with hg | hg
      · rw [hg] at h4; cases h4
      · rw [hg] at h5; cases h5
  · rcases live_new.1 h1 with h3 | ⟨rfl, rfl⟩
    · exact ⟨g', h3, hl r h2, rfl, rfl⟩
    · omega
theorem imp1_rel {tys : List Ty} {c c' : Cell} {v : Value} {st st1 : State} {ι : Lay} (hs : Sim cx ι st ts w) (hc : CRs cx ι st w c v) (h : imp1 st tys c = (c', st1)) :
    ∃ ι1, Sim cx ι1 st1 ts w ∧ CRs cx ι1 st1 w c' v ∧ On cx ι st.σ w ι1 st1.σ w := by
  have kp : Kp (fun _ => False) w w := ⟨rfl, rfl, rfl, Nat.le_refl _, fun _ _ _ => rfl⟩
  have hself : ∀ (A : Option Addr) (n : Nat), lay ι st.σ.length (A, n) st.σ.length = (A, n) := fun A n => by unfold lay; rw [if_pos rfl]
  have hσ : ∀ g, (st.new g).σ = st.σ ++ [some g] := fun g => by simp [State.new, app_eq]
  unfold imp1 at h
  split at h
  · rename_i te e _
    cases h
    refine ⟨lay ι st.σ.length (none, 0), hs.add kp ⟨te, e, [], true, true⟩ none 0 (fun _ => ⟨fun a ha => by (cases ha), [], World.ownsRow_nil w 0 te e.size, VarR.nil, fun _ => rfl⟩) (fun h => by cases h), ?_, On.addRd (.inr rfl)⟩
    rw [count_eq]
    refine ⟨by rw [hσ]; simp, fun g hg => ?_⟩
    rw [hσ] at hg
    rcases live_new.1 hg with h5 | ⟨_, rfl⟩
    · exact absurd (live_lt h5) (Nat.lt_irrefl _)
    · rw [hself]; exact hc
  · rename_i te e l fr
    cases h
    obtain ⟨A, n, e1, h5, h6⟩ := hc
    simp only [List.cons.injEq, and_true] at e1
    subst e1
    refine ⟨lay ι st.σ.length (A, n), hs.add kp ⟨te, e, l, false, fr⟩ A n (fun h => by cases h) (fun _ => ⟨A, n, rfl, h5, h6⟩), ?_, On.addRd (.inl rfl)⟩
    rw [count_eq]
    refine ⟨by rw [hσ]; simp, fun g hg => ?_⟩
    rw [hσ] at hg
    rcases live_new.1 hg with h7 | ⟨_, rfl⟩
    · exact absurd (live_lt h7) (Nat.lt_irrefl _)
    · rw [hself]; rfl
  · cases h
    exact ⟨ι, hs, hc, On.refl⟩
theorem impLs_rel : ∀ {tys : List Ty} {cs cs' : List Cell} {vs : List Value} {st st1 : State} {ι : Lay}, Sim cx ι st ts w → All2 (CRs cx ι st w) cs vs → impLs st tys cs = (cs', st1) →
    ∃ ι1, Sim cx ι1 st1 ts w ∧ All2 (CRs cx ι1 st1 w) cs' vs ∧ On cx ι st.σ w ι1 st1.σ w
  | _, [], _, _, st, _, ι, hs, .nil, h => by
    cases h
    exact ⟨ι, hs, .nil, On.refl⟩
  | tys, c :: cs, cs', _, st, st1, ι, hs, .cons (b := v) (m := vs) h1 h2, h => by
    simp only [impLs] at h
    obtain ⟨⟨c1, st'⟩, him⟩ : ∃ x, imp1 st tys c = x := ⟨_, rfl⟩
    rw [him] at h
    dsimp only at h
    obtain ⟨⟨r', st''⟩, him2⟩ : ∃ x, impLs st' (tlT tys) cs = x := ⟨_, rfl⟩
    rw [him2] at h
    cases h
    obtain ⟨ι1, h3, h4, h5⟩ := imp1_rel hs h1 him
    obtain ⟨ι2, h6, h7, h8⟩ := impLs_rel h3 (h2.imp fun _ _ => h5.cr) him2
    exact ⟨ι2, h6, .cons (h8.cr h4) h7, h5.trans h8⟩
theorem alloc_v_next {t : TypeId} {cells : Array Value} (hs : Sim cx ι st a.tmps w) (hd : a.defers = []) (hN : Nx cx K r next) {ti : TI} (hz : cells.toList = zeroV ti.e)
    (h : (match impLs st (tysOf ti.e) (cellsOf (zeroRC (enc ti.e ti.e.zero true))) with
        | (cs1, st1) => match rcOf cs1 with
          | some rcs => K ((st1.new ⟨t, .var ti.e.size, [rcs], true, true⟩).put o.dst (.v (.one (.ptr (count st1.σ) 0 0))))
          | none => none) = some r) : next (a.put o.dst (.pointer (some ⟨w.heap.size, 0, none⟩))) (w.alloc (.cells cells t)) := by
  obtain ⟨⟨cs1, st1⟩, him⟩ : ∃ x, impLs st (tysOf ti.e) (cellsOf (zeroRC (enc ti.e ti.e.zero true))) = x := ⟨_, rfl⟩
  rw [him] at h
  dsimp only at h
  split at h
  · rename_i rcs hrc
    obtain ⟨ι1, h1, h2, _⟩ := impLs_rel hs (zeroRC_rel ti.e) him
    refine newVar_sim (e := .var ti.e.size) h1 hd hN (.inr trivial) (fun rcs2 he => ?_) ?_ rfl h
    · cases he
      rw [hz, (rcOf_cells hrc).1]
      exact h2
    · rw [hz]
      exact ⟨(zeroV_rd (w := w) (N := fun _ => True) ti.e).size, fun v hv => zeroV_one _ v hv⟩
  · cases h
theorem op_alloc_v (hT : TOk P E) {t : TypeId} (ho : o.op = .alloc t) (hs : Sim cx ι st a.tmps w) (hd : a.defers = []) (hN : Nx cx K r next) {ti : TI} (hti : look E.T t = some ti)
    (h : (match impLs st (tysOf ti.e) (cellsOf (zeroRC (enc ti.e ti.e.zero true))) with
        | (cs1, st1) => match rcOf cs1 with
          | some rcs => K ((st1.new ⟨t, .var ti.e.size, [rcs], true, true⟩).put o.dst (.v (.one (.ptr (count st1.σ) 0 0))))
          | none => none) = some r) : o.wp P a w next Q := by
  obtain ⟨i, z, h1, h2, h3, h4⟩ := hT.e hti
  refine wp_val (u := .pointer (some ⟨w.heap.size, 0, none⟩)) (w' := w.alloc (.cells z.cells t)) ?_ (alloc_v_next hs hd hN h4 h)
  simp [execOp, ho, Instr.alloc, zeroValue, typeInfo, h1, h3, newVar, newRow]
theorem cells_one {c c' : Cell} {v : Value} (hc : CRs cx ι st w c v) (he : embC st c = some c') : v.cells = #[v] := by
  cases c <;> simp [embC, expC] at he <;> (try (cases hc; rfl))
  · obtain ⟨A, n, e, _⟩ := hc
    simp only [List.cons.injEq, and_true] at e
    subst e; rfl
  · split at he
    · rename_i hreg
      have := hc.2 _ (reg_eq.1 hreg)
      rename_i s _ _ _ _ _ _
      cases s with
      | all => cases this; rfl
      | pre n => obtain ⟨_, rfl⟩ := this; rfl
      | sub o n => obtain ⟨_, _, _, rfl, _⟩ := this; rfl
    · cases he
theorem cells_rel {c : Comp} {cs' : List Cell} {v : Value} (hc : CompR (CRs cx ι st w) c v) (he : embL st c.cells = some cs') : All2 (CRs cx ι st w) c.cells v.cells.toList := by
  cases c with
  | one c =>
    simp only [Comp.cells, embL] at he
    split at he
    · rename_i c' hc'
      rw [cells_one hc hc']
      exact .cons hc .nil
    · cases he
  | agg cs =>
    obtain ⟨vs, rfl, h⟩ := hc
    exact h
theorem op_box {t : TypeId} {x : Operand} (ho : o.op = .box t x) (hs : Sim cx ι st a.tmps w) (hd : a.defers = []) (hN : Nx cx K r next) {e : Ty} {c : Comp} {cs : List Cell} {y : e.den}
    (hx : st.ev x = .v c) (he : embL st c.cells = some cs) (hy : dec1 e cs = some y)
    (h : K (((freeze st c.cells).new ⟨t, e, [y], true, frs cs⟩).put o.dst (.v (.one (.ptr (count st.σ) 0 0)))) = some r) (hcount : count (freeze st c.cells).σ = count st.σ) : o.wp P a w next Q := by
  have hv := hs.ev x
  rw [hx] at hv
  obtain ⟨h1, h2, h3⟩ := embL_rel hs (cells_rel hv he) he
  refine wp_val (u := .pointer (some ⟨w.heap.size, 0, none⟩)) (w' := w.alloc (.cells (a.eval x).cells t)) ?_ (newVar_sim h1 hd hN (.inr trivial) (VarR.nv (dec1_nv hy)) (dec1_rel hy h3 id) rfl (by rw [hcount]; exact h))
  simp [execOp, ho, Instr.box, newVar, newRow]
theorem freeze_count : ∀ (cs : List Cell) (st : State), count (freeze st cs).σ = count st.σ
  | [], _ => rfl
  | c :: cs, st => by
    cases c with
    | ref r s =>
      simp only [freeze]
      split
      · rw [freeze_count cs, set_σ, count_eq, count_eq, List.length_set]
      · exact freeze_count cs st
    | _ => exact freeze_count cs st
theorem exp_one {c c' : Cell} {v : Value} (hc : CRs cx ι st w c v) (he : expC st c = some c') : v.cells = #[v] ∧ v.oneCell' = true := by
  cases c <;> simp [expC] at he <;> (try (cases hc; exact ⟨rfl, rfl⟩))
  · obtain ⟨A, n, e, _⟩ := hc
    simp only [List.cons.injEq, and_true] at e
    subst e; exact ⟨rfl, rfl⟩
  · split at he
    · rename_i g hreg
      have := hc.2 _ (reg_eq.1 hreg)
      rename_i s _
      cases s with
      | all => cases this; exact ⟨rfl, rfl⟩
      | pre n => obtain ⟨_, rfl⟩ := this; exact ⟨rfl, rfl⟩
      | sub o n => obtain ⟨_, _, _, rfl, _⟩ := this; exact ⟨rfl, rfl⟩
    · cases he
theorem expL_one : ∀ {cs cs' : List Cell} {vs : List Value}, All2 (CRs cx ι st w) cs vs → expL st cs = some cs' → ∀ v ∈ vs, v.oneCell' = true
  | [], _, _, .nil, _, v, hv => by cases hv
  | c :: cs, _, _, .cons h1 h2, he, v, hv => by
    simp only [expL] at he
    split at he
    · rename_i c' hc
      split at he
      · rename_i r' hr
        rcases List.mem_cons.1 hv with rfl | hv
        · exact (exp_one h1 hc).2
        · exact expL_one h2 hr v hv
      · cases he
    · cases he
theorem expL_rel {c : Comp} {cs' : List Cell} {v : Value} (hc : CompR (CRs cx ι st w) c v) (he : expL st c.cells = some cs') : All2 (CRs cx ι st w) c.cells v.cells.toList := by
  cases c with
  | one c =>
    simp only [Comp.cells, expL] at he
    split at he
    · rename_i c' hc'
      rw [(exp_one hc hc').1]
      exact .cons hc .nil
    · cases he
  | agg cs =>
    obtain ⟨vs, rfl, h⟩ := hc
    exact h
theorem op_box_v {t : TypeId} {x : Operand} (ho : o.op = .box t x) (hs : Sim cx ι st a.tmps w) (hd : a.defers = []) (hN : Nx cx K r next) {ti : TI} {c : Comp} {cs : List Cell}
    (hx : st.ev x = .v c) (he : expL st c.cells = some cs)
    (h : (match impLs st (tysOf ti.e) c.cells with
        | (cs1, st1) => match rcOf cs1, Nat.beq (count cs1) ti.e.size with
          | some rcs, true => K ((st1.new ⟨t, .var ti.e.size, [rcs], true, true⟩).put o.dst (.v (.one (.ptr (count st1.σ) 0 0))))
          | _, _ => none) = some r) : o.wp P a w next Q := by
  have hv := hs.ev x
  rw [hx] at hv
  have hrel := expL_rel hv he
  have hone := expL_one hrel he
  obtain ⟨⟨cs1, st1⟩, him⟩ : ∃ x, impLs st (tysOf ti.e) c.cells = x := ⟨_, rfl⟩
  rw [him] at h
  dsimp only at h
  split at h
  · rename_i rcs hrc hcnt
    have hcnt := Nat.eq_of_beq_eq_true hcnt
    rw [count_eq] at hcnt
    obtain ⟨ι1, h1, h2, _⟩ := impLs_rel hs hrel him
    have hlen : (a.eval x).cells.toList.length = ti.e.size := by rw [← h2.length, hcnt]
    refine wp_val (u := .pointer (some ⟨w.heap.size, 0, none⟩)) (w' := w.alloc (.cells (a.eval x).cells t)) (by simp [execOp, ho, Instr.box, newVar, newRow]) (newVar_sim (e := .var ti.e.size) h1 hd hN (.inr trivial) (fun rcs2 he2 => ?_) ⟨hlen, hone⟩ rfl h)
    cases he2
    rw [(rcOf_cells hrc).1]
    exact h2
  · cases h
end
end
end Go.Proofs.Ytpfjneaoankllaa.Ev

namespace Go.Proofs.Ytpfjneaoankllaa.Ev
open Go.RowKit
section
variable {cx : Cx} {ι : Lay} {st : State} {ts : Array Value} {w : World}
variable {P : Program} {E : Env} {o : Oper} {a : Act} {R : Type} {K : State → Option R} {r : R} {next : Act → World → Prop} {Q : Exit → Act → World → Prop}
theorem run_isAgg {t : TypeId} {d : TypeDesc} (h : P.underlying t = some d) : (isAgg t).run P w = .ok (aggD d) w := by
  cases d <;> simp [isAgg, run_underlying h, aggD]
theorem All2.one {α β : Type} {S : α → β → Prop} {x : α} {l : List β} (h : All2 S [x] l) : ∃ y, l = [y] ∧ S x y := by
  cases h with
  | cons h1 h2 => cases h2; exact ⟨_, rfl, h1⟩
theorem RegR.var {A : Option Addr} {c : Nat} {g : Reg} {rcs : List RC} (h : RegR cx w ι st.σ A c g) (hv : varOf g = some rcs) :
    ∃ (n : Nat) (a : Addr) (xs : List Value), g.e.size = n ∧ g.l.length = 1 ∧ g.own = true ∧ A = some a ∧ All2 (CRs cx ι st w) (cellsOf rcs) xs ∧ xs.length = n ∧ ∀ k u, xs[k]? = some u → w.cell? (a.add k) = some u := by
  unfold varOf at hv
  split at hv
  · rename_i t n x fr
    cases hv
    obtain ⟨xs, h1, h2, _, h4⟩ := h.1 rfl
    have h5 := h4 _ rfl
    rcases h2.2 with ⟨_, hl⟩ | ⟨b, cap, cur, e, h6⟩
    · cases hl
    · injection e with e1 e2 e3
      refine ⟨n, ⟨b, 0, none⟩, xs, rfl, rfl, rfl, e1, h5, ?_, fun k u hu => h2.cells (g := b) (by rw [e1]; rfl) _ u hu⟩
      have := h2.1
      simpa [Ty.size] using this
  · cases hv
theorem op_load (hT : TOk P E) {t : TypeId} {x : Operand} (ho : o.op = .load t x) (hs : Sim cx ι st a.tmps w) (hd : a.defers = []) (hN : Nx cx K r next)
    (h : loadE E.T t st (st.ev x) (fun v st' => K (st'.put o.dst v)) = some r) : ∃ u, (∀ w' : World, (∀ k, k < w.heap.size → w'.heap[k]? = w.heap[k]?) → (execOp a.eval o).run P w' = .ok (.value u) w') ∧ next (a.put o.dst u) w := by
  unfold loadE at h
  split at h
  · rename_i rr i j ti hx hti
    split at h
    · rename_i g hg
      split at h
      · rename_i rcs hvar
        have hp := hs.ev x
        rw [hx] at hp
        have hl := reg_eq.1 hg
        obtain ⟨A, hA, hi, hp⟩ := hp.2 g hl
        obtain ⟨n, A', us, hn, hlen1, _, hA', hrel, hsz, hcells0⟩ := (hs.regs rr g hl).var hvar
        have : A' = A := Option.some.inj (hA'.symm.trans hA)
        subst this
        obtain rfl : i = 0 := by omega
        rw [Nat.zero_mul, Nat.zero_add] at hp
        obtain ⟨inf, z, h1, h2, _, _⟩ := hT.e hti
        obtain ⟨d, hud, hagg, _⟩ := hT.d hti
        have hsub : All2 (CRs cx ι st w) (firsts ti.e.size (lasts j (cellsOf rcs))) ((us.drop j).take ti.e.size) := by
          rw [firsts_eq, lasts_eq]
          exact (hrel.drop j).take _
        have hc : ∀ k u, ((us.drop j).take ti.e.size)[k]? = some u → w.cell? ((A'.add j).add k) = some u := fun k u hu => by
          rw [add_add']
          refine hcells0 (j + k) u ?_
          rw [List.getElem?_take] at hu
          split at hu
          · rwa [List.getElem?_drop] at hu
          · cases hu
        have hc' : ∀ w' : World, (∀ k, k < w.heap.size → w'.heap[k]? = w.heap[k]?) → ∀ k u, ((us.drop j).take ti.e.size)[k]? = some u → w'.cell? ((A'.add j).add k) = some u := fun w' hw k u hu => by
          have := hc k u hu
          rw [World.cell?_of_block (w := w) (hw _ (World.block_lt_of_cell? w _ this))]
          exact this
        split at h
        · rename_i hag hble
          have hb := Nat.le_of_ble_eq_true hble
          have hlen : ((us.drop j).take ti.e.size).length = ti.e.size := by rw [List.length_take, List.length_drop, hsz]; omega
          refine ⟨.agg ((us.drop j).take ti.e.size).toArray, fun w' hw => ?_, hN.put hs hd (v := .v (.agg _)) ⟨_, rfl, by simpa using hsub⟩ h⟩
          have hrun := run_loadCells_list (P := P) w' (A'.add j) _ (hc' w' hw)
          rw [hlen] at hrun
          rw [hag] at hagg
          simp [execOp, ho, hp, Instr.loadAt, Instr.sureAddr, loadVar, run_isAgg hud, hagg, sizeOf, typeInfo, h1, h2, hrun]
        · rename_i c hag hcs hble
          rw [hcs] at hsub
          obtain ⟨u, hu, hcr⟩ := hsub.one
          have h0 : ∀ w' : World, (∀ k, k < w.heap.size → w'.heap[k]? = w.heap[k]?) → w'.cell? (A'.add j) = some u := fun w' hw => by
            have := hc' w' hw 0 u (by rw [hu]; rfl)
            simpa [Addr.add] using this
          rw [hag] at hagg
          refine ⟨u, fun w' hw => ?_, hN.put hs hd (v := .v (.one c)) hcr h⟩
          simp [execOp, ho, hp, Instr.loadAt, Instr.sureAddr, loadVar, run_isAgg hud, hagg, h0 w' hw]
        · cases h
      · split at h
        · rename_i hb
          have hb := Nat.le_of_ble_eq_true hb
          have hp := hs.ev x
          rw [hx] at hp
          have hl := reg_eq.1 hg
          obtain ⟨A, hA, hi, hp⟩ := hp.2 g hl
          obtain ⟨A', us, hA', hrd, hcells⟩ := (hs.regs rr g hl).at i hi
          have : A' = A := Option.some.inj (hA'.symm.trans hA)
          subst this
          have hrel := enc_rel hrd
          rw [← rd_get hi] at hrel
          have hsz := hrd.size
          obtain ⟨inf, z, h1, h2, _, _⟩ := hT.e hti
          obtain ⟨d, hud, hagg, _⟩ := hT.d hti
          have hsub : All2 (CRs cx ι st w) (firsts ti.e.size (lasts j (enc g.e (rd g.e g.l i) g.fr))) ((us.drop j).take ti.e.size) := by
            rw [firsts_eq, lasts_eq]
            exact (hrel.drop j).take _
          have hlen : ((us.drop j).take ti.e.size).length = ti.e.size := by rw [List.length_take, List.length_drop, hsz]; omega
          have hc : ∀ k u, ((us.drop j).take ti.e.size)[k]? = some u → w.cell? ((A'.add (i * g.e.size + j)).add k) = some u := fun k u hu => by
            rw [add_add', Nat.add_assoc]
            refine hcells (j + k) u ?_
            rw [List.getElem?_take] at hu
            split at hu
            · rwa [List.getElem?_drop] at hu
            · cases hu
          have hc' : ∀ w' : World, (∀ k, k < w.heap.size → w'.heap[k]? = w.heap[k]?) → ∀ k u, ((us.drop j).take ti.e.size)[k]? = some u → w'.cell? ((A'.add (i * g.e.size + j)).add k) = some u := fun w' hw k u hu => by
            have := hc k u hu
            rw [World.cell?_of_block (w := w) (hw _ (World.block_lt_of_cell? w _ this))]
            exact this
          split at h
          · rename_i hag
            refine ⟨.agg ((us.drop j).take ti.e.size).toArray, fun w' hw => ?_, hN.put hs hd (v := .v (.agg _)) ⟨_, rfl, by simpa using hsub⟩ h⟩
            have hrun := run_loadCells_list (P := P) w' (A'.add (i * g.e.size + j)) _ (hc' w' hw)
            rw [hlen] at hrun
            rw [hag] at hagg
            simp [execOp, ho, hp, Instr.loadAt, Instr.sureAddr, loadVar, run_isAgg hud, hagg, sizeOf, typeInfo, h1, h2, hrun]
          · rename_i c hag hcs
            rw [hcs] at hsub
            obtain ⟨u, hu, hcr⟩ := hsub.one
            have h0 : ∀ w' : World, (∀ k, k < w.heap.size → w'.heap[k]? = w.heap[k]?) → w'.cell? (A'.add (i * g.e.size + j)) = some u := fun w' hw => by
              have := hc' w' hw 0 u (by rw [hu]; rfl)
              simpa [Addr.add] using this
            rw [hag] at hagg
            refine ⟨u, fun w' hw => ?_, ?_⟩
            · simp [execOp, ho, hp, Instr.loadAt, Instr.sureAddr, loadVar, run_isAgg hud, hagg, h0 w' hw]
            · cases hi' : imp E.T t st c with
              | mk c' st' =>
                rw [hi'] at h
                obtain ⟨ι', h5, h6, _⟩ := imp_rel hs hcr hi'
                exact hN.put h5 hd (v := .v (.one c')) h6 h
          · cases h
        · cases h
    · cases h
  · cases h
theorem add0 (b n : Nat) : (⟨b, 0, none⟩ : Addr).add n = ⟨b, n, none⟩ := by unfold Addr.add; split <;> simp_all
theorem embC_one {c c' : Cell} {v : Value} (he : embC st c = some c') {st' : State} (hc : CRs cx ι st' w c' v) : v.oneCell' = true := by
  have : ∀ c', (∃ c, embC st c = some c') → (∃ k n, c' = .int k n) ∨ (∃ b, c' = .bool b) ∨ (∃ s, c' = .str s) ∨ c' = .emp ∨ (∃ t e l fr, c' = .lst t e l fr) ∨ (∃ f, c' = .fn f) := by
    rintro c' ⟨c, he⟩
    cases c <;> simp [embC, expC] at he
    · exact .inl ⟨_, _, he.symm⟩
    · exact .inr (.inl ⟨_, he.symm⟩)
    · exact .inr (.inr (.inl ⟨_, he.symm⟩))
    · exact .inr (.inr (.inr (.inl he.symm)))
    · exact .inr (.inr (.inr (.inr (.inl ⟨_, _, _, _, he.symm⟩))))
    · split at he
      · rename_i t e l own fr _
        cases own <;> cases fr <;> simp at he <;> exact .inr (.inr (.inr (.inr (.inl ⟨_, _, _, _, he.symm⟩))))
      · cases he
    · exact .inr (.inr (.inr (.inr (.inr ⟨_, he.symm⟩))))
  rcases this c' ⟨c, he⟩ with ⟨_, _, rfl⟩ | ⟨_, rfl⟩ | ⟨_, rfl⟩ | rfl | ⟨_, _, _, _, rfl⟩ | ⟨_, rfl⟩
  · cases hc; rfl
  · cases hc; rfl
  · cases hc; rfl
  · cases hc; rfl
  · obtain ⟨A, n, e, _⟩ := hc
    simp only [List.cons.injEq, and_true] at e
    subst e; rfl
  · cases hc; rfl
theorem embL_one : ∀ {cs cs' : List Cell} {vs : List Value} {st' : State}, embL st cs = some cs' → All2 (CRs cx ι st' w) cs' vs → ∀ v ∈ vs, v.oneCell' = true
  | [], cs', vs, st', he, hr, v, hv => by
    cases he
    cases hr
    cases hv
  | c :: cs, cs', vs, st', he, hr, v, hv => by
    simp only [embL] at he
    split at he
    · rename_i c' hc'
      split at he
      · rename_i r' hr'
        obtain rfl := Option.some.inj he
        cases hr with
        | cons h1 h2 =>
          rcases List.mem_cons.1 hv with rfl | hv
          · exact embC_one hc' h1
          · exact embL_one hr' h2 v hv
      · cases he
    · cases he
theorem frs_dead : ∀ n, frs (deadC n) = true
  | 0 => rfl
  | n + 1 => frs_dead n
theorem frs_enc : ∀ {e : Ty} {x : e.den} {fr : Bool}, fr = true → frs (enc e x fr) = true
  | .int _, _, _, _ => rfl
  | .bool, _, _, _ => rfl
  | .str, _, _, _ => rfl
  | .unit, _, _, _ => rfl
  | .var n, _, _, _ => frs_dead n
  | .pair _ _, _, _, h => by rw [enc, app_eq, frs_app, frs_enc h, frs_enc h]; rfl
  | .slice _ _, _, _, h => by simp [enc, frs, h]
theorem frs_take : ∀ {l : List Cell} (n : Nat), frs l = true → frs (l.take n) = true
  | [], n, h => by simpa using h
  | c :: l, 0, h => rfl
  | c :: l, n + 1, h => by
    rw [show c :: l = [c] ++ l from rfl, frs_app] at h
    simp only [Bool.and_eq_true] at h
    rw [List.take_succ_cons, show c :: l.take n = [c] ++ l.take n from rfl, frs_app, h.1, frs_take n h.2]; rfl
theorem frs_drop : ∀ {l : List Cell} (n : Nat), frs l = true → frs (l.drop n) = true
  | [], n, h => by simpa using h
  | c :: l, 0, h => h
  | c :: l, n + 1, h => by
    rw [show c :: l = [c] ++ l from rfl, frs_app] at h
    simp only [Bool.and_eq_true] at h
    simpa using frs_drop n h.2
theorem kp_setRow {b : Nat} {cs : Array Value} {M : Nat → Prop} (hM : M b) : Kp M w (w.setRow b cs) :=
  ⟨rfl, rfl, rfl, by simp [World.setRow], fun k _ hk => setRow_other w b k _ (fun e => hk (e ▸ hM))⟩
theorem splice_list {xs cur us vs : List Value} {n i j sz : Nat} (hx : xs = cur.take (n * sz)) (hn : n * sz ≤ cur.length) (hi : i < n) (hj : j + vs.length ≤ sz) (hus : us.length = sz) (hat : ∀ k u, us[k]? = some u → xs[i * sz + k]? = some u) :
    (cur.take (i * sz + j) ++ vs ++ cur.drop (i * sz + j + vs.length)).take (n * sz) = xs.take (i * sz) ++ (us.take j ++ vs ++ us.drop (j + vs.length)) ++ xs.drop (i * sz + sz) := by
  have h1 : (i + 1) * sz ≤ n * sz := Nat.mul_le_mul_right _ hi
  rw [Nat.add_mul, Nat.one_mul] at h1
  have hu : us = (cur.drop (i * sz)).take sz := by
    apply List.ext_getElem?
    intro k
    by_cases hk : k < sz
    · have h2 := hat k us[k] (List.getElem?_eq_getElem (by omega))
      rw [hx, List.getElem?_take, if_pos (by omega)] at h2
      rw [List.getElem?_take, if_pos hk, List.getElem?_drop, h2, List.getElem?_eq_getElem (by omega)]
    · rw [List.getElem?_eq_none (by omega), List.getElem?_eq_none (by rw [List.length_take]; omega)]
  obtain ⟨p, hp⟩ : ∃ p, p = cur.take (i * sz) := ⟨_, rfl⟩
  obtain ⟨s, hs⟩ : ∃ s, s = cur.drop (i * sz + sz) := ⟨_, rfl⟩
  have hpl : p.length = i * sz := by rw [hp, List.length_take]; omega
  have hcur : cur = p ++ (us ++ s) := by
    rw [hp, hs, hu, ← List.drop_drop, List.take_append_drop, List.take_append_drop]
  have e1 : cur.take (i * sz + j) = p ++ us.take j := by
    rw [hcur, List.take_append, List.take_of_length_le (by omega), show i * sz + j - p.length = j from by omega, List.take_append, show j - us.length = 0 from by omega, List.take_zero, List.append_nil]
  have e2 : cur.drop (i * sz + j + vs.length) = us.drop (j + vs.length) ++ s := by
    rw [hcur, List.drop_append, List.drop_of_length_le (by omega), List.nil_append, show i * sz + j + vs.length - p.length = j + vs.length from by omega, List.drop_append, show j + vs.length - us.length = 0 from by omega, List.drop_zero]
  have e3 : xs.take (i * sz) = p := by rw [hx, hp, List.take_take, Nat.min_eq_left (by omega)]
  have e4 : xs.drop (i * sz + sz) = s.take (n * sz - (i * sz + sz)) := by rw [hx, hs, List.drop_take]
  rw [e1, e2, e3, e4]
  have e5 : p ++ us.take j ++ vs ++ (us.drop (j + vs.length) ++ s) = (p ++ (us.take j ++ vs ++ us.drop (j + vs.length))) ++ s := by simp only [List.append_assoc]
  have e6 : (p ++ (us.take j ++ vs ++ us.drop (j + vs.length))).length = i * sz + sz := by
    simp only [List.length_append, List.length_take, List.length_drop]
    omega
  rw [e5, List.take_append, List.take_of_length_le (by omega), e6]
theorem cellsOf_take : ∀ (n : Nat) (l : List RC), cellsOf (l.take n) = (cellsOf l).take n
  | 0, _ => by simp [cellsOf]
  | _ + 1, [] => by simp [cellsOf]
  | n + 1, c :: l => by rw [List.take_succ_cons]; show c.cell :: cellsOf (l.take n) = (c.cell :: cellsOf l).take (n + 1); rw [List.take_succ_cons, cellsOf_take n l]
theorem cellsOf_drop : ∀ (n : Nat) (l : List RC), cellsOf (l.drop n) = (cellsOf l).drop n
  | 0, _ => by simp
  | _ + 1, [] => by simp [cellsOf]
  | n + 1, c :: l => by rw [List.drop_succ_cons]; show cellsOf (l.drop n) = (c.cell :: cellsOf l).drop (n + 1); rw [List.drop_succ_cons, cellsOf_drop n l]
theorem splice1 {xs cur vs : List Value} {n j : Nat} (hx : xs = cur.take n) (hn : n ≤ cur.length) (hj : j + vs.length ≤ n) :
    (cur.take j ++ vs ++ cur.drop (j + vs.length)).take n = xs.take j ++ vs ++ xs.drop (j + vs.length) := by
  subst hx
  rw [List.take_take, Nat.min_eq_left (by omega), List.drop_take]
  have h1 : (cur.take j ++ vs).length = j + vs.length := by rw [List.length_append, List.length_take]; omega
  rw [List.take_append, h1, List.take_of_length_le (by rw [h1]; omega)]
theorem op_store (hT : TOk P E) {t : TypeId} {x y : Operand} (ho : o.op = .store t x y) (hs : Sim cx ι st a.tmps w) (hd : a.defers = []) (hN : Nx cx K r next)
    (h : storeE E.T t st (st.ev x) (st.ev y) (fun st' => K (st'.put o.dst .dead)) = some r) : o.wp P a w next Q := by
  unfold storeE at h
  split at h
  · rename_i rr i j c hx hy
    split at h
    · rename_i cs ti hcs hti
      have hv := hs.ev y
      rw [hy] at hv
      have hcr := cells_rel hv hcs
      obtain ⟨hs1, ho1, hr1⟩ := embL_rel hs hcr hcs
      have hone := embL_one hcs hr1
      split at h
      · rename_i rcs0 hvar
        obtain ⟨⟨cs1, st1⟩, him⟩ : ∃ x, impLs st (tysOf ti.e) c.cells = x := ⟨_, rfl⟩
        rw [him] at h
        dsimp only at h
        obtain ⟨ι1, hsn, hcr1, hon⟩ := impLs_rel hs hcr him
        split at h
        · rename_i t' n rcs fr hreg
          split at h
          · rename_i new hble hq hrc
            have hl := reg_eq.1 hreg
            have hb := Nat.le_of_ble_eq_true hble
            have hq := Nat.eq_of_beq_eq_true hq
            rw [count_eq] at hb hq
            have hp := hs.ev x
            rw [hx] at hp
            have hp := hon.cr (c := .ptr rr i j) hp
            obtain ⟨A, hA, hi, hp⟩ := hp.2 _ hl
            dsimp only at hi hp
            obtain ⟨hrc1, hrc2⟩ := rcOf_cells hrc
            obtain ⟨xs, h1, h2, h3, h4⟩ := (hsn.regs rr _ hl).1 rfl
            dsimp only at h1 h2 h3 h4
            have hrel := h4 rcs rfl
            obtain rfl : i = 0 := by simp at hi; exact hi
            have hsz1 : (Ty.var n).size = n := rfl
            rw [Nat.zero_mul, Nat.zero_add] at hp
            rcases h2.2 with ⟨_, hl0⟩ | ⟨b, cap, cur, e1, _, hh, hnc, hcm, hcsz, htake⟩
            · cases hl0
            injection e1 with e1 _ e3
            rw [hA] at e1
            injection e1 with e1
            subst e1
            have hxl : xs.length = n := by have := h2.1; rw [hsz1] at this; simpa using this
            rw [hsz1] at hcsz htake
            have hnc : 1 ≤ cap := hnc
            have htake : cur.toList.take n = xs := by simpa using htake
            have hvl : (a.eval y).cells.toList.length = cs1.length := hcr1.length.symm
            have hmul2 : 1 * n ≤ cap * n := Nat.mul_le_mul_right _ hnc
            have hcl : cur.toList.length = cap * n := by rw [Array.length_toList, hcsz]
            obtain ⟨inf, zz, hi1, hi2, _, _⟩ := hT.e hti
            have hrun := run_storeCells_at P b j t' (a.eval y).cells.toList 0 cur w hh (by rw [hvl, hcsz]; omega) hone
            simp only [Nat.add_zero] at hrun
            refine wp_skip' (w' := w.setRow b (cur.toList.take j ++ (a.eval y).cells.toList ++ cur.toList.drop (j + (a.eval y).cells.toList.length)).toArray) ?_ ?_
            · have hsize : (a.eval y).cells.size = inf.size := by rw [← Array.length_toList, hvl, hi2]; exact hq.symm
              rw [add0] at hp
              simp [execOp, ho, hp, Instr.storeAt, Instr.sureAddr, storeVar, sizeOf, typeInfo, hi1, hsize, hrun]
            · have hnewrel : All2 (CRs cx ι1 st1 w) (cellsOf (app (firsts j rcs) (app new (lasts (j + count new) rcs)))) (xs.take j ++ (a.eval y).cells.toList ++ xs.drop (j + (a.eval y).cells.toList.length)) := by
                rw [app_eq, app_eq, firsts_eq, lasts_eq, count_eq, cellsOf_app, cellsOf_app, cellsOf_take, cellsOf_drop, hrc1, hrc2, ← List.append_assoc, hvl]
                exact ((hrel.take j).app hcr1).app (hrel.drop _)
              have hlen2 : (xs.take j ++ (a.eval y).cells.toList ++ xs.drop (j + (a.eval y).cells.toList.length)).length = n := by
                simp only [List.length_append, List.length_take, List.length_drop, hvl]; omega
              have honeall : ∀ v ∈ xs.take j ++ (a.eval y).cells.toList ++ xs.drop (j + (a.eval y).cells.toList.length), v.oneCell' = true := fun v hv => by
                obtain ⟨v1, v2, e1, h5, h6⟩ := h1
                cases h6
                rw [List.append_nil] at e1
                subst e1
                rcases List.mem_append.1 hv with hv | hv
                · rcases List.mem_append.1 hv with hv | hv
                  · exact h5.2 v (List.mem_of_mem_take hv)
                  · exact hone v hv
                · exact h5.2 v (List.mem_of_mem_drop hv)
              have hspl := splice1 (vs := (a.eval y).cells.toList) htake.symm (by rw [hcl]; omega) (by rw [hvl]; exact hb)
              have hw := hsn.write hl rfl [app (firsts j rcs) (app new (lasts (j + count new) rcs))] fr rfl id (kp_setRow (cs := (cur.toList.take j ++ (a.eval y).cells.toList ++ cur.toList.drop (j + (a.eval y).cells.toList.length)).toArray) ⟨_, hA, rfl⟩)
                ⟨xs.take j ++ (a.eval y).cells.toList ++ xs.drop (j + (a.eval y).cells.toList.length), ⟨by rw [hlen2, hsz1]; simp, .inr ⟨b, cap, _, by rw [hA, e3], Nat.zero_le _, setRow_heap w b cur _ t' _ hh, hnc, hcm, ?_, ?_⟩⟩, fun _ e => (by cases e; exact hnewrel), ⟨_, [], by simp, ⟨hlen2, honeall⟩, rfl⟩⟩
              · exact hN.put hw hd (v := .dead) trivial h
              · rw [hsz1]
                simp only [List.size_toArray, List.length_append, List.length_take, List.length_drop, hcl, hvl]
                omega
              · rw [hsz1]
                show (_ : List Value).take (1 * n) = _
                rw [Nat.one_mul]
                exact hspl
          · cases h
        · cases h
      split at h
      · rename_i t' e l fr hg
        have hl := reg_eq.1 hg
        split at h
        · rename_i z hb hq hz
          have hb := Nat.le_of_ble_eq_true hb
          have hq := Nat.eq_of_beq_eq_true hq
          rw [count_eq] at hb hq
          have hp := hs.ev x
          rw [hx] at hp
          have hp := ho1.cr (c := .ptr rr i j) hp
          obtain ⟨A, hA, hi, hp⟩ := hp.2 _ hl
          dsimp only at hi hp
          obtain ⟨xs, h1, h2, h3⟩ := (hs1.regs rr _ hl).1 rfl
          dsimp only at h1 h2 h3
          obtain ⟨us, hus, hat⟩ := h1.at i hi
          rcases h2.2 with ⟨_, hl0⟩ | ⟨b, cap, cur, e1, _, hh, hnc, hcm, hcsz, htake⟩
          · rw [hl0] at hi; cases hi
          injection e1 with e1 _ e3
          rw [hA] at e1
          injection e1 with e1
          subst e1
          have hvl : (a.eval y).cells.toList.length = cs.length := hr1.length.symm
          have hsz := hus.size
          have hmul : (i + 1) * e.size ≤ l.length * e.size := Nat.mul_le_mul_right _ hi
          rw [Nat.add_mul, Nat.one_mul] at hmul
          have hmul2 : l.length * e.size ≤ cap * e.size := Nat.mul_le_mul_right _ hnc
          have hcl : cur.toList.length = cap * e.size := by rw [Array.length_toList, hcsz]
          obtain ⟨inf, zz, hi1, hi2, _, _⟩ := hT.e hti
          have hrun := run_storeCells_at P b (i * e.size + j) t' (a.eval y).cells.toList 0 cur w hh (by rw [hvl, hcsz]; omega) hone
          simp only [Nat.add_zero] at hrun
          refine wp_skip' (w' := w.setRow b (cur.toList.take (i * e.size + j) ++ (a.eval y).cells.toList ++ cur.toList.drop (i * e.size + j + (a.eval y).cells.toList.length)).toArray) ?_ ?_
          · have hsize : (a.eval y).cells.size = inf.size := by rw [← Array.length_toList, hvl, hi2]; exact hq.symm
            rw [add0] at hp
            simp [execOp, ho, hp, Instr.storeAt, Instr.sureAddr, storeVar, sizeOf, typeInfo, hi1, hsize, hrun]
          · have hnew : RD w (Rdb cx w ι (freeze st c.cells).σ (fr && frs cs)) e z (us.take j ++ (a.eval y).cells.toList ++ us.drop (j + (a.eval y).cells.toList.length)) := by
              refine dec1_rel hz ?_ (fun hf => ?_)
              · rw [splice, app_eq, app_eq, firsts_eq, lasts_eq, count_eq, ← List.append_assoc, hvl]
                have henc := enc_rel (fr := fr) hus
                rw [← rd_get hi] at henc
                exact ((henc.take j).app hr1).app (henc.drop _)
              · simp only [Bool.and_eq_true] at hf
                rw [splice, app_eq, app_eq, firsts_eq, lasts_eq, frs_app, frs_app, frs_take _ (frs_enc hf.1), hf.2, frs_drop _ (frs_enc hf.1)]; rfl
            have hxs' := RDs.set hnew i (h1.le (fr' := fr && frs cs) (fun hf => by simp only [Bool.and_eq_true] at hf; exact hf.1)) hi
            have hw := hs1.write hl rfl (setL l i z) (fr && frs cs) (by simp [setL]) (fun hf => by simp only [Bool.and_eq_true] at hf; exact hf.1) (kp_setRow (cs := (cur.toList.take (i * e.size + j) ++ (a.eval y).cells.toList ++ cur.toList.drop (i * e.size + j + (a.eval y).cells.toList.length)).toArray) ⟨_, hA, rfl⟩) ⟨_, ?_, VarR.nv (dec1_nv hz), hxs'⟩
            · refine hN.put hw hd (v := .dead) trivial h
            · have hspl := splice_list (vs := (a.eval y).cells.toList) htake.symm (by rw [hcl]; exact hmul2) hi (by rw [hvl]; exact hb) hsz hat
              refine ⟨by rw [← hspl, List.length_take]; simp only [List.length_append, List.length_take, List.length_drop, hcl, hvl]; omega, .inr ⟨b, cap, _, by rw [hA, e3], Nat.zero_le _, setRow_heap w b cur _ t' _ hh, hnc, hcm, ?_, ?_⟩⟩
              · simp only [List.size_toArray, List.length_append, List.length_take, List.length_drop, hcl, hvl]
                omega
              · exact hspl
        · cases h
      · cases h
    · cases h
  · cases h
/-- As above, and the store's own block alone is changed. -/
theorem op_store_f (hT : TOk P E) {t : TypeId} {x y : Operand} (ho : o.op = .store t x y) (hs : Sim cx ι st a.tmps w) (hd : a.defers = []) (hN : Nx cx K r next)
    (h : storeE E.T t st (st.ev x) (st.ev y) (fun st' => K (st'.put o.dst .dead)) = some r) : o.wp P a w (fun a' w' => (∃ p : Addr, a.eval x = .pointer (some p) ∧ w.heap.size ≤ w'.heap.size ∧ ∀ k, k < w.heap.size → k ≠ p.block → w'.heap[k]? = w.heap[k]?) ∧ next a' w') Q := by
  unfold storeE at h
  split at h
  · rename_i rr i j c hx hy
    split at h
    · rename_i cs ti hcs hti
      have hv := hs.ev y
      rw [hy] at hv
      have hcr := cells_rel hv hcs
      obtain ⟨hs1, ho1, hr1⟩ := embL_rel hs hcr hcs
      have hone := embL_one hcs hr1
      split at h
      · rename_i rcs0 hvar
        obtain ⟨⟨cs1, st1⟩, him⟩ : ∃ x, impLs st (tysOf ti.e) c.cells = x := ⟨_, rfl⟩
        rw [him] at h
        dsimp only at h
        obtain ⟨ι1, hsn, hcr1, hon⟩ := impLs_rel hs hcr him
        split at h
        · rename_i t' n rcs fr hreg
          split at h
          · rename_i new hble hq hrc
            have hl := reg_eq.1 hreg
            have hb := Nat.le_of_ble_eq_true hble
            have hq := Nat.eq_of_beq_eq_true hq
            rw [count_eq] at hb hq
            have hp := hs.ev x
            rw [hx] at hp
            have hp := hon.cr (c := .ptr rr i j) hp
            obtain ⟨A, hA, hi, hp⟩ := hp.2 _ hl
            dsimp only at hi hp
            obtain ⟨hrc1, hrc2⟩ := rcOf_cells hrc
            obtain ⟨xs, h1, h2, h3, h4⟩ := (hsn.regs rr _ hl).1 rfl
            dsimp only at h1 h2 h3 h4
            have hrel := h4 rcs rfl
            obtain rfl : i = 0 := by simp at hi; exact hi
            have hsz1 : (Ty.var n).size = n := rfl
            rw [Nat.zero_mul, Nat.zero_add] at hp
            rcases h2.2 with ⟨_, hl0⟩ | ⟨b, cap, cur, e1, _, hh, hnc, hcm, hcsz, htake⟩
            · cases hl0
            injection e1 with e1 _ e3
            rw [hA] at e1
            injection e1 with e1
            subst e1
            have hxl : xs.length = n := by have := h2.1; rw [hsz1] at this; simpa using this
            rw [hsz1] at hcsz htake
            have hnc : 1 ≤ cap := hnc
            have htake : cur.toList.take n = xs := by simpa using htake
            have hvl : (a.eval y).cells.toList.length = cs1.length := hcr1.length.symm
            have hmul2 : 1 * n ≤ cap * n := Nat.mul_le_mul_right _ hnc
            have hcl : cur.toList.length = cap * n := by rw [Array.length_toList, hcsz]
            obtain ⟨inf, zz, hi1, hi2, _, _⟩ := hT.e hti
            have hrun := run_storeCells_at P b j t' (a.eval y).cells.toList 0 cur w hh (by rw [hvl, hcsz]; omega) hone
            simp only [Nat.add_zero] at hrun
            refine wp_skip' (w' := w.setRow b (cur.toList.take j ++ (a.eval y).cells.toList ++ cur.toList.drop (j + (a.eval y).cells.toList.length)).toArray) ?_ ?_
            · have hsize : (a.eval y).cells.size = inf.size := by rw [← Array.length_toList, hvl, hi2]; exact hq.symm
              rw [add0] at hp
              simp [execOp, ho, hp, Instr.storeAt, Instr.sureAddr, storeVar, sizeOf, typeInfo, hi1, hsize, hrun]
            · have hnewrel : All2 (CRs cx ι1 st1 w) (cellsOf (app (firsts j rcs) (app new (lasts (j + count new) rcs)))) (xs.take j ++ (a.eval y).cells.toList ++ xs.drop (j + (a.eval y).cells.toList.length)) := by
                rw [app_eq, app_eq, firsts_eq, lasts_eq, count_eq, cellsOf_app, cellsOf_app, cellsOf_take, cellsOf_drop, hrc1, hrc2, ← List.append_assoc, hvl]
                exact ((hrel.take j).app hcr1).app (hrel.drop _)
              have hlen2 : (xs.take j ++ (a.eval y).cells.toList ++ xs.drop (j + (a.eval y).cells.toList.length)).length = n := by
                simp only [List.length_append, List.length_take, List.length_drop, hvl]; omega
              have honeall : ∀ v ∈ xs.take j ++ (a.eval y).cells.toList ++ xs.drop (j + (a.eval y).cells.toList.length), v.oneCell' = true := fun v hv => by
                obtain ⟨v1, v2, e1, h5, h6⟩ := h1
                cases h6
                rw [List.append_nil] at e1
                subst e1
                rcases List.mem_append.1 hv with hv | hv
                · rcases List.mem_append.1 hv with hv | hv
                  · exact h5.2 v (List.mem_of_mem_take hv)
                  · exact hone v hv
                · exact h5.2 v (List.mem_of_mem_drop hv)
              have hspl := splice1 (vs := (a.eval y).cells.toList) htake.symm (by rw [hcl]; omega) (by rw [hvl]; exact hb)
              have hw := hsn.write hl rfl [app (firsts j rcs) (app new (lasts (j + count new) rcs))] fr rfl id (kp_setRow (cs := (cur.toList.take j ++ (a.eval y).cells.toList ++ cur.toList.drop (j + (a.eval y).cells.toList.length)).toArray) ⟨_, hA, rfl⟩)
                ⟨xs.take j ++ (a.eval y).cells.toList ++ xs.drop (j + (a.eval y).cells.toList.length), ⟨by rw [hlen2, hsz1]; simp, .inr ⟨b, cap, _, by rw [hA, e3], Nat.zero_le _, setRow_heap w b cur _ t' _ hh, hnc, hcm, ?_, ?_⟩⟩, fun _ e => (by cases e; exact hnewrel), ⟨_, [], by simp, ⟨hlen2, honeall⟩, rfl⟩⟩
              · have hkp := kp_setRow (w := w) (b := b) (cs := (cur.toList.take j ++ (a.eval y).cells.toList ++ cur.toList.drop (j + (a.eval y).cells.toList.length)).toArray) (M := fun k => k = b) rfl
                refine ⟨⟨_, hp, hkp.size, fun k hk hne => hkp.block k hk fun e => hne ?_⟩, hN.put hw hd (v := .dead) trivial h⟩
                rw [e]; unfold Addr.add; split <;> rfl
              · rw [hsz1]
                simp only [List.size_toArray, List.length_append, List.length_take, List.length_drop, hcl, hvl]
                omega
              · rw [hsz1]
                show (_ : List Value).take (1 * n) = _
                rw [Nat.one_mul]
                exact hspl
          · cases h
        · cases h
      split at h
      · rename_i t' e l fr hg
        have hl := reg_eq.1 hg
        split at h
        · rename_i z hb hq hz
          have hb := Nat.le_of_ble_eq_true hb
          have hq := Nat.eq_of_beq_eq_true hq
          rw [count_eq] at hb hq
          have hp := hs.ev x
          rw [hx] at hp
          have hp := ho1.cr (c := .ptr rr i j) hp
          obtain ⟨A, hA, hi, hp⟩ := hp.2 _ hl
          dsimp only at hi hp
          obtain ⟨xs, h1, h2, h3⟩ := (hs1.regs rr _ hl).1 rfl
          dsimp only at h1 h2 h3
          obtain ⟨us, hus, hat⟩ := h1.at i hi
          rcases h2.2 with ⟨_, hl0⟩ | ⟨b, cap, cur, e1, _, hh, hnc, hcm, hcsz, htake⟩
          · rw [hl0] at hi; cases hi
          injection e1 with e1 _ e3
          rw [hA] at e1
          injection e1 with e1
          subst e1
          have hvl : (a.eval y).cells.toList.length = cs.length := hr1.length.symm
          have hsz := hus.size
          have hmul : (i + 1) * e.size ≤ l.length * e.size := Nat.mul_le_mul_right _ hi
          rw [Nat.add_mul, Nat.one_mul] at hmul
          have hmul2 : l.length * e.size ≤ cap * e.size := Nat.mul_le_mul_right _ hnc
          have hcl : cur.toList.length = cap * e.size := by rw [Array.length_toList, hcsz]
          obtain ⟨inf, zz, hi1, hi2, _, _⟩ := hT.e hti
          have hrun := run_storeCells_at P b (i * e.size + j) t' (a.eval y).cells.toList 0 cur w hh (by rw [hvl, hcsz]; omega) hone
          simp only [Nat.add_zero] at hrun
          refine wp_skip' (w' := w.setRow b (cur.toList.take (i * e.size + j) ++ (a.eval y).cells.toList ++ cur.toList.drop (i * e.size + j + (a.eval y).cells.toList.length)).toArray) ?_ ?_
          · have hsize : (a.eval y).cells.size = inf.size := by rw [← Array.length_toList, hvl, hi2]; exact hq.symm
            rw [add0] at hp
            simp [execOp, ho, hp, Instr.storeAt, Instr.sureAddr, storeVar, sizeOf, typeInfo, hi1, hsize, hrun]
          · have hnew : RD w (Rdb cx w ι (freeze st c.cells).σ (fr && frs cs)) e z (us.take j ++ (a.eval y).cells.toList ++ us.drop (j + (a.eval y).cells.toList.length)) := by
              refine dec1_rel hz ?_ (fun hf => ?_)
              · rw [splice, app_eq, app_eq, firsts_eq, lasts_eq, count_eq, ← List.append_assoc, hvl]
                have henc := enc_rel (fr := fr) hus
                rw [← rd_get hi] at henc
                exact ((henc.take j).app hr1).app (henc.drop _)
              · simp only [Bool.and_eq_true] at hf
                rw [splice, app_eq, app_eq, firsts_eq, lasts_eq, frs_app, frs_app, frs_take _ (frs_enc hf.1), hf.2, frs_drop _ (frs_enc hf.1)]; rfl
            have hxs' := RDs.set hnew i (h1.le (fr' := fr && frs cs) (fun hf => by simp only [Bool.and_eq_true] at hf; exact hf.1)) hi
            have hw := hs1.write hl rfl (setL l i z) (fr && frs cs) (by simp [setL]) (fun hf => by simp only [Bool.and_eq_true] at hf; exact hf.1) (kp_setRow (cs := (cur.toList.take (i * e.size + j) ++ (a.eval y).cells.toList ++ cur.toList.drop (i * e.size + j + (a.eval y).cells.toList.length)).toArray) ⟨_, hA, rfl⟩) ⟨_, ?_, VarR.nv (dec1_nv hz), hxs'⟩
            · have hkp := kp_setRow (w := w) (b := b) (cs := (cur.toList.take (i * e.size + j) ++ (a.eval y).cells.toList ++ cur.toList.drop (i * e.size + j + (a.eval y).cells.toList.length)).toArray) (M := fun k => k = b) rfl
              refine ⟨⟨_, hp, hkp.size, fun k hk hne => hkp.block k hk fun e => hne ?_⟩, hN.put hw hd (v := .dead) trivial h⟩
              rw [e]; unfold Addr.add; split <;> rfl
            · have hspl := splice_list (vs := (a.eval y).cells.toList) htake.symm (by rw [hcl]; exact hmul2) hi (by rw [hvl]; exact hb) hsz hat
              refine ⟨by rw [← hspl, List.length_take]; simp only [List.length_append, List.length_take, List.length_drop, hcl, hvl]; omega, .inr ⟨b, cap, _, by rw [hA, e3], Nat.zero_le _, setRow_heap w b cur _ t' _ hh, hnc, hcm, ?_, ?_⟩⟩
              · simp only [List.size_toArray, List.length_append, List.length_take, List.length_drop, hcl, hvl]
                omega
              · exact hspl
        · cases h
      · cases h
    · cases h
  · cases h
end
end Go.Proofs.Ytpfjneaoankllaa.Ev

namespace Go.Proofs.Ytpfjneaoankllaa.Ev
open Go.RowKit
section
variable {cx : Cx} {ι : Lay} {st : State} {ts : Array Value} {w : World}
variable {P : Program} {E : Env} {o : Oper} {a : Act} {R : Type} {K : State → Option R} {r : R} {next : Act → World → Prop} {Q : Exit → Act → World → Prop}
/-- An operation that yields a value whatever the world, and what follows it. -/
def Yl (P : Program) (o : Oper) (a : Act) (next : Act → World → Prop) (w : World) : Prop := ∃ u, (∀ w', (execOp a.eval o).run P w' = .ok (.value u) w') ∧ next (a.put o.dst u) w
theorem Yl.wp (h : Yl P o a next w) : o.wp P a w next Q := by
  obtain ⟨u, h1, h2⟩ := h
  exact wp_val (h1 w) h2
theorem op_nil {x : Operand} (ho : o.op = .nilCheck x) (hs : Sim cx ι st a.tmps w) (hd : a.defers = []) (hN : Nx cx K r next) {c : Cell} (hx : st.ev x = .v (.one c))
    (hc : (∃ rr i j, c = .ptr rr i j) ∨ ∃ f, c = .fn f) (hl : ∀ rr i j, c = .ptr rr i j → ∃ g, st.reg rr = some g) (h : K (st.put o.dst (.v (.one c))) = some r) : Yl P o a next w := by
  have hv := hs.ev x
  rw [hx] at hv
  refine ⟨a.eval x, fun w' => ?_, hN.put hs hd hv h⟩
  rcases hc with ⟨rr, i, j, rfl⟩ | ⟨f, rfl⟩
  · obtain ⟨g, hg⟩ := hl rr i j rfl
    obtain ⟨A, _, _, hp⟩ := hv.2 g (reg_eq.1 hg)
    simp [execOp, ho, hp]
  · have hp : a.eval x = .func (.func f) #[] #[] := hv
    simp [execOp, ho, hp]
theorem op_fieldAddr (hT : TOk P E) {t : TypeId} {x : Operand} {i : Nat} (ho : o.op = .fieldAddr t x i) (hs : Sim cx ι st a.tmps w) (hd : a.defers = []) (hN : Nx cx K r next) {rr ai j off : Nat} {ft : TypeId} {ti fi : TI}
    (hx : st.ev x = .v (.one (.ptr rr ai j))) (hti : look E.T t = some ti) (hf : nth ti.fl i = some (off, ft)) (hfi : look E.T ft = some fi) (hpos : Nat.ble 1 fi.e.size = true) (hg : ∃ g, st.reg rr = some g)
    (h : K (st.put o.dst (.v (.one (.ptr rr ai (j + off))))) = some r) : Yl P o a next w := by
  have hv := hs.ev x
  rw [hx] at hv
  obtain ⟨g, hg⟩ := hg
  obtain ⟨A, hA, hi, hp⟩ := hv.2 g (reg_eq.1 hg)
  obtain ⟨fs, f, h1, h2, h3, h4⟩ := hT.field hti hf
  obtain ⟨inf, z, h5, h6, _, _⟩ := hT.e hfi
  have hpos := Nat.le_of_ble_eq_true hpos
  refine ⟨.pointer (some ((A.add (ai * g.e.size + j)).add off)), fun w' => ?_, hN.put hs hd (v := .v (.one (.ptr rr ai (j + off)))) ⟨hv.1, fun g' hg' => ?_⟩ h⟩
  · have hne : inf.size ≠ 0 := by omega
    subst h3
    subst h4
    simp [execOp, ho, Instr.fieldAt, run_underlying h1, h2, hp, Instr.sureAddr, fieldPlace, sizeOf, typeInfo, h5, hne]
  · rw [reg_eq] at hg
    have := live_fun hg hg'
    subst this
    exact ⟨A, hA, hi, by rw [add_add', Nat.add_assoc]⟩
theorem isSl_spec (hT : TOk P E) {t : TypeId} {n : Nat} (h : isSl E.T t n = true) : ∃ te inf, P.underlying t = some (.slice te) ∧ P.info? te = some inf ∧ inf.size = n := by
  unfold isSl at h
  split at h
  · rename_i te e fl hti
    obtain ⟨h1, _, i, z, h3, h4, _⟩ := hT.slice hti rfl
    exact ⟨te, i, h1, h3, h4.trans (Nat.eq_of_beq_eq_true h)⟩
  · cases h
theorem elem_eq {t te : TypeId} (h : P.underlying t = some (.slice te)) : P.elem t = te := by simp [Program.elem, h]
theorem okIx_spec {n m : Int} (h : okIx n m = true) : 0 ≤ n ∧ n < m := by simpa [okIx] using h
theorem okSl_spec {n m : Int} (h : okSl n m = true) : 0 ≤ n ∧ n ≤ m := by simpa [okSl] using h
theorem ivlen_eq {α : Type} (l : List α) (s : Slc) : ivlen l s = ((vlen l s : Nat) : Int) := by cases s <;> rfl
/-- What a slice's value is. -/
theorem SlR.form {A : Option Addr} {c size : Nat} {α : Type} {l : List α} {s : Slc} {v : Value} (h : SlR A c size l.length s v) : ∃ A' c', v = .slice A' (vlen l s) c' ∧ (∀ i, i < vlen l s → l.length ≤ c → ∃ a, A = some a → A' = some (a.add (at_ s 0 * size))) := by
  cases s with
  | all => exact ⟨A, c, h, fun i hi _ => by cases A with | none => exact ⟨⟨0, 0, none⟩, fun h => by cases h⟩ | some a => exact ⟨a, fun _ => by simp [at_, Addr.add]⟩⟩
  | pre n => exact ⟨A, c, h.2, fun i hi _ => by cases A with | none => exact ⟨⟨0, 0, none⟩, fun h => by cases h⟩ | some a => exact ⟨a, fun _ => by simp [at_, Addr.add]⟩⟩
  | sub o n =>
    obtain ⟨_, A', c', rfl, _, hA⟩ := h
    refine ⟨A', c', rfl, fun i hi _ => ?_⟩
    obtain ⟨a, h1, h2⟩ := hA (by have : i < n := hi; omega)
    exact ⟨a, fun h => by rw [h1] at h; simpa [at_, nadd] using h2⟩
theorem at_add (s : Slc) (i : Nat) : at_ s i = at_ s 0 + i := by cases s <;> simp [at_, nadd]
theorem vlen_le {A : Option Addr} {c size : Nat} {α : Type} {l : List α} {s : Slc} {v : Value} (h : SlR A c size l.length s v) : at_ s 0 + vlen l s ≤ l.length := by
  cases s with
  | all => simp [at_, vlen]
  | pre n => simpa [at_, vlen] using h.1
  | sub o n => simpa [at_, vlen, nadd] using h.1
theorem op_indexAddr (hT : TOk P E) {t : TypeId} {x ix : Operand} (ho : o.op = .indexAddr t x ix) (hs : Sim cx ι st a.tmps w) (hd : a.defers = []) (hN : Nx cx K r next) {rr : Nat} {s : Slc} {k : IntKind} {n : Int} {g : Reg}
    (hx : st.ev x = .v (.one (.ref rr s))) (hix : st.ev ix = .v (.one (.int k n))) (hg : st.reg rr = some g) (hsl : isSl E.T t g.e.size = true)
    (h : br (okIx n (ivlen g.l s)) (K (st.put o.dst (.v (.one (.ptr rr (at_ s (nat n)) 0))))) none = some r) : Yl P o a next w := by
  rcases br_some h with ⟨hok, h⟩ | ⟨_, h⟩
  · have hv := hs.ev x
    rw [hx] at hv
    have hi := hs.ev ix
    rw [hix] at hi
    have hi : a.eval ix = .int k n := hi
    have hl := reg_eq.1 hg
    have hsr := hv.2 g hl
    obtain ⟨te, inf, h1, h2, h3⟩ := isSl_spec hT hsl
    obtain ⟨h4, h5⟩ := okIx_spec hok
    rw [ivlen_eq] at h5
    obtain ⟨A', c', he, hf⟩ := hsr.form
    have hle := vlen_le hsr
    have hcap := (hs.regs rr g hl).cap
    have hpos : nat n < vlen g.l s := by unfold nat; omega
    obtain ⟨A, us, hA, _, _⟩ := (hs.regs rr g hl).at (at_ s (nat n)) (by rw [at_add]; omega)
    obtain ⟨A2, hf⟩ := hf (nat n) hpos hcap
    have hA' : A' = some (A.add (at_ s 0 * g.e.size)) := by
      cases s with
      | all => have : a.eval x = .slice (ι rr).1 g.l.length (ι rr).2 := hsr; rw [this] at he; injection he with e1; rw [← e1, hA]; simp [at_, Addr.add]
      | pre m => have : a.eval x = .slice (ι rr).1 m (ι rr).2 := hsr.2; rw [this] at he; injection he with e1; rw [← e1, hA]; simp [at_, Addr.add]
      | sub o' m =>
        obtain ⟨_, A3, c3, h6, _, h7⟩ := hsr
        rw [h6] at he
        injection he with e1
        obtain ⟨a3, h8, h9⟩ := h7 (by have : nat n < m := hpos; omega)
        rw [hA] at h8
        injection h8 with h8
        rw [← e1, h9, h8]
        simp [at_, nadd]
    refine ⟨.pointer (some ((A.add (at_ s 0 * g.e.size)).add (nat n * g.e.size))), fun w' => ?_, hN.put hs hd (v := .v (.one (.ptr rr (at_ s (nat n)) 0))) ⟨hv.1, fun g' hg' => ?_⟩ h⟩
    · have hlt : 0 ≤ n ∧ n < ((vlen g.l s : Nat) : Int) := ⟨h4, h5⟩
      simp [execOp, ho, Instr.indexAt, hi, asIntOf, run_underlying h1, he, hA', hlt, sizeOf, typeInfo, h2, h3, nat]
    · have := live_fun hl hg'
      subst this
      refine ⟨A, hA, by rw [at_add]; omega, ?_⟩
      rw [add_add', Nat.add_zero, at_add s (nat n), Nat.add_mul]
  · cases h
theorem op_len (hT : TOk P E) {c : Call} {x : Operand} {t : TypeId} (ho : o.op = .call c) (hc : c.callee = .builtin .len) (ha : c.args.toList = [x]) (hta : c.argTypes.toList = [t]) (hs : Sim cx ι st a.tmps w) (hd : a.defers = []) (hN : Nx cx K r next) {n : Int}
    (hn : lenE E.T t (st.ev x) st = some n) (h : K (st.put o.dst (.v (.one (.int .i64 n)))) = some r) : Yl P o a next w := by
  have hv := hs.ev x
  have ha' : c.args = #[x] := by cases hc' : c.args; simp_all
  have hta' : c.argTypes = #[t] := by cases hc' : c.argTypes; simp_all
  refine ⟨.int .i64 n, fun w' => ?_, hN.put hs hd (v := .v (.one (.int .i64 n))) rfl h⟩
  have key : (Builtin.len_ #[t] o.type #[a.eval x]).run P w' = .ok (.int .i64 n) w' := by
    unfold lenE at hn
    split at hn
    · rename_i rr s st' hx
      rw [hx] at hv
      split at hn
      · rename_i te e fl g hti hg
        obtain ⟨h1, _⟩ := hT.slice hti rfl
        obtain ⟨A', c', he, _⟩ := (hv.2 g (reg_eq.1 hg)).form
        obtain rfl := Option.some.inj hn
        rw [ivlen_eq]
        simp [Builtin.len_, run_underlying h1, he, goInt]
      · cases hn
    · rename_i hx
      rw [hx] at hv
      split at hn
      · rename_i te e fl hti
        obtain ⟨h1, _⟩ := hT.slice hti rfl
        obtain rfl := Option.some.inj hn
        have he : a.eval x = .slice none 0 0 := hv
        simp [Builtin.len_, run_underlying h1, he, goInt]
      · cases hn
    · rename_i s hx
      rw [hx] at hv
      split at hn
      · rename_i fl hti
        obtain ⟨d, hd', _, _, _, _, h2, _⟩ := hT.d hti
        obtain rfl := h2 rfl rfl
        obtain rfl := Option.some.inj hn
        have he : a.eval x = .string s := hv
        simp [Builtin.len_, run_underlying hd', he, goInt, inat]
      · cases hn
    · cases hn
  simp [execOp, ho, resolve, hc, ha', hta', invoke, builtin, key]
theorem sliced_zero (A : Option Addr) (h c s : Nat) : sliced A 0 h c s = .slice A h c := by
  unfold sliced
  split
  · simp
  · cases A <;> simp [Addr.add]
theorem op_slice_h (hT : TOk P E) {t : TypeId} {x hi : Operand} (ho : o.op = .slice t x none (some hi) none) (hs : Sim cx ι st a.tmps w) (hd : a.defers = []) (hN : Nx cx K r next) {rr : Nat} {s : Slc} {n : Int} {g : Reg}
    (hx : st.ev x = .v (.one (.ref rr s))) (hix : st.ev hi = .v (.one (.int .i64 n))) (hg : st.reg rr = some g) (hsl : isSl E.T t g.e.size = true)
    (h : (match s with | .sub o' m => br (okSl n (inat m)) (K (st.put o.dst (.v (.one (.ref rr (.sub o' (nat n))))))) none | _ => br (okSl n (ilen g.l)) (K (st.put o.dst (.v (.one (.ref rr (.pre (nat n))))))) none) = some r) : Yl P o a next w := by
  have hv := hs.ev x
  rw [hx] at hv
  have hi' := hs.ev hi
  rw [hix] at hi'
  have hi' : a.eval hi = .int .i64 n := hi'
  have hl := reg_eq.1 hg
  have hsr := hv.2 g hl
  have hcap := (hs.regs rr g hl).cap
  obtain ⟨te, inf, h1, h2, h3⟩ := isSl_spec hT hsl
  have run : ∀ (A : Option Addr) (len c : Nat), a.eval x = .slice A len c → 0 ≤ n → n ≤ (c : Int) → ∀ w', (execOp a.eval o).run P w' = .ok (.value (.slice A n.toNat c)) w' := fun A len c he h0 h4 w' => by
    have hr := run_slice_h (P := P) w' t A len c (by rw [h1, elem_eq h1]) .i64 n h0 h4
    rw [elem_eq h1] at hr
    simp [execOp, ho, Instr.sliceAt, run_underlying h1, he, hi', hr, sizeOf, typeInfo, h2, sliced_zero]
  have pre : ∀ (A : Option Addr) (len c : Nat), a.eval x = .slice A len c → A = (ι rr).1 → c = (ι rr).2 → br (okSl n (ilen g.l)) (K (st.put o.dst (.v (.one (.ref rr (.pre (nat n))))))) none = some r → Yl P o a next w := by
    rintro A len c he rfl rfl h
    rcases br_some h with ⟨hok, h⟩ | ⟨_, h⟩
    · obtain ⟨h4, h5⟩ := okSl_spec hok
      unfold ilen at h5
      refine ⟨_, run _ _ _ he h4 (by omega), hN.put hs hd (v := .v (.one (.ref rr (.pre (nat n))))) ⟨hv.1, fun g' hg' => ?_⟩ h⟩
      have := live_fun hl hg'
      subst this
      exact ⟨by unfold nat; omega, rfl⟩
    · cases h
  cases s with
  | all => exact pre _ _ _ hsr rfl rfl h
  | pre m => exact pre _ _ _ hsr.2 rfl rfl h
  | sub o' m =>
    obtain ⟨hm, A', c', he, hc', hA⟩ := hsr
    rcases br_some h with ⟨hok, h⟩ | ⟨_, h⟩
    · obtain ⟨h4, h5⟩ := okSl_spec hok
      unfold inat at h5
      refine ⟨_, run _ _ _ he h4 (by omega), hN.put hs hd (v := .v (.one (.ref rr (.sub o' (nat n))))) ⟨hv.1, fun g' hg' => ?_⟩ h⟩
      have := live_fun hl hg'
      subst this
      exact ⟨by unfold nat; omega, A', c', rfl, by unfold nat; omega, fun hp => hA (by unfold nat at hp; omega)⟩
    · cases h
theorem op_slice_lh (hT : TOk P E) {t : TypeId} {x lo : Operand} {hi : Option Operand} (ho : o.op = .slice t x (some lo) hi none) (hs : Sim cx ι st a.tmps w) (hd : a.defers = []) (hN : Nx cx K r next) {rr : Nat} {s : Slc} {n m : Int} {g : Reg}
    (hx : st.ev x = .v (.one (.ref rr s))) (hlo : st.ev lo = .v (.one (.int .i64 n))) (hhi : (∃ y, hi = some y ∧ st.ev y = .v (.one (.int .i64 m))) ∨ (hi = none ∧ m = ((vlen g.l s : Nat) : Int)))
    (hg : st.reg rr = some g) (hsl : isSl E.T t g.e.size = true)
    (hok : 0 ≤ n ∧ n ≤ m ∧ m ≤ ((vlen g.l s : Nat) : Int)) (h : K (st.put o.dst (.v (.one (.ref rr (.sub (at_ s (nat n)) (nsub (nat m) (nat n))))))) = some r) : Yl P o a next w := by
  have hv := hs.ev x
  rw [hx] at hv
  have hi' := hs.ev lo
  rw [hlo] at hi'
  have hi' : a.eval lo = .int .i64 n := hi'
  have hl := reg_eq.1 hg
  have hsr := hv.2 g hl
  have hcap := (hs.regs rr g hl).cap
  obtain ⟨te, inf, h1, h2, h3⟩ := isSl_spec hT hsl
  obtain ⟨h4, h5, h6⟩ := hok
  obtain ⟨A', c', he, _⟩ := hsr.form
  have hle := vlen_le hsr
  have hcc : vlen g.l s ≤ c' := by
    cases s with
    | all => have : a.eval x = .slice (ι rr).1 g.l.length (ι rr).2 := hsr; rw [this] at he; injection he with _ _ e3; rw [← e3]; exact hcap
    | pre q => have : a.eval x = .slice (ι rr).1 q (ι rr).2 := hsr.2; rw [this] at he; injection he with _ _ e3; have := hsr.1; rw [← e3]; show q ≤ _; omega
    | sub o' q =>
      obtain ⟨_, A3, c3, h7, h8, _⟩ := hsr
      rw [h7] at he
      injection he with _ _ e3
      rw [← e3]; exact h8
  have hrun : ∀ w', (execOp a.eval o).run P w' = .ok (.value (sliced A' n.toNat m.toNat c' g.e.size)) w' := fun w' => by
    rcases hhi with ⟨y, rfl, hy⟩ | ⟨rfl, rfl⟩
    · have hy' := hs.ev y
      rw [hy] at hy'
      have hy' : a.eval y = .int .i64 m := hy'
      have hr := run_slice_lh (P := P) w' t A' (vlen g.l s) c' (by rw [h1, elem_eq h1]) .i64 .i64 n m h4 h5 (by omega)
      rw [elem_eq h1] at hr
      simp [execOp, ho, Instr.sliceAt, run_underlying h1, he, hi', hy', hr, sizeOf, typeInfo, h2, h3]
    · have hr := run_slice_l (P := P) w' t A' (vlen g.l s) c' (by rw [h1, elem_eq h1]) .i64 n h4 h5
      rw [elem_eq h1] at hr
      simp [execOp, ho, Instr.sliceAt, run_underlying h1, he, hi', hr, sizeOf, typeInfo, h2, h3]
  refine ⟨_, hrun, hN.put hs hd (v := .v (.one (.ref rr (.sub (at_ s (nat n)) (nsub (nat m) (nat n)))))) ⟨hv.1, fun g' hg' => ?_⟩ h⟩
  have := live_fun hl hg'
  subst this
  refine ⟨by rw [at_add]; unfold nat nsub; omega, _, _, rfl, by unfold nat nsub; omega, fun hp => ?_⟩
  unfold nsub nat at hp
  have hlt : at_ s (n.toNat) < g.l.length := by rw [at_add]; omega
  obtain ⟨A, us, hA, _, _⟩ := (hs.regs rr g hl).at _ hlt
  refine ⟨A, hA, ?_⟩
  rw [if_neg (by omega)]
  have hA' : A' = some (A.add (at_ s 0 * g.e.size)) := by
    cases s with
    | all => have : a.eval x = .slice (ι rr).1 g.l.length (ι rr).2 := hsr; rw [this] at he; injection he with e1; rw [← e1, hA]; simp [at_, Addr.add]
    | pre q => have : a.eval x = .slice (ι rr).1 q (ι rr).2 := hsr.2; rw [this] at he; injection he with e1; rw [← e1, hA]; simp [at_, Addr.add]
    | sub o' q =>
      obtain ⟨_, A3, c3, h7, _, h8⟩ := hsr
      rw [h7] at he
      injection he with e1
      obtain ⟨a3, h9, h10⟩ := h8 (by have : m.toNat ≤ q := by { have : vlen g.l (.sub o' q) = q := rfl; omega }; omega)
      rw [hA] at h9
      injection h9 with h9
      rw [← e1, h10, h9]
      simp [at_, nadd]
  rw [hA', Option.map_some, add_add', at_add s (nat n), Nat.add_mul]
  rfl
theorem eqGuard_pass {op : BinOp} {t : TypeId} {x y : Operand} {p q : Value} (h : ∀ u v, p ≠ .agg u ∨ q ≠ .agg v) (h' : p ≠ .nilIface) (w' : World) : (eqGuard op t x y p q).run P w' = .ok () w' := by
  unfold eqGuard
  cases op <;> simp <;> (split <;> first | (exact absurd rfl h') | (rename_i u v; rcases h u v with h | h <;> exact absurd rfl h) | rfl)
theorem isK_spec (hT : TOk P E) {t : TypeId} (h : isK E.T t .bool = true) : P.underlying t = some .bool := by
  unfold isK at h
  split at h
  · rename_i e' fl hti
    obtain ⟨d, hd', _, _, _, _, _, h2⟩ := hT.d hti
    rw [hd', h2 rfl (of_decide_eq_true h)]
  · cases h
def cellV : Cell → Value
  | .int k n => .int k n
  | .bool b => .bool b
  | .str s => .string s
  | _ => undef
theorem agree_some {R : Type} {x y : Option R} {r : R} (h : agree x y = some r) : x = some r ∧ y = some r := by
  unfold agree at h
  split at h
  · rename_i e
    exact ⟨h, e ▸ h⟩
  · cases h
theorem op_nilq (hT : TOk P E) {op : BinOp} {t yt : TypeId} {x y : Operand} (ho : o.op = .binOp op t x y yt) (hs : Sim cx ι st a.tmps w) (hd : a.defers = []) (hN : Nx cx K r next) {cx' cy : Cell} {q : Bool}
    (hx : st.ev x = .v (.one cx')) (hy : st.ev y = .v (.one cy)) (hq : nilQ E.T t st op cx' cy = some q)
    (h : br q (K (st.put o.dst (.v (.one (.bool false))))) (agree (K (st.put o.dst (.v (.one (.bool false))))) (K (st.put o.dst (.v (.one (.bool true)))))) = some r) : Yl P o a next w := by
  unfold nilQ at hq
  split at hq
  · rename_i rr s
    split at hq
    · rename_i g hg
      split at hq
      · rename_i hsl
        obtain rfl := Option.some.inj hq
        have hv := hs.ev x
        rw [hx] at hv
        have hvy := hs.ev y
        rw [hy] at hvy
        have hvy : a.eval y = .slice none 0 0 := hvy
        have hl := reg_eq.1 hg
        have hsr := hv.2 g hl
        obtain ⟨te, inf, h1, h2, h3⟩ := isSl_spec hT hsl
        obtain ⟨A', c', he, hf⟩ := hsr.form
        have hrun : ∀ w', (binOp .eql t (a.eval x) (a.eval y)).run P w' = .ok (.bool A'.isNone) w' := fun w' => by
          rw [he, hvy]
          exact Go.Lib.run_eql_slice_nil w' t te A' _ c' 0 0 h1
        have g1 : ∀ u v, a.eval x ≠ .agg u ∨ a.eval y ≠ .agg v := fun u v => .inl (by rw [he]; simp)
        have g2 : a.eval x ≠ .nilIface := by rw [he]; simp
        have fin : ∀ b, A'.isNone = b → K (st.put o.dst (.v (.one (.bool b)))) = some r → Yl P o a next w := fun b hb hK =>
          ⟨.bool b, fun w' => by simp [execOp, ho, eqGuard_pass g1 g2, hrun, hb], hN.put hs hd (v := .v (.one (.bool b))) rfl hK⟩
        rcases br_some h with ⟨hok, h⟩ | ⟨_, h⟩
        · refine fin false ?_ h
          have hpos : 0 < vlen g.l s := by
            have := of_decide_eq_true ((ltI_eq _ _).symm.trans hok)
            rw [ivlen_eq] at this
            omega
          have hle := vlen_le hsr
          obtain ⟨A, us, hA, _, _⟩ := (hs.regs rr g hl).at (at_ s 0) (by rw [at_add]; omega)
          cases s with
          | all => have : a.eval x = .slice (ι rr).1 g.l.length (ι rr).2 := hsr; rw [this] at he; injection he with e1; rw [← e1, hA]; rfl
          | pre m => have : a.eval x = .slice (ι rr).1 m (ι rr).2 := hsr.2; rw [this] at he; injection he with e1; rw [← e1, hA]; rfl
          | sub o' m =>
            obtain ⟨_, A3, c3, h6, _, h7⟩ := hsr
            rw [h6] at he
            injection he with e1
            obtain ⟨a3, h8, h9⟩ := h7 hpos
            rw [← e1, h9]; rfl
        · obtain ⟨h4, h5⟩ := agree_some h
          cases hA : A'.isNone with
          | true => exact fin true hA h5
          | false => exact fin false hA h4
      · cases hq
    · cases hq
  · cases hq
theorem op_bin (hT : TOk P E) {op : BinOp} {t yt : TypeId} {x y : Operand} (ho : o.op = .binOp op t x y yt) (hs : Sim cx ι st a.tmps w) (hd : a.defers = []) (hN : Nx cx K r next) {cx' cy : Cell}
    (hx : st.ev x = .v (.one cx')) (hy : st.ev y = .v (.one cy)) (h : binE (isK E.T t .bool) op cx' cy (fun c => K (st.put o.dst (.v (.one c)))) = some r) : Yl P o a next w := by
  have hvx := hs.ev x
  rw [hx] at hvx
  have hvy := hs.ev y
  rw [hy] at hvy
  have fin : ∀ c u, CRs cx ι st w c u → K (st.put o.dst (.v (.one c))) = some r → (∀ w', (binOp op t (a.eval x) (a.eval y)).run P w' = .ok u w') → (∀ u v, a.eval x ≠ .agg u ∨ a.eval y ≠ .agg v) → a.eval x ≠ .nilIface → Yl P o a next w := fun c u hc hK hrun h1 h2 =>
    ⟨u, fun w' => by simp [execOp, ho, eqGuard_pass h1 h2, hrun], hN.put hs hd (v := .v (.one c)) hc hK⟩
  cases cx' with
  | int k n =>
    have hvx : a.eval x = .int k n := hvx
    cases cy with
    | int k' m =>
      have hvy : a.eval y = .int k' m := hvy
      have f2 : ∀ c, CRs cx ι st w c (cellV c) → K (st.put o.dst (.v (.one c))) = some r → (∀ w', (binOp op t (.int k n) (.int k' m)).run P w' = .ok (cellV c) w') → Yl P o a next w := fun c hc hK hrun =>
        fin c _ hc hK (by rw [hvx, hvy]; exact hrun) (by rw [hvx]; intro u v; exact .inl (by simp)) (by rw [hvx]; simp)
      cases op with
      | shl =>
        simp only [binE] at h
        rcases br_some h with ⟨_, h⟩ | ⟨hb, h⟩
        · cases h
        · have hb : ¬ m < 0 := by simpa [ltI_eq] using hb
          exact f2 (.int k (shl k n m)) rfl h (fun w' => by simp [binOp, Op.shift, hb, shl, nat, cellV])
      | shr =>
        simp only [binE] at h
        rcases br_some h with ⟨_, h⟩ | ⟨hb, h⟩
        · cases h
        · have hb : ¬ m < 0 := by simpa [ltI_eq] using hb
          exact f2 (.int k (shr k n m)) rfl h (fun w' => by simp [binOp, Op.shift, hb, shr, nat, cellV])
      | _ =>
        simp only [binE] at h
        split at h
        · rename_i hk
          subst hk
          first
            | cases h
            | exact f2 (.int k (add k n m)) rfl h (fun w' => by simp [binOp, Op.intArith, add, cellV])
            | exact f2 (.int k (sub k n m)) rfl h (fun w' => by simp [binOp, Op.intArith, sub, cellV])
            | exact f2 (.int k (mul k n m)) rfl h (fun w' => by simp [binOp, Op.intArith, mul, cellV])
            | exact f2 (.int k (bits .and k n m)) rfl h (fun w' => by simp [binOp, intBits_and, cellV])
            | exact f2 (.int k (bits .or k n m)) rfl h (fun w' => by simp [binOp, intBits_or, cellV])
            | exact f2 (.int k (bits .xor k n m)) rfl h (fun w' => by simp [binOp, intBits_xor, cellV])
            | exact f2 (.int k (bits .andNot k n m)) rfl h (fun w' => by simp [binOp, intBits_andNot, cellV])
            | exact f2 (.bool (eqI n m)) rfl h (fun w' => by simp [binOp, Op.intCmp, eqI_eq, cellV]; rfl)
            | exact f2 (.bool (neI n m)) rfl h (fun w' => by simp [binOp, Op.intCmp, neI_eq, cellV]; rfl)
            | exact f2 (.bool (ltI n m)) rfl h (fun w' => by simp [binOp, Op.intCmp, ltI_eq, cellV])
            | exact f2 (.bool (ltI m n)) rfl h (fun w' => by simp [binOp, Op.intCmp, ltI_eq, cellV])
            | exact f2 (.bool (leI n m)) rfl h (fun w' => by simp [binOp, Op.intCmp, leI_eq, cellV])
            | exact f2 (.bool (leI m n)) rfl h (fun w' => by simp [binOp, Op.intCmp, leI_eq, cellV])
            | (rcases br_some h with ⟨_, h⟩ | ⟨hb, h⟩
               · cases h
               · have hb : m ≠ 0 := by simpa [eqI_eq] using hb
                 first
                   | exact f2 (.int k (quo k n m)) rfl h (fun w' => by simp [binOp, Op.intDiv, hb, quo, cellV])
                   | exact f2 (.int k (rem n m)) rfl h (fun w' => by simp [binOp, Op.intDiv, hb, rem, cellV]))
        · cases h
    | _ => simp [binE] at h
  | bool p =>
    have hvx : a.eval x = .bool p := hvx
    cases cy with
    | bool q =>
      have hvy : a.eval y = .bool q := hvy
      have f2 : ∀ c, CRs cx ι st w c (cellV c) → K (st.put o.dst (.v (.one c))) = some r → (∀ w', (binOp op t (.bool p) (.bool q)).run P w' = .ok (cellV c) w') → Yl P o a next w := fun c hc hK hrun =>
        fin c _ hc hK (by rw [hvx, hvy]; exact hrun) (by rw [hvx]; intro u v; exact .inl (by simp)) (by rw [hvx]; simp)
      simp only [binE] at h
      split at h
      · rename_i hb
        exact f2 (.bool (boolEq p q)) rfl h (fun w' => by rw [run_eql_bool _ _ _ _ (isK_spec hT hb)]; rfl)
      · rename_i hb
        exact f2 (.bool (bnot (boolEq p q))) rfl h (fun w' => by rw [run_neq_bool _ _ _ _ (isK_spec hT hb)]; rfl)
      · cases h
    | _ => simp [binE] at h
  | str p =>
    have hvx : a.eval x = .string p := hvx
    cases cy with
    | str q =>
      have hvy : a.eval y = .string q := hvy
      have f2 : ∀ c, CRs cx ι st w c (cellV c) → K (st.put o.dst (.v (.one c))) = some r → (∀ w', (binOp op t (.string p) (.string q)).run P w' = .ok (cellV c) w') → Yl P o a next w := fun c hc hK hrun =>
        fin c _ hc hK (by rw [hvx, hvy]; exact hrun) (by rw [hvx]; intro u v; exact .inl (by simp)) (by rw [hvx]; simp)
      simp only [binE] at h
      split at h
      · exact f2 (.bool (strEq p q)) rfl h (fun w' => by simp [binOp, Op.stringOp, strEq, cellV])
      · exact f2 (.bool (bnot (strEq p q))) rfl h (fun w' => by simp [binOp, Op.stringOp, strEq, bnot, cellV])
      · rcases br_some h with ⟨hb, h⟩ | ⟨_, h⟩
        · have hb : p.size + q.size ≤ 9223372036854775807 := by simpa [okCat] using hb
          exact f2 (.str (strApp p q)) rfl h (fun w' => by
            have : ¬ (IntKind.i64.max < ((p.size + q.size : Nat) : Int)) := by simp [IntKind.max, IntKind.signed, IntKind.bits]; omega
            simp only [binOp, Op.stringOp]
            rw [if_neg this]
            rfl)
        · cases h
      · cases h
    | _ => simp [binE] at h
  | _ => simp [binE] at h
end
end Go.Proofs.Ytpfjneaoankllaa.Ev

namespace Go.Proofs.Ytpfjneaoankllaa.Ev
open Go.RowKit
section
variable {cx : Cx} {ι : Lay} {st : State} {ts : Array Value} {w : World}
variable {P : Program} {E : Env} {o : Oper} {a : Act} {R : Type} {K : State → Option R} {r : R} {next : Act → World → Prop} {Q : Exit → Act → World → Prop}
theorem op_un {op : UnOp} {t : TypeId} {x : Operand} (ho : o.op = .unOp op t x) (hs : Sim cx ι st a.tmps w) (hd : a.defers = []) (hN : Nx cx K r next) {c : Cell}
    (hx : st.ev x = .v (.one c)) (h : unE op c (fun c => K (st.put o.dst (.v (.one c)))) = some r) : Yl P o a next w := by
  have hv := hs.ev x
  rw [hx] at hv
  unfold unE at h
  split at h
  · rename_i k n
    have hv : a.eval x = .int k n := hv
    exact ⟨.int k (sub k 0 n), fun w' => by simp [execOp, ho, hv, Op.unary, Op.intArith, sub], hN.put (u := .int k (sub k 0 n)) hs hd (v := .v (.one (.int k (sub k 0 n)))) rfl h⟩
  · rename_i b
    have hv : a.eval x = .bool b := hv
    exact ⟨.bool (bnot b), fun w' => by simp [execOp, ho, hv, Op.unary, bnot], hN.put hs hd (v := .v (.one (.bool (bnot b)))) rfl h⟩
  · cases h
theorem op_convert (hT : TOk P E) {s t : TypeId} {x : Operand} (ho : o.op = .convert s t x) (hs : Sim cx ι st a.tmps w) (hd : a.defers = []) (hN : Nx cx K r next) {k k' : IntKind} {n : Int} {fl : List (Nat × TypeId)} {si : TI}
    (hx : st.ev x = .v (.one (.int k' n))) (ht : look E.T t = some ⟨.int k, false, fl⟩) (hsi : look E.T s = some si) (h : K (st.put o.dst (.v (.one (.int k (k.wrap n))))) = some r) : Yl P o a next w := by
  have hv := hs.ev x
  rw [hx] at hv
  have hv : a.eval x = .int k' n := hv
  obtain ⟨d, hd1, _⟩ := hT.d hsi
  obtain ⟨d', hd2, _, _, _, h5, _⟩ := hT.d ht
  obtain rfl := h5 rfl k rfl
  refine ⟨_, fun w' => ?_, hN.put hs hd (v := .v (.one (.int k (k.wrap n)))) rfl h⟩
  simp [execOp, ho, hv, convert, run_underlying hd1, run_underlying hd2, Conv.intToInt]
theorem op_extract {T : Tab} {x : Operand} {i : Nat} (ho : o.op = .extract x i) (hs : Sim cx ι st a.tmps w) (hd : a.defers = []) (hN : Nx cx K r next) {cs : List Comp} {c : Comp}
    (hx : st.ev x = .tup cs) (hc : nth cs i = some c) (h : (match c with | .one c => (match imp T o.type st c with | (c', st') => K (st'.put o.dst (.v (.one c')))) | c => K (st.put o.dst (.v c))) = some r) : Yl P o a next w := by
  have hv := hs.ev x
  rw [hx] at hv
  obtain ⟨vs, hv, h2⟩ := hv
  rw [nth_eq] at hc
  obtain ⟨v, h3, h4⟩ := h2.at i c hc
  refine ⟨v, fun w' => ?_, ?_⟩
  · have : vs[i]? = some v := by simpa using h3
    simp [execOp, ho, hv, Instr.extract, this]
  · cases c with
    | one c =>
      cases hi' : imp T o.type st c with
      | mk c' st' =>
        simp only [hi'] at h
        obtain ⟨ι', h5, h6, _⟩ := imp_rel hs h4 hi'
        exact hN.put h5 hd (v := .v (.one c')) h6 h
    | agg cs => exact hN.put hs hd (v := .v (.agg cs)) h4 h
theorem extract_toList (vs : Array Value) (i j : Nat) : (vs.extract i j).toList = (vs.toList.drop i).take (j - i) := by
  rw [Array.toList_extract, List.extract_eq_take_drop]
theorem scl_run {w : World} {N : Nat → Prop} {e : Ty} {t : TypeId} {x y : e.den} {us vs : List Value} (h : scOk P e t = true) (hx : RD w N e x us) (hy : RD w N e y vs) (w' : World) (d : Nat) :
    ∃ u v, us = [u] ∧ vs = [v] ∧ (isAgg t).run P w' = .ok false w' ∧ (Op.equalIn (d + 1) t u v).run P w' = .ok (eqD e x y) w' := by
  unfold scOk at h
  split at h
  · rename_i k k' hk
    have := of_decide_eq_true h
    subst this
    refine ⟨_, _, hx, hy, run_isAgg hk, ?_⟩
    rw [run_equalIn_int w' d t _ _ _ _ hk]
    exact congrArg (Result.ok · w') (eqI_eq x y).symm
  · rename_i hk
    refine ⟨_, _, hx, hy, run_isAgg hk, ?_⟩
    rw [run_equalIn_bool' w' d t _ _ hk]
    rfl
  · rename_i hk
    refine ⟨_, _, hx, hy, run_isAgg hk, ?_⟩
    rw [run_equalIn_string w' d t _ _ hk]
    rfl
  · cases h
theorem eqF_run {w : World} {N : Nat → Prop} (w' : World) (d : Nat) (xs ys : Array Value) : ∀ (fs : List Field) (e : Ty) (off : Nat), eqFs P e off fs = true → ∀ (x y : e.den), RD w N e x (xs.toList.drop off) → RD w N e y (ys.toList.drop off) →
    (Op.eqFields (d + 1) xs ys fs).run P w' = .ok (eqD e x y) w'
  | [], e, off, h, _, _, _, _ => by cases e <;> simp [eqFs] at h
  | [f], e, off, h, x, y, hx, hy => by
    have h : (decide (f.offset = off) && decide (f.name ≠ "_") && scOk P e f.type) = true := by cases e <;> exact h
    simp only [Bool.and_eq_true, decide_eq_true_eq] at h
    obtain ⟨⟨ho, hn⟩, hsc⟩ := h
    obtain ⟨u, v, hu, hv, hag, hq⟩ := scl_run hsc hx hy w' d
    have gx : xs[off]? = some u := by
      have : (xs.toList.drop off)[0]? = some u := by rw [hu]; rfl
      simpa using this
    have gy : ys[off]? = some v := by
      have : (ys.toList.drop off)[0]? = some v := by rw [hv]; rfl
      simpa using this
    have px : (part f.type xs f.offset).run P w' = .ok u w' := by rw [ho]; simp [part, hag, gx]
    have py : (part f.type ys f.offset).run P w' = .ok v w' := by rw [ho]; simp [part, hag, gy]
    simp only [Op.eqFields, ne_eq, hn, not_false_eq_true, if_true, Sem.run_bind, px, py, hq, Result.andThen_ok]
    cases eqD e x y <;> simp
  | f :: g :: r, e, off, h, x, y, hx, hy => by
    cases e with
    | pair a b =>
      simp only [eqFs, Bool.and_eq_true, decide_eq_true_eq] at h
      obtain ⟨⟨⟨ho, hn⟩, hsc⟩, hr⟩ := h
      obtain ⟨u1, u2, hu, hx1, hx2⟩ := hx
      obtain ⟨v1, v2, hv, hy1, hy2⟩ := hy
      obtain ⟨u, v, rfl, rfl, hag, hq⟩ := scl_run hsc hx1 hy1 w' d
      have gx : xs[off]? = some u := by
        have : (xs.toList.drop off)[0]? = some u := by rw [hu]; rfl
        simpa using this
      have gy : ys[off]? = some v := by
        have : (ys.toList.drop off)[0]? = some v := by rw [hv]; rfl
        simpa using this
      have ex : xs.toList.drop (off + 1) = u2 := by rw [← List.tail_drop, hu]; rfl
      have ey : ys.toList.drop (off + 1) = v2 := by rw [← List.tail_drop, hv]; rfl
      have ih := eqF_run w' d xs ys (g :: r) b (off + 1) hr x.2 y.2 (by rw [ex]; exact hx2) (by rw [ey]; exact hy2)
      have px : (part f.type xs f.offset).run P w' = .ok u w' := by rw [ho]; simp [part, hag, gx]
      have py : (part f.type ys f.offset).run P w' = .ok v w' := by rw [ho]; simp [part, hag, gy]
      rw [Op.eqFields]
      simp only [ne_eq, hn, not_false_eq_true, if_true, Sem.run_bind, px, py, hq, Result.andThen_ok, eqD, andB]
      cases eqD a x.1 y.1
      · simp
      · simpa using ih
    | _ => simp [eqFs] at h
theorem op_eqA (hT : TOk P E) {op : BinOp} {t yt : TypeId} {x y : Operand} (ho : o.op = .binOp op t x y yt) (hs : Sim cx ι st a.tmps w) (hd : a.defers = []) (hN : Nx cx K r next) {cs ds : List Cell} {q : Bool}
    (hx : st.ev x = .v (.agg cs)) (hy : st.ev y = .v (.agg ds)) (hq : eqA E.T t op cs ds = some q) (h : K (st.put o.dst (.v (.one (.bool q)))) = some r) : Yl P o a next w := by
  have hvx := hs.ev x
  rw [hx] at hvx
  obtain ⟨us, hvx, hux⟩ := hvx
  have hvy := hs.ev y
  rw [hy] at hvy
  obtain ⟨vs, hvy, huy⟩ := hvy
  unfold eqA at hq
  split at hq
  · rename_i ti hti
    split at hq
    · rename_i hok
      simp only [Bool.and_eq_true] at hok
      have hty := hT.eq hti hok.1 hok.2
      have both : ∀ p z, dec1 ti.e cs = some p → dec1 ti.e ds = some z → ∀ w', (eqGuard op t x y (.agg us) (.agg vs)).run P w' = .ok () w' ∧ (Op.equalIn 10000 t (.agg us) (.agg vs)).run P w' = .ok (eqD ti.e p z) w' := fun p z hp hz w' => by
        have hp := dec1_rel (fr := false) hp hux (fun h => by cases h)
        have hz := dec1_rel (fr := false) hz huy (fun h => by cases h)
        unfold eqTy at hty
        split at hty
        · rename_i fs hfs
          simp only [Bool.and_eq_true, Bool.not_eq_true'] at hty
          obtain ⟨⟨h1, h2⟩, h3⟩ := hty
          have hfo : P.fieldsOf t = fs := by unfold Program.fieldsOf; rw [hfs]
          refine ⟨run_eqGuard_agg w' op t x y us vs h1, ?_⟩
          rw [show (10000 : Nat) = 9998 + 1 + 1 from rfl, run_equalIn_agg w' _ t us vs (by rw [hfo]; exact hfs) h2, hfo]
          exact eqF_run w' 9998 us vs fs.toList ti.e 0 h3 p z (by simpa using hp) (by simpa using hz)
        · cases hty
      split at hq
      · rename_i p z hp hz
        obtain rfl := Option.some.inj hq
        refine ⟨.bool (eqD ti.e p z), fun w' => ?_, hN.put hs hd (v := .v (.one (.bool _))) rfl h⟩
        obtain ⟨h1, h2⟩ := both p z hp hz w'
        simp [execOp, ho, hvx, hvy, h1, run_eql_struct, h2]
      · rename_i p z hp hz
        obtain rfl := Option.some.inj hq
        refine ⟨.bool (bnot (eqD ti.e p z)), fun w' => ?_, hN.put hs hd (v := .v (.one (.bool _))) rfl h⟩
        obtain ⟨h1, h2⟩ := both p z hp hz w'
        simp [execOp, ho, hvx, hvy, h1, run_neq_struct, h2, bnot]
      · cases hq
    · cases hq
  · cases hq
theorem op_field (hT : TOk P E) {t : TypeId} {x : Operand} {i : Nat} (ho : o.op = .field t x i) (hs : Sim cx ι st a.tmps w) (hd : a.defers = []) (hN : Nx cx K r next) {cs : List Cell} {ti fi : TI} {off : Nat} {ft : TypeId}
    (hx : st.ev x = .v (.agg cs)) (hti : look E.T t = some ti) (hf : nth ti.fl i = some (off, ft)) (hfi : look E.T ft = some fi)
    (h : (match fi.agg, firsts fi.e.size (lasts off cs) with
          | true, cs' => (match Nat.beq (count cs') fi.e.size with
            | true => K (st.put o.dst (.v (.agg cs')))
            | false => none)
          | false, [c] => (match imp E.T ft st c with | (c', st') => K (st'.put o.dst (.v (.one c'))))
          | false, _ => none) = some r) : Yl P o a next w := by
  have hv := hs.ev x
  rw [hx] at hv
  obtain ⟨vs, hv, h2⟩ := hv
  obtain ⟨fs, f, h3, h4, h5, h6⟩ := hT.field hti hf
  obtain ⟨inf, z, h7, h8, _, _⟩ := hT.e hfi
  obtain ⟨d, hd1, hag, _⟩ := hT.d hfi
  subst h5
  subst h6
  have hsub := (h2.drop f.offset).take fi.e.size
  rw [firsts_eq, lasts_eq] at h
  split at h
  · rename_i hagg
    split at h
    · refine ⟨.agg (vs.extract f.offset (f.offset + fi.e.size)), fun w' => ?_, hN.put hs hd (v := .v (.agg _)) ⟨_, rfl, ?_⟩ h⟩
      · rw [hagg] at hag
        simp [execOp, ho, hv, Instr.field, run_underlying h3, h4, asAgg, part, run_isAgg hd1, hag, sizeOf, typeInfo, h7, h8]
      · rw [extract_toList, Nat.add_sub_cancel_left]; exact hsub
    · cases h
  · rename_i c hagg hcs
    rw [hcs] at hsub
    obtain ⟨u, hu, hcr⟩ := hsub.one
    refine ⟨u, fun w' => ?_, ?_⟩
    · rw [hagg] at hag
      have hu0 : vs[f.offset]? = some u := by
        have : ((vs.toList.drop f.offset).take fi.e.size)[0]? = some u := by rw [hu]; rfl
        rw [List.getElem?_take] at this
        split at this
        · rw [List.getElem?_drop] at this; simpa using this
        · cases this
      simp [execOp, ho, hv, Instr.field, run_underlying h3, h4, asAgg, part, run_isAgg hd1, hag, hu0]
    · cases hi' : imp E.T f.type st c with
      | mk c' st' =>
        simp only [hi'] at h
        obtain ⟨ι', h5, h6, _⟩ := imp_rel hs hcr hi'
        exact hN.put h5 hd (v := .v (.one c')) h6 h
  · cases h
theorem op_max {c : Call} {x y : Operand} {k k' : IntKind} {n m : Int} (ho : o.op = .call c) (hc : c.callee = .builtin .max) (ha : c.args.toList = [x, y]) (hs : Sim cx ι st a.tmps w) (hd : a.defers = []) (hN : Nx cx K r next)
    (hx : st.ev x = .v (.one (.int k n))) (hy : st.ev y = .v (.one (.int k' m))) (h : K (st.put o.dst (.v (.one (.int k (mx n m))))) = some r) : Yl P o a next w := by
  have hvx := hs.ev x
  rw [hx] at hvx
  have hvx : a.eval x = .int k n := hvx
  have hvy := hs.ev y
  rw [hy] at hvy
  have hvy : a.eval y = .int k' m := hvy
  have ha' : c.args = #[x, y] := by cases hc' : c.args; simp_all
  exact ⟨.int k (mx n m), fun w' => by simp [execOp, ho, resolve, hc, ha', invoke, builtin, hvx, hvy, run_max_int2, mx], hN.put hs hd (v := .v (.one (.int k (mx n m)))) rfl h⟩
theorem op_min {c : Call} {x y : Operand} {k k' : IntKind} {n m : Int} (ho : o.op = .call c) (hc : c.callee = .builtin .min) (ha : c.args.toList = [x, y]) (hs : Sim cx ι st a.tmps w) (hd : a.defers = []) (hN : Nx cx K r next)
    (hx : st.ev x = .v (.one (.int k n))) (hy : st.ev y = .v (.one (.int k' m))) (h : K (st.put o.dst (.v (.one (.int k (mn n m))))) = some r) : Yl P o a next w := by
  have hvx := hs.ev x
  rw [hx] at hvx
  have hvx : a.eval x = .int k n := hvx
  have hvy := hs.ev y
  rw [hy] at hvy
  have hvy : a.eval y = .int k' m := hvy
  have ha' : c.args = #[x, y] := by cases hc' : c.args; simp_all
  exact ⟨.int k (mn n m), fun w' => by simp [execOp, ho, resolve, hc, ha', invoke, builtin, hvx, hvy, run_min_int2, mn], hN.put hs hd (v := .v (.one (.int k (mn n m)))) rfl h⟩
theorem look_B (hT : TOk P E) {t b : Nat} (h : look E.B t = some b) : ∃ i, P.info? t = some i ∧ i.bytes = b ∧ 0 < b := by
  have := List.all_eq_true.1 hT.bytes _ (look_mem h)
  dsimp only at this
  split at this
  · rename_i i hi
    simp only [decide_eq_true_eq] at this
    exact ⟨i, hi, this.1, this.2⟩
  · cases this
theorem madeCells_take {zs : Array Value} {size c n : Nat} (hz : zs.size = size) (hpos : 0 < size) (hn : n ≤ c) : (madeCells zs (c * size)).toList.take (n * size) = (List.replicate n zs.toList).flatten := by
  induction n with
  | zero => simp
  | succ n ih =>
    have h1 := ih (by omega)
    have hle : (n + 1) * size ≤ c * size := Nat.mul_le_mul_right _ hn
    rw [Nat.add_mul, Nat.one_mul] at hle
    have hlen : (madeCells zs (c * size)).toList.length = c * size := by simp [madeCells]
    rw [List.replicate_succ', List.flatten_append, ← h1, Nat.add_mul, Nat.one_mul, List.take_add]
    congr 1
    simp only [List.flatten_cons, List.flatten_nil, List.append_nil]
    apply List.ext_getElem?
    intro j
    by_cases hj : j < size
    · rw [List.getElem?_take, if_pos hj, List.getElem?_drop]
      have : (madeCells zs (c * size)).toList[n * size + j]? = some zs[(n * size + j) % zs.size]! := by
        rw [Array.getElem?_toList]
        simp only [madeCells, Array.getElem?_map, Array.getElem?_range]
        rw [if_pos (by omega)]
        rfl
      rw [this, hz, Nat.mul_comm n size, Nat.mul_add_mod, Nat.mod_eq_of_lt hj, Array.getElem?_toList]
      rw [getElem!_pos zs j (by omega), Array.getElem?_eq_getElem (by omega)]
    · rw [List.getElem?_eq_none (by rw [List.length_take]; omega), List.getElem?_eq_none (by simp; omega)]
theorem op_make (hT : TOk P E) {t te : TypeId} {l c : Operand} {e : Ty} {fl : List (Nat × TypeId)} {n m : Int} {by_ : Nat} (ho : o.op = .makeSlice t l c) (hs : Sim cx ι st a.tmps w) (hd : a.defers = []) (hN : Nx cx K r next)
    (ht : look E.T t = some ⟨.slice te e, false, fl⟩) (hl : st.ev l = .v (.one (.int .i64 n))) (hc : st.ev c = .v (.one (.int .i64 m))) (hB : look E.B te = some by_)
    (h : br (okMake n m by_) (K ((st.new ⟨te, e, repL (nat n) e.zero, true, true⟩).put o.dst (.v (.one (.ref (count st.σ) .all))))) none = some r) : o.wp P a w next Q := by
  rcases br_some h with ⟨hok, h⟩ | ⟨_, h⟩
  · have hv1 := hs.ev l
    rw [hl] at hv1
    have hv1 : a.eval l = .int .i64 n := hv1
    have hv2 := hs.ev c
    rw [hc] at hv2
    have hv2 : a.eval c = .int .i64 m := hv2
    obtain ⟨h1, hpos, i, z, h2, h3, h4, h5⟩ := hT.slice ht rfl
    obtain ⟨i', h6, h7, h8⟩ := look_B hT hB
    rw [h2] at h6
    obtain rfl := Option.some.inj h6
    obtain ⟨h9, h10, h11⟩ : 0 ≤ n ∧ n ≤ m ∧ m * (by_ : Int) ≤ 140737488355328 := by simpa [okMake] using hok
    have hm1 : m ≤ m * (by_ : Int) := by
      have : m * 1 ≤ m * (by_ : Int) := Int.mul_le_mul_of_nonneg_left (by omega) (by omega)
      omega
    have hz : z.cells.size = e.size := by
      have := congrArg List.length h5
      rw [Array.length_toList] at this
      rw [this]
      exact (zeroV_rd (w := w) (N := fun _ => True) e).size
    have hr := run_make (P := P) w t te i z h1 h2 h4 .i64 .i64 n m h9 h10 (by rw [h7, Int.mul_comm]; omega) (by omega)
    refine wp_val (u := .slice (some ⟨w.heap.size, 0, none⟩) n.toNat m.toNat) (w' := w.alloc (.cells (madeCells z.cells (m.toNat * i.size)) te)) (by simp [execOp, ho, hv1, hv2, hr]) ?_
    have kp : Kp (fun _ => False) w (w.alloc (.cells (madeCells z.cells (m.toNat * i.size)) te)) := ⟨rfl, rfl, rfl, by simp, fun k hk _ => Below.heap_alloc w _ k hk⟩
    have hn : (repL (nat n) e.zero).length = n.toNat := by simp [repL, nat]
    have htk := madeCells_take (c := m.toNat) (n := n.toNat) hz hpos (by omega)
    have h12 := hs.add kp ⟨te, e, repL (nat n) e.zero, true, true⟩ (some ⟨w.heap.size, 0, none⟩) m.toNat (fun _ => ⟨fun a ha => by cases ha; exact Nat.le_refl _, (List.replicate n.toNat (zeroV e)).flatten, ?_, VarR.nv ((hT.nv ht).2 te e rfl), fun _ => ?_⟩) (fun h => by cases h)
    · refine hN.put h12 hd (v := .v (.one (.ref (count st.σ) .all))) ?_ h
      have hσ : (st.new ⟨te, e, repL (nat n) e.zero, true, true⟩).σ = st.σ ++ [some ⟨te, e, repL (nat n) e.zero, true, true⟩] := by simp [State.new, app_eq]
      rw [count_eq]
      refine ⟨by rw [hσ]; simp, fun g hg => ?_⟩
      rw [hσ] at hg
      rcases live_new.1 hg with h5 | ⟨_, rfl⟩
      · exact absurd (live_lt h5) (Nat.lt_irrefl _)
      · show _ = Value.slice _ (repL (nat n) e.zero).length _
        rw [hn]; unfold lay; rw [if_pos rfl]
    · dsimp only
      rw [hn]
      refine ⟨?_, .inr ⟨w.heap.size, m.toNat, _, rfl, Nat.zero_le _, heap_alloc_new w _, by omega, by simp only [maxLen]; omega, by rw [h3]; simp [madeCells], ?_⟩⟩
      · rw [List.length_flatten, List.map_replicate, List.sum_replicate_nat, (zeroV_rd (w := w) (N := fun _ => True) e).size]
      · rw [h3, htk, h5]
    · exact RDs.replicate (zeroV_rd e) _
  · cases h
theorem rows_of {N : Nat → Prop} {e : Ty} : ∀ (l : List e.den) (b : Addr), (∀ i (h : i < l.length), ∃ us, RD w N e l[i] us ∧ ∀ j u, us[j]? = some u → w.cell? (b.add (i * e.size + j)) = some u) →
    ∃ xs, RDs w N e l xs ∧ ∀ (k : Nat) u, xs[k]? = some u → w.cell? (b.add k) = some u
  | [], b, _ => ⟨[], rfl, fun k u h => by simp at h⟩
  | x :: l, b, h => by
    obtain ⟨us, h1, h2⟩ := h 0 (by simp)
    obtain ⟨xs, h3, h4⟩ := rows_of l (b.add e.size) (fun i hi => by
      obtain ⟨us, h5, h6⟩ := h (i + 1) (by simpa using hi)
      refine ⟨us, by simpa using h5, fun j u hu => ?_⟩
      rw [add_add', show e.size + (i * e.size + j) = (i + 1) * e.size + j from by rw [Nat.add_mul]; omega]
      exact h6 j u hu)
    refine ⟨us ++ xs, ⟨us, xs, rfl, by simpa using h1, h3⟩, fun k u hu => ?_⟩
    by_cases hk : k < us.length
    · rw [List.getElem?_append_left hk] at hu
      have := h2 k u hu
      simpa using this
    · rw [List.getElem?_append_right (by omega)] at hu
      have := h4 _ u hu
      rw [add_add', h1.size, show e.size + (k - e.size) = k from by have := h1.size; omega] at this
      exact this
theorem RD.flat {N N' : Nat → Prop} : ∀ {e : Ty} {x : e.den} {vs : List Value}, Ev.flat e = true → RD w N e x vs → RD w N' e x vs
  | .int _, _, _, _, h => h
  | .bool, _, _, _, h => h
  | .str, _, _, _, h => h
  | .unit, _, _, _, h => h
  | .pair a b, _, _, hf, h => by
    simp only [Ev.flat, Bool.and_eq_true] at hf
    obtain ⟨v1, v2, rfl, h1, h2⟩ := h
    exact ⟨v1, v2, rfl, h1.flat hf.1, h2.flat hf.2⟩
  | .slice _ _, _, _, hf, _ => by cases hf
theorem RDs.flat {N N' : Nat → Prop} {e : Ty} (hf : Ev.flat e = true) : ∀ {l : List e.den} {xs : List Value}, RDs w N e l xs → RDs w N' e l xs
  | [], _, h => h
  | _ :: _, _, ⟨v1, v2, e1, h1, h2⟩ => ⟨v1, v2, e1, h1.flat hf, h2.flat hf⟩
/-- What a slice sees, as values. -/
theorem view_vals (hs : Sim cx ι st ts w) {rr : Nat} {s : Slc} {g : Reg} (hl : live st.σ rr g) {v : Value} (hv : SlR (ι rr).1 (ι rr).2 g.e.size g.l.length s v) :
    ∃ A c us, v = .slice A (view g.l s).length c ∧ RDs w (Rdb cx w ι st.σ g.fr) g.e (view g.l s) us ∧ ((view g.l s).length = 0 ∨ ∃ b, A = some b ∧ ∀ (k : Nat) u, us[k]? = some u → w.cell? (b.add k) = some u) := by
  have hat := (hs.regs rr g hl).at
  have hvl : (view g.l s).length = vlen g.l s := by
    cases s with
    | all => rfl
    | pre n => show (g.l.take n).length = n; rw [List.length_take]; have := hv.1; omega
    | sub o n => show ((g.l.drop o).take n).length = n; rw [List.length_take, List.length_drop]; have := hv.1; omega
  have hle := vlen_le hv
  obtain ⟨A, c, he, _⟩ := hv.form
  by_cases h0 : (view g.l s).length = 0
  · refine ⟨A, c, [], by rw [hvl]; exact he, ?_, .inl h0⟩
    rw [List.eq_nil_of_length_eq_zero h0]; rfl
  · obtain ⟨a0, _, hA0, _⟩ := hat (at_ s 0) (by omega)
    have hA : A = some (a0.add (at_ s 0 * g.e.size)) := by
      cases s with
      | all => have : v = .slice (ι rr).1 g.l.length (ι rr).2 := hv; rw [this] at he; injection he with e1; rw [← e1, hA0]; simp [at_, Addr.add]
      | pre m => have : v = .slice (ι rr).1 m (ι rr).2 := hv.2; rw [this] at he; injection he with e1; rw [← e1, hA0]; simp [at_, Addr.add]
      | sub o' m =>
        obtain ⟨_, A3, c3, h6, _, h7⟩ := hv
        rw [h6] at he
        injection he with e1
        obtain ⟨a3, h8, h9⟩ := h7 (by have : vlen g.l (.sub o' m) = m := rfl; omega)
        rw [hA0] at h8
        injection h8 with h8
        rw [← e1, h9, h8]
        simp [at_, nadd]
    obtain ⟨xs, h1, h2⟩ := rows_of (w := w) (N := Rdb cx w ι st.σ g.fr) (view g.l s) (a0.add (at_ s 0 * g.e.size)) (fun i hi => by
      obtain ⟨a, us, h3, h4, h5⟩ := hat (at_ s 0 + i) (by omega)
      rw [hA0] at h3
      injection h3 with h3
      subst h3
      have hget : (view g.l s)[i] = g.l[at_ s 0 + i]'(by omega) := by
        have q : (view g.l s)[i]? = g.l[at_ s 0 + i]? := by
          cases s with
          | all => simp [view, at_]
          | pre n => show (g.l.take n)[i]? = _; rw [List.getElem?_take, if_pos (by have : (view g.l (.pre n)).length = n := hvl; omega)]; simp [at_]
          | sub o n => show ((g.l.drop o).take n)[i]? = _; rw [List.getElem?_take, if_pos (by have : (view g.l (.sub o n)).length = n := hvl; omega), List.getElem?_drop]; simp [at_, nadd]
        rw [List.getElem?_eq_getElem hi, List.getElem?_eq_getElem (by omega)] at q
        exact Option.some.inj q
      rw [hget]
      refine ⟨us, h4, fun j u hu => ?_⟩
      rw [add_add', ← Nat.add_assoc, ← Nat.add_mul]
      exact h5 j u hu)
    exact ⟨A, c, xs, by rw [hvl]; exact he, h1, .inr ⟨_, hA, h2⟩⟩
theorem slice_vals (hs : Sim cx ι st ts w) {c c' : Cell} {v : Value} (hc : CRs cx ι st w c v) (he : expC st c = some c') {te : TypeId} {e : Ty} {ys : List e.den} (hd : dec1 (.slice te e) [c'] = some ys) {fr : Bool} (hf : fr = true → orB (flat e) (frs [c']) = true) :
    ∃ A n us, v = .slice A ys.length n ∧ RDs w (Rdb cx w ι st.σ fr) e ys us ∧ (ys.length = 0 ∨ ∃ b, A = some b ∧ ∀ (k : Nat) u, us[k]? = some u → w.cell? (b.add k) = some u) := by
  have key : ∀ (fr' : Bool) {l us}, RDs w (Rdb cx w ι st.σ fr') e l us → frs [c'] = fr' → RDs w (Rdb cx w ι st.σ fr) e l us := fun fr' l us h1 h2 => by
    cases hfl : Ev.flat e with
    | true => exact h1.flat hfl
    | false =>
      refine h1.le (fun hh => ?_)
      have := hf hh
      simp only [orB, hfl] at this
      rw [← h2]; exact this
  cases c with
  | emp =>
    simp [expC] at he
    subst he
    simp [dec1, dec] at hd
    subst hd
    exact ⟨none, 0, [], hc, rfl, .inl rfl⟩
  | lst t e' l fr' =>
    simp [expC] at he
    subst he
    simp [dec1, dec] at hd
    obtain ⟨he, hx⟩ : ∃ h : e' = e, (h ▸ l : List e.den) = ys := by
      by_cases h : e' = e
      · subst h; simp at hd; exact ⟨rfl, hd⟩
      · simp [h] at hd
    subst he
    subst hx
    obtain ⟨A, n, e1, hcap, h1⟩ := hc
    simp only [List.cons.injEq, and_true] at e1
    have hfr : frs [Cell.lst t e' l fr'] = fr' := by simp [frs]
    by_cases h0 : l.length = 0
    · refine ⟨A, n, [], e1, ?_, .inl h0⟩
      rw [List.eq_nil_of_length_eq_zero h0]; rfl
    · obtain ⟨a0, _, hA0, _⟩ := h1 0 (by omega)
      obtain ⟨xs, h2, h3⟩ := rows_of (w := w) (N := Rdb cx w ι st.σ fr') l a0 (fun i hi => by
        obtain ⟨a, us, h4, _, h5, h6⟩ := h1 i hi
        rw [hA0] at h4
        injection h4 with h4
        subst h4
        exact ⟨us, h5, h6⟩)
      exact ⟨A, n, xs, e1, key fr' h2 hfr, .inr ⟨a0, hA0, h3⟩⟩
  | ref r s =>
    simp only [expC] at he
    split at he
    · rename_i g hg
      obtain rfl := Option.some.inj he
      simp [dec1, dec] at hd
      obtain ⟨he, hx⟩ : ∃ h : g.e = e, (h ▸ view g.l s : List e.den) = ys := by
        by_cases h : g.e = e
        · simp [h] at hd; exact ⟨h, hd⟩
        · simp [h] at hd
      obtain ⟨t', e', l, own, fr'⟩ := g
      dsimp only at he
      subst he
      subst hx
      obtain ⟨A, n, us, h1, h2, h3⟩ := view_vals hs (reg_eq.1 hg) (hc.2 _ (reg_eq.1 hg))
      exact ⟨A, n, us, h1, key fr' h2 (by simp [frs]), h3⟩
    · cases he
  | _ => simp [expC, dec1, dec] at he hd <;> (try (subst he; simp [dec1, dec] at hd))
theorem isS_spec (hT : TOk P E) {t : TypeId} (h : isS E.T t = true) : P.underlying t = some .string := by
  unfold isS at h
  split at h
  · rename_i fl hti
    obtain ⟨d, hd', _, _, _, _, h6, _⟩ := hT.d hti
    rw [hd', h6 rfl rfl]
  · cases h
theorem op_slice_str (hT : TOk P E) {t : TypeId} {x lo hi : Operand} (ho : o.op = .slice t x (some lo) (some hi) none) (hs : Sim cx ι st a.tmps w) (hd : a.defers = []) (hN : Nx cx K r next) {b : ByteArray} {n m : Int}
    (hx : st.ev x = .v (.one (.str b))) (hlo : st.ev lo = .v (.one (.int .i64 n))) (hhi : st.ev hi = .v (.one (.int .i64 m))) (hS : isS E.T t = true) (h : br (okLHM n m (inat b.size)) (K (st.put o.dst (.v (.one (.str (strSub b (nat n) (nat m))))))) none = some r) : Yl P o a next w := by
  have hv := hs.ev x
  rw [hx] at hv
  have hv : a.eval x = .string b := hv
  have h1 := hs.ev lo
  rw [hlo] at h1
  have h1 : a.eval lo = .int .i64 n := h1
  have h2 := hs.ev hi
  rw [hhi] at h2
  have h2 : a.eval hi = .int .i64 m := h2
  rcases br_some h with ⟨hok, h⟩ | ⟨_, h⟩
  · have hok : 0 ≤ n ∧ n ≤ m ∧ m ≤ inat b.size := by simpa [okLHM] using hok
    refine ⟨.string (strSub b (nat n) (nat m)), fun w' => ?_, hN.put hs hd (v := .v (.one (.str _))) rfl h⟩
    have hrun := run_slice_string (P := P) w' t b .i64 .i64 n m (isS_spec hT hS) hok.1 hok.2.1 hok.2.2
    simp [execOp, ho, hv, h1, h2, run_sliceAt_string (P := P) w' t _ _ _ _ (isS_spec hT hS), hrun, strSub, nat]
  · cases h
theorem RDs_u8 {w : World} {N : Nat → Prop} : ∀ {l : List Int} {us : List Value}, RDs w N (.int .u8) l us → us = l.map (Value.int .u8)
  | [], _, h => by cases h; rfl
  | x :: l, _, h => by
    obtain ⟨v1, v2, rfl, h1, h2⟩ := h
    have h1 : v1 = [.int .u8 x] := h1
    rw [h1, RDs_u8 h2]
    rfl
theorem op_bytes (hT : TOk P E) {s t : TypeId} {x : Operand} (ho : o.op = .convert s t x) (hs : Sim cx ι st a.tmps w) (hd : a.defers = []) (hN : Nx cx K r next) {rr : Nat} {sl : Slc} {te : TypeId} {fl fl' : List (Nat × TypeId)} {g : Reg} {b : ByteArray}
    (hx : st.ev x = .v (.one (.ref rr sl))) (ht : look E.T t = some ⟨.str, false, fl⟩) (hsi : look E.T s = some ⟨.slice te (.int .u8), false, fl'⟩) (hg : st.reg rr = some g) (hk : isK E.T te (.int .u8) = true) (hb : bytesV g sl = some b)
    (h : K (st.put o.dst (.v (.one (.str b)))) = some r) : ∃ u, (∀ w' : World, (∀ k, k < w.heap.size → w'.heap[k]? = w.heap[k]?) → (execOp a.eval o).run P w' = .ok (.value u) w') ∧ next (a.put o.dst u) w := by
  have hv := hs.ev x
  rw [hx] at hv
  have hl := reg_eq.1 hg
  obtain ⟨A, c, us, he, hrd, hcell⟩ := view_vals hs hl (hv.2 g hl)
  obtain ⟨d', hd2, _, _, _, _, h6, _⟩ := hT.d ht
  obtain rfl := h6 rfl rfl
  obtain ⟨h1, _, _⟩ := hT.slice hsi rfl
  have hu8 : P.underlying te = some (.int .u8) := by
    unfold isK at hk
    split at hk
    · rename_i e' fl2 hti
      obtain rfl := of_decide_eq_true hk
      obtain ⟨d, hd', _, _, _, h5, _⟩ := hT.d hti
      rw [hd', h5 rfl .u8 rfl]
    · cases hk
  refine ⟨.string b, fun w' hw => ?_, hN.put hs hd (v := .v (.one (.str b))) rfl h⟩
  unfold bytesV at hb
  split at hb
  · rename_i gt l own fr
    obtain rfl := Option.some.inj hb
    obtain rfl := RDs_u8 hrd
    have hconv := run_convert_bytes_string (P := P) w' s t te A (view l sl).length c h1 hu8 hd2
    have he' : a.eval x = .slice A (view l sl).length c := he
    have hfin : (Conv.bytesToString (.slice A (view l sl).length c)).run P w' = .ok (.string (bytesStr (view l sl))) w' := by
      rcases hcell with h0 | ⟨bb, hA, hc⟩
      · have h0 : (view l sl).length = 0 := h0
        have hnil := List.eq_nil_of_length_eq_zero h0
        rw [hnil]
        cases A with
        | none => simp [Conv.bytesToString, loadCells, loadCellsFrom, bytesStr]
        | some a0 => simp [Conv.bytesToString, loadCells, loadCellsFrom, bytesStr]
      · subst hA
        refine run_bytesToString w' bb _ c (view l sl) ?_
        have hlc := run_loadCells_list (P := P) w' bb ((view l sl).map (Value.int .u8)) (fun j v hv' => by
          have := hc j v hv'
          rw [World.cell?_of_block (w := w) (hw _ (World.block_lt_of_cell? w _ this))]
          exact this)
        rw [List.length_map] at hlc
        exact hlc
    simp [execOp, ho, he', hconv, hfin]
  · cases hb
/-- append onto a row of the call's own, or onto nothing. -/
theorem app_own {t te : TypeId} {i : TypeInfo} {z : Value} {size : Nat} (ht : P.underlying t = some (.slice te)) (hi : P.info? te = some i) (hz : i.zero = some z) (hsz : i.size = size) (hzs : z.cells.size = size)
    {A Ax : Option Addr} {n c m cx' : Nat} {xs news : List Value} (ty : TypeId) (hown : w.ownsRow 0 te size (.slice A n c) n xs) (hl : news.length = m * size)
    (hn : m = 0 ∨ ∃ b, Ax = some b ∧ ∀ (j : Nat) u, news[j]? = some u → w.cell? (b.add j) = some u) (h1 : ∀ u ∈ news, u.oneCell' = true) (hb : (n + m) * i.bytes ≤ 140737488355328) (hb0 : 0 < i.bytes) :
    ∃ A' c' w', (Builtin.append_ #[t, t] ty #[.slice A n c, .slice Ax m cx']).run P w = .ok (.slice A' (n + m) c') w' ∧ w'.ownsRow 0 te size (.slice A' (n + m) c') (n + m) (xs ++ news) ∧
      Kp (fun k => ∃ a, A = some a ∧ a.block = k) w w' ∧ (∀ a, A' = some a → w.heap.size ≤ a.block ∨ ∃ a', A = some a' ∧ a'.block = a.block) := by
  subst hsz
  have hnm : n + m ≤ 140737488355328 := Nat.le_trans (Nat.le_mul_of_pos_right _ hb0) hb
  have hlen : (xs ++ news).length = (n + m) * i.size := by rw [List.length_append, hown.1, hl, Nat.add_mul]
  have grown : ∀ (old : Nat), (w.drew.alloc (.cells (xs.toArray ++ news.toArray ++ Builtin.zeroCells z.cells (grownCap w (n + m) old te - (n + m))) te)).ownsRow 0 te i.size (.slice (some ⟨w.heap.size, 0, none⟩) (n + m) (grownCap w (n + m) old te)) (n + m) (xs ++ news) ∧
      Kp (fun k => ∃ a, A = some a ∧ a.block = k) w (w.drew.alloc (.cells (xs.toArray ++ news.toArray ++ Builtin.zeroCells z.cells (grownCap w (n + m) old te - (n + m))) te)) := fun old => by
    have hge := grownCap_ge w (n + m) old te
    have hcm : grownCap w (n + m) old te ≤ maxLen := grownCap_le_maxLen w (n + m) old te (by simp only [maxLen]; omega)
    refine ⟨⟨hlen, .inr ⟨w.heap.size, _, _, rfl, Nat.zero_le _, heap_alloc_new w.drew _, hge, hcm, ?_, ?_⟩⟩, ⟨rfl, rfl, rfl, by simp, fun k hk _ => Below.heap_alloc w.drew _ k hk⟩⟩
    · simp only [Array.size_append, List.size_toArray, size_zeroCells, hzs, hown.1, hl, ← Nat.add_mul]
      congr 1
      omega
    · simp only [Array.toList_append, List.append_assoc]
      rw [← List.append_assoc, ← hlen]
      exact List.take_left
  have empty : m = 0 → n ≤ c → news = [] ∧ ∀ (_ : Ax = none ∨ ∃ b, Ax = some b), (Builtin.append_ #[t, t] ty #[.slice A n c, .slice Ax m cx']).run P w = .ok (.slice A n c) w := fun hm hnc => by
    subst hm
    have : news = [] := List.eq_nil_of_length_eq_zero (by simpa using hl)
    refine ⟨this, fun _ => ?_⟩
    cases A <;> cases Ax <;> simp [Builtin.append_, run_underlying ht, sizeOf, typeInfo, hi, Builtin.lenOf, hnc, Builtin.firstCells, loadCells, loadCellsFrom, storeCells]
  have hnc : n ≤ c := by
    rcases hown.2 with ⟨e, h0⟩ | ⟨g, cap, cur, e, _, _, h4, _⟩
    · rw [h0]; exact Nat.zero_le _
    · injection e with _ _ e3; rw [e3]; exact h4
  by_cases hm : m = 0
  · obtain ⟨h2, h3⟩ := empty hm hnc
    subst h2
    subst hm
    refine ⟨A, c, w, h3 (by cases Ax; exact .inl rfl; exact .inr ⟨_, rfl⟩), by simpa using hown, ⟨rfl, rfl, rfl, Nat.le_refl _, fun _ _ _ => rfl⟩, fun a ha => .inr ⟨a, ha, rfl⟩⟩
  · obtain ⟨b, rfl, hnews⟩ := hn.resolve_left hm
    rcases hown.2 with ⟨e, hn0⟩ | ⟨g, cap, cur, e, hbg, hg, hnc', hcm, hcs, htake⟩
    · injection e with e1 e2 e3
      subst e1 e2 e3
      have hx : xs = [] := List.eq_nil_of_length_eq_zero (by simpa using hown.1)
      subst hx
      have hr := run_append_nil (P := P) w t ty te i z ht hi hz b m cx' news hl hnews (by omega) (by omega) (by simp only [Nat.zero_add] at hb; omega)
      have hgr := grown 0
      simp only [Nat.zero_add, List.nil_append, Array.empty_append, Array.append_eq_append] at hgr ⊢
      exact ⟨_, _, _, hr, hgr.1, hgr.2, fun a ha => by cases ha; exact .inl (Nat.le_refl _)⟩
    · injection e with e1 e2 e3
      subst e1 e3
      by_cases hroom : n + m ≤ c
      · have hfit : n * i.size + news.length ≤ cur.size := by rw [hl, hcs, ← Nat.add_mul]; exact Nat.mul_le_mul_right _ hroom
        have hr := run_append_room (P := P) w t ty te i ht hi g n c cur hg b m cx' news hl hnews h1 hroom hfit
        refine ⟨_, _, _, hr, ⟨hlen, .inr ⟨g, c, _, rfl, hbg, setRow_heap w g cur _ te _ hg, hroom, hcm, ?_, ?_⟩⟩, kp_setRow ⟨_, rfl, rfl⟩, fun a ha => .inr ⟨a, ha, rfl⟩⟩
        · simp only [List.size_toArray, List.length_append, List.length_take, List.length_drop, Array.length_toList]
          omega
        · rw [htake, ← hlen]
          exact List.take_left
      · have holds : ∀ (j : Nat) u, xs[j]? = some u → w.cell? ((⟨g, 0, none⟩ : Addr).add j) = some u := hown.cells (g := g) rfl
        have hr := run_append_grow (P := P) w t ty te i z ht hi hz ⟨g, 0, none⟩ n c xs hown.1 holds b m cx' news hl hnews (by omega) (by omega) (growslice_fits (by omega) hb)
        exact ⟨_, _, _, hr, (grown c).1, (grown c).2, fun a ha => by cases ha; exact .inl (Nat.le_refl _)⟩
end
end Go.Proofs.Ytpfjneaoankllaa.Ev

namespace Go.Proofs.Ytpfjneaoankllaa.Ev
open Go.RowKit
section
variable {cx : Cx} {ι : Lay} {st : State} {ts : Array Value} {w : World}
variable {P : Program} {E : Env} {o : Oper} {a : Act} {R : Type} {K : State → Option R} {r : R} {next : Act → World → Prop} {Q : Exit → Act → World → Prop}
theorem RD.one {N : Nat → Prop} : ∀ {e : Ty} {x : e.den} {vs : List Value}, RD w N e x vs → ∀ v ∈ vs, v.oneCell' = true
  | .int _, _, _, h, v, hv => by cases h; simp at hv; subst hv; rfl
  | .bool, _, _, h, v, hv => by cases h; simp at hv; subst hv; rfl
  | .str, _, _, h, v, hv => by cases h; simp at hv; subst hv; rfl
  | .unit, _, _, h, v, hv => by cases h; cases hv
  | .var _, _, _, h, v, hv => h.2 v hv
  | .pair _ _, _, _, ⟨v1, v2, e1, h1, h2⟩, v, hv => by
    subst e1
    rcases List.mem_append.1 hv with h | h
    · exact h1.one v h
    · exact h2.one v h
  | .slice _ _, _, _, h, v, hv => by obtain ⟨A, c, rfl, _⟩ := h; simp at hv; subst hv; rfl
theorem RDs.one {N : Nat → Prop} {e : Ty} : ∀ {l : List e.den} {vs : List Value}, RDs w N e l vs → ∀ v ∈ vs, v.oneCell' = true
  | [], _, h, v, hv => by cases h; cases hv
  | _ :: _, _, ⟨v1, v2, e1, h1, h2⟩, v, hv => by
    subst e1
    rcases List.mem_append.1 hv with h | h
    · exact h1.one v h
    · exact h2.one v h
theorem op_append (hT : TOk P E) {c : Call} {x y : Operand} {t : TypeId} (ho : o.op = .call c) (hc : c.callee = .builtin .append) (ha : c.args.toList = [x, y]) (hta : c.argTypes.toList = [t, t]) (hs : Sim cx ι st a.tmps w) (hd : a.defers = []) (hN : Nx cx K r next)
    (h : appendE E.T E.B t st (st.ev x) (st.ev y) (fun v st' => K (st'.put o.dst v)) = some r) : o.wp P a w next Q := by
  have ha' : c.args = #[x, y] := by cases hc' : c.args; simp_all
  have hta' : c.argTypes = #[t, t] := by cases hc' : c.argTypes; simp_all
  have exec : ∀ {u w'}, (Builtin.append_ #[t, t] o.type #[a.eval x, a.eval y]).run P w = .ok u w' → (execOp a.eval o).run P w = .ok (.value u) w' := fun hr => by
    simp [execOp, ho, resolve, hc, ha', hta', invoke, builtin, hr]
  unfold appendE at h
  split at h
  · rename_i te e fl cy hti hy
    split at h
    · rename_i cy' hcy
      split at h
      · rename_i ys by_ hys hB
        have hvy := hs.ev y
        rw [hy] at hvy
        obtain ⟨h1, hpos, i, z, h2, h3, h4, h5⟩ := hT.slice hti rfl
        have hnv : isVar e = false := (hT.nv hti).2 te e rfl
        obtain ⟨i', h6, h7, h8⟩ := look_B hT hB
        rw [h2] at h6
        obtain rfl := Option.some.inj h6
        have hz : z.cells.size = e.size := by
          have := congrArg List.length h5
          rw [Array.length_toList] at this
          rw [this]
          exact (zeroV_rd (w := w) (N := fun _ => True) e).size
        split at h
        · rename_i hx
          rcases br_some h with ⟨hok, h⟩ | ⟨_, h⟩
          · have hok : ys.length * by_ ≤ 140737488355328 := by simpa [okApp] using hok
            have hvx := hs.ev x
            rw [hx] at hvx
            have hvx : a.eval x = .slice none 0 0 := hvx
            obtain ⟨Ay, ny, us, e1, h9, h10⟩ := slice_vals hs hvy hcy hys (fr := orB (flat e) (frs [cy'])) id
            have hul : us.length = ys.length * e.size := h9.size
            obtain ⟨A', c', w', h11, h12, h13, h14⟩ := app_own (w := w) (A := none) (c := 0) (xs := []) h1 h2 h4 h3 hz (cx' := ny) o.type (World.ownsRow_nil w 0 te e.size) hul h10 h9.one (by rw [h7, Nat.zero_add]; exact hok) (by omega)
            simp only [Nat.zero_add, List.nil_append] at h11 h12
            refine wp_val (exec (by rw [hvx, e1]; exact h11)) ?_
            have kp : Kp (fun _ => False) w w' := ⟨h13.os, h13.tape, h13.output, h13.size, fun k hk _ => h13.block k hk (by rintro ⟨a, h, _⟩; cases h)⟩
            have h15 := hs.add kp ⟨te, e, ys, true, orB (flat e) (frs [cy'])⟩ A' c' (fun _ => ⟨fun a ha => (h14 a ha).elim id (by rintro ⟨a', h, _⟩; cases h), us, h12, VarR.nv hnv, fun hm => h9.mono (fun k hk => hm k hk) (fun k hk => h13.block k hk.1 (by rintro ⟨a, h, _⟩; cases h))⟩) (fun h => by cases h)
            refine hN.put h15 hd (v := .v (.one (.ref (count st.σ) .all))) ?_ h
            have hσ : (st.new ⟨te, e, ys, true, orB (flat e) (frs [cy'])⟩).σ = st.σ ++ [some ⟨te, e, ys, true, orB (flat e) (frs [cy'])⟩] := by simp [State.new, app_eq]
            rw [count_eq]
            refine ⟨by rw [hσ]; simp, fun g hg => ?_⟩
            rw [hσ] at hg
            rcases live_new.1 hg with h5 | ⟨_, rfl⟩
            · exact absurd (live_lt h5) (Nat.lt_irrefl _)
            · unfold lay; rw [if_pos rfl]; rfl
          · cases h
        · rename_i rr hx
          split at h
          · rename_i te' e' l fr hg
            split at h
            · rename_i hh
              obtain ⟨he, ht'⟩ := hh
              subst he
              subst ht'
              rcases br_some h with ⟨hok, h⟩ | ⟨_, h⟩
              · have hok : (l.length + ys.length) * by_ ≤ 140737488355328 := of_decide_eq_true (show decide ((l.length + ys.length) * by_ ≤ 140737488355328) = true from hok)
                have hl := reg_eq.1 hg
                have hvx := hs.ev x
                rw [hx] at hvx
                have hvx : a.eval x = .slice (ι rr).1 l.length (ι rr).2 := hvx.2 _ hl
                obtain ⟨xs, h20, h21, h22⟩ := (hs.regs rr _ hl).1 rfl
                dsimp only at h20 h21 h22
                obtain ⟨Ay, ny, us, e1, h9, h10⟩ := slice_vals hs hvy hcy hys (fr := fr && orB (flat e') (frs [cy'])) (fun hh => by simp only [Bool.and_eq_true] at hh; exact hh.2)
                have hul : us.length = ys.length * e'.size := h9.size
                obtain ⟨A', c', w', h11, h12, h13, h14⟩ := app_own (w := w) h1 h2 h4 h3 hz (cx' := ny) o.type h21 hul h10 h9.one (by rw [h7]; exact hok) (by omega)
                refine wp_val (exec (by rw [hvx, e1]; exact h11)) ?_
                have h15 := hs.replace hl rfl ⟨te', e', appL l ys, true, fr && orB (flat e') (frs [cy'])⟩ rfl (fun hh => by simp only [Bool.and_eq_true] at hh; exact hh.1) A' c' h13 h14
                  ⟨xs ++ us, by simpa [appL] using h12, VarR.nv hnv, (h20.le (fun hh => by simp only [Bool.and_eq_true] at hh; exact hh.1)).app h9⟩
                refine hN.put h15 hd (v := .v (.one (.ref (count st.σ) .all))) ?_ h
                have hσ : ((st.set rr none).new ⟨te', e', appL l ys, true, fr && orB (flat e') (frs [cy'])⟩).σ = st.σ.set rr none ++ [some ⟨te', e', appL l ys, true, fr && orB (flat e') (frs [cy'])⟩] := by simp [State.new, app_eq, set_σ]
                rw [count_eq]
                refine ⟨by rw [hσ]; simp, fun g hg => ?_⟩
                rw [hσ] at hg
                rcases live_new.1 hg with h5 | ⟨_, rfl⟩
                · exact absurd (live_lt h5) (by simp)
                · unfold lay; rw [if_pos rfl]
                  show _ = Value.slice _ (appL l ys).length _
                  rw [appL, List.length_append]
              · cases h
            · cases h
          · cases h
        · cases h
      · cases h
    · cases h
  · cases h
/-! ### Structs and slices written out -/
theorem cells_sure {c : Comp} {v : Value} (hc : CompR (CRs cx ι st w) c v) (hsu : sure st c = true) : All2 (CRs cx ι st w) c.cells v.cells.toList := by
  cases c with
  | agg cs =>
    obtain ⟨vs, rfl, h⟩ := hc
    exact h
  | one c =>
    simp only [sure] at hsu
    have : v.cells = #[v] := by
      cases c <;> simp [expC] at hsu <;> (try (cases hc; rfl))
      · obtain ⟨A, n, e, _⟩ := hc
        simp only [List.cons.injEq, and_true] at e
        subst e; rfl
      · rename_i rr s
        cases hg : st.reg rr with
        | none => rw [hg] at hsu; simp at hsu
        | some g =>
          obtain ⟨A, c, e, _⟩ := (hc.2 g (reg_eq.1 hg)).form
          subst e; rfl
    rw [this]
    exact .cons hc .nil
theorem parts_rel {a : Act} (hs : Sim cx ι st a.tmps w) : ∀ {ps : List (Nat × Operand)} {pl : List (Nat × List Cell)}, parts st ps = some pl →
    All2 (fun (p : Nat × List Cell) (q : Nat × Value) => p.1 = q.1 ∧ All2 (CRs cx ι st w) p.2 q.2.cells.toList) pl (ps.map fun (i, x) => (i, a.eval x))
  | [], pl, h => by simp [parts] at h; subst h; exact .nil
  | (i, x) :: ps, pl, h => by
    simp only [parts] at h
    split at h
    · rename_i c hx
      split at h
      · rename_i r' hsu hr
        obtain rfl := Option.some.inj h
        have hv := hs.ev x
        rw [hx] at hv
        exact .cons ⟨rfl, cells_sure hv hsu⟩ (parts_rel hs hr)
      · cases h
    · cases h
theorem fold_set (off : Nat) : ∀ (vs : List Value) (k : Nat) (cells : Array Value), off + k + vs.length ≤ cells.size →
    (((vs.zipIdx k).foldl (fun cs (c, j) => cs.setIfInBounds (off + j) c) cells)).toList = cells.toList.take (off + k) ++ vs ++ cells.toList.drop (off + k + vs.length)
  | [], k, cells, _ => by simp
  | v :: vs, k, cells, h => by
    simp only [List.length_cons] at h
    rw [List.zipIdx_cons, List.foldl_cons, fold_set off vs (k + 1) _ (by simp; omega)]
    have hk : off + k < cells.toList.length := by rw [Array.length_toList]; omega
    rw [Array.toList_setIfInBounds, show off + (k + 1) = off + k + 1 from by omega, List.take_set, List.take_succ_eq_append_getElem hk, List.set_append_right _ _ (by rw [List.length_take]; omega), List.drop_set_of_lt (by omega)]
    rw [List.length_take, Nat.min_eq_left (by omega), Nat.sub_self, List.length_cons]
    simp [show off + k + 1 + vs.length = off + k + (vs.length + 1) from by omega]
theorem fill_rel {P : Program} {E : Env} {fl : List (Nat × TypeId)} {places : List (Nat × Nat)} (hT : TOk P E) (hpl : ∀ (i : Nat) o t, fl[i]? = some (o, t) → ∃ inf, P.info? t = some inf ∧ places[i]? = some (o, inf.size)) :
    ∀ {pl : List (Nat × List Cell)} {pv : List (Nat × Value)} {row row' : List Cell} {cells : Array Value}, All2 (fun (p : Nat × List Cell) (q : Nat × Value) => p.1 = q.1 ∧ All2 (CRs cx ι st w) p.2 q.2.cells.toList) pl pv →
      All2 (CRs cx ι st w) row cells.toList → fillE fl E.T row pl = some row' → ∃ cells', Instr.fill (places.toArray[·]?) cells pv = some cells' ∧ All2 (CRs cx ι st w) row' cells'.toList
  | _, _, row, row', cells, .nil, hr, h => by
    simp [fillE] at h
    subst h
    exact ⟨cells, rfl, hr⟩
  | _, _, row, row', cells, .cons (a := (i, cs)) (b := (i', v)) (l := pl) (m := pv) ⟨hi, hc⟩ hrest, hr, h => by
    dsimp only at hi hc
    subst hi
    simp only [fillE] at h
    split at h
    · rename_i off t hf
      split at h
      · rename_i ti hti
        split at h
        · rename_i hq hb
          rw [nth_eq] at hf
          have hq := Nat.eq_of_beq_eq_true hq
          have hb := Nat.le_of_ble_eq_true hb
          rw [count_eq] at hq hb
          rw [count_eq] at hb
          obtain ⟨inf, h1, h2⟩ := hpl i off t hf
          obtain ⟨inf', _, h3, h4, _⟩ := hT.e hti
          rw [h1] at h3
          obtain rfl := Option.some.inj h3
          have hvl : v.cells.size = cs.length := by rw [← Array.length_toList]; exact hc.length.symm
          have hrl : row.length = cells.size := hr.length.trans Array.length_toList
          have hvl' : v.cells.toList.length = cs.length := hc.length.symm
          have hfold := fold_set off v.cells.toList 0 cells (by rw [Array.length_toList]; omega)
          simp only [Nat.add_zero] at hfold
          have hfold' : (Array.foldl (fun cs (x : Value × Nat) => cs.setIfInBounds (off + x.2) x.1) cells v.cells.zipIdx).toList = cells.toList.take off ++ v.cells.toList ++ cells.toList.drop (off + v.cells.toList.length) := by
            rw [← Array.foldl_toList, Array.toList_zipIdx]
            exact hfold
          have hrow : All2 (CRs cx ι st w) (splice row off cs) (Array.foldl (fun cs (x : Value × Nat) => cs.setIfInBounds (off + x.2) x.1) cells v.cells.zipIdx).toList := by
            rw [hfold', splice, app_eq, app_eq, firsts_eq, lasts_eq, count_eq, ← List.append_assoc, hvl']
            exact ((hr.take off).app hc).app (hr.drop _)
          obtain ⟨cells', h5, h6⟩ := fill_rel hT hpl hrest hrow h
          refine ⟨cells', ?_, h6⟩
          have hp : places.toArray[i]? = some (off, inf.size) := by simpa using h2
          unfold Instr.fill
          simp only [hp]
          rw [if_neg (by simp only [Bool.or_eq_true, decide_eq_true_eq]; omega)]
          exact h5
        · cases h
      · cases h
    · cases h
theorem op_build (hT : TOk P E) {t : TypeId} {ps : Array (Nat × Operand)} (ho : o.op = .build t ps) (hs : Sim cx ι st a.tmps w) (hd : a.defers = []) (hN : Nx cx K r next) {ti : TI} {pl : List (Nat × List Cell)} {cs : List Cell}
    (hti : look E.T t = some ti) (hna : isArr ti = none) (hagg : ti.agg = true) (hp : parts st ps.toList = some pl) (hf : fillE ti.fl E.T (zeroB E t ti) pl = some cs) (h : K (st.put o.dst (.v (.agg cs))) = some r) : Yl P o a next w := by
  obtain ⟨i, z, h1, h2, h3, h4⟩ := hT.e hti
  obtain ⟨d, hd1, hag, hfs, hnf, _⟩ := hT.d hti
  have hz : All2 (CRs cx ι st w) (zeroB E t ti) z.cells.toList := by
    rw [h4]
    unfold zeroB
    split
    · exact zeroRC_rel _
    · exact enc_rel (zeroV_rd _)
  have hparts := parts_rel hs hp
  cases d with
  | struct fs =>
    obtain ⟨places, h5, h6⟩ := flOk_places (hfs fs rfl)
    obtain ⟨cells', h7, h8⟩ := fill_rel hT h6 hparts hz hf
    refine ⟨.agg cells', fun w' => ?_, hN.put hs hd (v := .v (.agg cs)) ⟨cells', rfl, h8⟩ h⟩
    have hb : P.built t (ps.map fun (i, x) => (i, a.eval x)).toList = some cells' := by
      unfold Program.built
      simp only [h1, hd1, h3, h5]
      rw [Array.toList_map]
      exact h7
    simp [execOp, ho, run_build w' t _ cells' hb]
  | array n e =>
    have := hT.ti hti
    simp [tiOk, hd1, hna] at this
  | _ => rw [hagg] at hag; cases hag
theorem decN_rel {fr : Bool} {e : Ty} : ∀ {n : Nat} {cs : List Cell} {l : List e.den} {vs : List Value}, decN e n cs = some l → All2 (CRs cx ι st w) cs vs → (fr = true → frs cs = true) → RDs w (Rdb cx w ι st.σ fr) e l vs ∧ l.length = n
  | 0, [], l, vs, h, hr, _ => by
    simp [decN] at h
    subst h
    cases hr
    exact ⟨rfl, rfl⟩
  | 0, _ :: _, l, vs, h, hr, _ => by simp [decN] at h
  | n + 1, cs, l, vs, h, hr, hf => by
    simp only [decN] at h
    split at h
    · rename_i x rest hx
      split at h
      · rename_i l' hl
        obtain rfl := Option.some.inj h
        obtain ⟨v1, v2, rfl, h1, h2, h3⟩ := dec_rel hx hr hf
        obtain ⟨h4, h5⟩ := decN_rel hl h2 h3
        exact ⟨⟨v1, v2, rfl, h1, h4⟩, by simp [h5]⟩
      · cases h
    · cases h
theorem inOrd_fill {sz : Nat} : ∀ {n i : Nat} {pl : List (Nat × List Cell)} {pv : List (Nat × Value)} {cells : Array Value}, All2 (fun (p : Nat × List Cell) (q : Nat × Value) => p.1 = q.1 ∧ All2 (CRs cx ι st w) p.2 q.2.cells.toList) pl pv →
    inOrd sz i n pl = true → cells.size = (i + n) * sz → ∃ cells', Instr.fill (fun i => some (i * sz, sz)) cells pv = some cells' ∧ ∃ vs, cells'.toList = cells.toList.take (i * sz) ++ vs ∧ All2 (CRs cx ι st w) (partCells pl) vs
  | 0, i, _, _, cells, .nil, h, hc => ⟨cells, rfl, [], by rw [List.append_nil, List.take_of_length_le (by rw [Array.length_toList, hc, Nat.add_zero]; exact Nat.le_refl _)], .nil⟩
  | 0, i, _, _, cells, .cons _ _, h, _ => by simp [inOrd] at h
  | n + 1, i, _, _, cells, .nil, h, _ => by simp [inOrd] at h
  | n + 1, i, _, _, cells, .cons (a := (k, cs)) (b := (k', v)) (l := pl) (m := pv) ⟨hi, hc⟩ hrest, h, hsz => by
    dsimp only at hi hc
    subst hi
    simp only [inOrd] at h
    split at h
    · rename_i hk hq
      have hk := Nat.eq_of_beq_eq_true hk
      have hq := Nat.eq_of_beq_eq_true hq
      rw [count_eq] at hq
      subst hk
      have hvl : v.cells.size = sz := by rw [← Array.length_toList, ← hc.length, hq]
      have hsz' : cells.size = k * sz + sz + n * sz := by rw [hsz, Nat.add_mul, Nat.add_mul, Nat.one_mul]; omega
      have hfold := fold_set (k * sz) v.cells.toList 0 cells (by rw [Array.length_toList]; omega)
      simp only [Nat.add_zero] at hfold
      have hfold' : (Array.foldl (fun cs (x : Value × Nat) => cs.setIfInBounds (k * sz + x.2) x.1) cells v.cells.zipIdx).toList = cells.toList.take (k * sz) ++ v.cells.toList ++ cells.toList.drop (k * sz + v.cells.toList.length) := by
        rw [← Array.foldl_toList, Array.toList_zipIdx]
        exact hfold
      have hsize2 : (Array.foldl (fun cs (x : Value × Nat) => cs.setIfInBounds (k * sz + x.2) x.1) cells v.cells.zipIdx).size = (k + 1 + n) * sz := by
        rw [← Array.length_toList, hfold']
        simp only [List.length_append, List.length_take, List.length_drop, Array.length_toList, hvl]
        rw [Nat.add_mul, Nat.add_mul, Nat.one_mul]
        omega
      obtain ⟨cells', h1, vs, h2, h3⟩ := inOrd_fill (cells := Array.foldl (fun cs (x : Value × Nat) => cs.setIfInBounds (k * sz + x.2) x.1) cells v.cells.zipIdx) hrest h hsize2
      refine ⟨cells', ?_, v.cells.toList ++ vs, ?_, ?_⟩
      · unfold Instr.fill
        simp only
        rw [if_neg (by simp only [Bool.or_eq_true, decide_eq_true_eq]; omega)]
        exact h1
      · rw [h2, hfold', Nat.add_mul, Nat.one_mul, ← List.append_assoc]
        congr 1
        rw [List.take_append_of_le_length (by simp only [List.length_append, List.length_take, Array.length_toList]; omega), List.take_of_length_le (by simp only [List.length_append, List.length_take, Array.length_toList]; omega)]
      · show All2 _ (app cs (partCells pl)) _
        rw [app_eq]
        exact hc.app h3
    · cases h
theorem op_buildSlice (hT : TOk P E) {t te : TypeId} {e : Ty} {fl : List (Nat × TypeId)} {n : Nat} {ps : Array (Nat × Operand)} (ho : o.op = .buildSlice t n ps) (hs : Sim cx ι st a.tmps w) (hd : a.defers = []) (hN : Nx cx K r next) {pl : List (Nat × List Cell)} {cs : List Cell} {l : List e.den}
    (ht : look E.T t = some ⟨.slice te e, false, fl⟩) (hp : parts st ps.toList = some pl) (hin : inOrd e.size 0 n pl = true) (hsz : Nat.ble (n * e.size) 16777216 = true) (hcs : embL st (partCells pl) = some cs) (hl : decN e n cs = some l)
    (h : K (((freeze st (partCells pl)).new ⟨te, e, l, true, frs cs⟩).put o.dst (.v (.one (.ref (count st.σ) .all)))) = some r) : o.wp P a w next Q := by
  obtain ⟨h1, hpos, i, z, h2, h3, h4, h5⟩ := hT.slice ht rfl
  have hsz := Nat.le_of_ble_eq_true hsz
  have hz : z.cells.size = e.size := by
    have := congrArg List.length h5
    rw [Array.length_toList] at this
    rw [this]
    exact (zeroV_rd (w := w) (N := fun _ => True) e).size
  have hparts := parts_rel hs hp
  obtain ⟨cells', h6, vs, h7, h8⟩ := inOrd_fill (cells := (Array.range (n * e.size)).map (z.cells[· % z.cells.size]!)) hparts hin (by simp)
  simp only [Nat.zero_mul, List.take_zero, List.nil_append] at h7
  subst h7
  obtain ⟨h9, h10, h11⟩ := embL_rel hs h8 hcs
  obtain ⟨h12, h13⟩ := decN_rel (fr := frs cs) hl h11 id
  have hcl : cells'.size = n * e.size := by have := h12.size; rw [Array.length_toList, h13] at this; exact this
  have hrun : (execOp a.eval o).run P w = .ok (.value (.slice (some ⟨w.heap.size, 0, none⟩) n n)) (w.alloc (.cells cells' te)) := by
    have h6' : Instr.fill (fun i => some (i * e.size, e.size)) ((Array.range (n * e.size)).map (z.cells[· % z.cells.size]!)) (ps.map fun (i, x) => (i, a.eval x)).toList = some cells' := by rw [Array.toList_map]; exact h6
    have hno : ¬ (16777216 < n * e.size) := by omega
    by_cases h0 : n * e.size = 0
    · have hr0 : (Array.range 0).map (z.cells[· % z.cells.size]!) = (Array.range 0).map ((#[] : Array Value)[· % (#[] : Array Value).size]!) := by simp
      rw [h0] at h6'
      rw [hr0] at h6'
      simp [execOp, ho, Instr.buildSlice, run_underlying h1, sizeOf, typeInfo, h2, h3, h0, newRow] at h6' ⊢
      rw [h6']
      simp
    · simp [execOp, ho, Instr.buildSlice, run_underlying h1, sizeOf, typeInfo, h2, h3, h0, hno, zeroValue, h4, newRow] at h6' ⊢
      rw [h6']
      simp
  refine wp_val hrun ?_
  have kp : Kp (fun _ => False) w (w.alloc (.cells cells' te)) := ⟨rfl, rfl, rfl, by simp, fun k hk _ => Below.heap_alloc w _ k hk⟩
  have h14 := h9.add kp ⟨te, e, l, true, frs cs⟩ (some ⟨w.heap.size, 0, none⟩) n (fun _ => ⟨fun a ha => by cases ha; exact Nat.le_refl _, cells'.toList, ?_, VarR.nv ((hT.nv ht).2 te e rfl), fun hm => h12.mono (fun k hk => hm k hk) (fun k hk => Below.heap_alloc w _ k hk.1)⟩) (fun h => by cases h)
  · refine hN.put h14 hd (v := .v (.one (.ref (count st.σ) .all))) ?_ h
    have hσ : ((freeze st (partCells pl)).new ⟨te, e, l, true, frs cs⟩).σ = (freeze st (partCells pl)).σ ++ [some ⟨te, e, l, true, frs cs⟩] := by simp [State.new, app_eq]
    rw [← freeze_count (partCells pl) st, count_eq]
    refine ⟨by rw [hσ]; simp, fun g hg => ?_⟩
    rw [hσ] at hg
    rcases live_new.1 hg with h5 | ⟨_, rfl⟩
    · exact absurd (live_lt h5) (Nat.lt_irrefl _)
    · unfold lay; rw [if_pos rfl]
      show _ = Value.slice _ l.length _
      rw [h13]
  · dsimp only
    rw [h13]
    have hnle : n ≤ n * e.size := Nat.le_mul_of_pos_right _ hpos
    refine ⟨by rw [Array.length_toList, hcl], .inr ⟨w.heap.size, n, cells', rfl, Nat.zero_le _, heap_alloc_new w _, Nat.le_refl _, by simp only [maxLen]; omega, hcl, by rw [List.take_of_length_le (by rw [Array.length_toList, hcl]; exact Nat.le_refl _)]⟩⟩
/-! ### Arrays -/
theorem arrOf_size : ∀ {e a : Ty} {n : Nat}, arrOf e = some (a, n) → scl a = true ∧ e.size = n
  | .int _, _, _, h => by simp [arrOf] at h
  | .bool, _, _, h => by simp [arrOf] at h
  | .str, _, _, h => by simp [arrOf] at h
  | .unit, _, _, h => by simp [arrOf] at h
  | .var _, _, _, h => by simp [arrOf] at h
  | .slice _ _, _, _, h => by simp [arrOf] at h
  | .pair b r, a, n, h => by
    have hb1 : scl b = true → b.size = 1 := fun h => by cases b <;> first | rfl | cases h
    unfold arrOf at h
    split at h
    · rename_i hb
      split at h
      · cases h
        exact ⟨hb, by show b.size + 0 = 1; rw [hb1 hb]⟩
      · split at h
        · rename_i c m hr
          split at h
          · rename_i hc
            cases h
            obtain ⟨h1, h2⟩ := arrOf_size hr
            exact ⟨hb, by show b.size + r.size = m + 1; rw [hb1 hb, h2]; omega⟩
          · cases h
        · cases h
    · cases h
theorem isArr_size {x : TI} {a : Ty} {n : Nat} (h : isArr x = some (a, n)) : scl a = true ∧ x.e.size = n := by
  unfold isArr at h
  split at h
  · exact arrOf_size h
  · cases h
theorem scl_size {a : Ty} (h : scl a = true) : a.size = 1 := by cases a <;> first | rfl | cases h
theorem op_buildA (hT : TOk P E) {t : TypeId} {ps : Array (Nat × Operand)} (ho : o.op = .build t ps) (hs : Sim cx ι st a.tmps w) (hd : a.defers = []) (hN : Nx cx K r next) {ti : TI} {e : Ty} {n : Nat}
    (hti : look E.T t = some ti) (ha : isArr ti = some (e, n)) (h : buildA n st ps.toList (fun cs => K (st.put o.dst (.v (.agg cs)))) = some r) : Yl P o a next w := by
  unfold buildA at h
  split at h
  · rename_i pl hp
    split at h
    · rename_i hin
      obtain ⟨te, hd1, he, _⟩ := hT.arr hti ha
      obtain ⟨h0, hsz⟩ := isArr_size ha
      obtain ⟨ie, ze, h1, h2, _, _⟩ := eOk_spec he
      rw [scl_size h0] at h2
      obtain ⟨i, z, g1, g2, g3, g4⟩ := hT.e hti
      have hz : z.cells.size = n := by
        have := congrArg List.length g4
        rw [Array.length_toList] at this
        rw [this, (zeroV_rd (w := w) (N := fun _ => True) ti.e).size, hsz]
      obtain ⟨cells', h6, vs, h7, h8⟩ := inOrd_fill (cells := z.cells) (parts_rel hs hp) hin (by rw [hz]; omega)
      simp only [Nat.zero_mul, List.take_zero, List.nil_append] at h7
      subst h7
      refine ⟨.agg cells', fun w' => ?_, hN.put hs hd (v := .v (.agg (partCells pl))) ⟨cells', rfl, h8⟩ h⟩
      have hb : P.built t (ps.map fun (i, x) => (i, a.eval x)).toList = some cells' := by
        unfold Program.built
        simp only [g1, hd1, g3, h1, h2]
        rw [Array.toList_map]
        exact h6
      simp [execOp, ho, run_build w' t _ cells' hb]
    · cases h
  · cases h
theorem intsOf_rel {k : IntKind} : ∀ {cs : List Cell} {l : List Int} {vs : List Value}, intsOf k cs = some l → All2 (CRs cx ι st w) cs vs → vs = l.map (Value.int k)
  | [], l, _, h, .nil => by cases h; rfl
  | c :: cs, l, _, h, .cons h1 h2 => by
    cases c with
    | int k' n =>
      simp only [intsOf] at h
      split at h
      · rename_i hk
        split at h
        · rename_i l' hl
          cases h
          subst hk
          rw [intsOf_rel hl h2]
          have h1 : _ = Value.int k' n := h1
          rw [h1]; rfl
        · cases h
      · cases h
    | _ => simp [intsOf] at h
theorem scOk_int {k : IntKind} {t : TypeId} (h : scOk P (.int k) t = true) : P.underlying t = some (.int k) := by
  cases ht : P.underlying t with
  | none => simp [scOk, ht] at h
  | some d =>
    cases d <;> simp [scOk, ht] at h
    subst h
    rfl
theorem op_indexA (hT : TOk P E) {t : TypeId} {x ix : Operand} (ho : o.op = .index t x ix) (hs : Sim cx ι st a.tmps w) (hd : a.defers = []) (hN : Nx cx K r next) {k0 : IntKind} {n : Int}
    (hix : st.ev ix = .v (.one (.int k0 n))) (h : indexA E.T t (st.ev x) n (fun c => K (st.put o.dst (.v (.one c)))) = some r) : Yl P o a next w := by
  have hi := hs.ev ix
  rw [hix] at hi
  have hi : a.eval ix = .int k0 n := hi
  have hv := hs.ev x
  unfold indexA at h
  split at h
  · rename_i cs ti hx hti
    rw [hx] at hv
    obtain ⟨vs, hv, h2⟩ := hv
    split at h
    · rename_i k m ha
      split at h
      · rename_i l hl
        split at h
        · rename_i hm
          have hm := Nat.eq_of_beq_eq_true hm
          rw [count_eq] at hm
          rcases br_some h with ⟨hok, h⟩ | ⟨_, h⟩
          · obtain ⟨h4, h5⟩ := okIx_spec hok
            unfold inat at h5
            obtain ⟨te, hd1, he, hsc⟩ := hT.arr hti ha
            obtain ⟨ie, ze, g1, g2, _, _⟩ := eOk_spec he
            have hvs := intsOf_rel hl h2
            have hlt : n.toNat < l.length := by omega
            have hat : vs[n.toNat]? = some (.int k l[n.toNat]) := by
              have : vs.toList[n.toNat]? = some (.int k l[n.toNat]) := by rw [hvs, List.getElem?_map, List.getElem?_eq_getElem hlt]; rfl
              simpa using this
            have hr : rd (.int k) l (nat n) = l[n.toNat] := by unfold rd nat; simp [hlt]
            refine ⟨.int k l[n.toNat], fun w' => ?_, hN.put hs hd (v := .v (.one (.int k (rd (.int k) l (nat n))))) (by rw [hr]; rfl) h⟩
            have hagg : (isAgg te).run P w' = .ok false w' := run_isAgg (scOk_int hsc)
            have hsz : ie.size = 1 := g2
            have h6 : 0 ≤ n ∧ n < (m : Int) := ⟨h4, h5⟩
            simp [execOp, ho, Instr.index, hi, hv, asIntOf, run_underlying hd1, h6, sizeOf, typeInfo, g1, hsz, part, hagg, hat]
          · cases h
        · cases h
      · cases h
    · cases h
  · rename_i s fl hx hti
    rw [hx] at hv
    have hv : a.eval x = .string s := hv
    rcases br_some h with ⟨hok, h⟩ | ⟨_, h⟩
    · obtain ⟨h4, h5⟩ := okIx_spec hok
      unfold inat at h5
      obtain ⟨d, hd', _, _, _, _, h2, _⟩ := hT.d hti
      obtain rfl := h2 rfl rfl
      have hlt : n.toNat < s.size := by omega
      refine ⟨.int .u8 (strAt s (nat n)), fun w' => ?_, hN.put hs hd (v := .v (.one (.int .u8 (strAt s (nat n))))) rfl h⟩
      have e1 : s[n.toNat]? = some s[n.toNat] := by simp [hlt]
      have e2 : strAt s (nat n) = ((s[n.toNat]).toNat : Int) := by
        unfold strAt nat
        have : n.toNat < s.data.size := hlt
        rw [Array.getD_eq_getD_getElem?, Array.getElem?_eq_getElem this]
        rfl
      simp [execOp, ho, Instr.index, hi, hv, asIntOf, run_underlying hd', h4, e1, e2]
    · cases h
  · cases h
theorem op_sliceA (hT : TOk P E) {t : TypeId} {x hi : Operand} (ho : o.op = .slice t x none (some hi) none) (hs : Sim cx ι st a.tmps w) (hd : a.defers = []) (hN : Nx cx K r next) {rr : Nat} {n : Int}
    (hx : st.ev x = .v (.one (.ptr rr 0 0))) (hix : st.ev hi = .v (.one (.int .i64 n))) (h : sliceA E.T t o.type st rr n (fun v st' => K (st'.put o.dst v)) = some r) : Yl P o a next w := by
  have hv := hs.ev x
  rw [hx] at hv
  have hi' := hs.ev hi
  rw [hix] at hi'
  have hi' : a.eval hi = .int .i64 n := hi'
  unfold sliceA at h
  split at h
  · rename_i ti te k fl t' e ys own fr hti hty hg
    split at h
    · rename_i k' m l cm ha hl hemb
      split at h
      · rename_i hdec
        obtain ⟨rfl, rfl, rfl⟩ := of_decide_eq_true hdec
        rcases br_some h with ⟨hok, h⟩ | ⟨_, h⟩
        · obtain ⟨h4, h5⟩ := okSl_spec hok
          unfold inat at h5
          rw [count_eq] at h5 ha
          have hlive := reg_eq.1 hg
          obtain ⟨A, hA, hpos, hp⟩ := hv.2 _ hlive
          have hp : a.eval x = .pointer (some A) := by rw [hp]; simp [Addr.add]
          obtain ⟨te', hd1, he, hsc⟩ := hT.arr hti ha
          obtain ⟨h0, hsz⟩ := isArr_size ha
          obtain ⟨ie, ze, g1, g2, _, _⟩ := eOk_spec he
          -- the row that is written no more
          have hcr : CRs cx ι st w (.ref rr .all) (.slice (ι rr).1 ys.length (ι rr).2) := ⟨live_lt hlive, fun g hg' => by
            obtain rfl := live_fun hlive hg'
            rfl⟩
          have hembL : embL st [.ref rr .all] = some [cm] := by simp [embL, hemb]
          obtain ⟨h6, h7, h8⟩ := embL_rel hs (All2.cons hcr .nil) hembL
          cases h8 with
          | cons h9 _ =>
          have hcm : cm = .lst t' ti.e ys fr := by
            unfold embC at hemb
            simp only [hg] at hemb
            cases own <;> cases fr <;> simp [view] at hemb <;> exact hemb.symm
          subst hcm
          have h9 : RD w (Rdb cx w ι (freeze st [.ref rr .all]).σ fr) (.slice t' ti.e) ys [.slice (ι rr).1 ys.length (ι rr).2] := h9
          obtain ⟨A0, c0, e1, _, hat⟩ := h9
          simp only [List.cons.injEq, Value.slice.injEq, and_true] at e1
          obtain ⟨a0, us, e2, hN0, hrd, hcells⟩ := hat 0 hpos
          have hrd : RD w (Rdb cx w ι (freeze st [.ref rr .all]).σ fr) ti.e (rd ti.e ys 0) us := by rw [rd_get hpos]; exact hrd
          have hus : us = l.map (Value.int k') := intsOf_rel hl (enc_rel hrd)
          have hA0 : a0 = A := by
            have h10 : (ι rr).1 = some a0 := by rw [← e2]; exact e1.1
            exact Option.some.inj (h10.symm.trans hA)
          subst hA0
          have kp : Kp (fun _ => False) w w := ⟨rfl, rfl, rfl, Nat.le_refl _, fun _ _ _ => rfl⟩
          have hnew := h6.add kp ⟨te, .int k', l, false, fr⟩ (some a0) l.length (fun hh => by cases hh) (fun _ => ⟨some a0, l.length, rfl, Nat.le_refl _, fun i hi => ⟨a0, [.int k' l[i]], rfl, hN0, rfl, fun j u hu => by
            cases j with
            | zero =>
              cases hu
              have := hcells i (.int k' l[i]) (by rw [hus, List.getElem?_map, List.getElem?_eq_getElem hi]; rfl)
              simpa [Ty.size] using this
            | succ j => simp at hu⟩⟩)
          refine ⟨.slice (some a0) n.toNat l.length, fun w' => ?_, hN.put hnew hd (v := .v (.one (.ref (count (freeze st [.ref rr .all]).σ) (.pre (nat n))))) ?_ h⟩
          · have h11 : 0 ≤ n ∧ n ≤ (l.length : Int) := ⟨h4, h5⟩
            simp [execOp, ho, Instr.sliceAt, run_underlying hd1, hp, Instr.sureAddr, hi', Instr.sliceBounds, run_sliceBound, h11, h4, h5, sizeOf, typeInfo, g1, Addr.add]
          · have hσ : ((freeze st [.ref rr .all]).new ⟨te, .int k', l, false, fr⟩).σ = (freeze st [.ref rr .all]).σ ++ [some ⟨te, .int k', l, false, fr⟩] := by simp [State.new, app_eq]
            rw [count_eq]
            refine ⟨by rw [hσ]; simp, fun g hg => ?_⟩
            rw [hσ] at hg
            rcases live_new.1 hg with h5 | ⟨_, rfl⟩
            · exact absurd (live_lt h5) (Nat.lt_irrefl _)
            · unfold lay
              rw [if_pos rfl]
              exact ⟨by unfold nat; show n.toNat ≤ l.length; omega, rfl⟩
        · cases h
      · cases h
    · cases h
  · cases h
end
end Go.Proofs.Ytpfjneaoankllaa.Ev

