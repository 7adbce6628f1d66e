/- Part 1 of Ax. -/
import Derived.WalkKit
import Derived.Orders
import Derived.IntWalk
import Derived.Great.BuildSlice
import Derived.LoopN
import Derived.Scope
set_option linter.unusedVariables false
set_option linter.unusedSimpArgs false
set_option linter.unnecessarySimpa false
/- The abstract machine: objects, states, operations, and weakest preconditions of resolved code. -/
namespace Go.Ax

/-- An object of the abstract heap. -/
inductive AObj where
  | cells (ro : Bool) (cs : List Value)
  | map (es : List MapEntry) (clock : Nat)
  | mapIter (m : Option Nat) (since : Nat) (seen : List Nat) (stepped : Nat)
  | strIter (s : ByteArray) (pos : Nat)

def AObj.ro : AObj → Bool
  | .cells r _ => r
  | _ => false

structure AS where
  h : Nat → Option AObj
  nx : Nat

def AS.set (S : AS) (i : Nat) (o : Option AObj) : AS := { S with h := fun j => if j = i then o else S.h j }
def AS.new (S : AS) (o : AObj) : AS := { h := fun j => if j = S.nx then some o else S.h j, nx := S.nx + 1 }

abbrev Env := List (Nat × Value)

def look : Env → Nat → Option Value
  | [], _ => none
  | (j, v) :: r, i => if i = j then some v else look r i

def putE (ρ : Env) (d : Option Nat) (v : Value) : Env :=
  match d with
  | some t => (t, v) :: ρ
  | none => ρ

def ev (ρ : Env) : Operand → Option Value
  | .tmp t => look ρ t
  | .const v => some v
  | .global _ => none
  | .func f => some (.func (.func f) #[] #[])

def evs (ρ : Env) : List Operand → Option (List Value)
  | [] => some []
  | x :: r => match ev ρ x, evs ρ r with
    | some v, some vs => some (v :: vs)
    | _, _ => none

def evo (ρ : Env) : Option Operand → Option (Option Value)
  | none => some none
  | some x => (ev ρ x).map some

def getCells (S : AS) (b o n : Nat) : Option (List Value) :=
  match S.h b with
  | some (.cells _ cs) => if o + n ≤ cs.length then some ((cs.drop o).take n) else none
  | _ => none

def setCells (S : AS) (b o : Nat) (vs : List Value) : Option AS :=
  match S.h b with
  | some (.cells false cs) =>
    if o + vs.length ≤ cs.length then some (S.set b (some (.cells false (cs.take o ++ vs ++ cs.drop (o + vs.length))))) else none
  | _ => none

/-- A value of cells: one cell bare, or an aggregate. -/
def mkV (n : Option Nat) (cs : List Value) : Option Value :=
  match n with
  | none => match cs with
    | [v] => some v
    | _ => none
  | some _ => some (.agg cs.toArray)

def sizeN (n : Option Nat) : Nat := n.getD 1

/-- No tuple: only such values are laid into memory. -/
def okV : Value → Bool
  | .tuple _ => false
  | _ => true

/-- Parts laid into cells: offset, size, value. -/
def fillL : List Value → List (Nat × Nat × Value) → Option (List Value)
  | cs, [] => some cs
  | cs, (off, n, v) :: r =>
    let vs := v.cells.toList
    if okV v = true ∧ vs.length = n ∧ off + n ≤ cs.length then fillL (cs.take off ++ vs ++ cs.drop (off + n)) r else none

def evp (ρ : Env) : List (Nat × Nat × Operand) → Option (List (Nat × Nat × Value))
  | [] => some []
  | (a, b, x) :: r => match ev ρ x, evp ρ r with
    | some v, some vs => some ((a, b, v) :: vs)
    | _, _ => none

inductive NK where
  | ptr | slice | map | func

/-- A value held against nil. -/
def nilEq (k : NK) (x y : Value) : Option Bool :=
  match k, x, y with
  | .ptr, .pointer none, .pointer b => some b.isNone
  | .ptr, .pointer (some _), .pointer none => some false
  | .slice, .slice none _ _, .slice b _ _ => some b.isNone
  | .slice, .slice (some _) _ _, .slice none _ _ => some false
  | .map, .map none, .map b => some b.isNone
  | .map, .map (some _), .map none => some false
  | .func, .nilFunc, .nilFunc => some true
  | .func, .nilFunc, .func _ _ _ => some false
  | .func, .func _ _ _, .nilFunc => some false
  | _, _, _ => none

/-- Two scalars of one kind: are they the same? -/
def eqS : Value → Value → Option Bool
  | .int k a, .int k' b => if k = k' then some (a == b) else none
  | .bool a, .bool b => some (a == b)
  | .string a, .string b => some (a == b)
  | _, _ => none

def eqCells : List Value → List Value → Option Bool
  | [], [] => some true
  | x :: xs, y :: ys => match eqS x y with
    | some true => eqCells xs ys
    | some false => some false
    | none => none
  | _, _ => none

def intBin (op : BinOp) (k : IntKind) (a b : Int) : Option Value :=
  match op with
  | .add => some (.int k (k.wrap (a + b)))
  | .sub => some (.int k (k.wrap (a - b)))
  | .mul => some (.int k (k.wrap (a * b)))
  | .quo => if b = 0 then none else some (.int k (k.wrap (a.tdiv b)))
  | .rem => if b = 0 then none else some (.int k (a.tmod b))
  | .and => some (.int k (k.wrap ((BitVec.ofInt k.bits a &&& BitVec.ofInt k.bits b).toNat : Int)))
  | .or => some (.int k (k.wrap ((BitVec.ofInt k.bits a ||| BitVec.ofInt k.bits b).toNat : Int)))
  | .xor => some (.int k (k.wrap ((BitVec.ofInt k.bits a ^^^ BitVec.ofInt k.bits b).toNat : Int)))
  | .andNot => some (.int k (k.wrap ((BitVec.ofInt k.bits a &&& ~~~BitVec.ofInt k.bits b).toNat : Int)))
  | .eql => some (.bool (a == b))
  | .neq => some (.bool (a != b))
  | .lss => some (.bool (a < b))
  | .leq => some (.bool (a ≤ b))
  | .gtr => some (.bool (a > b))
  | .geq => some (.bool (a ≥ b))
  | _ => none

def strBin (op : BinOp) (a b : ByteArray) : Option Value :=
  match op with
  | .add => if ((a.size + b.size : Nat) : Int) > 9223372036854775807 then none else some (.string (a ++ b))
  | .eql => some (.bool (a.toList == b.toList))
  | .neq => some (.bool (!(a.toList == b.toList)))
  | .lss => some (.bool (Op.bytesLess a.toList b.toList))
  | .leq => some (.bool (Op.bytesLess a.toList b.toList || a.toList == b.toList))
  | .gtr => some (.bool (!(Op.bytesLess a.toList b.toList || a.toList == b.toList)))
  | .geq => some (.bool (!Op.bytesLess a.toList b.toList))
  | _ => none

def binV (op : BinOp) (x y : Value) : Option Value :=
  match x, y with
  | .int k a, .int yk b =>
    match op with
    | .shl => if b < 0 then none else some (.int k (k.wrap (a * 2 ^ min b.toNat k.bits)))
    | .shr => if b < 0 then none else some (.int k (a.fdiv (2 ^ min b.toNat k.bits)))
    | op => if k = yk then intBin op k a b else none
  | .string a, .string b => strBin op a b
  | _, _ => none

def unV (op : UnOp) (x : Value) : Option Value :=
  match op, x with
  | .neg, .int k n => some (.int k (k.wrap (0 - n)))
  | .xor, .int k n => some (.int k (k.wrap ((BitVec.ofInt k.bits (if k.signed then -1 else k.max) ^^^ BitVec.ofInt k.bits n).toNat : Int)))
  | .not, .bool b => some (.bool !b)
  | _, _ => none

def extr (x : Value) (i : Nat) : Option Value :=
  match x with
  | .tuple vs => vs[i]?
  | _ => none

/-- A bound of a slice expression: a number from 0 to y. -/
def bnd (x : Value) (y : Nat) : Option Nat :=
  match x with
  | .int _ i => if 0 ≤ i ∧ i ≤ y then some i.toNat else none
  | _ => none

def bOr (x : Option Value) (y : Nat) (z : Option Nat) : Option Nat :=
  match x with
  | some v => bnd v y
  | none => z

def bounds (len cap : Nat) (lo hi mx : Option Value) : Option (Nat × Nat × Nat) :=
  match bOr mx cap (some cap) with
  | none => none
  | some m =>
    match bOr hi m (if mx.isSome then none else some len) with
    | none => none
    | some h =>
      match bOr lo h (some 0) with
      | none => none
      | some l => if l ≤ h ∧ h ≤ m then some (l, h, m) else none

/-- A slice of a slice. An address of a slice may bear a mark: 'some e': its capacity is at least as told (cells of e each); no mark: just as told. -/
def sliceV (esz : Nat) (x : Value) (lo hi mx : Option Value) : Option Value :=
  match x with
  | .slice a len cap =>
    match bounds len cap lo hi mx with
    | some (l, h, m) =>
      match a with
      | none => some (.slice none (h - l) (m - l))
      | some ⟨i, off, none⟩ => some (.slice (some ⟨i, off + l * esz, none⟩) (h - l) (m - l))
      | some ⟨i, off, some e⟩ =>
        if e = esz then some (.slice (some ⟨i, off + l * esz, if mx.isSome then none else some e⟩) (h - l) (m - l)) else none
    | none => none
  | _ => none

def sliceA (n esz : Nat) (x : Value) (lo hi mx : Option Value) : Option Value :=
  match x with
  | .pointer (some ⟨i, off, none⟩) =>
    match bounds n n lo hi mx with
    | some (l, h, m) => some (.slice (some ⟨i, off + l * esz, none⟩) (h - l) (m - l))
    | none => none
  | _ => none

def sliceStr (x : Value) (lo hi : Option Value) : Option Value :=
  match x with
  | .string s =>
    match bounds s.size s.size lo hi none with
    | some (l, h, _) => some (.string (s.extract l h))
    | none => none
  | _ => none

def addOff (x : Value) (n : Nat) : Option Value :=
  match x with
  | .pointer (some ⟨i, o, none⟩) => some (.pointer (some ⟨i, o + n, none⟩))
  | _ => none

def idxSl (esz : Nat) (x i : Value) : Option Value :=
  match x, i with
  | .slice (some ⟨b, o, _⟩) len _, .int _ k => if 0 ≤ k ∧ k < len then some (.pointer (some ⟨b, o + k.toNat * esz, none⟩)) else none
  | _, _ => none

def idxAr (n esz : Nat) (x i : Value) : Option Value :=
  match x, i with
  | .pointer (some ⟨b, o, none⟩), .int _ k => if 0 ≤ k ∧ k < n then some (.pointer (some ⟨b, o + k.toNat * esz, none⟩)) else none
  | _, _ => none

def partV (n : Option Nat) (x : Value) (off : Nat) : Option Value :=
  match x with
  | .agg cs => match n with
    | none => cs[off]?
    | some m => if off + m ≤ cs.size then some (.agg (cs.extract off (off + m))) else none
  | _ => none

def idxV (len esz : Nat) (n : Option Nat) (x i : Value) : Option Value :=
  match i with
  | .int _ k => if 0 ≤ k ∧ k < len then partV n x (k.toNat * esz) else none
  | _ => none

def idxStr (x i : Value) : Option Value :=
  match x, i with
  | .string s, .int _ k => if 0 ≤ k then (s[k.toNat]?).map fun b => .int .u8 b.toNat else none
  | _, _ => none

/-- Two bools, or two aggregates of scalars. -/
def keyEq (x y : Value) : Option Bool :=
  match x, y with
  | .bool a, .bool b => some (a == b)
  | .agg a, .agg b => if a.size = b.size then eqCells a.toList b.toList else none
  | _, _ => none

/-- The kinds of a map's keys. -/
inductive KK where
  | int | str | agg

def keyEqK (kk : KK) (x y : Value) : Option Bool :=
  match kk, x, y with
  | .int, .int k a, .int k' b => if k = k' then some (a == b) else none
  | .str, .string a, .string b => some (a == b)
  | .agg, .agg a, .agg b => if a.size = b.size then eqCells a.toList b.toList else none
  | _, _, _ => none

def findE (kk : KK) (k : Value) : List MapEntry → Nat → Option (Option (Nat × Value))
  | [], _ => some none
  | e :: es, i => match keyEqK kk k e.key with
    | some true => some (some (i, e.val))
    | some false => findE kk k es (i + 1)
    | none => none

def modE (es : List MapEntry) (i : Nat) (f : MapEntry → MapEntry) : List MapEntry := es.modify i f

def lookM (kk : KK) (zero : Value) (S : AS) (x k : Value) (ok : Bool) : Option Value :=
  match (match x with
    | .map none => some []
    | .map (some r) => (match S.h r with | some (.map es _) => some es | _ => none)
    | _ => none) with
  | none => none
  | some es => match findE kk k es 0 with
    | none => none
    | some (some (_, v)) => some (if ok then .tuple #[v, .bool true] else v)
    | some none => some (if ok then .tuple #[zero, .bool false] else zero)

def updM (kk : KK) (S : AS) (x k v : Value) : Option AS :=
  match x with
  | .map (some r) => match S.h r with
    | some (.map es clock) => match findE kk k es 0 with
      | none => none
      | some (some (i, _)) => some (S.set r (some (.map (modE es i fun e => { e with key := k, val := v }) clock)))
      | some none => some (S.set r (some (.map (es ++ [{ key := k, val := v, born := clock }]) (clock + 1))))
    | _ => none
  | _ => none

def delM (kk : KK) (S : AS) (x k : Value) : Option AS :=
  match x with
  | .map none => some S
  | .map (some r) => match S.h r with
    | some (.map es clock) => match findE kk k es 0 with
      | none => none
      | some (some (i, _)) => some (S.set r (some (.map (es.eraseIdx i) clock)))
      | some none => some (S.set r (some (.map es clock)))
    | _ => none
  | _ => none

def entM (kk : KK) (zero : Value) (S : AS) (x k : Value) : Option (Value × AS) :=
  match x with
  | .map (some r) => match S.h r with
    | some (.map es clock) => match findE kk k es 0 with
      | none => none
      | some (some (i, v)) => some (.tuple #[v, .int .i64 (((es[i]?).map (·.born)).getD 0 : Nat)], S.set r (some (.map (modE es i fun e => { e with key := k }) clock)))
      | some none => some (.tuple #[zero, .int .i64 clock], S.set r (some (.map (es ++ [{ key := k, val := zero, born := clock }]) (clock + 1))))
    | _ => none
  | _ => none

def entSt (S : AS) (x stamp v : Value) : Option AS :=
  match x, stamp with
  | .map (some r), .int _ n => match S.h r with
    | some (.map es clock) => match es.findIdx? (fun e => (e.born : Int) == n) with
      | some i => some (S.set r (some (.map (modE es i fun e => { e with val := v }) clock)))
      | none => none
    | _ => none
  | _, _ => none

inductive LK where
  | str | sl | map

def lenV (k : LK) (S : AS) (x : Value) : Option Value :=
  match k, x with
  | .str, .string s => some (.int .i64 s.size)
  | .sl, .slice _ n _ => some (.int .i64 n)
  | .map, .map none => some (.int .i64 0)
  | .map, .map (some r) => match S.h r with
    | some (.map es _) => some (.int .i64 es.length)
    | _ => none
  | _, _ => none

def minV (x y : Value) : Option Value :=
  match x, y with
  | .int k a, .int _ b => some (.int k (if b < a then b else a))
  | _, _ => none

def maxV (x y : Value) : Option Value :=
  match x, y with
  | .int k a, .int _ b => some (.int k (if b > a then b else a))
  | _, _ => none

def AS.roAt (S : AS) (i : Nat) : Bool :=
  match S.h i with
  | some o => o.ro
  | none => false

/-- The cells of a slice's, or a string's, first elements. -/
def srcCells (S : AS) (esz : Nat) (x : Value) : Option (List Value) :=
  match x with
  | .slice _ 0 _ => some []
  | .slice (some ⟨b, o, _⟩) n _ => getCells S b o (n * esz)
  | .string s => if esz = 1 then some (s.data.toList.map fun b => .int .u8 b.toNat) else none
  | _ => none

def srcLen (x : Value) : Nat :=
  match x with
  | .slice _ n _ => n
  | .string s => s.size
  | _ => 0

/-- append: in place where there is room for sure; onto new cells where there is none for sure; else onto new cells, and who may share the old ones is forgotten. -/
def appV (esz bytes : Nat) (S : AS) (s x : Value) : Option (Value × AS) :=
  match srcCells S esz x with
  | none => none
  | some new =>
    match s with
    | .slice a len cap =>
      if len + srcLen x ≤ cap then
        (match a with
        | none => if srcLen x = 0 then some (.slice none len cap, S) else none
        | some ⟨b, o, q⟩ => if srcLen x = 0 then some (.slice (some ⟨b, o, q⟩) len cap, S) else (setCells S b (o + len * esz) new).map fun S' => (.slice (some ⟨b, o, q⟩) (len + srcLen x) cap, S'))
      else if (len + srcLen x) * bytes ≤ 1099511627776 then
        match srcCells S esz s with
        | none => none
        | some old => match a with
          | some ⟨b, _, some e⟩ =>
            match S.h b with
            | some (.cells false _) => if e = esz then some (.slice (some ⟨S.nx, 0, some esz⟩) (len + srcLen x) (len + srcLen x), (S.set b none).new (.cells false (old ++ new))) else none
            | _ => none
          | _ => some (.slice (some ⟨S.nx, 0, some esz⟩) (len + srcLen x) (len + srcLen x), S.new (.cells false (old ++ new)))
      else none
    | _ => none

def copyV (esz : Nat) (S : AS) (d s : Value) : Option (Value × AS) :=
  match d with
  | .slice (some ⟨b, o, _⟩) dl _ =>
    (match srcCells S esz s with
    | none => none
    | some cs => if min (srcLen s) dl = 0 then some (.int .i64 0, S) else (setCells S b o (cs.take (min (srcLen s) dl * esz))).map fun S' => (.int .i64 (min (srcLen s) dl : Nat), S'))
  | .slice none 0 _ => (match srcCells S esz s with
    | none => none
    | some _ => some (.int .i64 0, S))
  | _ => none

def repL (zero : List Value) : Nat → List Value
  | 0 => []
  | n + 1 => zero ++ repL zero n

def clearV (zero : List Value) (S : AS) (x : Value) : Option AS :=
  match x with
  | .slice _ 0 _ => some S
  | .slice (some ⟨b, o, _⟩) n _ => setCells S b o (repL zero n)
  | _ => none

def mkSl (zero : List Value) (bytes : Nat) (S : AS) (l c : Value) : Option (Value × AS) :=
  match l, c with
  | .int .i64 n, .int .i64 m =>
    if 0 ≤ n ∧ n ≤ m ∧ m < 9223372036854775808 ∧ bytes * m ≤ 1099511627776 then
      some (.slice (some ⟨S.nx, 0, none⟩) n.toNat m.toNat, S.new (.cells false (repL zero m.toNat)))
    else none
  | _, _ => none

/-- Resolved operations. -/
inductive AOp where
  | val (x : Operand)
  | pick (c a b : Operand)
  | new (cs : List Value)
  | box (x : Operand)
  | build (zero : List Value) (ps : List (Nat × Nat × Operand))
  | buildSl (n : Nat) (cells : List Value) (ps : List (Nat × Nat × Operand))
  | load (n : Option Nat) (x : Operand)
  | store (n : Nat) (x v : Operand)
  | nilck (x : Operand)
  | bin (op : BinOp) (x y : Operand)
  | eqNil (k : NK) (neg : Bool) (x y : Operand)
  | eqB (neg : Bool) (x y : Operand)
  | eqC (neg : Bool) (x y : Operand)
  | un (op : UnOp) (x : Operand)
  | conv (k : IntKind) (x : Operand)
  | mkFn (fn : Fn) (first captured : List Operand)
  | mkMap
  | mkSl (zero : List Value) (bytes : Nat) (l c : Operand)
  | slice (esz : Nat) (x : Operand) (lo hi mx : Option Operand)
  | sliceA (n esz : Nat) (x : Operand) (lo hi mx : Option Operand)
  | sliceStr (x : Operand) (lo hi : Option Operand)
  | fldA (off : Nat) (x : Operand)
  | fld (n : Option Nat) (off : Nat) (x : Operand)
  | idxSl (esz : Nat) (x i : Operand)
  | idxAr (n esz : Nat) (x i : Operand)
  | idxV (len esz : Nat) (n : Option Nat) (x i : Operand)
  | idxStr (x i : Operand)
  | lookup (kk : KK) (zero : Value) (x k : Operand) (ok : Bool)
  | mapUpd (kk : KK) (x k v : Operand)
  | mapEnt (kk : KK) (zero : Value) (x k : Operand)
  | entSt (x s v : Operand)
  | extr (x : Operand) (i : Nat)
  | len (k : LK) (x : Operand)
  | min (x y : Operand)
  | max (x y : Operand)
  | append (esz bytes : Nat) (s x : Operand)
  | copy (esz : Nat) (d s : Operand)
  | clear (zero : List Value) (x : Operand)
  | delete (kk : KK) (x k : Operand)
  | call (f : Operand) (args : List Operand)
  | rangeM (x : Operand)
  | rangeS (x : Operand)
  | next (it : Operand) (isString : Bool)

/-- What an operation (no call, no step of a range) does. -/
def step (o : AOp) (ρ : Env) (S : AS) : Option (Value × AS) :=
  match o with
  | .val x => (ev ρ x).map (·, S)
  | .pick c a b => match ev ρ c with
    | some (.bool t) => if t then (ev ρ a).map (·, S) else (ev ρ b).map (·, S)
    | _ => none
  | .new cs => some (.pointer (some ⟨S.nx, 0, none⟩), S.new (.cells false cs))
  | .box x => match ev ρ x with
    | some v => if okV v = true then some (.pointer (some ⟨S.nx, 0, none⟩), S.new (.cells false v.cells.toList)) else none
    | none => none
  | .build z ps => match evp ρ ps with
    | some vs => (fillL z vs).map fun cs => (.agg cs.toArray, S)
    | none => none
  | .buildSl n z ps => match evp ρ ps with
    | some vs => (fillL z vs).map fun cs => (.slice (some ⟨S.nx, 0, none⟩) n n, S.new (.cells false cs))
    | none => none
  | .load n x => match ev ρ x with
    | some (.pointer (some ⟨b, o, none⟩)) => match getCells S b o (sizeN n) with
      | some cs => (mkV n cs).map (·, S)
      | none => none
    | _ => none
  | .store n x v => match ev ρ x, ev ρ v with
    | some (.pointer (some ⟨b, o, none⟩)), some v => if okV v = true ∧ v.cells.size = n then (setCells S b o v.cells.toList).map (undef, ·) else none
    | _, _ => none
  | .nilck x => match ev ρ x with
    | some (.pointer (some a)) => some (.pointer (some a), S)
    | _ => none
  | .bin op x y => match ev ρ x, ev ρ y with
    | some a, some b => (binV op a b).map (·, S)
    | _, _ => none
  | .eqNil k neg x y => match ev ρ x, ev ρ y with
    | some a, some b => (nilEq k a b).map fun t => (.bool (t != neg), S)
    | _, _ => none
  | .eqB neg x y => match ev ρ x, ev ρ y with
    | some (.bool a), some (.bool b) => some (.bool ((a == b) != neg), S)
    | _, _ => none
  | .eqC neg x y => match ev ρ x, ev ρ y with
    | some a, some b => (keyEq a b).map fun t => (.bool (t != neg), S)
    | _, _ => none
  | .un op x => match ev ρ x with
    | some a => (unV op a).map (·, S)
    | none => none
  | .conv k x => match ev ρ x with
    | some (.int _ n) => some (.int k (k.wrap n), S)
    | _ => none
  | .mkFn fn first captured => match evs ρ first, evs ρ captured with
    | some a, some b => some (.func fn a.toArray b.toArray, S)
    | _, _ => none
  | .mkMap => some (.map (some S.nx), S.new (.map [] 0))
  | .mkSl z b l c => match ev ρ l, ev ρ c with
    | some l, some c => Ax.mkSl z b S l c
    | _, _ => none
  | .slice esz x lo hi mx => match ev ρ x, evo ρ lo, evo ρ hi, evo ρ mx with
    | some x, some lo, some hi, some mx => (sliceV esz x lo hi mx).map (·, S)
    | _, _, _, _ => none
  | .sliceA n esz x lo hi mx => match ev ρ x, evo ρ lo, evo ρ hi, evo ρ mx with
    | some x, some lo, some hi, some mx => (Ax.sliceA n esz x lo hi mx).map (·, S)
    | _, _, _, _ => none
  | .sliceStr x lo hi => match ev ρ x, evo ρ lo, evo ρ hi with
    | some x, some lo, some hi => (Ax.sliceStr x lo hi).map (·, S)
    | _, _, _ => none
  | .fldA off x => match ev ρ x with
    | some x => (addOff x off).map (·, S)
    | none => none
  | .fld n off x => match ev ρ x with
    | some x => (partV n x off).map (·, S)
    | none => none
  | .idxSl esz x i => match ev ρ x, ev ρ i with
    | some x, some i => (Ax.idxSl esz x i).map (·, S)
    | _, _ => none
  | .idxAr n esz x i => match ev ρ x, ev ρ i with
    | some x, some i => (Ax.idxAr n esz x i).map (·, S)
    | _, _ => none
  | .idxV len esz n x i => match ev ρ x, ev ρ i with
    | some x, some i => (Ax.idxV len esz n x i).map (·, S)
    | _, _ => none
  | .idxStr x i => match ev ρ x, ev ρ i with
    | some x, some i => (Ax.idxStr x i).map (·, S)
    | _, _ => none
  | .lookup kk z x k ok => match ev ρ x, ev ρ k with
    | some x, some k => (lookM kk z S x k ok).map (·, S)
    | _, _ => none
  | .mapUpd kk x k v => match ev ρ x, ev ρ k, ev ρ v with
    | some x, some k, some v => (updM kk S x k v).map (undef, ·)
    | _, _, _ => none
  | .mapEnt kk z x k => match ev ρ x, ev ρ k with
    | some x, some k => entM kk z S x k
    | _, _ => none
  | .entSt x s v => match ev ρ x, ev ρ s, ev ρ v with
    | some x, some s, some v => (Ax.entSt S x s v).map (undef, ·)
    | _, _, _ => none
  | .extr x i => match ev ρ x with
    | some x => (Ax.extr x i).map (·, S)
    | none => none
  | .len k x => match ev ρ x with
    | some x => (lenV k S x).map (·, S)
    | none => none
  | .min x y => match ev ρ x, ev ρ y with
    | some a, some b => (minV a b).map (·, S)
    | _, _ => none
  | .max x y => match ev ρ x, ev ρ y with
    | some a, some b => (maxV a b).map (·, S)
    | _, _ => none
  | .append esz bytes s x => match ev ρ s, ev ρ x with
    | some s, some x => appV esz bytes S s x
    | _, _ => none
  | .copy esz d s => match ev ρ d, ev ρ s with
    | some d, some s => copyV esz S d s
    | _, _ => none
  | .clear z x => match ev ρ x with
    | some x => (clearV z S x).map (.tuple #[], ·)
    | none => none
  | .delete kk x k => match ev ρ x, ev ρ k with
    | some x, some k => (delM kk S x k).map (.tuple #[], ·)
    | _, _ => none
  | .call _ _ => none
  | .rangeM x => match ev ρ x with
    | some (.map none) => some (.pointer (some ⟨S.nx, 0, none⟩), S.new (.mapIter none 0 [] 0))
    | some (.map (some m)) => match S.h m with
      | some (.map _ clock) => some (.pointer (some ⟨S.nx, 0, none⟩), S.new (.mapIter (some m) clock [] clock))
      | _ => none
    | _ => none
  | .rangeS x => match ev ρ x with
    | some (.string s) => some (.pointer (some ⟨S.nx, 0, none⟩), S.new (.strIter s 0))
    | _ => none
  | .next _ _ => none

structure AOper where
  dst : Option Nat
  op : AOp
  guard : Option (Nat × Bool)

/-- Is an operation wanted? -/
def wantA (ρ : Env) : Option (Nat × Bool) → Option Bool
  | none => some true
  | some (t, b) => match look ρ t with
    | some (.bool c) => some (c == b)
    | some (.tuple _) => some false
    | _ => none

abbrev Fns := Nat → List Value → AS → (Value → AS → Prop) → Prop

/-- A step of a range. -/
def wpNext (it : Value) (isString : Bool) (S : AS) (K : Value → AS → Prop) : Prop :=
  match it with
  | .pointer (some ⟨r, 0, none⟩) => match S.h r, isString with
    | some (.strIter s pos), true =>
      if pos < s.size then K (.tuple #[.bool true, .int .i64 pos, .int .i32 (Utf8.decode s pos).1]) (S.set r (some (.strIter s (pos + (Utf8.decode s pos).2))))
      else K (.tuple #[.bool false]) S
    | some (.mapIter none _ _ _), false => K (.tuple #[.bool false]) S
    | some (.mapIter (some m) since seen last), false => match S.h m with
      | some (.map es clock) =>
        (!seen.isEmpty && !es.isEmpty && es.all (·.born ≥ last)) = false ∧
        (((es.filter fun e => !seen.contains e.born).filter (·.born < since)) = [] → K (.tuple #[.bool false]) S) ∧
        ∀ e ∈ es, seen.contains e.born = false →
          K (.tuple #[.bool true, e.key, e.val]) (S.set r (some (.mapIter (some m) since (seen ++ [e.born]) clock)))
      | _ => False
    | _, _ => False
  | _ => False

def wpOp (Γ : Fns) (o : AOp) (ρ : Env) (S : AS) (K : Value → AS → Prop) : Prop :=
  match o with
  | .call f args => match ev ρ f, evs ρ args with
    | some (.func (.func id) first cap), some vs => Γ id (first.toList ++ vs ++ cap.toList) S K
    | _, _ => False
  | .next it b => match ev ρ it with
    | some x => wpNext x b S K
    | none => False
  | o => match step o ρ S with
    | some (v, S') => K v S'
    | none => False

def wpOps (Γ : Fns) : List AOper → Env → AS → (Env → AS → Prop) → Prop
  | [], ρ, S, Q => Q ρ S
  | o :: r, ρ, S, Q => match wantA ρ o.guard with
    | none => False
    | some false => wpOps Γ r (putE ρ o.dst undef) S Q
    | some true => wpOp Γ o.op ρ S fun v S' => wpOps Γ r (putE ρ o.dst v) S' Q

/-- Only some temporaries are kept. -/
def keepE (ρ : Env) : List Nat → Env
  | [] => []
  | t :: r => match look ρ t with
    | some v => (t, v) :: keepE ρ r
    | none => keepE ρ r

inductive ACode where
  | skip
  | reg (live : List Nat) (ops : List AOper)
  | dreg (live : List Nat) (ops : List (AOper × List Nat))
  | seq (a b : ACode)
  | cond (c : Operand) (a b : ACode)
  | block (id : Nat) (b : ACode)
  | loop (b : ACode)
  | exit (id : Nat)
  | ret

inductive AExit where
  | normal
  | exit (id : Nat)
  | ret

def wpLoop (body : Env → AS → (AExit → Env → AS → Prop) → Prop) : Nat → Env → AS → (AExit → Env → AS → Prop) → Prop
  | 0, _, _, _ => False
  | k + 1, ρ, S, Q => body ρ S fun x ρ' S' => match x with
    | .normal => wpLoop body k ρ' S' Q
    | x => Q x ρ' S'

/-- The ids at which a value points. -/
def idsV : Value → List Nat
  | .pointer (some a) => [a.block]
  | .slice (some a) _ _ => [a.block]
  | .map (some r) => [r]
  | _ => []

def AOp.isCall : AOp → Bool
  | .call _ _ => true
  | _ => false

def AOp.isWrite : AOp → Bool
  | .store _ _ _ | .mapUpd _ _ _ _ | .mapEnt _ _ _ _ | .entSt _ _ _ | .append _ _ _ _ | .copy _ _ _ | .clear _ _ | .delete _ _ _ => true
  | _ => false

/-- The operands by which an operation (no call) comes to memory. -/
def AOp.mems : AOp → List Operand
  | .load _ x | .len .map x | .clear _ x | .rangeM x => [x]
  | .store _ x _ | .lookup _ _ x _ _ | .mapUpd _ x _ _ | .mapEnt _ _ x _ | .entSt x _ _ | .delete _ x _ => [x]
  | .append _ _ s x | .copy _ s x => [s, x]
  | _ => []

def idsE (ρ : Env) : List Operand → List Nat
  | [] => []
  | x :: r => (match ev ρ x with | some v => idsV v | none => []) ++ idsE ρ r

structure DRec where
  w : Bool
  ids : List Nat
  lo : Nat
  hi : Nat

def DRec.none : DRec := ⟨false, [], 0, 0⟩

/-- May an operation that comes to these ids stand in either order with an earlier one? -/
def okPair (ids : List Nat) (w : Bool) (r : DRec) : Bool :=
  ids.all fun i => !(decide (r.lo ≤ i) && decide (i < r.hi)) && !((w || r.w) && r.ids.contains i)

/-- What a call may not see: what earlier operations that stand in either order with it come to, or made. -/
def hidden (S : AS) : List DRec → List Nat
  | [] => []
  | r :: rs => r.ids.filter (fun i => !S.roAt i) ++ List.range' r.lo (r.hi - r.lo) ++ hidden S rs

def AS.hide (S : AS) (hid : List Nat) : AS := { S with h := fun i => if hid.contains i then .none else S.h i }
def AS.join (S : AS) (hid : List Nat) (S1 : AS) : AS := { h := fun i => if hid.contains i || (S.roAt i && decide (i < S.nx)) then S.h i else S1.h i, nx := S1.nx }

def recs (hist : List DRec) (U : List Nat) : List DRec := U.map fun i => hist.getD i DRec.none

def wpDops (Γ : Fns) : List (AOper × List Nat) → List DRec → Env → AS → (Env → AS → Prop) → Prop
  | [], _, ρ, S, Q => Q ρ S
  | (o, U) :: r, hist, ρ, S, Q => match wantA ρ o.guard with
    | none => False
    | some false => wpDops Γ r (hist ++ [DRec.none]) (putE ρ o.dst undef) S Q
    | some true =>
      if o.op.isCall then
        wpOp Γ o.op ρ (S.hide (hidden S (recs hist U))) fun v S1 =>
          wpDops Γ r (hist ++ [DRec.none]) (putE ρ o.dst v) (S.join (hidden S (recs hist U)) S1) Q
      else match step o.op ρ S with
        | some (v, S') =>
          if (recs hist U).all (okPair (idsE ρ o.op.mems) o.op.isWrite) = true then
            wpDops Γ r (hist ++ [⟨o.op.isWrite, idsE ρ o.op.mems, S.nx, S'.nx⟩]) (putE ρ o.dst v) S' Q
          else False
        | none => False

def wpC (Γ : Fns) (n : Nat) : ACode → Env → AS → (AExit → Env → AS → Prop) → Prop
  | .skip, ρ, S, Q => Q .normal ρ S
  | .reg live ops, ρ, S, Q => wpOps Γ ops ρ S fun ρ' S' => Q .normal (keepE ρ' live) S'
  | .dreg live ops, ρ, S, Q => wpDops Γ ops [] ρ S fun ρ' S' => Q .normal (keepE ρ' live) S'
  | .seq a b, ρ, S, Q => wpC Γ n a ρ S fun x ρ' S' => match x with
    | .normal => wpC Γ n b ρ' S' Q
    | x => Q x ρ' S'
  | .cond c a b, ρ, S, Q => match ev ρ c with
    | some (.bool t) => if t then wpC Γ n a ρ S Q else wpC Γ n b ρ S Q
    | _ => False
  | .block id b, ρ, S, Q => wpC Γ n b ρ S fun x ρ' S' => match x with
    | .exit i => if i = id then Q .normal ρ' S' else Q (.exit i) ρ' S'
    | x => Q x ρ' S'
  | .loop b, ρ, S, Q => wpLoop (wpC Γ n b) n ρ S Q
  | .exit id, ρ, S, Q => Q (.exit id) ρ S
  | .ret, ρ, S, Q => Q .ret ρ S

inductive ARes where
  | tmp (t : Nat)
  | cell (t : Nat) (n : Option Nat)

structure AFun where
  res : List ARes
  body : ACode

def resV (ρ : Env) (S : AS) : ARes → Option Value
  | .tmp t => look ρ t
  | .cell t n => match look ρ t with
    | some (.pointer (some ⟨b, o, none⟩)) => match getCells S b o (sizeN n) with
      | some cs => mkV n cs
      | none => none
    | _ => none

def resVs (ρ : Env) (S : AS) : List ARes → Option (List Value)
  | [] => some []
  | r :: rs => match resV ρ S r, resVs ρ S rs with
    | some v, some vs => some (v :: vs)
    | _, _ => none

def result (ρ : Env) (S : AS) (rs : List ARes) : Option Value :=
  match resVs ρ S rs with
  | some [v] => some v
  | some vs => some (.tuple vs.toArray)
  | none => none

def argsE : Nat → List Value → Env
  | _, [] => []
  | i, v :: r => (i, v) :: argsE (i + 1) r

/-- The functions of a program; X: what is known of others (no memory of theirs is seen). -/
def wpF (G : Nat → Option AFun) (X : Nat → List Value → Option Value) : Nat → Fns
  | 0, _, _, _, _ => False
  | k + 1, f, args, S, Q => match G f with
    | some af => wpC (wpF G X k) k af.body (argsE 0 args) S fun x ρ S' => match x with
      | .exit _ => False
      | _ => match result ρ S' af.res with
        | some v => Q v S'
        | none => False
    | none => match X f args with
      | some v => Q v S
      | none => False

end Go.Ax

/- How the abstract machine stands to the model's world: values, objects, states, frames. -/
namespace Go.Ax

abbrev Mu := Nat → Option (Nat × Nat × Nat)

mutual
inductive VRel (μ : Mu) : Value → Value → Prop
  | bool (b : Bool) : VRel μ (.bool b) (.bool b)
  | int (k : IntKind) (n : Int) : VRel μ (.int k n) (.int k n)
  | float (k : FloatKind) (n : Nat) : VRel μ (.float k n) (.float k n)
  | complex (k : FloatKind) (a b : Nat) : VRel μ (.complex k a b) (.complex k a b)
  | string (s : ByteArray) : VRel μ (.string s) (.string s)
  | nilFunc : VRel μ .nilFunc .nilFunc
  | nilIface : VRel μ .nilIface .nilIface
  | pnil : VRel μ (.pointer none) (.pointer none)
  | ptr {i o b d z : Nat} (h : μ i = some (b, d, z)) : VRel μ (.pointer (some ⟨i, o, none⟩)) (.pointer (some ⟨b, o + d, none⟩))
  | snil (l c : Nat) : VRel μ (.slice none l c) (.slice none l c)
  | slice {i o b d z l c : Nat} (h : μ i = some (b, d, z)) : VRel μ (.slice (some ⟨i, o, none⟩) l c) (.slice (some ⟨b, o + d, none⟩) l c)
  | slack {i o b d z l c c' e : Nat} (h : μ i = some (b, d, z)) (hc : c ≤ c') (hz : o + d + c' * e ≤ z) : VRel μ (.slice (some ⟨i, o, some e⟩) l c) (.slice (some ⟨b, o + d, none⟩) l c')
  | s0 {i o : Nat} {q : Option Nat} (a : Addr) : VRel μ (.slice (some ⟨i, o, q⟩) 0 0) (.slice (some a) 0 0)
  | mnil : VRel μ (.map none) (.map none)
  | map {i b z : Nat} (h : μ i = some (b, 0, z)) : VRel μ (.map (some i)) (.map (some b))
  | func (fn : Fn) {a a' c c' : Array Value} (ha : LRel μ a.toList a'.toList) (hc : LRel μ c.toList c'.toList) : VRel μ (.func fn a c) (.func fn a' c')
  | iface (t : TypeId) {v v' : Value} (h : VRel μ v v') : VRel μ (.iface t v) (.iface t v')
  | agg {a a' : Array Value} (h : LRel μ a.toList a'.toList) (h1 : ∀ x ∈ a.toList, x.oneCell' = true) : VRel μ (.agg a) (.agg a')
  | tuple {a a' : Array Value} (h : LRel μ a.toList a'.toList) : VRel μ (.tuple a) (.tuple a')
inductive LRel (μ : Mu) : List Value → List Value → Prop
  | nil : LRel μ [] []
  | cons {v v' : Value} {l l' : List Value} (h : VRel μ v v') (t : LRel μ l l') : LRel μ (v :: l) (v' :: l')
end

def Sub (μ μ' : Mu) : Prop := ∀ i p, μ i = some p → μ' i = some p

theorem Sub.refl (μ : Mu) : Sub μ μ := fun _ _ h => h
theorem Sub.trans {a b c : Mu} (h : Sub a b) (k : Sub b c) : Sub a c := fun i x hh => k i x (h i x hh)

mutual
theorem VRel.mono {μ μ' : Mu} (s : Sub μ μ') : ∀ {v v' : Value}, VRel μ v v' → VRel μ' v v'
  | _, _, .bool b => .bool b
  | _, _, .int k n => .int k n
  | _, _, .float k n => .float k n
  | _, _, .complex k a b => .complex k a b
  | _, _, .string x => .string x
  | _, _, .nilFunc => .nilFunc
  | _, _, .nilIface => .nilIface
  | _, _, .pnil => .pnil
  | _, _, .ptr h => .ptr (s _ _ h)
  | _, _, .snil l c => .snil l c
  | _, _, .slice h => .slice (s _ _ h)
  | _, _, .slack h hc hz => .slack (s _ _ h) hc hz
  | _, _, .s0 a => .s0 a
  | _, _, .mnil => .mnil
  | _, _, .map h => .map (s _ _ h)
  | _, _, .func fn ha hc => .func fn (ha.mono s) (hc.mono s)
  | _, _, .iface t h => .iface t (h.mono s)
  | _, _, .agg h h1 => .agg (h.mono s) h1
  | _, _, .tuple h => .tuple (h.mono s)
theorem LRel.mono {μ μ' : Mu} (s : Sub μ μ') : ∀ {l l' : List Value}, LRel μ l l' → LRel μ' l l'
  | _, _, .nil => .nil
  | _, _, .cons h t => .cons (h.mono s) (t.mono s)
end

theorem LRel.length {μ : Mu} : ∀ {l l' : List Value}, LRel μ l l' → l.length = l'.length
  | _, _, .nil => rfl
  | _, _, .cons _ t => by simp [t.length]

theorem LRel.append {μ : Mu} {a b : List Value} (h : LRel μ a b) {c d : List Value} (k : LRel μ c d) : LRel μ (a ++ c) (b ++ d) := by
  induction a generalizing b with
  | nil => cases h; exact k
  | cons x a ih => cases h with | cons hx t => exact .cons hx (ih t)

theorem LRel.take {μ : Mu} {a b : List Value} (h : LRel μ a b) (n : Nat) : LRel μ (a.take n) (b.take n) := by
  induction a generalizing b n with
  | nil => cases h; simp; exact .nil
  | cons x a ih =>
    cases h with | cons hx t =>
      cases n with
      | zero => simp; exact .nil
      | succ n => simp; exact .cons hx (ih t n)

theorem LRel.drop {μ : Mu} {a b : List Value} (h : LRel μ a b) (n : Nat) : LRel μ (a.drop n) (b.drop n) := by
  induction a generalizing b n with
  | nil => cases h; simp; exact .nil
  | cons x a ih =>
    cases h with | cons hx t =>
      cases n with
      | zero => simp; exact .cons hx t
      | succ n => simp; exact ih t n

theorem LRel.get {μ : Mu} {a b : List Value} (h : LRel μ a b) : ∀ {i : Nat} {v : Value}, a[i]? = some v → ∃ v', b[i]? = some v' ∧ VRel μ v v' := by
  induction a generalizing b with
  | nil => intro i v hv; simp at hv
  | cons x a ih =>
    cases h with | cons hx t =>
      intro i v hv
      cases i with
      | zero => simp at hv; subst hv; exact ⟨_, rfl, hx⟩
      | succ i => simp at hv; exact ih t hv

theorem LRel.of_get {μ : Mu} {a b : List Value} (hl : a.length = b.length) (h : ∀ (i : Nat) v, a[i]? = some v → ∃ v', b[i]? = some v' ∧ VRel μ v v') : LRel μ a b := by
  induction a generalizing b with
  | nil => cases b with
    | nil => exact .nil
    | cons y b => simp at hl
  | cons x a ih =>
    cases b with
    | nil => simp at hl
    | cons y b =>
      obtain ⟨v', h1, h2⟩ := h 0 x rfl
      simp at h1; subst h1
      exact .cons h2 (ih (by simpa using hl) (fun i v hv => by simpa using h (i + 1) v (by simpa using hv)))

theorem VRel.one {μ : Mu} {v v' : Value} (h : VRel μ v v') : v'.oneCell' = v.oneCell' := by cases h <;> rfl

theorem LRel.one {μ : Mu} {a b : List Value} (h : LRel μ a b) (h1 : ∀ x ∈ a, x.oneCell' = true) : ∀ x ∈ b, x.oneCell' = true := by
  induction a generalizing b with
  | nil => cases h; intro x hx; simp at hx
  | cons y a ih =>
    cases h with | cons hx t =>
      intro x hm
      rcases List.mem_cons.1 hm with rfl | hm
      · rw [hx.one]; exact h1 _ (by simp)
      · exact ih t (fun x hx => h1 x (by simp [hx])) x hm

/-- A value's cells. -/
theorem VRel.cells {μ : Mu} {v v' : Value} (h : VRel μ v v') (hk : okV v = true) :
    LRel μ v.cells.toList v'.cells.toList ∧ (∀ x ∈ v.cells.toList, x.oneCell' = true) := by
  cases h with
  | agg h h1 => exact ⟨h, h1⟩
  | tuple h => simp [okV] at hk
  | bool | int | float | complex | string | nilFunc | nilIface | pnil | snil | s0 | mnil => exact ⟨.cons (by constructor) .nil, by simp [Value.cells, Value.oneCell']⟩
  | ptr h => exact ⟨.cons (.ptr h) .nil, by simp [Value.cells, Value.oneCell']⟩
  | slice h => exact ⟨.cons (.slice h) .nil, by simp [Value.cells, Value.oneCell']⟩
  | slack h hc hz => exact ⟨.cons (.slack h hc hz) .nil, by simp [Value.cells, Value.oneCell']⟩
  | map h => exact ⟨.cons (.map h) .nil, by simp [Value.cells, Value.oneCell']⟩
  | func fn ha hc => exact ⟨.cons (.func fn ha hc) .nil, by simp [Value.cells, Value.oneCell']⟩
  | iface t h => exact ⟨.cons (.iface t h) .nil, by simp [Value.cells, Value.oneCell']⟩

theorem VRel.okV {μ : Mu} {v v' : Value} (h : VRel μ v v') : okV v' = okV v := by cases h <;> rfl

inductive MRel (μ : Mu) : List MapEntry → List MapEntry → Prop
  | nil : MRel μ [] []
  | cons {e e' : MapEntry} {l l' : List MapEntry} (hk : VRel μ e.key e'.key) (hv : VRel μ e.val e'.val) (hb : e.born = e'.born) (t : MRel μ l l') : MRel μ (e :: l) (e' :: l')

theorem MRel.mono {μ μ' : Mu} (s : Sub μ μ') {l l' : List MapEntry} (h : MRel μ l l') : MRel μ' l l' := by
  induction h with
  | nil => exact .nil
  | cons hk hv hb _ ih => exact .cons (hk.mono s) (hv.mono s) hb ih

theorem MRel.length {μ : Mu} {l l' : List MapEntry} (h : MRel μ l l') : l.length = l'.length := by
  induction h with
  | nil => rfl
  | cons _ _ _ _ ih => simp [ih]

theorem MRel.append {μ : Mu} {a b c d : List MapEntry} (h : MRel μ a b) (k : MRel μ c d) : MRel μ (a ++ c) (b ++ d) := by
  induction h with
  | nil => exact k
  | cons hk hv hb _ ih => exact .cons hk hv hb ih

/-- An object and a block. -/
def ORel (B : Nat) (μ : Mu) (w : World) (b d z : Nat) : AObj → Prop
  | .cells ro cs => ∃ c e fz, w.heap[b]? = some (.cells c e fz) ∧ LRel μ cs ((c.toList.drop d).take cs.length) ∧ (∀ x ∈ cs, x.oneCell' = true) ∧ (ro = false → fz = (0, 0)) ∧ (ro = true → b < B) ∧ z ≤ c.size ∧ d + cs.length ≤ c.size
  | .map es clock => d = 0 ∧ ∃ es', w.heap[b]? = some (.map es' clock) ∧ MRel μ es es'.toList
  | .mapIter m since seen st => d = 0 ∧ ∃ m', w.heap[b]? = some (.mapIter m' since seen.toArray st) ∧ VRel μ (.map m) (.map m')
  | .strIter s pos => d = 0 ∧ w.heap[b]? = some (.stringIter s pos)

theorem ORel.mono {B : Nat} {μ μ' : Mu} (s : Sub μ μ') {w : World} {b d z : Nat} {o : AObj} (h : ORel B μ w b d z o) : ORel B μ' w b d z o := by
  cases o with
  | cells ro cs => obtain ⟨c, e, fz, h1, h2, h3⟩ := h; exact ⟨c, e, fz, h1, h2.mono s, h3⟩
  | map es clock => obtain ⟨h0, es', h1, h2⟩ := h; exact ⟨h0, es', h1, h2.mono s⟩
  | mapIter m since seen st => obtain ⟨h0, m', h1, h2⟩ := h; exact ⟨h0, m', h1, h2.mono s⟩
  | strIter s pos => exact h

theorem ORel.same {B : Nat} {μ : Mu} {w w' : World} {b d z : Nat} {o : AObj} (hw : w'.heap[b]? = w.heap[b]?) (h : ORel B μ w b d z o) : ORel B μ w' b d z o := by
  cases o <;> simp only [ORel] at h ⊢ <;> rw [hw] <;> exact h

structure Rel (B : Nat) (μ : Mu) (S : AS) (w : World) : Prop where
  obj : ∀ i o, S.h i = some o → ∃ b d z, μ i = some (b, d, z) ∧ ORel B μ w b d z o ∧ (o.ro = false → B ≤ b)
  inj : ∀ i j o o' p q, S.h i = some o → S.h j = some o' → o.ro = false → μ i = some p → μ j = some q → p.1 = q.1 → i = j
  mu : ∀ i p, μ i = some p → p.1 < w.heap.size
  size : B ≤ w.heap.size

/-- What became of the world. -/
structure Fr (S S' : AS) (μ μ' : Mu) (w w' : World) : Prop where
  os : w'.os = w.os
  tape : w'.tape = w.tape
  output : w'.output = w.output
  size : w.heap.size ≤ w'.heap.size
  sub : Sub μ μ'
  nx : S.nx ≤ S'.nx
  fresh : ∀ i p, μ i = none → μ' i = some p → S.nx ≤ i ∧ i < S'.nx
  ro : ∀ i o, S'.h i = some o → o.ro = true → S.h i = some o
  blk : ∀ b, b < w.heap.size → (∀ i o p, S.h i = some o → o.ro = false → μ i = some p → p.1 ≠ b) → w'.heap[b]? = w.heap[b]?
  own : ∀ i o p, S'.h i = some o → o.ro = false → μ' i = some p → p.1 < w.heap.size → ∃ j o' q, S.h j = some o' ∧ o'.ro = false ∧ μ j = some q ∧ q.1 = p.1

theorem Fr.refl (S : AS) (μ : Mu) (w : World) : Fr S S μ μ w w :=
  ⟨rfl, rfl, rfl, Nat.le_refl _, Sub.refl _, Nat.le_refl _, fun i p h h' => (by rw [h] at h'; cases h'), fun _ _ h _ => h, fun _ _ _ => rfl, fun i o p h1 h2 h3 _ => ⟨i, o, p, h1, h2, h3, rfl⟩⟩

theorem Fr.trans {S S1 S2 : AS} {μ μ1 μ2 : Mu} {w w1 w2 : World} (h : Fr S S1 μ μ1 w w1) (k : Fr S1 S2 μ1 μ2 w1 w2) : Fr S S2 μ μ2 w w2 where
  os := k.os.trans h.os
  tape := k.tape.trans h.tape
  output := k.output.trans h.output
  size := Nat.le_trans h.size k.size
  sub := h.sub.trans k.sub
  nx := Nat.le_trans h.nx k.nx
  fresh := fun i p h1 h2 => by
    cases hm : μ1 i with
    | none => have := k.fresh i p hm h2; exact ⟨Nat.le_trans h.nx this.1, this.2⟩
    | some x => have := h.fresh i x h1 hm; exact ⟨this.1, Nat.lt_of_lt_of_le this.2 k.nx⟩
  ro := fun i o h1 h2 => h.ro i o (k.ro i o h1 h2) h2
  blk := fun b hb hn => by
    rw [k.blk b (Nat.lt_of_lt_of_le hb h.size) (fun i o p h1 h2 h3 h4 => by
      obtain ⟨j, o', e, g1, g2, g3, g4⟩ := h.own i o p h1 h2 h3 (by omega)
      exact hn j o' e g1 g2 g3 (by omega)), h.blk b hb hn]
  own := fun i o p h1 h2 h3 hb => by
    obtain ⟨j, o', e, g1, g2, g3, g4⟩ := k.own i o p h1 h2 h3 (Nat.lt_of_lt_of_le hb h.size)
    obtain ⟨j2, o2, e2, f1, f2, f3, f4⟩ := h.own j o' e g1 g2 g3 (by omega)
    exact ⟨j2, o2, e2, f1, f2, f3, by omega⟩

theorem Fr.below {B : Nat} {S S' : AS} {μ μ' : Mu} {w w' : World} (h : Fr S S' μ μ' w w') (r : Rel B μ S w) : RowKit.Below B w w' :=
  ⟨h.os, h.tape, h.output, h.size, fun k hk => h.blk k (Nat.lt_of_lt_of_le hk r.size) (fun i o p h1 h2 h3 h4 => by
    obtain ⟨b, d, z, g1, _, g3⟩ := r.obj i o h1
    rw [g1] at h3; cases h3
    have := g3 h2
    simp only at h4
    omega)⟩

/-- No id from the next one on is known. -/
def Bnd (μ : Mu) (S : AS) : Prop := ∀ i, S.nx ≤ i → μ i = none

theorem Bnd.fresh {μ : Mu} {S : AS} (h : Bnd μ S) : μ S.nx = none := h S.nx (Nat.le_refl _)

theorem Fr.bnd {S S' : AS} {μ μ' : Mu} {w w' : World} (h : Fr S S' μ μ' w w') (b : Bnd μ S) : Bnd μ' S' := by
  intro i hi
  cases hm : μ' i with
  | none => rfl
  | some p =>
    have := h.fresh i p (b i (Nat.le_trans h.nx hi)) hm
    omega

theorem Rel.ne {B : Nat} {μ : Mu} {S : AS} {w : World} (r : Rel B μ S w) (hf : μ S.nx = none) {i : Nat} {o : AObj} (h : S.h i = some o) : i ≠ S.nx := by
  intro e
  obtain ⟨b, d, z, h1, _⟩ := r.obj i o h
  rw [e, hf] at h1; cases h1

/-- Only a draw. -/
theorem Rel.world {B : Nat} {μ : Mu} {S : AS} {w w' : World} (r : Rel B μ S w) (h : w'.heap = w.heap) : Rel B μ S w' :=
  ⟨fun i o hi => by obtain ⟨b, d, z, h1, h2, h3⟩ := r.obj i o hi; exact ⟨b, d, z, h1, h2.same (by rw [h]), h3⟩, r.inj, fun i p hm => by rw [h]; exact r.mu i p hm, by rw [h]; exact r.size⟩

theorem Fr.world {S : AS} {μ : Mu} {w w' : World} (h : w'.heap = w.heap) (h1 : w'.os = w.os) (h2 : w'.tape = w.tape) (h3 : w'.output = w.output) : Fr S S μ μ w w' :=
  ⟨h1, h2, h3, by rw [h]; exact Nat.le_refl _, Sub.refl _, Nat.le_refl _, fun i p h h' => (by rw [h] at h'; cases h'), fun _ _ h _ => h, fun _ _ _ => by rw [h], fun i o p h1 h2 h3 _ => ⟨i, o, p, h1, h2, h3, rfl⟩⟩

def muSet (μ : Mu) (i : Nat) (p : Nat × Nat × Nat) : Mu := fun j => if j = i then some p else μ j

theorem muSet_sub {μ : Mu} {S : AS} (hf : μ S.nx = none) (p : Nat × Nat × Nat) : Sub μ (muSet μ S.nx p) := by
  intro i q h
  have : i ≠ S.nx := fun e => by rw [e, hf] at h; cases h
  simp only [muSet]
  rw [if_neg this]
  exact h

/-- A new object, in a new block. -/
theorem Rel.new {B : Nat} {μ : Mu} {S : AS} {w : World} (r : Rel B μ S w) (hf : μ S.nx = none) {o : AObj} (hro : o.ro = false) {ob : Obj} (z : Nat)
    (ho : ∀ μ' w', Sub μ μ' → w'.heap[w.heap.size]? = some ob → ORel B μ' w' w.heap.size 0 z o) :
    Rel B (muSet μ S.nx (w.heap.size, 0, z)) (S.new o) (w.alloc ob) ∧ Fr S (S.new o) μ (muSet μ S.nx (w.heap.size, 0, z)) w (w.alloc ob) := by
  have hs := muSet_sub hf (w.heap.size, 0, z)
  have hold : ∀ k, k < w.heap.size → (w.alloc ob).heap[k]? = w.heap[k]? := fun k hk => RowKit.Below.heap_alloc w ob k hk
  have hnew : (w.alloc ob).heap[w.heap.size]? = some ob := by
    show (w.heap.push ob)[w.heap.size]? = _
    simp
  constructor
  · constructor
    · intro i o' hi
      simp only [AS.new] at hi
      by_cases e : i = S.nx
      · rw [if_pos e] at hi; cases hi
        exact ⟨w.heap.size, 0, z, by simp [muSet, e], ho _ _ hs hnew, fun _ => r.size⟩
      · rw [if_neg e] at hi
        obtain ⟨b, d, z', h1, h2, h3⟩ := r.obj i o' hi
        exact ⟨b, d, z', hs i _ h1, (h2.mono hs).same (hold b (r.mu i _ h1)), h3⟩
    · intro i j o1 o2 p q hi hj h1 h2 h3 h4
      simp only [AS.new] at hi hj
      simp only [muSet] at h2 h3
      by_cases e1 : i = S.nx <;> by_cases e2 : j = S.nx
      · rw [e1, e2]
      · rw [if_pos e1] at h2; rw [if_neg e2] at h3; cases h2
        have := r.mu j _ h3; simp only at h4; omega
      · rw [if_neg e1] at h2; rw [if_pos e2] at h3; cases h3
        have := r.mu i _ h2; simp only at h4; omega
      · rw [if_neg e1] at hi h2; rw [if_neg e2] at hj h3
        exact r.inj i j o1 o2 p q hi hj h1 h2 h3 h4
    · intro i p h
      simp only [muSet] at h
      simp only [World.size_alloc]
      by_cases e : i = S.nx
      · rw [if_pos e] at h; cases h; simp
      · rw [if_neg e] at h; have := r.mu i p h; omega
    · have := r.size; simp; omega
  · refine ⟨rfl, rfl, rfl, by simp, hs, by simp [AS.new], ?_, ?_, fun b hb _ => hold b hb, ?_⟩
    · intro i p h1 h2
      simp only [muSet] at h2
      by_cases e : i = S.nx
      · rw [e]; simp [AS.new]
      · rw [if_neg e, h1] at h2; cases h2
    · intro i o' h1 h2
      simp only [AS.new] at h1
      by_cases e : i = S.nx
      · rw [if_pos e] at h1; cases h1; rw [hro] at h2; cases h2
      · rw [if_neg e] at h1; exact h1
    · intro i o' p h1 h2 h3 hb
      simp only [AS.new] at h1
      simp only [muSet] at h3
      by_cases e : i = S.nx
      · rw [if_pos e] at h3; cases h3; simp at hb
      · rw [if_neg e] at h1 h3
        exact ⟨i, o', p, h1, h2, h3, rfl⟩

/-- An object is changed. -/
theorem Rel.set {B : Nat} {μ : Mu} {S : AS} {w : World} (r : Rel B μ S w) {i b d z : Nat} {o o' : AObj} (hi : S.h i = some o) (hro : o.ro = false) (hm : μ i = some (b, d, z))
    {w' : World} (hw : ∀ k, k ≠ b → w'.heap[k]? = w.heap[k]?) (hsz : w'.heap.size = w.heap.size) (hos : w'.os = w.os) (ht : w'.tape = w.tape) (hou : w'.output = w.output)
    (ho : ORel B μ w' b d z o') (hro' : o'.ro = false) : Rel B μ (S.set i (some o')) w' ∧ Fr S (S.set i (some o')) μ μ w w' := by
  have hB : B ≤ b := by
    obtain ⟨b', d', z', h1, _, h3⟩ := r.obj i o hi
    rw [hm] at h1; cases h1; exact h3 hro
  constructor
  · constructor
    · intro j oj hj
      simp only [AS.set] at hj
      by_cases e : j = i
      · rw [if_pos e] at hj; cases hj; exact ⟨b, d, z, by rw [e]; exact hm, ho, fun _ => hB⟩
      · rw [if_neg e] at hj
        obtain ⟨b', d', z', h1, h2, h3⟩ := r.obj j oj hj
        refine ⟨b', d', z', h1, h2.same (hw b' ?_), h3⟩
        intro hb
        subst hb
        exact e (r.inj i j o oj _ _ hi hj hro hm h1 rfl).symm
    · intro j k oj ok p q hj hk h1 h2 h3 h4
      simp only [AS.set] at hj hk
      by_cases ej : j = i <;> by_cases ek : k = i
      · rw [ej, ek]
      · rw [if_neg ek] at hk; rw [ej] at h2
        rw [ej]; exact r.inj i k o ok p q hi hk hro h2 h3 h4
      · rw [if_neg ej] at hj; rw [ek] at h3
        rw [ek]; exact (r.inj i j o oj q p hi hj hro h3 h2 h4.symm).symm
      · rw [if_neg ej] at hj; rw [if_neg ek] at hk
        exact r.inj j k oj ok p q hj hk h1 h2 h3 h4
    · intro j p h; rw [hsz]; exact r.mu j p h
    · rw [hsz]; exact r.size
  · refine ⟨hos, ht, hou, by omega, Sub.refl _, Nat.le_refl _, fun i p h h' => (by rw [h] at h'; cases h'), ?_, ?_, ?_⟩
    · intro j oj h1 h2
      simp only [AS.set] at h1
      by_cases e : j = i
      · rw [if_pos e] at h1; cases h1; rw [hro'] at h2; cases h2
      · rw [if_neg e] at h1; exact h1
    · intro b1 hb1 hn
      exact hw b1 (fun e => by subst e; exact hn i o _ hi hro hm rfl)
    · intro j oj p h1 h2 h3 _
      simp only [AS.set] at h1
      by_cases e : j = i
      · rw [e] at h3; exact ⟨i, o, p, hi, hro, h3, rfl⟩
      · rw [if_neg e] at h1; exact ⟨j, oj, p, h1, h2, h3, rfl⟩

/-- Old objects are forgotten. -/
theorem Rel.weaken {B : Nat} {μ : Mu} {S T : AS} {w : World} (r : Rel B μ S w) (h : ∀ i o, T.h i = some o → S.h i = some o) : Rel B μ T w :=
  ⟨fun i o hi => r.obj i o (h i o hi), fun i j o o' p q hi hj => r.inj i j o o' p q (h i o hi) (h j o' hj), r.mu, r.size⟩

theorem take_h (S : AS) (i : Nat) (o : AObj) (j : Nat) : ((S.set i none).new o).h j = if j = S.nx then some o else if j = i then none else S.h j := rfl

/-- An object takes another one's block over (its cells may be more than were known); the other one is forgotten. -/
theorem Rel.take {B : Nat} {μ : Mu} {S : AS} {w : World} (r : Rel B μ S w) (hf : μ S.nx = none) {i b d z : Nat} {o o' : AObj} (hi : S.h i = some o) (hro : o.ro = false) (hm : μ i = some (b, d, z)) (d' : Nat)
    {w' : World} (hw : ∀ k, k ≠ b → w'.heap[k]? = w.heap[k]?) (hsz : w'.heap.size = w.heap.size) (hos : w'.os = w.os) (ht : w'.tape = w.tape) (hou : w'.output = w.output)
    (ho : ∀ μ', Sub μ μ' → ORel B μ' w' b d' z o') (hro' : o'.ro = false) :
    Rel B (muSet μ S.nx (b, d', z)) ((S.set i none).new o') w' ∧ Fr S ((S.set i none).new o') μ (muSet μ S.nx (b, d', z)) w w' := by
  have hs := muSet_sub hf (b, d', z)
  have hB : B ≤ b := by
    obtain ⟨b', d1, z', h1, _, h3⟩ := r.obj i o hi
    rw [hm] at h1; cases h1; exact h3 hro
  have hlt := r.ne hf hi
  have hother : ∀ j oj, S.h j = some oj → j ≠ i → ∀ p, μ j = some p → p.1 ≠ b := fun j oj hj hne p hp e =>
    hne (r.inj i j o oj _ _ hi hj hro hm hp e.symm).symm
  constructor
  · constructor
    · intro j oj hj
      rw [take_h] at hj
      by_cases e : j = S.nx
      · rw [if_pos e] at hj; cases hj
        exact ⟨b, d', z, by simp [muSet, e], ho _ hs, fun _ => hB⟩
      · rw [if_neg e] at hj
        by_cases e2 : j = i
        · rw [if_pos e2] at hj; cases hj
        · rw [if_neg e2] at hj
          obtain ⟨b', d1, z', h1, h2, h3⟩ := r.obj j oj hj
          exact ⟨b', d1, z', hs j _ h1, (h2.mono hs).same (hw b' (hother j oj hj e2 _ h1)), h3⟩
    · intro j k oj ok p q hj hk h1 h2 h3 h4
      rw [take_h] at hj hk
      simp only [muSet] at h2 h3
      by_cases ej : j = S.nx <;> by_cases ek : k = S.nx
      · rw [ej, ek]
      · rw [if_pos ej] at h2; rw [if_neg ek] at h3 hk; cases h2
        by_cases e2 : k = i
        · rw [if_pos e2] at hk; cases hk
        · rw [if_neg e2] at hk; exact absurd h4.symm (hother k ok hk e2 _ h3)
      · rw [if_neg ej] at h2 hj; rw [if_pos ek] at h3; cases h3
        by_cases e2 : j = i
        · rw [if_pos e2] at hj; cases hj
        · rw [if_neg e2] at hj; exact absurd h4 (hother j oj hj e2 _ h2)
      · rw [if_neg ej] at hj h2; rw [if_neg ek] at hk h3
        by_cases e2 : j = i
        · rw [if_pos e2] at hj; cases hj
        · by_cases e3 : k = i
          · rw [if_pos e3] at hk; cases hk
          · rw [if_neg e2] at hj; rw [if_neg e3] at hk
            exact r.inj j k oj ok p q hj hk h1 h2 h3 h4
    · intro j p h
      simp only [muSet] at h
      rw [hsz]
      by_cases e : j = S.nx
      · rw [if_pos e] at h; cases h; have := r.mu i _ hm; exact this
      · rw [if_neg e] at h; exact r.mu j p h
    · rw [hsz]; exact r.size
  · refine ⟨hos, ht, hou, by omega, hs, by simp [AS.new, AS.set], ?_, ?_, ?_, ?_⟩
    · intro j p h1 h2
      simp only [muSet] at h2
      by_cases e : j = S.nx
      · rw [e]; simp [AS.new, AS.set]
      · rw [if_neg e, h1] at h2; cases h2
    · intro j oj h1 h2
      rw [take_h] at h1
      by_cases e : j = S.nx
      · rw [if_pos e] at h1; cases h1; rw [hro'] at h2; cases h2
      · rw [if_neg e] at h1
        by_cases e2 : j = i
        · rw [if_pos e2] at h1; cases h1
        · rw [if_neg e2] at h1; exact h1
    · intro b1 hb1 hn
      exact hw b1 (fun e => by subst e; exact hn i o _ hi hro hm rfl)
    · intro j oj p h1 h2 h3 _
      rw [take_h] at h1
      simp only [muSet] at h3
      by_cases e : j = S.nx
      · rw [if_pos e] at h3; cases h3; exact ⟨i, o, _, hi, hro, hm, rfl⟩
      · rw [if_neg e] at h1 h3
        by_cases e2 : j = i
        · rw [if_pos e2] at h1; cases h1
        · rw [if_neg e2] at h1; exact ⟨j, oj, p, h1, h2, h3, rfl⟩

end Go.Ax

/- From the model's operations to resolved ones. -/
namespace Go.Ax

def szOf (P : Program) (t : TypeId) : Option Nat := (P.info? t).map (·.size)
def bytesOf (P : Program) (t : TypeId) : Option Nat := (P.info? t).map (·.bytes)
def zeroOf (P : Program) (t : TypeId) : Option Value := (P.info? t).bind (·.zero)

/-- How many cells a variable of a type has; bare: one cell. -/
def aggN (P : Program) (t : TypeId) : Option (Option Nat) :=
  match P.underlying t with
  | some (.struct _) | some (.array _ _) => (szOf P t).map some
  | some _ => some none
  | none => none

def scalV : Value → Bool
  | .bool _ | .int _ _ | .float _ _ | .complex _ _ _ | .string _ | .nilFunc | .nilIface | .pointer none | .slice none _ _ | .map none => true
  | _ => false

/-- Values that mean the same in both worlds. -/
def groundV : Value → Bool
  | .agg cs => cs.toList.all scalV
  | v => scalV v

def groundO : Operand → Bool
  | .const v => groundV v
  | .global _ => false
  | _ => true

def fieldOf (P : Program) (s : TypeId) (f : Nat) : Option Field :=
  match P.underlying s with
  | some (.struct fields) => fields[f]?
  | _ => none

def partsS (P : Program) (fields : Array Field) : List (Nat × Operand) → Option (List (Nat × Nat × Operand))
  | [] => some []
  | (i, x) :: r => match fields[i]? with
    | some f => match szOf P f.type, partsS P fields r with
      | some n, some ps => some ((f.offset, n, x) :: ps)
      | _, _ => none
    | none => none

def partsA (n : Nat) : List (Nat × Operand) → List (Nat × Nat × Operand)
  | [] => []
  | (i, x) :: r => (i * n, n, x) :: partsA n r

/-- Are all fields' sizes known? -/
def sizesOk (P : Program) (fields : List Field) : Bool := fields.all fun f => (szOf P f.type).isSome

def intT (P : Program) (t : TypeId) : Bool := match P.underlying t with | some (.int _) => true | _ => false
def keyT (P : Program) (t : TypeId) : Option KK := match P.underlying t with | some (.int _) => some .int | some .string => some .str | _ => none

def nkOf : TypeDesc → Option NK
  | .pointer _ => some .ptr
  | .slice _ => some .slice
  | .map _ _ => some .map
  | .func _ _ _ => some .func
  | _ => none

def cBin (P : Program) (op : BinOp) (t : TypeId) (x y : Operand) : Option AOp :=
  match P.underlying t with
  | some (.int _) | some .string => some (.bin op x y)
  | some .bool => match op with
    | .eql => some (.eqB false x y)
    | .neq => some (.eqB true x y)
    | _ => none
  | some d => match nkOf d, op with
    | some k, .eql => some (.eqNil k false x y)
    | some k, .neq => some (.eqNil k true x y)
    | _, _ => none
  | none => none

def cCall (P : Program) (c : Call) : Option AOp :=
  match c.callee with
  | .value f => if groundO f then some (.call f c.args.toList) else none
  | .invoke _ _ => none
  | .builtin b => match b, c.args.toList, c.argTypes.toList with
    | .len, [x], [t] => match P.underlying t with
      | some .string => some (.len .str x)
      | some (.slice _) => some (.len .sl x)
      | some (.map _ _) => some (.len .map x)
      | _ => none
    | .min, [x, y], _ => some (.min x y)
    | .max, [x, y], _ => some (.max x y)
    | .append, [s, x], [t, u] => match P.underlying t, P.underlying u with
      | some (.slice e), some (.slice _) => match szOf P e, bytesOf P e, zeroOf P e with
        | some n, some b, some z => if z.cells.size = n ∧ 0 < n ∧ 0 < b ∧ b ≤ 1048576 ∧ z.cells.toList.all (fun v => v.oneCell' && scalV v) then some (.append n b s x) else none
        | _, _, _ => none
      | _, _ => none
    | .copy, [d, s], [t, _] => match P.underlying t with
      | some (.slice e) => (szOf P e).map fun n => .copy n d s
      | _ => none
    | .clear, [x], [t] => match P.underlying t with
      | some (.slice e) => match zeroOf P e with
        | some z => if 0 < z.cells.size ∧ z.cells.toList.all (fun v => v.oneCell' && scalV v) then some (.clear z.cells.toList x) else none
        | none => none
      | _ => none
    | .delete, [x, k], [t, _] => match P.underlying t with
      | some (.map kt _) => (keyT P kt).map fun kk => .delete kk x k
      | _ => none
    | _, _, _ => none

def cOp (P : Program) (o : Oper) : Option AOp :=
  if o.op.operands.toList.all groundO = false then none else
  match o.op with
  | .move x | .assign x => some (.val x)
  | .pick c a b => some (.pick c a b)
  | .alloc e => match zeroOf P e with
    | some z => if z.cells.toList.all (fun v => v.oneCell' && scalV v) then some (.new z.cells.toList) else none
    | none => none
  | .box _ x => some (.box x)
  | .build t ps => match zeroOf P t, P.underlying t with
    | some z, some (.struct fields) =>
      if sizesOk P fields.toList ∧ z.cells.toList.all (fun v => v.oneCell' && scalV v) then (partsS P fields ps.toList).map (AOp.build z.cells.toList) else none
    | some z, some (.array _ e) => match szOf P e with
      | some n => if z.cells.toList.all (fun v => v.oneCell' && scalV v) then some (.build z.cells.toList (partsA n ps.toList)) else none
      | none => none
    | _, _ => none
  | .buildSlice t len ps => match P.underlying t with
    | some (.slice e) => match szOf P e, zeroOf P e with
      | some n, some z =>
        if len = 0 ∧ ps.isEmpty = true then some (.buildSl 0 [] []) else
        if 0 < len * n ∧ len * n ≤ 16777216 ∧ z.cells.size = n ∧ z.cells.toList.all (fun v => v.oneCell' && scalV v) then
          some (.buildSl len (repL z.cells.toList len) (partsA n ps.toList)) else none
      | _, _ => none
    | _ => none
  | .load t x => (aggN P t).map fun n => .load n x
  | .store t x v => (szOf P t).map fun n => .store n x v
  | .nilCheck x => some (.nilck x)
  | .binOp op t x y _ => cBin P op t x y
  | .unOp op _ x => some (.un op x)
  | .convert s d x => match P.underlying s, P.underlying d with
    | some (.int _), some (.int k) => some (.conv k x)
    | _, _ => none
  | .makeFunc fn first captured => some (.mkFn fn first.toList captured.toList)
  | .makeMap _ none => some .mkMap
  | .makeSlice t l c => match P.underlying t with
    | some (.slice e) => match szOf P e, bytesOf P e, zeroOf P e with
      | some n, some b, some z => if z.cells.size = n ∧ 0 < n ∧ z.cells.toList.all (fun v => v.oneCell' && scalV v) then some (.mkSl z.cells.toList b l c) else none
      | _, _, _ => none
    | _ => none
  | .slice t x lo hi mx => match P.underlying t with
    | some (.slice e) => (szOf P e).map fun n => .slice n x lo hi mx
    | some (.array n e) => (szOf P e).map fun s => .sliceA n s x lo hi mx
    | some .string => match mx with
      | none => some (.sliceStr x lo hi)
      | some _ => none
    | _ => none
  | .fieldAddr s x f => match fieldOf P s f with
    | some fd => match szOf P fd.type with
      | some n => if 0 < n then some (.fldA fd.offset x) else none
      | none => none
    | none => none
  | .field s x f => match fieldOf P s f with
    | some fd => (aggN P fd.type).map fun n => .fld n fd.offset x
    | none => none
  | .indexAddr t x i => match P.underlying t with
    | some (.slice e) => (szOf P e).map fun n => .idxSl n x i
    | some (.array len e) => (szOf P e).map fun n => .idxAr len n x i
    | _ => none
  | .index t x i => match P.underlying t with
    | some (.array len e) => match aggN P e, szOf P e with
      | some m, some n => some (.idxV len n m x i)
      | _, _ => none
    | some .string => some (.idxStr x i)
    | _ => none
  | .lookup t x k ok => match P.underlying t with
    | some (.map kt e) => match zeroOf P e with
      | some z => if groundV z then (keyT P kt).map fun kk => .lookup kk z x k ok else none
      | none => none
    | _ => none
  | .mapUpdate t m k v | .insert t m k v => match P.underlying t with
    | some (.map kt _) => (keyT P kt).map fun kk => .mapUpd kk m k v
    | _ => none
  | .mapEntry t m k => match P.underlying t with
    | some (.map kt e) => match zeroOf P e with
      | some z => if groundV z then (keyT P kt).map fun kk => .mapEnt kk z m k else none
      | none => none
    | _ => none
  | .entryStore _ m s v => some (.entSt m s v)
  | .range t x => match P.underlying t with
    | some (.map _ _) => some (.rangeM x)
    | some .string => some (.rangeS x)
    | _ => none
  | .next it s => some (.next it s)
  | .extract t i => some (.extr t i)
  | .call c => cCall P c
  | _ => none

end Go.Ax

/- Each operation, in both worlds: memory's cells; the operations that only compute. -/
namespace Go.Ax
open Instr

structure ERel (μ : Mu) (N : Nat) (ρ : Env) (a : Act) : Prop where
  size : N ≤ a.tmps.size
  get : ∀ t v, look ρ t = some v → VRel μ v (a.tmps.getD t undef)

theorem ERel.mono {μ μ' : Mu} (s : Sub μ μ') {N : Nat} {ρ : Env} {a : Act} (h : ERel μ N ρ a) : ERel μ' N ρ a := ⟨h.size, fun t v hv => (h.get t v hv).mono s⟩

theorem ERel.put {μ : Mu} {N : Nat} {ρ : Env} {a : Act} (h : ERel μ N ρ a) {dst : Option Nat} (hd : ∀ d, dst = some d → d < N) {v v' : Value} (hv : VRel μ v v') : ERel μ N (putE ρ dst v) (a.put dst v') := by
  cases dst with
  | none => exact h
  | some d =>
    have hlt : d < a.tmps.size := Nat.lt_of_lt_of_le (hd d rfl) h.size
    refine ⟨by simp [Act.put]; exact h.size, fun t u hu => ?_⟩
    simp only [putE, look] at hu
    by_cases e : t = d
    · rw [if_pos e] at hu; cases hu
      subst e
      simp [Act.put, hlt, hv]
    · rw [if_neg e] at hu
      have := h.get t u hu
      simpa [Act.put, Array.getElem?_setIfInBounds_ne (Ne.symm e)] using this

theorem undef_rel (μ : Mu) : VRel μ undef undef := .tuple .nil

theorem scal_rel (μ : Mu) {v : Value} (h : scalV v = true) : VRel μ v v := by
  unfold scalV at h
  split at h <;> first | constructor | (exact absurd h (by simp))

theorem scals_rel (μ : Mu) {l : List Value} (h : l.all scalV = true) : LRel μ l l := by
  induction l with
  | nil => exact .nil
  | cons x l ih => simp only [List.all_cons, Bool.and_eq_true] at h; exact .cons (scal_rel μ h.1) (ih h.2)

theorem scal_one {v : Value} (h : scalV v = true) : v.oneCell' = true := by
  unfold scalV at h
  split at h <;> first | rfl | (exact absurd h (by simp))

theorem ground_rel (μ : Mu) {v : Value} (h : groundV v = true) : VRel μ v v := by
  unfold groundV at h
  split at h
  · exact .agg (scals_rel μ h) (fun x hx => scal_one (List.all_eq_true.1 h x hx))
  · exact scal_rel μ h

theorem ev_sound {μ : Mu} {N : Nat} {ρ : Env} {a : Act} (h : ERel μ N ρ a) {x : Operand} {v : Value} (hg : groundO x = true) (hx : ev ρ x = some v) : VRel μ v (a.eval x) := by
  cases x with
  | tmp t => exact h.get t v hx
  | const c => simp only [ev, Option.some.injEq] at hx; subst hx; exact ground_rel μ hg
  | global g => simp [ev] at hx
  | func f => simp only [ev, Option.some.injEq] at hx; subst hx; exact .func _ .nil .nil

theorem evs_sound {μ : Mu} {N : Nat} {ρ : Env} {a : Act} (h : ERel μ N ρ a) : ∀ {xs : List Operand} {vs : List Value}, xs.all groundO = true → evs ρ xs = some vs → LRel μ vs (xs.map a.eval)
  | [], vs, _, hx => by simp only [evs, Option.some.injEq] at hx; subst hx; exact .nil
  | x :: r, vs, hg, hx => by
    simp only [evs] at hx
    simp only [List.all_cons, Bool.and_eq_true] at hg
    split at hx
    · rename_i v ws h1 h2
      cases hx
      exact .cons (ev_sound h hg.1 h1) (evs_sound h hg.2 h2)
    · cases hx

/-- What the first cells of an object are in the world. -/
theorem getCells_sound {B : Nat} {μ : Mu} {S : AS} {w : World} (r : Rel B μ S w) {i b d z o n : Nat} {cs : List Value} (hm : μ i = some (b, d, z)) (hg : getCells S i o n = some cs) :
    ∃ c e fz, w.heap[b]? = some (.cells c e fz) ∧ LRel μ cs ((c.toList.drop (o + d)).take n) ∧ (∀ x ∈ cs, x.oneCell' = true) ∧ cs.length = n := by
  unfold getCells at hg
  split at hg
  · rename_i ro l hl
    split at hg
    · rename_i hle
      cases hg
      obtain ⟨b', d', z', h1, ⟨c, e, fz, g1, g2, g3, _⟩, _⟩ := r.obj i _ hl
      rw [hm] at h1; cases h1
      refine ⟨c, e, fz, g1, ?_, fun x hx => g3 x (List.mem_of_mem_drop (List.mem_of_mem_take hx)), by simp; omega⟩
      have k := (g2.drop o).take n
      have e1 : (((c.toList.drop d).take l.length).drop o).take n = (c.toList.drop (o + d)).take n := by
        rw [List.drop_take, List.take_take, List.drop_drop]
        congr 1
        · omega
        · congr 1; omega
      rw [e1] at k
      exact k
    · cases hg
  · cases hg

theorem getCells_ids {S : AS} {i o n : Nat} {cs : List Value} (h : getCells S i o n = some cs) : ∃ ro l, S.h i = some (.cells ro l) ∧ o + n ≤ l.length ∧ cs = (l.drop o).take n := by
  unfold getCells at h
  split at h
  · split at h
    · cases h; exact ⟨_, _, by assumption, by assumption, rfl⟩
    · cases h
  · cases h

variable {P : Program}

theorem run_cells {w : World} {b o n : Nat} {c : Array Value} {e : TypeId} {fz : Nat × Nat} (hb : w.heap[b]? = some (.cells c e fz)) (hn : ((c.toList.drop o).take n).length = n) :
    (loadCells ⟨b, o, none⟩ n).run P w = .ok ((c.toList.drop o).take n).toArray w := by
  have := run_loadCells_list (P := P) w ⟨b, o, none⟩ ((c.toList.drop o).take n) (fun j v hv => by
    have hadd : (⟨b, o, none⟩ : Addr).add j = ⟨b, o + j, none⟩ := by unfold Addr.add; split <;> simp_all
    rw [hadd]
    have hj : j < n := by
      rcases Nat.lt_or_ge j n with h | h
      · exact h
      · rw [List.getElem?_eq_none (by omega)] at hv; cases hv
    rw [List.getElem?_take_of_lt hj, List.getElem?_drop] at hv
    simpa [World.cell?, hb] using hv)
  rw [hn] at this
  exact this

theorem run_szOf {t : TypeId} {n : Nat} (h : szOf P t = some n) (w : World) : (sizeOf t).run P w = .ok n w := by
  unfold szOf at h
  cases hi : P.info? t with
  | none => simp [hi] at h
  | some i => simp [hi] at h; simp [sizeOf, typeInfo, hi, h]

theorem run_bytesOf {t : TypeId} {n : Nat} (h : bytesOf P t = some n) (w : World) : ∃ i, (typeInfo t).run P w = .ok i w ∧ i.bytes = n := by
  unfold bytesOf at h
  cases hi : P.info? t with
  | none => simp [hi] at h
  | some i => simp [hi] at h; exact ⟨i, by simp [typeInfo, hi], h⟩

theorem run_zeroOf {t : TypeId} {z : Value} (h : zeroOf P t = some z) (w : World) : (zeroValue t).run P w = .ok z w := by
  unfold zeroOf at h
  cases hi : P.info? t with
  | none => simp [hi] at h
  | some i => simp [hi] at h; simp [zeroValue, typeInfo, hi, h]

theorem run_loadVarN {t : TypeId} {n : Option Nat} (h : aggN P t = some n) {w : World} {b o : Nat} {c : Array Value} {e : TypeId} {fz : Nat × Nat} (hb : w.heap[b]? = some (.cells c e fz)) {μ : Mu} {cs : List Value}
    (hr : LRel μ cs ((c.toList.drop o).take (sizeN n))) (hl : cs.length = sizeN n) (h1 : ∀ x ∈ cs, x.oneCell' = true) {v : Value} (hv : mkV n cs = some v) :
    ∃ v', (loadVar t ⟨b, o, none⟩).run P w = .ok v' w ∧ VRel μ v v' := by
  unfold aggN at h
  have hn : ((c.toList.drop o).take (sizeN n)).length = sizeN n := by rw [← hr.length, hl]
  cases hu : P.underlying t with
  | none => simp [hu] at h
  | some dd =>
    rw [hu] at h
    cases n with
    | some m =>
      have hs : szOf P t = some m ∧ (isAgg t).run P w = .ok true w := by
        cases dd <;> simp at h <;> exact ⟨by simpa using h, by simp [isAgg, run_underlying hu]⟩
      simp only [mkV, Option.some.injEq] at hv
      subst hv
      refine ⟨.agg ((c.toList.drop o).take m).toArray, ?_, .agg (by simpa [sizeN] using hr) (by simpa using h1)⟩
      have := run_cells (P := P) hb (by simpa [sizeN] using hn)
      simp [loadVar, hs.2, run_szOf hs.1, this]
    | none =>
      have hs : (isAgg t).run P w = .ok false w := by
        cases dd <;> simp at h <;> simp [isAgg, run_underlying hu]
      simp only [mkV] at hv
      split at hv
      · rename_i u
        cases hv
        simp only [sizeN, Option.getD_none] at hr hn
        obtain ⟨u', h2, h3⟩ := hr.get (i := 0) (v := v) rfl
        refine ⟨u', ?_, h3⟩
        rw [List.getElem?_take_of_lt (by omega), List.getElem?_drop] at h2
        simp only [Nat.add_zero] at h2
        have hc : w.cell? ⟨b, o, none⟩ = some u' := by simp [World.cell?, hb]; simpa using h2
        simp [loadVar, hs, hc]
      · cases hv

/-- Cells are written. -/
theorem setCells_sound {B : Nat} {μ : Mu} {S S' : AS} {w : World} (r : Rel B μ S w) {i b d z o : Nat} {vs vs' : List Value} (hm : μ i = some (b, d, z)) (hv : LRel μ vs vs') (h1 : ∀ x ∈ vs, x.oneCell' = true)
    (hg : setCells S i o vs = some S') : ∃ w', (storeCells ⟨b, o + d, none⟩ vs' 0).run P w = .ok () w' ∧ Rel B μ S' w' ∧ Fr S S' μ μ w w' := by
  unfold setCells at hg
  split at hg
  · rename_i l hl
    split at hg
    · rename_i hle
      cases hg
      obtain ⟨b', d', z', g0, ⟨c, e, fz, g1, g2, g3, g4, _, g6, g7⟩, _⟩ := r.obj i _ hl
      rw [hm] at g0; cases g0
      have hfz := g4 rfl; subst hfz
      have hlen := g2.length
      simp only [List.length_take, List.length_drop, Array.length_toList] at hlen
      have hll := hv.length
      have hsz : o + d + 0 + vs'.length ≤ c.size := by omega
      have hst := run_storeCells_at (P := P) b (o + d) e vs' 0 c w g1 hsz (hv.one h1)
      refine ⟨_, hst, ?_⟩
      refine Rel.set r hl rfl hm (fun k hk => setRow_other w b k _ hk) (by simp) rfl rfl rfl ⟨_, e, (0, 0), setRow_heap w b c _ e _ g1, ?_, ?_, fun _ => rfl, by simp, by simp; omega, by simp; omega⟩ rfl
      · have ht : LRel μ (l.take o) (((c.toList.drop d).take l.length).take o) := g2.take o
        have hd : LRel μ (l.drop (o + vs.length)) (((c.toList.drop d).take l.length).drop (o + vs.length)) := g2.drop _
        have := (ht.append hv).append hd
        have e1 : ((c.toList.take (o + d + 0) ++ vs' ++ c.toList.drop (o + d + 0 + vs'.length)).drop d).take (l.take o ++ vs ++ l.drop (o + vs.length)).length
            = ((c.toList.drop d).take l.length).take o ++ vs' ++ ((c.toList.drop d).take l.length).drop (o + vs.length) := by
          apply List.ext_getElem?
          intro j
          simp only [List.getElem?_take, List.getElem?_drop, List.getElem?_append, List.length_append, List.length_take, List.length_drop, Array.length_toList, Nat.add_zero]
          repeat' split
          all_goals first
            | rfl
            | omega
            | (congr 1; omega)
            | (rw [List.getElem?_eq_none (by simp; omega)])
            | (symm; rw [List.getElem?_eq_none (by simp; omega)])
        rw [List.toList_toArray, e1]
        exact this
      · intro x hx
        simp only [List.mem_append] at hx
        rcases hx with (hx | hx) | hx
        · exact g3 x (List.mem_of_mem_take hx)
        · exact h1 x hx
        · exact g3 x (List.mem_of_mem_drop hx)
    · cases hg
  · cases hg

end Go.Ax

/- Each operation that only computes, in both worlds. -/
namespace Go.Ax
open Instr
variable {P : Program}

/-- An operation has ended: with related values, states and frames. -/
def Done (B : Nat) (μ : Mu) (S : AS) (w : World) (run : Result Next) (v : Value) (S' : AS) : Prop :=
  ∃ v' μ' w', (run = .ok (.value v') w' ∨ (run = .ok .skip w' ∧ v' = undef)) ∧ VRel μ' v v' ∧ Rel B μ' S' w' ∧ Fr S S' μ μ' w w'

theorem Done.val {B : Nat} {μ : Mu} {S : AS} {w : World} (r : Rel B μ S w) {run : Result Next} {v v' : Value} (h : run = .ok (.value v') w) (hv : VRel μ v v') : Done B μ S w run v S :=
  ⟨v', μ, w, .inl h, hv, r, Fr.refl _ _ _⟩

theorem bnd_sound {μ : Mu} {x x' : Value} (h : VRel μ x x') {y n : Nat} (hb : bnd x y = some n) {y' : Nat} (hy : y ≤ y') (code : BoundsCode) (w : World) :
    (sliceBound x' y' code).run P w = .ok n w ∧ n ≤ y := by
  unfold bnd at hb
  cases h with
  | int k i =>
    simp only at hb
    split at hb
    · rename_i hi; cases hb; exact ⟨run_sliceBound w k i y' code hi.1 (by omega), by omega⟩
    · cases hb
  | _ => cases hb

/-- Bounds of a slice expression: where the capacity is at least as known. -/
theorem bounds_sound {μ : Mu} {len cap cap' : Nat} (hcap : cap ≤ cap') {lo hi mx lo' hi' mx' : Option Value}
    (hlo : ∀ v, lo = some v → ∃ v', lo' = some v' ∧ VRel μ v v') (hlo0 : lo = none → lo' = none)
    (hhi : ∀ v, hi = some v → ∃ v', hi' = some v' ∧ VRel μ v v') (hhi0 : hi = none → hi' = none)
    (hmx : ∀ v, mx = some v → ∃ v', mx' = some v' ∧ VRel μ v v') (hmx0 : mx = none → mx' = none)
    {l h m : Nat} (hb : bounds len cap lo hi mx = some (l, h, m)) (isS : Bool) (w : World) :
    ∃ m', (sliceBounds isS len cap' lo' hi' mx').run P w = .ok (l, h, m') w ∧ m ≤ m' ∧ (mx = none → m = cap ∧ m' = cap') ∧ (mx.isSome = true → m' = m) ∧ l ≤ h ∧ h ≤ m := by
  unfold bounds at hb
  split at hb
  · cases hb
  · rename_i m0 hm0
    split at hb
    · cases hb
    · rename_i h0 hh0
      split at hb
      · cases hb
      · rename_i l0 hl0
        split at hb
        · rename_i hc
          simp only [Option.some.injEq, Prod.mk.injEq] at hb
          obtain ⟨rfl, rfl, rfl⟩ := hb
          have klo : (lo' = none ∧ l0 = 0) ∨ ∃ vl', lo' = some vl' ∧ ∀ code, (sliceBound vl' h0 code).run P w = .ok l0 w := by
            cases lo with
            | none => simp only [bOr, Option.some.injEq] at hl0; exact .inl ⟨hlo0 rfl, hl0.symm⟩
            | some vl => obtain ⟨vl', rfl, rl⟩ := hlo _ rfl; exact .inr ⟨vl', rfl, fun code => (bnd_sound (P := P) rl hl0 (Nat.le_refl _) code w).1⟩
          cases mx with
          | none =>
            have := hmx0 rfl; subst this
            simp only [bOr, Option.some.injEq] at hm0
            subst hm0
            refine ⟨cap', ?_, hcap, by simp, by simp, hc⟩
            cases hi with
            | none =>
              have := hhi0 rfl; subst this
              simp [bOr] at hh0
              subst hh0
              rcases klo with ⟨rfl, rfl⟩ | ⟨vl', rfl, hl⟩
              · simp [sliceBounds]
              · simp [sliceBounds, hl]
            | some vh =>
              obtain ⟨vh', rfl, rh⟩ := hhi _ rfl
              have hh := fun code => bnd_sound (P := P) rh hh0 hcap code w
              rcases klo with ⟨rfl, rfl⟩ | ⟨vl', rfl, hl⟩
              · simp [sliceBounds, (hh _).1]
              · simp [sliceBounds, (hh _).1, hl]
          | some vm =>
            obtain ⟨vm', rfl, rm⟩ := hmx _ rfl
            have hm := fun code => bnd_sound (P := P) rm hm0 hcap code w
            refine ⟨m0, ?_, Nat.le_refl _, by simp, by simp, hc⟩
            cases hi with
            | none => simp [bOr] at hh0
            | some vh =>
              obtain ⟨vh', rfl, rh⟩ := hhi _ rfl
              have hh := fun code => bnd_sound (P := P) rh hh0 (Nat.le_refl _) code w
              rcases klo with ⟨rfl, rfl⟩ | ⟨vl', rfl, hl⟩
              · simp [sliceBounds, (hh _).1, (hm _).1]
              · simp [sliceBounds, (hh _).1, (hm _).1, hl]
        · cases hb

theorem run_asB {t : TypeId} {e : TypeId} (h : P.underlying t = some (.slice e)) (x : Value) (lo hi mx : Option Value) (w : World) : (sliceAt t x lo hi mx).run P w = (slice t x lo hi mx).run P w := by
  simp [sliceAt, run_underlying h]

theorem addr_add (b o n : Nat) : (⟨b, o, none⟩ : Addr).add n = ⟨b, o + n, none⟩ := by unfold Addr.add; split <;> simp_all

theorem sliceV_sound {μ : Mu} {t e : TypeId} {n : Nat} (ht : P.underlying t = some (.slice e)) (hz : szOf P e = some n) {x x' : Value} (h : VRel μ x x') {lo hi mx lo' hi' mx' : Option Value}
    (hlo : ∀ v, lo = some v → ∃ v', lo' = some v' ∧ VRel μ v v') (hlo0 : lo = none → lo' = none)
    (hhi : ∀ v, hi = some v → ∃ v', hi' = some v' ∧ VRel μ v v') (hhi0 : hi = none → hi' = none)
    (hmx : ∀ v, mx = some v → ∃ v', mx' = some v' ∧ VRel μ v v') (hmx0 : mx = none → mx' = none)
    {v : Value} (hs : sliceV n x lo hi mx = some v) (w : World) : ∃ v', (sliceAt t x' lo' hi' mx').run P w = .ok v' w ∧ VRel μ v v' := by
  rw [run_asB ht]
  unfold sliceV at hs
  cases h with
  | snil len cap =>
    simp only at hs
    split at hs
    · rename_i l h m hb
      cases hs
      obtain ⟨m', h1, h2, h3, h4, h5⟩ := bounds_sound (P := P) (Nat.le_refl cap) hlo hlo0 hhi hhi0 hmx hmx0 hb true w
      have hmm : m' = m := by
        cases hq : mx with
        | none => have := h3 hq; omega
        | some _ => exact h4 (by simp [hq])
      subst hmm
      refine ⟨.slice none (h - l) (m' - l), ?_, .snil _ _⟩
      simp [slice, run_underlying ht, h1, run_szOf hz]
    · cases hs
  | @slice i o b d z len cap hm =>
    simp only at hs
    split at hs
    · rename_i l h m hb
      cases hs
      obtain ⟨m', h1, h2, h3, h4, h5⟩ := bounds_sound (P := P) (Nat.le_refl cap) hlo hlo0 hhi hhi0 hmx hmx0 hb true w
      have hmm : m' = m := by
        cases hq : mx with
        | none => have := h3 hq; omega
        | some _ => exact h4 (by simp [hq])
      subst hmm
      have hrun : (slice t (.slice (some ⟨b, o + d, none⟩) len cap) lo' hi' mx').run P w = .ok (.slice (if m' = l then some ⟨b, o + d, none⟩ else some ⟨b, o + d + l * n, none⟩) (h - l) (m' - l)) w := by
        simp [slice, run_underlying ht, h1, run_szOf hz, addr_add]
      refine ⟨_, hrun, ?_⟩
      by_cases hml : m' = l
      · have e1 : h - l = 0 := by omega
        have e2 : m' - l = 0 := by omega
        rw [if_pos hml, e1, e2]
        exact .s0 _
      · rw [if_neg hml]
        have e : o + d + l * n = (o + l * n) + d := by omega
        rw [e]
        exact .slice hm
    · cases hs
  | @slack i o b d z len cap cap' e hm hc hzz =>
    simp only at hs
    split at hs
    · rename_i l h m hb
      split at hs
      · rename_i hen
        subst hen
        cases hs
        obtain ⟨m', h1, h2, h3, h4, h5⟩ := bounds_sound (P := P) hc hlo hlo0 hhi hhi0 hmx hmx0 hb true w
        have hrun : (slice t (.slice (some ⟨b, o + d, none⟩) len cap') lo' hi' mx').run P w = .ok (.slice (if m' = l then some ⟨b, o + d, none⟩ else some ⟨b, o + d + l * e, none⟩) (h - l) (m' - l)) w := by
          simp [slice, run_underlying ht, h1, run_szOf hz, addr_add]
        refine ⟨_, hrun, ?_⟩
        by_cases hml : m' = l
        · have e1 : h - l = 0 := by omega
          have e2 : m' - l = 0 := by omega
          have e3 : m - l = 0 := by omega
          rw [if_pos hml, e1, e2, e3]
          exact .s0 _
        · rw [if_neg hml]
          have e9 : o + d + l * e = (o + l * e) + d := by omega
          rw [e9]
          cases hq : mx with
          | none =>
            simp only [Option.isSome_none, Bool.false_eq_true, if_false]
            have := h3 hq
            refine .slack hm (by omega) ?_
            have hl : l ≤ m' := by omega
            have : (m' - l) * e = m' * e - l * e := Nat.sub_mul _ _ _
            have h6 : l * e ≤ m' * e := Nat.mul_le_mul_right _ hl
            have : m' = cap' := (h3 hq).2
            subst this
            omega
          | some vm =>
            simp only [Option.isSome_some, if_true]
            have := h4 (by simp [hq])
            subst this
            exact .slice hm
      · cases hs
    · cases hs
  | @s0 i o q a =>
    simp only at hs
    split at hs
    · rename_i l h m hb
      obtain ⟨m', h1, h2, h3, h4, h5⟩ := bounds_sound (P := P) (Nat.le_refl 0) hlo hlo0 hhi hhi0 hmx hmx0 hb true w
      have hm0 : m' = 0 := by
        cases hq : mx with
        | none => exact (h3 hq).2
        | some vm =>
          have h6 := h4 (by simp [hq])
          unfold bounds at hb
          rw [hq] at hb
          split at hb
          · cases hb
          · rename_i m0 hm0
            obtain ⟨vm', _, rm⟩ := hmx _ hq
            have := (bnd_sound (P := P) rm hm0 (Nat.le_refl 0) .sliceB w).2
            split at hb
            · cases hb
            · split at hb
              · cases hb
              · split at hb
                · cases hb; omega
                · cases hb
      have el : l = 0 := by omega
      have eh : h = 0 := by omega
      have em : m = 0 := by omega
      subst hm0; subst el; subst eh; subst em
      have hrun : (slice t (.slice (some a) 0 0) lo' hi' mx').run P w = .ok (.slice (some a) 0 0) w := by
        simp [slice, run_underlying ht, h1, run_szOf hz]
      refine ⟨_, hrun, ?_⟩
      cases q with
      | none => cases hs; exact .s0 _
      | some q =>
        simp only at hs
        split at hs
        · cases hs; exact .s0 _
        · cases hs
    · cases hs
  | _ => cases hs

theorem sliceA_sound {μ : Mu} {t e : TypeId} {k n : Nat} (ht : P.underlying t = some (.array k e)) (hz : szOf P e = some n) {x x' : Value} (h : VRel μ x x') {lo hi mx lo' hi' mx' : Option Value}
    (hlo : ∀ v, lo = some v → ∃ v', lo' = some v' ∧ VRel μ v v') (hlo0 : lo = none → lo' = none)
    (hhi : ∀ v, hi = some v → ∃ v', hi' = some v' ∧ VRel μ v v') (hhi0 : hi = none → hi' = none)
    (hmx : ∀ v, mx = some v → ∃ v', mx' = some v' ∧ VRel μ v v') (hmx0 : mx = none → mx' = none)
    {v : Value} (hs : sliceA k n x lo hi mx = some v) (w : World) : ∃ v', (sliceAt t x' lo' hi' mx').run P w = .ok v' w ∧ VRel μ v v' := by
  unfold sliceA at hs
  cases h with
  | @ptr i o b d z hm =>
    simp only at hs
    split at hs
    · rename_i l h m hb
      cases hs
      obtain ⟨m', h1, h2, h3, h4, h5⟩ := bounds_sound (P := P) (Nat.le_refl k) hlo hlo0 hhi hhi0 hmx hmx0 hb false w
      have hmm : m' = m := by
        cases hq : mx with
        | none => have := h3 hq; omega
        | some _ => exact h4 (by simp [hq])
      subst hmm
      have hrun : (sliceAt t (.pointer (some ⟨b, o + d, none⟩)) lo' hi' mx').run P w = .ok (.slice (some (if m' = l then ⟨b, o + d, none⟩ else ⟨b, o + d + l * n, none⟩)) (h - l) (m' - l)) w := by
        simp [sliceAt, run_underlying ht, sureAddr, h1, run_szOf hz, addr_add]
      refine ⟨_, hrun, ?_⟩
      by_cases hml : m' = l
      · have e1 : h - l = 0 := by omega
        have e2 : m' - l = 0 := by omega
        rw [e1, e2]
        exact .s0 _
      · rw [if_neg hml]
        have e : o + d + l * n = (o + l * n) + d := by omega
        rw [e]
        exact .slice hm
    · cases hs
  | _ => cases hs

theorem sliceStr_sound {μ : Mu} {t : TypeId} (ht : P.underlying t = some .string) {x x' : Value} (h : VRel μ x x') {lo hi lo' hi' : Option Value}
    (hlo : ∀ v, lo = some v → ∃ v', lo' = some v' ∧ VRel μ v v') (hlo0 : lo = none → lo' = none)
    (hhi : ∀ v, hi = some v → ∃ v', hi' = some v' ∧ VRel μ v v') (hhi0 : hi = none → hi' = none)
    {v : Value} (hs : sliceStr x lo hi = some v) (w : World) : ∃ v', (sliceAt t x' lo' hi' none).run P w = .ok v' w ∧ VRel μ v v' := by
  unfold sliceStr at hs
  cases h with
  | string s =>
    simp only at hs
    split at hs
    · rename_i l h m hb
      cases hs
      obtain ⟨m', h1, _⟩ := bounds_sound (P := P) (mx := none) (mx' := none) (Nat.le_refl s.size) hlo hlo0 hhi hhi0 (by simp) (by simp) hb false w
      exact ⟨.string (s.extract l h), by simp [sliceAt, slice, run_underlying ht, h1], .string _⟩
    · cases hs
  | _ => cases hs

end Go.Ax

/- More operations that only compute, in both worlds. -/
namespace Go.Ax
open Instr
variable {P : Program}

theorem addOff_sound {μ : Mu} {s : TypeId} {f : Nat} {fd : Field} {n : Nat} (hf : fieldOf P s f = some fd) (hz : szOf P fd.type = some n) (hn : 0 < n) {x x' v : Value} (h : VRel μ x x')
    (hs : addOff x fd.offset = some v) (w : World) : ∃ v', (fieldAt s x' f).run P w = .ok v' w ∧ VRel μ v v' := by
  unfold fieldOf at hf
  split at hf
  · rename_i fields hu
    unfold addOff at hs
    cases h with
    | @ptr i o b d z hm =>
      cases hs
      refine ⟨.pointer (some ⟨b, o + d + fd.offset, none⟩), ?_, ?_⟩
      · have : n ≠ 0 := by omega
        simp [fieldAt, run_underlying hu, hf, sureAddr, fieldPlace, run_szOf hz, this, addr_add]
      · have e : o + d + fd.offset = (o + fd.offset) + d := by omega
        rw [e]; exact .ptr hm
    | _ => cases hs
  · cases hf

theorem part_sound {μ : Mu} {t : TypeId} {n : Option Nat} (hn : aggN P t = some n) {x x' v : Value} (h : VRel μ x x') {off : Nat} (hs : partV n x off = some v) (w : World) :
    ∃ cs', x' = .agg cs' ∧ ∃ v', (part t cs' off).run P w = .ok v' w ∧ VRel μ v v' := by
  unfold partV at hs
  cases h with
  | @agg cs cs' hr h1 =>
    refine ⟨cs', rfl, ?_⟩
    unfold aggN at hn
    cases hu : P.underlying t with
    | none => simp [hu] at hn
    | some dd =>
      rw [hu] at hn
      cases n with
      | none =>
        have ha : (isAgg t).run P w = .ok false w := by cases dd <;> simp at hn <;> simp [isAgg, run_underlying hu]
        simp only at hs
        obtain ⟨u, h2, h3⟩ := hr.get (i := off) (v := v) (by simpa using hs)
        refine ⟨u, ?_, h3⟩
        have h2' : cs'[off]? = some u := by simpa using h2
        simp [part, ha, h2']
      | some m =>
        have hm : szOf P t = some m ∧ (isAgg t).run P w = .ok true w := by
          cases dd <;> simp at hn <;> exact ⟨by simpa using hn, by simp [isAgg, run_underlying hu]⟩
        simp only at hs
        split at hs
        · rename_i hle
          cases hs
          refine ⟨.agg (cs'.extract off (off + m)), by simp [part, hm.2, run_szOf hm.1], .agg ?_ ?_⟩
          · simpa [Array.toList_extract, List.extract_eq_take_drop] using (hr.drop off).take m
          · intro y hy
            refine h1 y ?_
            rw [Array.toList_extract, List.extract_eq_take_drop] at hy
            exact List.mem_of_mem_drop (List.mem_of_mem_take hy)
        · cases hs
  | _ => cases hs

theorem fld_sound {μ : Mu} {s : TypeId} {f : Nat} {fd : Field} {n : Option Nat} (hf : fieldOf P s f = some fd) (hn : aggN P fd.type = some n) {x x' v : Value} (h : VRel μ x x')
    (hs : partV n x fd.offset = some v) (w : World) : ∃ v', (field s x' f).run P w = .ok v' w ∧ VRel μ v v' := by
  unfold fieldOf at hf
  split at hf
  · rename_i fields hu
    obtain ⟨cs', rfl, v', h1, h2⟩ := part_sound hn h hs w
    exact ⟨v', by simp [field, run_underlying hu, hf, asAgg, h1], h2⟩
  · cases hf

theorem idxSl_sound {μ : Mu} {t e : TypeId} {n : Nat} (ht : P.underlying t = some (.slice e)) (hz : szOf P e = some n) {x x' i i' v : Value} (h : VRel μ x x') (hi : VRel μ i i')
    (hs : idxSl n x i = some v) (w : World) : ∃ v', (indexAt t x' i').run P w = .ok v' w ∧ VRel μ v v' := by
  unfold idxSl at hs
  cases h with
  | @slice j o b d z len c hm =>
    cases hi with
    | int k q =>
      simp only at hs
      split at hs
      · rename_i hq
        cases hs
        refine ⟨.pointer (some ⟨b, o + d + q.toNat * n, none⟩), ?_, ?_⟩
        · simp [indexAt, asIntOf, run_underlying ht, hq, run_szOf hz, addr_add]
        · have e : o + d + q.toNat * n = (o + q.toNat * n) + d := by omega
          rw [e]; exact .ptr hm
      · cases hs
    | _ => cases hs
  | @slack j o b d z len c c' e hm hc hzz =>
    cases hi with
    | int k q =>
      simp only at hs
      split at hs
      · rename_i hq
        cases hs
        refine ⟨.pointer (some ⟨b, o + d + q.toNat * n, none⟩), ?_, ?_⟩
        · simp [indexAt, asIntOf, run_underlying ht, hq, run_szOf hz, addr_add]
        · have e : o + d + q.toNat * n = (o + q.toNat * n) + d := by omega
          rw [e]; exact .ptr hm
      · cases hs
    | _ => cases hs
  | @s0 j o q a =>
    cases hi with
    | int k q =>
      simp only at hs
      split at hs
      · rename_i hq; omega
      · cases hs
    | _ => cases hs
  | _ => cases hs

theorem idxAr_sound {μ : Mu} {t e : TypeId} {len n : Nat} (ht : P.underlying t = some (.array len e)) (hz : szOf P e = some n) {x x' i i' v : Value} (h : VRel μ x x') (hi : VRel μ i i')
    (hs : idxAr len n x i = some v) (w : World) : ∃ v', (indexAt t x' i').run P w = .ok v' w ∧ VRel μ v v' := by
  unfold idxAr at hs
  cases h with
  | @ptr j o b d z hm =>
    cases hi with
    | int k q =>
      simp only at hs
      split at hs
      · rename_i hq
        cases hs
        refine ⟨.pointer (some ⟨b, o + d + q.toNat * n, none⟩), ?_, ?_⟩
        · simp [indexAt, asIntOf, run_underlying ht, sureAddr, hq, run_szOf hz, addr_add]
        · have e : o + d + q.toNat * n = (o + q.toNat * n) + d := by omega
          rw [e]; exact .ptr hm
      · cases hs
    | _ => cases hs
  | _ => cases hs

theorem idxV_sound {μ : Mu} {t e : TypeId} {len n : Nat} {m : Option Nat} (ht : P.underlying t = some (.array len e)) (hm : aggN P e = some m) (hz : szOf P e = some n) {x x' i i' v : Value} (h : VRel μ x x') (hi : VRel μ i i')
    (hs : idxV len n m x i = some v) (w : World) : ∃ v', (index t x' i').run P w = .ok v' w ∧ VRel μ v v' := by
  unfold idxV at hs
  cases hi with
  | int k q =>
    simp only at hs
    split at hs
    · rename_i hq
      obtain ⟨cs', rfl, v', h1, h2⟩ := part_sound hm h hs w
      exact ⟨v', by simp [index, asIntOf, run_underlying ht, hq, run_szOf hz, h1], h2⟩
    · cases hs
  | _ => cases hs

theorem idxStr_sound {μ : Mu} {t : TypeId} (ht : P.underlying t = some .string) {x x' i i' v : Value} (h : VRel μ x x') (hi : VRel μ i i')
    (hs : idxStr x i = some v) (w : World) : ∃ v', (index t x' i').run P w = .ok v' w ∧ VRel μ v v' := by
  unfold idxStr at hs
  cases h with
  | string s =>
    cases hi with
    | int k q =>
      simp only at hs
      split at hs
      · rename_i hq
        cases e : s[q.toNat]? with
        | none => simp [e] at hs
        | some b => simp [e] at hs; subst hs; exact ⟨_, by simp [index, asIntOf, run_underlying ht, hq, e], .int _ _⟩
      · cases hs
    | _ => cases hs
  | _ => cases hs

theorem intBin_run {op : BinOp} {k : IntKind} {a b : Int} {v : Value} (h : intBin op k a b = some v) (t : TypeId) (w : World) : (binOp op t (.int k a) (.int k b)).run P w = .ok v w := by
  unfold intBin at h
  cases op <;> simp only at h <;> first
    | (cases h; simp [binOp, Op.intArith, Op.intBits, Op.intCmp]; done)
    | (split at h <;> first | (cases h; done) | (rename_i hb; cases h; simp [binOp, Op.intDiv, hb]; done))
    | (cases h; done)

theorem intBin_rel {op : BinOp} {k : IntKind} {a b : Int} {v : Value} (h : intBin op k a b = some v) (μ : Mu) : VRel μ v v := by
  unfold intBin at h
  cases op <;> simp only at h <;> first
    | (cases h; constructor; done)
    | (split at h <;> first | (cases h; done) | (cases h; constructor; done))
    | (cases h; done)

theorem strBin_run {op : BinOp} {a b : ByteArray} {v : Value} (h : strBin op a b = some v) (t : TypeId) (w : World) : (binOp op t (.string a) (.string b)).run P w = .ok v w ∧ ∀ μ, VRel μ v v := by
  unfold strBin at h
  cases op <;> simp only at h <;> first
    | (cases h; exact ⟨by simp [binOp, Op.stringOp], fun μ => by constructor⟩; done)
    | (cases h; done)
    | skip
  by_cases hb : ((a.size + b.size : Nat) : Int) > 9223372036854775807
  · rw [if_pos hb] at h; cases h
  · rw [if_neg hb] at h; cases h
    refine ⟨?_, fun μ => .string _⟩
    simp only [binOp, Op.stringOp, IntKind.max_i64]
    rw [if_neg hb]; rfl

theorem eqGuard_int (op : BinOp) (t : TypeId) (x y : Operand) (k : IntKind) (n : Int) (v : Value) : eqGuard op t x y (.int k n) v = pure () := by cases op <;> rfl
theorem eqGuard_str (op : BinOp) (t : TypeId) (x y : Operand) (s : ByteArray) (v : Value) : eqGuard op t x y (.string s) v = pure () := by cases op <;> rfl

theorem bin_sound {μ : Mu} {op : BinOp} {x x' y y' v : Value} (hx : VRel μ x x') (hy : VRel μ y y') (h : binV op x y = some v) (t : TypeId) (xo yo : Operand) (w : World) :
    (do eqGuard op t xo yo x' y'; binOp op t x' y' : Sem Value).run P w = .ok v w ∧ VRel μ v v := by
  unfold binV at h
  cases hx with
  | int k a =>
    cases hy with
    | int k' b =>
      simp only at h
      rw [eqGuard_int]
      simp only [pure_bind]
      split at h
      · split at h
        · cases h
        · rename_i hb; cases h; exact ⟨by simp [binOp, Op.shift, hb], .int _ _⟩
      · split at h
        · cases h
        · rename_i hb; cases h; exact ⟨by simp [binOp, Op.shift, hb], .int _ _⟩
      · split at h
        · rename_i hk; subst hk; exact ⟨intBin_run h t w, intBin_rel h μ⟩
        · cases h
    | _ => cases h
  | string a =>
    cases hy with
    | string b => rw [eqGuard_str]; simp only [pure_bind]; exact ⟨(strBin_run h t w).1, (strBin_run (P := P) h t w).2 μ⟩
    | _ => cases h
  | _ => cases h

theorem un_sound {μ : Mu} {op : UnOp} {x x' v : Value} (hx : VRel μ x x') (h : unV op x = some v) (w : World) : (Op.unary op x').run P w = .ok v w ∧ VRel μ v v := by
  unfold unV at h
  cases hx with
  | int k n =>
    cases op <;> simp only at h <;> first
      | (cases h; done)
      | (cases h; exact ⟨by simp [Op.unary, Op.intArith, Op.intBits], .int _ _⟩)
  | bool b =>
    cases op <;> simp only at h <;> first
      | (cases h; done)
      | (cases h; exact ⟨by simp [Op.unary], .bool _⟩)
  | _ => cases op <;> cases h

theorem conv_sound {s d : TypeId} {k0 k : IntKind} (hs : P.underlying s = some (.int k0)) (hd : P.underlying d = some (.int k)) (kx : IntKind) (n : Int) (w : World) :
    (convert s d (.int kx n)).run P w = .ok (.int k (k.wrap n)) w := by
  simp [convert, run_underlying hs, run_underlying hd, Conv.intToInt]

theorem extr_sound {μ : Mu} {x x' v : Value} (hx : VRel μ x x') {i : Nat} (h : extr x i = some v) (w : World) : ∃ v', (extract x' i).run P w = .ok v' w ∧ VRel μ v v' := by
  unfold extr at h
  cases hx with
  | tuple hr =>
    obtain ⟨u, h1, h2⟩ := hr.get (i := i) (v := v) (by simpa using h)
    refine ⟨u, ?_, h2⟩
    have h1' := h1
    simp only [Array.getElem?_toList] at h1'
    simp [extract, h1']
  | _ => cases h

theorem min_sound {μ : Mu} {x x' y y' v : Value} (hx : VRel μ x x') (hy : VRel μ y y') (h : minV x y = some v) (ts : Array TypeId) (t : TypeId) (w : World) : (Builtin.min_ ts t #[x', y']).run P w = .ok v w ∧ VRel μ v v := by
  unfold minV at h
  cases hx with
  | int k a => cases hy with
    | int k' b => cases h; exact ⟨run_min_int2 w ts t k k' a b, .int _ _⟩
    | _ => cases h
  | _ => cases h

theorem max_sound {μ : Mu} {x x' y y' v : Value} (hx : VRel μ x x') (hy : VRel μ y y') (h : maxV x y = some v) (ts : Array TypeId) (t : TypeId) (w : World) : (Builtin.max_ ts t #[x', y']).run P w = .ok v w ∧ VRel μ v v := by
  unfold maxV at h
  cases hx with
  | int k a => cases hy with
    | int k' b => cases h; exact ⟨run_max_int2 w ts t k k' a b, .int _ _⟩
    | _ => cases h
  | _ => cases h

theorem eqGuard_nils (op : BinOp) (t : TypeId) (x y : Operand) (a b : Value) (h : a ≠ .nilIface) (h' : ∀ cs, a ≠ .agg cs) : eqGuard op t x y a b = pure () := by
  cases op <;> first
    | rfl
    | (cases a <;> first | rfl | (exact absurd rfl h) | (exact absurd rfl (h' _)))

theorem nilEq_rel {μ : Mu} {k : NK} {a a' b b' : Value} {q : Bool} (ha : VRel μ a a') (hb : VRel μ b b') (h : nilEq k a b = some q) : nilEq k a' b' = some q := by
  cases ha <;> cases hb <;> cases k <;> first | exact h | (simp [nilEq] at h ⊢; done) | (simp [nilEq] at h ⊢; exact h)

/-- Two values of a type whose values can only be held against nil. -/
theorem nilEq_run {t : TypeId} {d : TypeDesc} (ht : P.underlying t = some d) {k : NK} (hk : nkOf d = some k) {a b : Value} {q : Bool} (h : nilEq k a b = some q) (neg : Bool) (x y : Operand) (w : World) :
    (do eqGuard (if neg = true then .neq else .eql) t x y a b; binOp (if neg = true then .neq else .eql) t a b : Sem Value).run P w = .ok (.bool (q != neg)) w := by
  have h0 : a ≠ .nilIface ∧ ∀ cs, a ≠ .agg cs := by
    constructor
    · intro e; subst e; cases k <;> simp [nilEq] at h
    · intro cs e; subst e; cases k <;> simp [nilEq] at h
  rw [eqGuard_nils _ _ _ _ _ _ h0.1 h0.2]
  simp only [pure_bind]
  have key : (Op.equal t a b).run P w = .ok q w := by
    suffices hx : ∀ n, (Op.equalIn (n + 1) t a b).run P w = .ok q w from hx 9999
    intro n
    cases d <;> simp only [nkOf] at hk <;> first | (cases hk; done) | skip
    all_goals (cases hk; unfold nilEq at h; split at h <;> first | (cases h; done) | (rename_i e; cases e; done) | skip)
    all_goals first
      | (cases h; simp [Op.equalIn, run_underlying ht]; done)
      | (rename_i b' ; cases h; cases b' <;> simp [Op.equalIn, run_underlying ht]; done)
  cases neg
  · simp only [Bool.false_eq_true, if_false, Bool.bne_false]
    cases a <;> cases b <;> cases k <;> simp only [nilEq, reduceCtorEq] at h <;> simp [binOp, key]
  · simp only [if_true, Bool.bne_true]
    cases a <;> cases b <;> cases k <;> simp only [nilEq, reduceCtorEq] at h <;> simp [binOp, key]

theorem eqB_run {t : TypeId} (ht : P.underlying t = some .bool) (u c : Bool) (neg : Bool) (x y : Operand) (w : World) :
    (do eqGuard (if neg = true then .neq else .eql) t x y (.bool u) (.bool c); binOp (if neg = true then .neq else .eql) t (.bool u) (.bool c) : Sem Value).run P w = .ok (.bool ((u == c) != neg)) w := by
  rw [eqGuard_nils _ _ _ _ _ _ (by simp) (by simp)]
  simp only [pure_bind]
  cases neg
  · simp [run_eql_bool w t u c ht]
  · simp [run_neq_bool w t u c ht]

end Go.Ax

/- The operations that come to memory, in both worlds: making, reading and writing cells. -/
namespace Go.Ax
open Instr
variable {P : Program}

theorem fold_set (off : Nat) : ∀ (vs : List Value) (k : Nat) (arr : Array Value), off + k + vs.length ≤ arr.size →
    ((vs.zipIdx k).foldl (fun cs (p : Value × Nat) => cs.setIfInBounds (off + p.2) p.1) arr).toList = arr.toList.take (off + k) ++ vs ++ arr.toList.drop (off + k + vs.length)
  | [], k, arr, _ => by simp
  | v :: vs, k, arr, h => by
    simp only [List.zipIdx_cons, List.foldl_cons]
    simp only [List.length_cons] at h
    rw [fold_set off vs (k + 1) _ (by simp; omega)]
    have := list_seg_step arr.toList (off + k) v vs (by simp; omega)
    simp only [Array.toList_setIfInBounds, List.length_cons]
    rw [← Nat.add_assoc off k 1]
    exact this

/-- Parts of an aggregate. -/
inductive PRel (μ : Mu) (place : Nat → Option (Nat × Nat)) : List (Nat × Nat × Value) → List (Nat × Value) → Prop
  | nil : PRel μ place [] []
  | cons {off n i : Nat} {v v' : Value} {l : List (Nat × Nat × Value)} {l' : List (Nat × Value)} (hp : place i = some (off, n)) (hv : VRel μ v v') (t : PRel μ place l l') : PRel μ place ((off, n, v) :: l) ((i, v') :: l')

theorem fill_sound {μ : Mu} {place : Nat → Option (Nat × Nat)} {ps : List (Nat × Nat × Value)} {ps' : List (Nat × Value)} (h : PRel μ place ps ps') :
    ∀ {cs cs1 : List Value} {c : Array Value}, LRel μ cs c.toList → (∀ x ∈ cs, x.oneCell' = true) → fillL cs ps = some cs1 → ∃ c1, fill place c ps' = some c1 ∧ LRel μ cs1 c1.toList ∧ (∀ x ∈ cs1, x.oneCell' = true) := by
  induction h with
  | nil => intro cs cs1 c hc h1 hf; simp only [fillL, Option.some.injEq] at hf; subst hf; exact ⟨c, rfl, hc, h1⟩
  | @cons off n i v v' l l' hp hv _ ih =>
    intro cs cs1 c hc h1 hf
    simp only [fillL] at hf
    split at hf
    · rename_i hcond
      obtain ⟨hk, hn, hle⟩ := hcond
      obtain ⟨hv1, hv2⟩ := hv.cells hk
      have hl := hv1.length
      have hcl := hc.length
      simp only [Array.length_toList] at hcl hl hn
      have hfold := fold_set off v'.cells.toList 0 c (by simp only [Array.length_toList]; omega)
      have hLR : LRel μ (cs.take off ++ v.cells.toList ++ cs.drop (off + n)) (c.toList.take (off + 0) ++ v'.cells.toList ++ c.toList.drop (off + 0 + v'.cells.toList.length)) := by
        have := ((hc.take off).append hv1).append (hc.drop (off + n))
        have e : off + 0 + v'.cells.toList.length = off + n := by simp; omega
        rw [e]; exact this
      rw [← hfold] at hLR
      obtain ⟨c1, g1, g2, g3⟩ := ih hLR (by
        intro x hx
        simp only [List.mem_append] at hx
        rcases hx with (hx | hx) | hx
        · exact h1 x (List.mem_of_mem_take hx)
        · exact hv2 x hx
        · exact h1 x (List.mem_of_mem_drop hx)) hf
      refine ⟨c1, ?_, g2, g3⟩
      simp only [fill, hp]
      rw [if_neg (by simp; omega)]
      rw [← g1]
      congr 1
      rw [← Array.foldl_toList, Array.toList_zipIdx]
    · cases hf

theorem szs_places {fields : List Field} (h : sizesOk P fields = true) : ∃ places : List (Nat × Nat), fields.mapM (fun f => (P.info? f.type).map fun i => (f.offset, i.size)) = some places ∧
    ∀ i : Nat, places[i]? = ((fields[i]?).bind fun (f : Field) => (szOf P f.type).map fun n => (f.offset, n)) := by
  induction fields with
  | nil => exact ⟨[], rfl, fun i => by simp⟩
  | cons f r ih =>
    simp only [sizesOk, List.all_cons, Bool.and_eq_true] at h
    obtain ⟨pl, h1, h2⟩ := ih h.2
    have h3 := h.1
    unfold szOf at h3
    cases hi : P.info? f.type with
    | none => simp [hi] at h3
    | some x =>
      refine ⟨(f.offset, x.size) :: pl, by simp [List.mapM_cons, hi, h1], fun i => ?_⟩
      cases i with
      | zero => simp [szOf, hi]
      | succ i => simpa using h2 i

theorem partsS_rel {μ : Mu} {N : Nat} {ρ : Env} {a : Act} (he : ERel μ N ρ a) {fields : Array Field} {place : Nat → Option (Nat × Nat)}
    (hp : ∀ i : Nat, place i = ((fields[i]?).bind fun (f : Field) => (szOf P f.type).map fun n => (f.offset, n))) :
    ∀ {ps : List (Nat × Operand)} {qs : List (Nat × Nat × Operand)} {vs : List (Nat × Nat × Value)}, (ps.map (·.2)).all groundO = true → partsS P fields ps = some qs → evp ρ qs = some vs →
      PRel μ place vs (ps.map fun p => (p.1, a.eval p.2))
  | [], qs, vs, _, h, hv => by simp only [partsS, Option.some.injEq] at h; subst h; simp only [evp, Option.some.injEq] at hv; subst hv; exact .nil
  | (i, x) :: r, qs, vs, hg, h, hv => by
    simp only [partsS] at h
    simp only [List.map_cons, List.all_cons, Bool.and_eq_true] at hg
    split at h
    · rename_i f hf
      split at h
      · rename_i n qs' hn hq
        cases h
        simp only [evp] at hv
        split at hv
        · rename_i v ws hv1 hv2
          cases hv
          refine .cons ?_ (ev_sound he hg.1 hv1) (partsS_rel he hp hg.2 hq hv2)
          rw [hp i, hf]; simp [hn]
        · cases hv
      · cases h
    · cases h

theorem partsA_rel {μ : Mu} {N : Nat} {ρ : Env} {a : Act} (he : ERel μ N ρ a) {n : Nat} :
    ∀ {ps : List (Nat × Operand)} {vs : List (Nat × Nat × Value)}, (ps.map (·.2)).all groundO = true → evp ρ (partsA n ps) = some vs →
      PRel μ (fun i => some (i * n, n)) vs (ps.map fun p => (p.1, a.eval p.2))
  | [], vs, _, hv => by simp only [partsA, evp, Option.some.injEq] at hv; subst hv; exact .nil
  | (i, x) :: r, vs, hg, hv => by
    simp only [List.map_cons, List.all_cons, Bool.and_eq_true] at hg
    simp only [partsA, evp] at hv
    split at hv
    · rename_i v ws hv1 hv2
      cases hv
      exact .cons rfl (ev_sound he hg.1 hv1) (partsA_rel he hg.2 hv2)
    · cases hv

theorem ones {l : List Value} (h : l.all (fun v => v.oneCell' && scalV v) = true) (μ : Mu) : LRel μ l l ∧ ∀ x ∈ l, x.oneCell' = true := by
  constructor
  · exact scals_rel μ (List.all_eq_true.2 fun x hx => by have := List.all_eq_true.1 h x hx; simp at this; exact this.2)
  · intro x hx; have := List.all_eq_true.1 h x hx; simp at this; exact this.1

theorem repL_length (z : List Value) : ∀ n, (repL z n).length = n * z.length
  | 0 => by simp [repL]
  | n + 1 => by simp [repL, repL_length z n, Nat.add_mul]; omega

theorem repL_get (z : List Value) : ∀ (n i : Nat), i < n * z.length → (repL z n)[i]? = z[i % z.length]?
  | 0, i, h => by simp at h
  | n + 1, i, h => by
    simp only [repL]
    by_cases hi : i < z.length
    · rw [List.getElem?_append_left hi, Nat.mod_eq_of_lt hi]
    · rw [List.getElem?_append_right (by omega), repL_get z n (i - z.length) (by rw [Nat.add_mul] at h; omega)]
      congr 1
      rw [← Nat.mod_eq_sub_mod (by omega)]

theorem repL_mem (z : List Value) : ∀ (n : Nat) (x : Value), x ∈ repL z n → x ∈ z
  | 0, x, h => by simp [repL] at h
  | n + 1, x, h => by
    simp only [repL, List.mem_append] at h
    rcases h with h | h
    · exact h
    · exact repL_mem z n x h

/-- The model's own row of zero values. -/
theorem zero_row {z : Array Value} {n k : Nat} (hz : z.size = n) (hn : 0 < n) : ((Array.range (k * n)).map (z[· % z.size]!)).toList = repL z.toList k := by
  apply List.ext_getElem?
  intro i
  by_cases hi : i < k * n
  · rw [repL_get z.toList k i (by simp [hz, hi])]
    have hm : i % n < z.size := by rw [hz]; exact Nat.mod_lt _ hn
    have e : z[i % n]! = z[i % n] := by simp [hm]
    simp [hi, hz, e]
  · rw [List.getElem?_eq_none (by simp; omega), List.getElem?_eq_none (by rw [repL_length]; simp [hz]; omega)]

theorem new_done {B : Nat} {μ : Mu} {S : AS} {w : World} (r : Rel B μ S w) (hf : μ S.nx = none) {o : AObj} {ob : Obj} (hro : o.ro = false) (z : Nat)
    (ho : ∀ μ' w', Sub μ μ' → w'.heap[w.heap.size]? = some ob → ORel B μ' w' w.heap.size 0 z o) {run : Result Next} {v v' : Value}
    (hrun : run = .ok (.value v') (w.alloc ob)) (hv : ∀ μ' : Mu, μ' S.nx = some (w.heap.size, 0, z) → VRel μ' v v') : Done B μ S w run v (S.new o) := by
  obtain ⟨h1, h2⟩ := r.new hf hro z ho
  exact ⟨v', _, _, .inl hrun, hv _ (by simp [muSet]), h1, h2⟩

theorem cells_new {B : Nat} {μ : Mu} {w : World} {cs : List Value} {c : Array Value} (e : TypeId) (h : LRel μ cs c.toList) (h1 : ∀ x ∈ cs, x.oneCell' = true) :
    ∀ μ' w', Sub μ μ' → w'.heap[w.heap.size]? = some (.cells c e) → ORel B μ' w' w.heap.size 0 c.size (.cells false cs) := by
  intro μ' w' hs hw
  have hl := h.length
  simp only [Array.length_toList] at hl
  refine ⟨c, e, (0, 0), hw, ?_, h1, fun _ => rfl, by simp, Nat.le_refl _, by omega⟩
  rw [List.drop_zero, List.take_of_length_le (by simp; omega)]
  exact h.mono hs

end Go.Ax

/- append, copy, clear, make of slices, in both worlds. -/
namespace Go.Ax
open Instr
variable {P : Program}

theorem run_szOf' {t : TypeId} {n : Nat} (h : szOf P t = some n) : ∃ i, P.info? t = some i ∧ i.size = n := by
  unfold szOf at h
  cases hi : P.info? t with
  | none => simp [hi] at h
  | some i => simp [hi] at h; exact ⟨i, rfl, h⟩

theorem src_sound {B : Nat} {μ : Mu} {S : AS} {w : World} (r : Rel B μ S w) {x x' : Value} (hx : VRel μ x x') {esz : Nat} {cs : List Value} (h : srcCells S esz x = some cs) :
    (∀ w : World, (Builtin.lenOf x').run P w = .ok (srcLen x) w) ∧ cs.length = srcLen x * esz ∧ (∀ y ∈ cs, y.oneCell' = true) ∧
    ∀ n, n ≤ srcLen x → ∀ w1 : World, w1.heap = w.heap → ∃ c : Array Value, (Builtin.firstCells esz n x').run P w1 = .ok c w1 ∧ LRel μ (cs.take (n * esz)) c.toList := by
  unfold srcCells at h
  split at h
  · rename_i a c
    cases h
    have hz : ∃ a' c', x' = .slice a' 0 c' := by cases hx <;> exact ⟨_, _, rfl⟩
    obtain ⟨a', c', rfl⟩ := hz
    refine ⟨fun w => by simp [Builtin.lenOf, srcLen], by simp [srcLen], by simp, fun n hn w1 _ => ?_⟩
    have : n = 0 := by simpa [srcLen] using hn
    subst this
    refine ⟨#[], ?_, by simp; exact .nil⟩
    cases a' with
    | none => simp [Builtin.firstCells]
    | some a' => simp [Builtin.firstCells, loadCells, loadCellsFrom]
  · rename_i b o q n c hn0
    obtain ⟨bb, d, c', z, rfl, hm⟩ : ∃ bb d c' z, x' = .slice (some ⟨bb, o + d, none⟩) n c' ∧ μ b = some (bb, d, z) := by
      cases hx with
      | slice hm => exact ⟨_, _, _, _, rfl, hm⟩
      | slack hm hc hz => exact ⟨_, _, _, _, rfl, hm⟩
      | s0 a => simp at hn0
    obtain ⟨cc, e, fz, h1, h2, h3, h4⟩ := getCells_sound r hm h
    refine ⟨fun w => by simp [Builtin.lenOf, srcLen], by simpa [srcLen] using h4, h3, fun k hk w1 hw1 => ?_⟩
    simp only [srcLen] at hk
    have hle : k * esz ≤ n * esz := Nat.mul_le_mul_right _ hk
    have h5 : LRel μ (cs.take (k * esz)) ((cc.toList.drop (o + d)).take (k * esz)) := by
      have := h2.take (k * esz)
      rw [List.take_take, Nat.min_eq_left hle] at this
      exact this
    have h6 : ((cc.toList.drop (o + d)).take (k * esz)).length = k * esz := by rw [← h5.length]; simp; omega
    refine ⟨((cc.toList.drop (o + d)).take (k * esz)).toArray, ?_, by simpa using h5⟩
    simp only [Builtin.firstCells]
    exact run_cells (P := P) (by rw [hw1]; exact h1) h6
  · rename_i s
    split at h
    · rename_i he
      subst he
      cases h
      cases hx
      refine ⟨fun w => by simp [Builtin.lenOf, srcLen], ?_, ?_, ?_⟩
      · simp [srcLen]
      · intro y hy; simp only [List.mem_map] at hy; obtain ⟨b, _, rfl⟩ := hy; rfl
      · intro n hn w1 _
        refine ⟨((s.extract 0 n).data.map fun b => .int .u8 b.toNat), by simp [Builtin.firstCells], ?_⟩
        simp only [Nat.mul_one]
        have e : ((s.extract 0 n).data.map fun b => Value.int .u8 b.toNat).toList = (s.data.toList.map fun b => Value.int .u8 b.toNat).take n := by
          rw [Array.toList_map, ByteArray.data_extract, Array.toList_extract, List.extract_eq_take_drop]
          simp [List.map_take]
        rw [e]
        refine LRel.of_get rfl ?_
        intro i v hv
        refine ⟨v, hv, ?_⟩
        have hmem := List.mem_of_getElem? hv
        have := List.mem_of_mem_take hmem
        simp only [List.mem_map] at this
        obtain ⟨b, _, rfl⟩ := this
        exact .int _ _
    · cases h
  · cases h

theorem zeroCells_nil {z : Array Value} {k : Nat} : (Builtin.zeroCells z k).toList.length = k * z.size := by simp [Builtin.zeroCells]

theorem next_small {need cap : Nat} (h : cap < need) : Builtin.nextslicecap need cap ≤ 2 * need + 1000 := by
  unfold Builtin.nextslicecap
  have hg : ∀ rounds c, c ≤ 2 * need + 1000 → c < need ∨ True → Builtin.growBy need rounds c ≤ 2 * need + 1000 := by
    intro rounds
    induction rounds with
    | zero => intro c hc _; simpa [Builtin.growBy] using hc
    | succ n ih =>
      intro c hc _
      simp only [Builtin.growBy]
      split
      · exact hc
      · rename_i hlt
        exact ih _ (by omega) (.inr trivial)
  split
  · omega
  · split
    · omega
    · exact hg 4 cap (by omega) (.inr trivial)

theorem mul_small {need n b : Nat} (hb : 0 < b) (h : need * b ≤ 1099511627776) (hb2 : b ≤ 1048576) (hn : n ≤ 2 * need + 1000) : ¬ n * b > 2 ^ 48 := by
  have h1 : n * b ≤ (2 * need + 1000) * b := Nat.mul_le_mul_right _ hn
  have h2 : (2 * need + 1000) * b = 2 * (need * b) + 1000 * b := by rw [Nat.add_mul, Nat.mul_assoc]
  omega

/-- The facts by which an append is reckoned. -/
structure AppT (P : Program) (ts : Array TypeId) (esz bytes : Nat) (z : Value) : Prop where
  ex : ∃ t u e e', ts = #[t, u] ∧ P.underlying t = some (.slice e) ∧ P.underlying u = some (.slice e') ∧ szOf P e = some esz ∧ bytesOf P e = some bytes ∧ zeroOf P e = some z
  size : z.cells.size = esz
  pos : 0 < esz
  bpos : 0 < bytes
  bsm : bytes ≤ 1048576
  zone : z.cells.toList.all (fun v => v.oneCell' && scalV v) = true

theorem appV_sound {B : Nat} {μ : Mu} {S S' : AS} {w : World} (r : Rel B μ S w) (hf : μ S.nx = none) {ts : Array TypeId} {esz bytes : Nat} {z : Value} (ht : AppT P ts esz bytes z) (ty : TypeId) {s s' x x' v : Value} (hs : VRel μ s s') (hx : VRel μ x x')
    (h : appV esz bytes S s x = some (v, S')) : ∃ v' μ' w', (Builtin.append_ ts ty #[s', x']).run P w = .ok v' w' ∧ VRel μ' v v' ∧ Rel B μ' S' w' ∧ Fr S S' μ μ' w w' := by
  obtain ⟨t, u, e, e', rfl, hu1, hu2, hsz, hby, hz0⟩ := ht.ex
  unfold appV at h
  split at h
  · cases h
  · rename_i new hnew
    obtain ⟨hlen, hnl, hn1, hfirst⟩ := src_sound (P := P) r hx hnew
    obtain ⟨bi, hbi, hbb⟩ := run_bytesOf (P := P) hby w
    split at h
    · rename_i a len cap
      split at h
      · rename_i hfit
        obtain ⟨c, hc1, hc2⟩ := hfirst (srcLen x) (Nat.le_refl _) w rfl
        rw [← hnl, List.take_of_length_le (Nat.le_refl _)] at hc2
        split at h
        · split at h
          · rename_i hn0
            cases h
            cases hs
            have hce : c = #[] := by
              have : c.toList = [] := List.eq_nil_of_length_eq_zero (by rw [← hc2.length, hnl, hn0]; simp)
              exact Array.toList_eq_nil_iff.1 this
            rw [hn0] at hc1 hlen
            subst hce
            refine ⟨.slice none len cap, μ, w, ?_, .snil _ _, r, Fr.refl _ _ _⟩
            have hle : len ≤ cap := by omega
            simp [Builtin.append_, run_underlying hu1, run_underlying hu2, run_szOf hsz, hlen, hc1, hle]
          · cases h
        · rename_i b o q
          split at h
          · rename_i hn0
            cases h
            have hce : c = #[] := by
              have : c.toList = [] := List.eq_nil_of_length_eq_zero (by rw [← hc2.length, hnl, hn0]; simp)
              exact Array.toList_eq_nil_iff.1 this
            rw [hn0] at hc1 hlen
            subst hce
            obtain ⟨a', cap', rfl, hcap, hv⟩ : ∃ a' cap', s' = .slice (some a') len cap' ∧ cap ≤ cap' ∧ VRel μ (.slice (some ⟨b, o, q⟩) len cap) (.slice (some a') len cap') := by
              cases hs with
              | slice hm => exact ⟨_, _, rfl, Nat.le_refl _, .slice hm⟩
              | slack hm hc hz => exact ⟨_, _, rfl, hc, .slack hm hc hz⟩
              | s0 a => exact ⟨_, _, rfl, Nat.le_refl _, .s0 a⟩
            refine ⟨.slice (some a') len cap', μ, w, ?_, hv, r, Fr.refl _ _ _⟩
            have hle : len ≤ cap' := by omega
            simp [Builtin.append_, run_underlying hu1, run_underlying hu2, run_szOf hsz, hlen, hc1, hle, storeCells]
          · rename_i hn0
            cases hset : setCells S b (o + len * esz) new with
            | none => rw [hset] at h; cases h
            | some S1 =>
              rw [hset] at h
              simp only [Option.map_some, Option.some.injEq, Prod.mk.injEq] at h
              obtain ⟨rfl, rfl⟩ := h
              obtain ⟨bb, d, z', cap', rfl, hm, hcap, hv⟩ : ∃ bb d z' cap', s' = .slice (some ⟨bb, o + d, none⟩) len cap' ∧ μ b = some (bb, d, z') ∧ cap ≤ cap' ∧
                  VRel μ (.slice (some ⟨b, o, q⟩) (len + srcLen x) cap) (.slice (some ⟨bb, o + d, none⟩) (len + srcLen x) cap') := by
                cases hs with
                | slice hm => exact ⟨_, _, _, _, rfl, hm, Nat.le_refl _, .slice hm⟩
                | slack hm hc hz => exact ⟨_, _, _, _, rfl, hm, hc, .slack hm hc hz⟩
                | s0 a => omega
              obtain ⟨w', hst, hr, hfr⟩ := setCells_sound (P := P) r hm hc2 hn1 hset
              refine ⟨_, μ, w', ?_, hv, hr, hfr⟩
              have hle : len + srcLen x ≤ cap' := by omega
              have ea : o + len * esz + d = o + d + len * esz := by omega
              rw [ea] at hst
              simp [Builtin.append_, run_underlying hu1, run_underlying hu2, run_szOf hsz, hlen, hc1, hle, addr_add, hst]
      · rename_i hfit
        split at h
        · rename_i hbig
          cases hold : srcCells S esz (.slice a len cap) with
          | none => rw [hold] at h; cases h
          | some old =>
            rw [hold] at h
            simp only at h
            obtain ⟨_, hol, ho1, hofirst⟩ := src_sound (P := P) r hs hold
            simp only [srcLen] at hol hofirst
            -- the world's way where a new row is made
            have hgrow : ∀ a' cap', s' = .slice a' len cap' → ¬ len + srcLen x ≤ cap' →
                ∃ (c1 c2 : Array Value) (k : Nat), (Builtin.append_ #[t, u] ty #[s', x']).run P w = .ok (.slice (some ⟨w.heap.size, 0, none⟩) (len + srcLen x) (len + srcLen x + k)) (w.drew.alloc (.cells (c1 ++ c2 ++ Builtin.zeroCells z.cells k) e)) ∧
                  LRel μ old c1.toList ∧ LRel μ new c2.toList := by
              intro a' cap' hs' hno
              obtain ⟨c1, h1, h2⟩ := hofirst len (Nat.le_refl _) w.drew rfl
              obtain ⟨c2, h3, h4⟩ := hfirst (srcLen x) (Nat.le_refl _) w.drew rfl
              rw [← hol, List.take_of_length_le (Nat.le_refl _)] at h2
              rw [← hnl, List.take_of_length_le (Nat.le_refl _)] at h4
              have hbound := next_small (need := len + srcLen x) (cap := cap') (by omega)
              have hok := mul_small ht.bpos hbig ht.bsm hbound
              refine ⟨c1, c2, w.tape w.drawn (.appendCap (len + srcLen x) cap' e) % (2 ^ 63 - (len + srcLen x)), ?_, h2, h4⟩
              have hbz : ¬ bi.bytes = 0 := by have := ht.bpos; omega
              have hby' : ∀ w1 : World, (typeInfo e).run P w1 = .ok bi w1 := by
                intro w1
                unfold bytesOf at hby
                cases hi : P.info? e with
                | none => simp [hi] at hby
                | some i =>
                  have : (typeInfo e).run P w = .ok i w := by simp [typeInfo, hi]
                  rw [this] at hbi; cases hbi
                  simp [typeInfo, hi]
              have hz' : ∀ w1 : World, (zeroValue e).run P w1 = .ok z w1 := fun w1 => run_zeroOf hz0 w1
              subst hs'
              rw [← hbb] at hok
              have hfc : Question.forced (.appendCap (len + srcLen x) cap' e) = false := rfl
              simp [Builtin.append_, run_underlying hu1, run_underlying hu2, run_szOf hsz, hlen, hno, hby', hok, hbz, h1, h3, hz', newRow, Question.cut, hfc]
            have hnew2 : ∀ (T : AS), (∀ i o, T.h i = some o → S.h i = some o) → T.nx = S.nx → S' = T.new (.cells false (old ++ new)) → v = .slice (some ⟨S.nx, 0, some esz⟩) (len + srcLen x) (len + srcLen x) →
                (∃ (c1 c2 : Array Value) (k : Nat), (Builtin.append_ #[t, u] ty #[s', x']).run P w = .ok (.slice (some ⟨w.heap.size, 0, none⟩) (len + srcLen x) (len + srcLen x + k)) (w.drew.alloc (.cells (c1 ++ c2 ++ Builtin.zeroCells z.cells k) e)) ∧
                  LRel μ old c1.toList ∧ LRel μ new c2.toList) → ∃ v' μ' w', (Builtin.append_ #[t, u] ty #[s', x']).run P w = .ok v' w' ∧ VRel μ' v v' ∧ Rel B μ' S' w' ∧ Fr S S' μ μ' w w' := by
              intro T hT hTn hS' hv' ⟨c1, c2, k, hrun, hl1, hl2⟩
              subst hS'; subst hv'
              have hl1' := hl1.length
              have hl2' := hl2.length
              simp only [Array.length_toList] at hl1' hl2'
              have hz2 : (Builtin.zeroCells z.cells k).size = k * esz := by simp [Builtin.zeroCells, ht.size]
              have rT : Rel B μ T w.drew := (r.weaken hT).world rfl
              have hb := rT.new (by rw [hTn]; exact hf) (o := .cells false (old ++ new)) rfl (ob := .cells (c1 ++ c2 ++ Builtin.zeroCells z.cells k) e) (c1 ++ c2 ++ Builtin.zeroCells z.cells k).size (by
                intro μ' w' hsub hw'
                refine ⟨_, e, (0, 0), hw', ?_, ?_, fun _ => rfl, by simp, Nat.le_refl _, by simp; omega⟩
                · rw [List.drop_zero, Array.toList_append, Array.toList_append, List.take_append_of_le_length (by simp; omega), List.take_of_length_le (by simp; omega)]
                  exact (hl1.append hl2).mono hsub
                · intro y hy
                  simp only [List.mem_append] at hy
                  rcases hy with hy | hy
                  · exact ho1 y hy
                  · exact hn1 y hy)
              refine ⟨_, _, _, hrun, ?_, hb.1, ?_⟩
              · have hm : muSet μ T.nx (w.drew.heap.size, 0, (c1 ++ c2 ++ Builtin.zeroCells z.cells k).size) S.nx = some (w.heap.size, 0, (c1 ++ c2 ++ Builtin.zeroCells z.cells k).size) := by simp [muSet, hTn]
                refine .slack (d := 0) hm (by omega) ?_
                simp only [Array.size_append, hz2, ← hl1', ← hl2', hol, hnl, Nat.zero_add, Nat.add_mul, Nat.add_zero]
                omega
              · have f0 : Fr S T μ μ w w.drew := by
                  refine ⟨rfl, rfl, rfl, Nat.le_refl _, Sub.refl _, by omega, fun i p h h' => (by rw [h] at h'; cases h'), fun i o h1 _ => hT i o h1, fun _ _ _ => rfl, fun i o p h1 h2 h3 _ => ⟨i, o, p, hT i o h1, h2, h3, rfl⟩⟩
                exact f0.trans hb.2
            cases a with
            | none =>
              simp only [Option.some.injEq, Prod.mk.injEq] at h
              cases hs with
              | snil =>
                exact hnew2 S (fun _ _ h => h) rfl h.2.symm h.1.symm (hgrow _ _ rfl hfit)
            | some a =>
              obtain ⟨b, o, q⟩ := a
              cases q with
              | none =>
                simp only [Option.some.injEq, Prod.mk.injEq] at h
                refine hnew2 S (fun _ _ h => h) rfl h.2.symm h.1.symm ?_
                cases hs with
                | slice hm => exact hgrow _ _ rfl hfit
                | s0 a => exact hgrow _ _ rfl hfit
              | some q =>
                simp only at h
                split at h
                · rename_i l hl
                  split at h
                  · rename_i hq
                    subst hq
                    simp only [Option.some.injEq, Prod.mk.injEq] at h
                    have hT : ∀ i o, (S.set b none).h i = some o → S.h i = some o := by
                      intro i o hi
                      simp only [AS.set] at hi
                      split at hi
                      · cases hi
                      · exact hi
                    cases hs with
                    | s0 a => exact hnew2 (S.set b none) hT rfl h.2.symm h.1.symm (hgrow _ _ rfl hfit)
                    | @slack _ _ bb d z' _ _ cap' _ hm hc hz =>
                      by_cases hno : len + srcLen x ≤ cap'
                      · obtain ⟨c, hc1, hc2⟩ := hfirst (srcLen x) (Nat.le_refl _) w rfl
                        rw [← hnl, List.take_of_length_le (Nat.le_refl _)] at hc2
                        have hc2l := hc2.length
                        simp only [Array.length_toList] at hc2l
                        obtain ⟨b', d', z2, g0, ⟨cc, e2, fz, g1, g2, g3, g4, _, g6, g7⟩, _⟩ := r.obj b _ hl
                        rw [hm] at g0; cases g0
                        have hfz := g4 rfl; subst hfz
                        have hmul : (len + srcLen x) * q ≤ cap' * q := Nat.mul_le_mul_right _ hno
                        rw [Nat.add_mul] at hmul
                        have hst := run_storeCells_at (P := P) bb (o + d + len * q) e2 c.toList 0 cc w g1 (by simp; omega) (hc2.one hn1)
                        obtain ⟨rfl, rfl⟩ := h
                        have htk := Rel.take r hf hl rfl hm (o' := .cells false (old ++ new)) (o + d) (fun k hk => setRow_other w bb k _ hk) (by simp) rfl rfl rfl (w' := w.setRow bb (cc.toList.take (o + d + len * q + 0) ++ c.toList ++ cc.toList.drop (o + d + len * q + 0 + c.toList.length)).toArray) (by
                          intro μ' hsub
                          refine ⟨_, e2, (0, 0), setRow_heap w bb cc _ e2 _ g1, ?_, ?_, fun _ => rfl, by simp, by simp; omega, by simp; omega⟩
                          · have hold2 : LRel μ old ((cc.toList.drop (o + d)).take (len * q)) := by
                              by_cases hl0 : len = 0
                              · have : old = [] := List.eq_nil_of_length_eq_zero (by rw [hol, hl0]; simp)
                                rw [this, hl0]; simp; exact .nil
                              · have : getCells S b o (len * q) = some old := by
                                  unfold srcCells at hold
                                  split at hold
                                  · rename_i heq; cases heq; exact absurd rfl hl0
                                  · rename_i heq; cases heq; exact hold
                                  · rename_i heq; cases heq
                                  · cases hold
                                obtain ⟨c3, e3, fz3, k1, k2, _⟩ := getCells_sound r hm this
                                rw [g1] at k1; cases k1
                                exact k2
                            have hLL := (hold2.append hc2).mono hsub
                            have e9 : ((cc.toList.take (o + d + len * q + 0) ++ c.toList ++ cc.toList.drop (o + d + len * q + 0 + c.toList.length)).toArray.toList.drop (o + d)).take (old ++ new).length
                                = (cc.toList.drop (o + d)).take (len * q) ++ c.toList := by
                              apply List.ext_getElem?
                              intro j
                              simp only [List.getElem?_take, List.getElem?_drop, List.getElem?_append, List.length_append, List.length_take, List.length_drop, Array.length_toList, Nat.add_zero]
                              repeat' split
                              all_goals first
                                | rfl
                                | omega
                                | (congr 1; omega)
                                | (rw [List.getElem?_eq_none (by simp; omega)])
                                | (symm; rw [List.getElem?_eq_none (by simp; omega)])
                            rw [e9]
                            exact hLL
                          · intro y hy
                            simp only [List.mem_append] at hy
                            rcases hy with hy | hy
                            · exact ho1 y hy
                            · exact hn1 y hy) rfl
                        refine ⟨.slice (some ⟨bb, o + d, none⟩) (len + srcLen x) cap', _, _, ?_, ?_, htk.1, htk.2⟩
                        · simp [Builtin.append_, run_underlying hu1, run_underlying hu2, run_szOf hsz, hlen, hc1, hno, addr_add]
                          simp at hst
                          rw [hst]
                          simp
                        · have hm2 : muSet μ S.nx (bb, o + d, z') S.nx = some (bb, o + d, z') := by simp [muSet]
                          have := VRel.slack (o := 0) (l := len + srcLen x) hm2 hno (e := q) (by omega)
                          simpa using this
                      · exact hnew2 (S.set b none) hT rfl h.2.symm h.1.symm (hgrow _ _ rfl hno)
                  · cases h
                · cases h
        · cases h
    · cases h

end Go.Ax

/- copy, clear, make; maps; ranges: in both worlds. -/
namespace Go.Ax
open Instr
variable {P : Program}

theorem copyV_sound {B : Nat} {μ : Mu} {S S' : AS} {w : World} (r : Rel B μ S w) {t u e : TypeId} {esz : Nat} (hu : P.underlying t = some (.slice e)) (hz : szOf P e = some esz) (ty : TypeId) {s s' x x' v : Value} (hs : VRel μ s s') (hx : VRel μ x x')
    (h : copyV esz S s x = some (v, S')) : ∃ v' w', (Builtin.copy_ #[t, u] ty #[s', x']).run P w = .ok v' w' ∧ VRel μ v v' ∧ Rel B μ S' w' ∧ Fr S S' μ μ w w' := by
  unfold copyV at h
  split at h
  · rename_i b o q dl c
    split at h
    · cases h
    · rename_i cs hcs
      obtain ⟨hlen, hnl, hn1, hfirst⟩ := src_sound (P := P) r hx hcs
      obtain ⟨cc, hc1, hc2⟩ := hfirst (min (srcLen x) dl) (Nat.min_le_left _ _) w rfl
      have hmin : Nat.min (srcLen x) dl = min (srcLen x) dl := rfl
      split at h
      · rename_i h0
        cases h
        have hce : cc = #[] := by
          have : cc.toList = [] := List.eq_nil_of_length_eq_zero (by rw [← hc2.length, h0]; simp)
          exact Array.toList_eq_nil_iff.1 this
        subst hce
        obtain ⟨a', c', rfl⟩ : ∃ a' c', s' = .slice (some a') dl c' := by cases hs <;> exact ⟨_, _, rfl⟩
        refine ⟨.int .i64 0, w, ?_, .int _ _, r, Fr.refl _ _ _⟩
        rw [h0] at hc1
        simp [Builtin.copy_, run_underlying hu, run_szOf hz, hlen, hmin, h0, hc1, storeCells, goInt]
      · rename_i h0
        cases hset : setCells S b o (cs.take (min (srcLen x) dl * esz)) with
        | none => rw [hset] at h; cases h
        | some S1 =>
          rw [hset] at h
          simp only [Option.map_some, Option.some.injEq, Prod.mk.injEq] at h
          obtain ⟨rfl, rfl⟩ := h
          obtain ⟨bb, d, z', c', rfl, hm⟩ : ∃ bb d z' c', s' = .slice (some ⟨bb, o + d, none⟩) dl c' ∧ μ b = some (bb, d, z') := by
            cases hs with
            | slice hm => exact ⟨_, _, _, _, rfl, hm⟩
            | slack hm hc hz => exact ⟨_, _, _, _, rfl, hm⟩
            | s0 a => simp at h0
          obtain ⟨w', hst, hr, hf⟩ := setCells_sound (P := P) r hm hc2 (fun y hy => hn1 y (List.mem_of_mem_take hy)) hset
          refine ⟨.int .i64 (min (srcLen x) dl : Nat), w', ?_, .int _ _, hr, hf⟩
          simp [Builtin.copy_, run_underlying hu, run_szOf hz, hlen, hmin, hc1, hst, goInt]
  · rename_i c
    split at h
    · cases h
    · rename_i cs hcs
      cases h
      obtain ⟨hlen, hnl, hn1, hfirst⟩ := src_sound (P := P) r hx hcs
      obtain ⟨cc, hc1, hc2⟩ := hfirst 0 (Nat.zero_le _) w rfl
      cases hs
      refine ⟨.int .i64 0, w, ?_, .int _ _, r, Fr.refl _ _ _⟩
      have hmin : Nat.min (srcLen x) 0 = 0 := Nat.min_zero _
      simp [Builtin.copy_, run_underlying hu, run_szOf hz, hlen, hc1, goInt]
  · cases h

theorem zeroCells_rep {z : Value} {n : Nat} (hn : 0 < z.cells.size) : (Builtin.zeroCells z.cells n).toList = repL z.cells.toList n := by
  unfold Builtin.zeroCells
  exact zero_row rfl hn

theorem clearS_sound {B : Nat} {μ : Mu} {S S' : AS} {w : World} (r : Rel B μ S w) {t e : TypeId} {z : Value} (hu : P.underlying t = some (.slice e)) (hz : zeroOf P e = some z) (hz0 : z.cells.toList.all (fun v => v.oneCell' && scalV v) = true) (hpos : 0 < z.cells.size)
    (ty : TypeId) {x x' : Value} (hx : VRel μ x x')
    (h : clearV z.cells.toList S x = some S') : ∃ w', (Builtin.clear_ #[t] ty #[x']).run P w = .ok (.tuple #[]) w' ∧ Rel B μ S' w' ∧ Fr S S' μ μ w w' := by
  unfold clearV at h
  split at h
  · cases h
    obtain ⟨a', c', rfl⟩ : ∃ a' c', x' = .slice a' 0 c' := by cases hx <;> exact ⟨_, _, rfl⟩
    refine ⟨w, ?_, r, Fr.refl _ _ _⟩
    cases a' <;> simp [Builtin.clear_, run_underlying hu]
  · rename_i b o q n c hn0
    obtain ⟨bb, d, z', c', rfl, hm⟩ : ∃ bb d z' c', x' = .slice (some ⟨bb, o + d, none⟩) n c' ∧ μ b = some (bb, d, z') := by
      cases hx with
      | slice hm => exact ⟨_, _, _, _, rfl, hm⟩
      | slack hm hc hz => exact ⟨_, _, _, _, rfl, hm⟩
      | s0 a => simp at hn0
    have hl : LRel μ (repL z.cells.toList n) (Builtin.zeroCells z.cells n).toList := by
      rw [zeroCells_rep hpos]
      exact LRel.of_get rfl (fun i v hv => ⟨v, hv, by
        have := repL_mem _ _ _ (List.mem_of_getElem? hv)
        exact scal_rel μ (by have := List.all_eq_true.1 hz0 _ this; simp at this; exact this.2)⟩)
    obtain ⟨w', hst, hr, hf⟩ := setCells_sound (P := P) r hm hl (fun y hy => by
      have := repL_mem _ _ _ hy
      have := List.all_eq_true.1 hz0 _ this; simp at this; exact this.1) h
    refine ⟨w', ?_, hr, hf⟩
    cases n with
    | zero => exact absurd rfl hn0
    | succ n => simp [Builtin.clear_, run_underlying hu, run_zeroOf hz, hst]
  · cases h

theorem mkSl_sound {B : Nat} {μ : Mu} {S S' : AS} {w : World} (r : Rel B μ S w) (hf : μ S.nx = none) {t e : TypeId} {esz bytes : Nat} {z : Value} (hu : P.underlying t = some (.slice e)) (hs : szOf P e = some esz) (hb : bytesOf P e = some bytes) (hz : zeroOf P e = some z)
    (hsz : z.cells.size = esz) (hpos : 0 < esz) (hz0 : z.cells.toList.all (fun v => v.oneCell' && scalV v) = true) {l l' c c' v : Value} (hl : VRel μ l l') (hc : VRel μ c c')
    (h : mkSl z.cells.toList bytes S l c = some (v, S')) : ∃ v' μ' w', (makeSlice t l' c').run P w = .ok v' w' ∧ VRel μ' v v' ∧ Rel B μ' S' w' ∧ Fr S S' μ μ' w w' := by
  unfold mkSl at h
  split at h
  · rename_i n m
    split at h
    · rename_i hcond
      obtain ⟨h0, h1, h2, h3⟩ := hcond
      cases h
      cases hl; cases hc
      obtain ⟨bi, hbi, hbb⟩ := run_bytesOf (P := P) hb w
      have hw1 : IntKind.i64.wrap n = n := IntWalk.i64_in _ (by omega)
      have hw2 : IntKind.i64.wrap m = m := IntWalk.i64_in _ (by omega)
      have hlt : ¬ (bytes : Int) * m > 281474976710656 := by omega
      have hrow : ((Array.range (m.toNat * esz)).map (z.cells[· % z.cells.size]!)).toList = repL z.cells.toList m.toNat := zero_row hsz hpos
      have hnew := r.new hf (o := .cells false (repL z.cells.toList m.toNat)) rfl (ob := .cells ((Array.range (m.toNat * esz)).map (z.cells[· % z.cells.size]!)) e) _ (cells_new e (by
        rw [hrow]
        exact LRel.of_get rfl (fun i v hv => ⟨v, hv, by
          have := repL_mem _ _ _ (List.mem_of_getElem? hv)
          exact scal_rel μ (by have := List.all_eq_true.1 hz0 _ this; simp at this; exact this.2)⟩)) (fun y hy => by
        have := repL_mem _ _ _ hy
        have := List.all_eq_true.1 hz0 _ this; simp at this; exact this.1))
      refine ⟨.slice (some ⟨w.heap.size, 0, none⟩) n.toNat m.toNat, _, _, ?_, ?_, hnew.1, hnew.2⟩
      · have hr1 : (askRoom (m.toNat * bi.bytes)).run P w = .ok () w := run_askRoom P w _
        by_cases hm0 : m.toNat * esz = 0
        · simp [makeSlice, run_underlying hu, asInt, asIntOf, hbi, hw1, hw2, hbb, hlt, h0, run_szOf hs, newRow, hm0]
          rw [if_neg (show ¬((m < 0 ∨ n < 0) ∨ m < n) by omega)]
          have e0 : Array.range 0 = #[] := rfl
          simp [e0]
        · have hz' := run_zeroOf hz w
          simp [makeSlice, run_underlying hu, asInt, asIntOf, hbi, hw1, hw2, hbb, hlt, h0, run_szOf hs, newRow, hm0, hz']
          intro hbad
          exact absurd hbad (by omega)
      · exact .slice (o := 0) (d := 0) (if_pos rfl)
    · cases h
  · cases h


/-- A key's kind, and its type. -/
def KFit (P : Program) (kt : TypeId) (kk : KK) : Prop := ∃ d, P.underlying kt = some d ∧ (match kk with | .int => ∃ q, d = .int q | .str => d = .string | .agg => False)

theorem keyT_fit {kt : TypeId} {kk : KK} (h : keyT P kt = some kk) : KFit P kt kk := by
  unfold keyT at h
  split at h
  · cases h; exact ⟨_, by assumption, _, rfl⟩
  · cases h; exact ⟨_, by assumption, rfl⟩
  · cases h

theorem keyEqK_sound {μ : Mu} {d : TypeDesc} {kk : KK} (hk : match kk with | .int => ∃ q, d = .int q | .str => d = .string | .agg => False) {x x' y y' : Value} (hx : VRel μ x x') (hy : VRel μ y y') {b : Bool}
    (h : keyEqK kk x y = some b) : sameNow d x' y' = some b ∧ (b = true → sameBits 10000 y' x' = true) := by
  cases kk with
  | int =>
    obtain ⟨q, rfl⟩ := hk
    unfold keyEqK at h
    split at h
    · rename_i heq; cases heq
      split at h
      · rename_i hkk; subst hkk; cases hx; cases hy; cases h
        refine ⟨by simp [sameNow], fun hb => ?_⟩
        simp only [beq_iff_eq] at hb
        subst hb
        simp [sameBits]
      · cases h
    · rename_i heq; cases heq
    · rename_i heq; cases heq
    · cases h
  | str =>
    subst hk
    unfold keyEqK at h
    split at h
    · rename_i heq; cases heq
    · cases hx; cases hy; cases h
      refine ⟨by simp [sameNow], fun hb => ?_⟩
      have hb := (MapKept.bytes_beq _ _).mp hb
      subst hb
      exact (MapKept.bytes_beq _ _).mpr rfl
    · rename_i heq; cases heq
    · cases h
  | agg => exact hk.elim

/-- What a search among entries finds, in both worlds. -/
inductive FRel (μ : Mu) : Option (Nat × Value) → Option (Nat × Value) → Prop
  | none : FRel μ none none
  | some {i : Nat} {v v' : Value} (h : VRel μ v v') : FRel μ (some (i, v)) (some (i, v'))

theorem findE_sound {μ : Mu} {d : TypeDesc} {kk : KK} (hk : match kk with | .int => ∃ q, d = .int q | .str => d = .string | .agg => False) {k k' : Value} (hkr : VRel μ k k') {es es' : List MapEntry} (h : MRel μ es es') :
    ∀ {i : Nat} {r : Option (Nat × Value)}, findE kk k es i = some r → ∃ r', findNow d k' es' i = some r' ∧ FRel μ r r' ∧
      (∀ j v, r = some (j, v) → i ≤ j ∧ j - i < es.length ∧ ∀ e, es'[j - i]? = some e → sameBits 10000 e.key k' = true) := by
  induction h with
  | nil => intro i r hr; simp only [findE, Option.some.injEq] at hr; subst hr; exact ⟨none, rfl, .none, by simp⟩
  | @cons e e' l l' hke hve hb _ ih =>
    intro i r hr
    simp only [findE] at hr
    split at hr
    · rename_i heq
      cases hr
      obtain ⟨h1, h2⟩ := keyEqK_sound hk hkr hke heq
      refine ⟨some (i, e'.val), by simp [findNow, h1], .some hve, ?_⟩
      intro j v hj
      cases hj
      refine ⟨Nat.le_refl _, by simp, fun e0 he0 => ?_⟩
      simp at he0; subst he0; exact h2 rfl
    · rename_i heq
      obtain ⟨h1, _⟩ := keyEqK_sound hk hkr hke heq
      obtain ⟨r', g1, g2, g3⟩ := ih hr
      refine ⟨r', by simp [findNow, h1, g1], g2, ?_⟩
      intro j v hj
      obtain ⟨f1, f2, f3⟩ := g3 j v hj
      refine ⟨by omega, by simp; omega, fun e0 he0 => f3 e0 ?_⟩
      have : j - i = (j - (i + 1)) + 1 := by omega
      rw [this] at he0
      simpa using he0
    · cases hr

theorem run_checkKey {kt : TypeId} {kk : KK} (h : KFit P kt kk) (emp : Bool) (v : Value) (w : World) : (checkKey emp 10000 kt v).run P w = .ok () w := by
  obtain ⟨d, hd, hk⟩ := h
  suffices hx : ∀ n, (checkKey emp (n + 1) kt v).run P w = .ok () w from hx 9999
  intro n
  cases kk with
  | int => obtain ⟨q, rfl⟩ := hk; simp [checkKey, run_underlying hd]
  | str => subst hk; simp [checkKey, run_underlying hd]
  | agg => exact hk.elim

theorem run_findKey {μ : Mu} {kt : TypeId} {kk : KK} (h : KFit P kt kk) {k k' : Value} (hkr : VRel μ k k') {es es' : List MapEntry} (hm : MRel μ es es') {r : Option (Nat × Value)} (hr : findE kk k es 0 = some r) (w : World) :
    ∃ r', (findKey kt k' es').run P w = .ok r' w ∧ FRel μ r r' ∧ (∀ j v, r = some (j, v) → j < es.length ∧ ∀ e, es'[j]? = some e → sameBits 10000 e.key k' = true) := by
  obtain ⟨d, hd, hk⟩ := h
  obtain ⟨r', h1, h2, h3⟩ := findE_sound hk hkr hm hr
  refine ⟨r', by simp [findKey, run_underlying hd, h1], h2, fun j v hj => ?_⟩
  obtain ⟨_, f2, f3⟩ := h3 j v hj
  exact ⟨by simpa using f2, by simpa using f3⟩

theorem MRel.modify {μ : Mu} {es es' : List MapEntry} (h : MRel μ es es') (i : Nat) {f f' : MapEntry → MapEntry}
    (hf : ∀ e e', VRel μ e.key e'.key → VRel μ e.val e'.val → e.born = e'.born → VRel μ (f e).key (f' e').key ∧ VRel μ (f e).val (f' e').val ∧ (f e).born = (f' e').born) : MRel μ (es.modify i f) (es'.modify i f') := by
  induction h generalizing i with
  | nil => simp; exact .nil
  | @cons e e' l l' hke hve hb ht ih =>
    cases i with
    | zero => simp; obtain ⟨h1, h2, h3⟩ := hf e e' hke hve hb; exact .cons h1 h2 h3 ht
    | succ i => simp; exact .cons hke hve hb (ih i)

theorem MRel.erase {μ : Mu} {es es' : List MapEntry} (h : MRel μ es es') (i : Nat) : MRel μ (es.eraseIdx i) (es'.eraseIdx i) := by
  induction h generalizing i with
  | nil => simp; exact .nil
  | @cons e e' l l' hke hve hb ht ih =>
    cases i with
    | zero => simp; exact ht
    | succ i => simp; exact .cons hke hve hb (ih i)

theorem MRel.born {μ : Mu} {es es' : List MapEntry} (h : MRel μ es es') (i : Nat) : (es[i]?).map (·.born) = (es'[i]?).map (·.born) := by
  induction h generalizing i with
  | nil => simp
  | @cons e e' l l' hke hve hb ht ih =>
    cases i with
    | zero => simp [hb]
    | succ i => simpa using ih i

/-- The block of a map. -/
theorem map_block {B : Nat} {μ : Mu} {S : AS} {w : World} (r : Rel B μ S w) {i b z : Nat} {es : List MapEntry} {clock : Nat} (hm : μ i = some (b, 0, z)) (hi : S.h i = some (.map es clock)) :
    ∃ es', w.heap[b]? = some (.map es' clock) ∧ MRel μ es es'.toList := by
  obtain ⟨b', d', z', h1, ⟨_, es', h2, h3⟩, _⟩ := r.obj i _ hi
  rw [hm] at h1; cases h1
  exact ⟨es', h2, h3⟩

theorem run_getMap {w : World} {b : Nat} {es : Array MapEntry} {clock : Nat} (h : w.heap[b]? = some (.map es clock)) : (getObj b).run P w = .ok (.map es clock) w := by
  simp [getObj, Sem.run, h]

theorem run_setMap {w : World} {b : Nat} {es : Array MapEntry} {clock : Nat} (h : w.heap[b]? = some (.map es clock)) (o : Obj) : (setObj b o).run P w = .ok () { w with heap := w.heap.setIfInBounds b o } := by
  simp [setObj, Sem.run, h]

theorem map_set {B : Nat} {μ : Mu} {S : AS} {w : World} (r : Rel B μ S w) {i b z : Nat} {es : List MapEntry} {clock : Nat} (hm : μ i = some (b, 0, z)) (hi : S.h i = some (.map es clock)) {es2 : List MapEntry} {c2 : Nat} {es2' : Array MapEntry}
    (h2 : MRel μ es2 es2'.toList) : Rel B μ (S.set i (some (.map es2 c2))) { w with heap := w.heap.setIfInBounds b (.map es2' c2) } ∧ Fr S (S.set i (some (.map es2 c2))) μ μ w { w with heap := w.heap.setIfInBounds b (.map es2' c2) } := by
  have hb : b < w.heap.size := r.mu i _ hm
  refine Rel.set r hi rfl hm (fun k hk => ?_) (by simp) rfl rfl rfl ⟨rfl, es2', ?_, h2⟩ rfl
  · simp [Ne.symm hk]
  · simp [hb]

theorem lookM_sound {B : Nat} {μ : Mu} {S : AS} {w : World} (r : Rel B μ S w) {t kt e : TypeId} {kk : KK} (hu : P.underlying t = some (.map kt e)) (hk : KFit P kt kk) {z : Value} (hz : zeroOf P e = some z) (hzr : groundV z = true)
    {x x' k k' v : Value} (hx : VRel μ x x') (hkr : VRel μ k k') (ok : Bool) (h : lookM kk z S x k ok = some v) : ∃ v', (lookup t x' k' ok).run P w = .ok v' w ∧ VRel μ v v' := by
  unfold lookM at h
  have hzz : ∀ w : World, (zeroValue e).run P w = .ok z w := fun w => run_zeroOf hz w
  split at h
  · cases h
  · rename_i es hes
    obtain ⟨es', hget, hmr⟩ : ∃ es' : Array MapEntry, ((x' = .map none ∧ es' = #[]) ∨ ∃ b clock, x' = .map (some b) ∧ w.heap[b]? = some (.map es' clock)) ∧ MRel μ es es'.toList := by
      cases hx with
      | mnil => cases hes; exact ⟨#[], .inl ⟨rfl, rfl⟩, .nil⟩
      | @map i b z' hm =>
        simp only at hes
        split at hes
        · rename_i es0 clock hi
          cases hes
          obtain ⟨es', h1, h2⟩ := map_block r hm hi
          exact ⟨es', .inr ⟨b, clock, rfl, h1⟩, h2⟩
        · cases hes
      | _ => cases hes
    split at h
    · cases h
    · rename_i i u hf
      cases h
      obtain ⟨r', h1, h2, _⟩ := run_findKey (P := P) hk hkr hmr hf w
      cases h2 with
      | some h2 =>
        rename_i u'
        refine ⟨if ok then .tuple #[u', .bool true] else u', ?_, ?_⟩
        · rcases hget with ⟨rfl, rfl⟩ | ⟨b, clock, rfl, hb⟩
          · simp at h1
            simp [lookup, run_underlying hu, run_checkKey (P := P) hk, h1]
          · simp [lookup, run_underlying hu, run_checkKey (P := P) hk, h1, run_getMap (P := P) hb]
        · cases ok
          · simpa using h2
          · simpa using VRel.tuple (.cons h2 (.cons (.bool true) .nil))
    · rename_i hf
      cases h
      obtain ⟨r', h1, h2, _⟩ := run_findKey (P := P) hk hkr hmr hf w
      cases h2
      refine ⟨if ok then .tuple #[z, .bool false] else z, ?_, ?_⟩
      · rcases hget with ⟨rfl, rfl⟩ | ⟨b, clock, rfl, hb⟩
        · simp at h1
          simp [lookup, run_underlying hu, run_checkKey (P := P) hk, h1, hzz]
        · simp [lookup, run_underlying hu, run_checkKey (P := P) hk, h1, run_getMap (P := P) hb, hzz]
      · cases ok
        · simpa using ground_rel μ hzr
        · simpa using VRel.tuple (.cons (ground_rel μ hzr) (.cons (.bool false) .nil))

theorem updM_sound {B : Nat} {μ : Mu} {S S' : AS} {w : World} (r : Rel B μ S w) {t kt e : TypeId} {kk : KK} (hu : P.underlying t = some (.map kt e)) (hk : KFit P kt kk)
    {x x' k k' v v' : Value} (hx : VRel μ x x') (hkr : VRel μ k k') (hv : VRel μ v v') (h : updM kk S x k v = some S') : ∃ w', (mapUpdate t x' k' v').run P w = .ok () w' ∧ Rel B μ S' w' ∧ Fr S S' μ μ w w' := by
  unfold updM at h
  split at h
  · rename_i i
    split at h
    · rename_i es clock hi
      cases hx with
      | @map _ b z hm =>
        obtain ⟨es', hb, hmr⟩ := map_block r hm hi
        split at h
        · cases h
        · rename_i j u hf
          cases h
          obtain ⟨r', h1, h2, h3⟩ := run_findKey (P := P) hk hkr hmr hf w
          cases h2 with
          | some h2 =>
            obtain ⟨hj, hbits⟩ := h3 j u rfl
            have hjl : j < es'.toList.length := by rw [← hmr.length]; exact hj
            have hkey : ∀ w : World, (keyThatStays (((es'[j]?).map (·.key)).getD k') k').run P w = .ok k' w := by
              intro w
              have : sameBits 10000 (es'[j]'(by simpa using hjl)).key k' = true := hbits _ (by simp)
              simp at hjl
              simp [keyThatStays, hjl, this]
            have hset := map_set r hm hi (es2 := modE es j fun e => { e with key := k, val := v }) (c2 := clock) (es2' := es'.modify j fun e => { e with key := k', val := v' }) (by
              rw [Array.toList_modify]
              exact hmr.modify j (fun e e' h1 h2 h3 => ⟨hkr, hv, h3⟩))
            refine ⟨_, ?_, hset⟩
            unfold mapUpdate
            simp only [Sem.run_bind, run_underlying hu, Result.andThen_ok, run_getMap (P := P) hb, run_checkKey (P := P) hk, h1, hkey, run_setMap (P := P) hb]
        · rename_i hf
          cases h
          obtain ⟨r', h1, h2, h3⟩ := run_findKey (P := P) hk hkr hmr hf w
          cases h2
          have hset := map_set r hm hi (es2 := es ++ [{ key := k, val := v, born := clock }]) (c2 := clock + 1) (es2' := es'.push { key := k', val := v', born := clock }) (by
            rw [Array.toList_push]
            exact hmr.append (.cons hkr hv rfl .nil))
          refine ⟨_, ?_, hset⟩
          unfold mapUpdate
          simp only [Sem.run_bind, run_underlying hu, Result.andThen_ok, run_getMap (P := P) hb, run_checkKey (P := P) hk, h1, run_setMap (P := P) hb]
    · cases h
  · cases h

theorem delM_sound {B : Nat} {μ : Mu} {S S' : AS} {w : World} (r : Rel B μ S w) {t u kt e : TypeId} {kk : KK} (hu : P.underlying t = some (.map kt e)) (hk : KFit P kt kk) (ty : TypeId)
    {x x' k k' : Value} (hx : VRel μ x x') (hkr : VRel μ k k') (h : delM kk S x k = some S') : ∃ w', (Builtin.delete_ #[t, u] ty #[x', k']).run P w = .ok (.tuple #[]) w' ∧ Rel B μ S' w' ∧ Fr S S' μ μ w w' := by
  unfold delM at h
  split at h
  · cases h
    cases hx
    refine ⟨w, ?_, r, Fr.refl _ _ _⟩
    simp [Builtin.delete_, run_underlying hu, run_checkKey (P := P) hk]
  · rename_i i
    split at h
    · rename_i es clock hi
      cases hx with
      | @map _ b z hm =>
        obtain ⟨es', hb, hmr⟩ := map_block r hm hi
        split at h
        · cases h
        · rename_i j v hf
          cases h
          obtain ⟨r', h1, h2, h3⟩ := run_findKey (P := P) hk hkr hmr hf w
          cases h2 with
          | some h2 =>
            have hset := map_set r hm hi (es2 := es.eraseIdx j) (c2 := clock) (es2' := es'.eraseIdxIfInBounds j) (by
              rw [Array.toList_eraseIdxIfInBounds]
              exact hmr.erase j)
            refine ⟨_, ?_, hset⟩
            simp [Builtin.delete_, run_underlying hu, run_getMap (P := P) hb, run_checkKey (P := P) hk, h1, run_setMap (P := P) hb]
        · rename_i hf
          cases h
          obtain ⟨r', h1, h2, h3⟩ := run_findKey (P := P) hk hkr hmr hf w
          cases h2
          have hset := map_set r hm hi (es2 := es) (c2 := clock) (es2' := es') hmr
          refine ⟨_, ?_, hset⟩
          simp [Builtin.delete_, run_underlying hu, run_getMap (P := P) hb, run_checkKey (P := P) hk, h1, run_setMap (P := P) hb]
    · cases h
  · cases h

theorem entM_sound {B : Nat} {μ : Mu} {S S' : AS} {w : World} (r : Rel B μ S w) {t kt e : TypeId} {kk : KK} (hu : P.underlying t = some (.map kt e)) (hk : KFit P kt kk) {z : Value} (hz : zeroOf P e = some z) (hzr : groundV z = true)
    {x x' k k' v : Value} (hx : VRel μ x x') (hkr : VRel μ k k') (h : entM kk z S x k = some (v, S')) : ∃ v' w', (mapEntry t x' k').run P w = .ok v' w' ∧ VRel μ v v' ∧ Rel B μ S' w' ∧ Fr S S' μ μ w w' := by
  have hzz : ∀ w : World, (zeroValue e).run P w = .ok z w := fun w => run_zeroOf hz w
  unfold entM at h
  split at h
  · rename_i i
    split at h
    · rename_i es clock hi
      cases hx with
      | @map _ b z' hm =>
        obtain ⟨es', hb, hmr⟩ := map_block r hm hi
        split at h
        · cases h
        · rename_i j u hf
          simp only [Option.some.injEq, Prod.mk.injEq] at h
          obtain ⟨rfl, rfl⟩ := h
          obtain ⟨r', h1, h2, h3⟩ := run_findKey (P := P) hk hkr hmr hf w
          cases h2 with
          | some h2 =>
            rename_i u'
            obtain ⟨hj, hbits⟩ := h3 j u rfl
            have hjl : j < es'.toList.length := by rw [← hmr.length]; exact hj
            have hkey : ∀ w : World, (keyThatStays (((es'[j]?).map (·.key)).getD k') k').run P w = .ok k' w := by
              intro w
              have : sameBits 10000 (es'[j]'(by simpa using hjl)).key k' = true := hbits _ (by simp)
              simp at hjl
              simp [keyThatStays, hjl, this]
            have hset := map_set r hm hi (es2 := modE es j fun e => { e with key := k }) (c2 := clock) (es2' := es'.modify j fun e => { e with key := k' }) (by
              rw [Array.toList_modify]
              exact hmr.modify j (fun e e' h1 h2 h3 => ⟨hkr, h2, h3⟩))
            have hborn := hmr.born j
            refine ⟨.tuple #[u', goInt (((es'[j]?).map (·.born)).getD 0)], _, ?_, ?_, hset⟩
            · unfold mapEntry
              simp only [Sem.run_bind, run_underlying hu, Result.andThen_ok, run_getMap (P := P) hb, run_checkKey (P := P) hk, h1, hkey, run_setMap (P := P) hb, Sem.run_pure]
            · rw [hborn, Array.getElem?_toList]
              have e9 : ((es'[j]?).map fun x => (x.born : Int)).getD 0 = ((((es'[j]?).map (·.born)).getD 0 : Nat) : Int) := by cases es'[j]? <;> rfl
              rw [e9]
              exact .tuple (.cons h2 (.cons (.int _ _) .nil))
        · rename_i hf
          simp only [Option.some.injEq, Prod.mk.injEq] at h
          obtain ⟨rfl, rfl⟩ := h
          obtain ⟨r', h1, h2, h3⟩ := run_findKey (P := P) hk hkr hmr hf w
          cases h2
          have hset := map_set r hm hi (es2 := es ++ [{ key := k, val := z, born := clock }]) (c2 := clock + 1) (es2' := es'.push { key := k', val := z, born := clock }) (by
            rw [Array.toList_push]
            exact hmr.append (.cons hkr (ground_rel μ hzr) rfl .nil))
          refine ⟨.tuple #[z, goInt clock], _, ?_, .tuple (.cons (ground_rel μ hzr) (.cons (.int _ _) .nil)), hset⟩
          unfold mapEntry
          simp only [Sem.run_bind, run_underlying hu, Result.andThen_ok, run_getMap (P := P) hb, run_checkKey (P := P) hk, h1, hzz, run_setMap (P := P) hb, Sem.run_pure]
    · cases h
  · cases h

theorem MRel.findIdx {μ : Mu} {es es' : List MapEntry} (h : MRel μ es es') (n : Int) : es.findIdx? (fun e => (e.born : Int) == n) = es'.findIdx? (fun e => (e.born : Int) == n) := by
  induction h with
  | nil => rfl
  | @cons e e' l l' hke hve hb ht ih => simp only [List.findIdx?_cons, hb, ih]

theorem entSt_sound {B : Nat} {μ : Mu} {S S' : AS} {w : World} (r : Rel B μ S w) (t : TypeId)
    {x x' k k' v v' : Value} (hx : VRel μ x x') (hkr : VRel μ k k') (hv : VRel μ v v') (h : entSt S x k v = some S') : ∃ w', (entryStore t x' k' v').run P w = .ok () w' ∧ Rel B μ S' w' ∧ Fr S S' μ μ w w' := by
  unfold entSt at h
  split at h
  · rename_i i kq n
    split at h
    · rename_i es clock hi
      cases hx with
      | @map _ b z hm =>
        cases hkr
        obtain ⟨es', hb, hmr⟩ := map_block r hm hi
        split at h
        · rename_i j hj
          cases h
          have hset := map_set r hm hi (es2 := modE es j fun e => { e with val := v }) (c2 := clock) (es2' := es'.modify j fun e => { e with val := v' }) (by
            rw [Array.toList_modify]
            exact hmr.modify j (fun e e' h1 h2 h3 => ⟨h1, hv, h3⟩))
          refine ⟨_, ?_, hset⟩
          have hj' : es'.findIdx? (fun e => (e.born : Int) == n) = some j := by
            rw [hmr.findIdx] at hj
            have := List.findIdx?_toArray (fun e : MapEntry => (e.born : Int) == n) es'.toList
            rw [Array.toArray_toList] at this
            rw [this]
            exact hj
          simp [entryStore, run_getMap (P := P) hb, asInt, asIntOf, hj', run_setMap (P := P) hb]
        · cases h
    · cases h
  · cases h

end Go.Ax

/- Every operation (no call, no step of a range), in both worlds. -/
namespace Go.Ax
open Instr
variable {P : Program}

theorem Done.two {B : Nat} {μ : Mu} {S : AS} {w : World} (r : Rel B μ S w) {run : Sem Value} {v v' : Value} (h : run.run P w = .ok v' w) (hv : VRel μ v v') :
    Done B μ S w ((do pure (.value (← run)) : Sem Next).run P w) v S := .val r (v' := v') (by simp [h]) hv

theorem evo_sound {μ : Mu} {N : Nat} {ρ : Env} {a : Act} (he : ERel μ N ρ a) {x : Option Operand} (hg : ∀ y, x = some y → groundO y = true) {r : Option Value} (h : evo ρ x = some r) :
    (∀ v, r = some v → ∃ v', x.map a.eval = some v' ∧ VRel μ v v') ∧ (r = none → x.map a.eval = none) := by
  cases x with
  | none => simp only [evo, Option.some.injEq] at h; subst h; exact ⟨by simp, by simp⟩
  | some y =>
    simp only [evo] at h
    cases e : ev ρ y with
    | none => rw [e] at h; cases h
    | some v =>
      rw [e] at h; simp only [Option.map_some, Option.some.injEq] at h; subst h
      exact ⟨fun u hu => by cases hu; exact ⟨_, rfl, ev_sound he (hg y rfl) e⟩, by simp⟩

theorem map_some {α β : Type} {f : α → β} {x : Option α} {y : β} (h : x.map f = some y) : ∃ z, x = some z ∧ f z = y := by
  cases x with
  | none => cases h
  | some z => exact ⟨z, rfl, by simpa using h⟩

theorem aggN_und {t : TypeId} {n : Option Nat} (h : aggN P t = some n) : ∃ d, P.underlying t = some d := by
  unfold aggN at h
  cases hu : P.underlying t with
  | none => rw [hu] at h; cases h
  | some d => exact ⟨d, rfl⟩

theorem bin_done {B : Nat} {μ : Mu} {S S' : AS} {w : World} {N : Nat} {ρ : Env} {a : Act} (r : Rel B μ S w) (he : ERel μ N ρ a) {op : BinOp} {t : TypeId} {x y : Operand} {ao : AOp} {v : Value}
    (hgx : groundO x = true) (hgy : groundO y = true) (hc : cBin P op t x y = some ao) (hs : step ao ρ S = some (v, S')) :
    Done B μ S w ((do pure (.value (← (do eqGuard op t x y (a.eval x) (a.eval y); binOp op t (a.eval x) (a.eval y) : Sem Value))) : Sem Next).run P w) v S' := by
  have hb : ao = .bin op x y → Done B μ S w ((do pure (.value (← (do eqGuard op t x y (a.eval x) (a.eval y); binOp op t (a.eval x) (a.eval y) : Sem Value))) : Sem Next).run P w) v S' := by
    intro e; subst e
    simp only [step] at hs
    split at hs
    · rename_i u1 u2 h1 h2
      obtain ⟨z, hz, e⟩ := map_some hs
      cases e
      obtain ⟨k1, k2⟩ := bin_sound (P := P) (ev_sound he hgx h1) (ev_sound he hgy h2) hz t x y w
      exact Done.two r k1 k2
    · cases hs
  unfold cBin at hc
  split at hc
  · cases hc; exact hb rfl
  · cases hc; exact hb rfl
  · rename_i hu
    have key : ∀ neg, ao = .eqB neg x y → op = (if neg = true then .neq else .eql) → Done B μ S w ((do pure (.value (← (do eqGuard op t x y (a.eval x) (a.eval y); binOp op t (a.eval x) (a.eval y) : Sem Value))) : Sem Next).run P w) v S' := by
      intro neg e e2
      subst e; subst e2
      simp only [step] at hs
      split at hs
      · rename_i b1 b2 h1 h2
        cases hs
        have k1 := ev_sound he hgx h1
        have k2 := ev_sound he hgy h2
        generalize a.eval x = xa at k1 ⊢
        generalize a.eval y = ya at k2 ⊢
        cases k1; cases k2
        exact Done.two r (eqB_run hu b1 b2 neg x y w) (.bool _)
      · cases hs
    split at hc
    · cases hc; exact key false rfl rfl
    · cases hc; exact key true rfl rfl
    · cases hc
  · rename_i d hd1 hd2 hd3 hu
    have key : ∀ k neg, nkOf d = some k → ao = .eqNil k neg x y → op = (if neg = true then .neq else .eql) → Done B μ S w ((do pure (.value (← (do eqGuard op t x y (a.eval x) (a.eval y); binOp op t (a.eval x) (a.eval y) : Sem Value))) : Sem Next).run P w) v S' := by
      intro k neg hk e e2
      subst e; subst e2
      simp only [step] at hs
      split at hs
      · rename_i u1 u2 h1 h2
        obtain ⟨z, hz, e⟩ := map_some hs
        cases e
        exact Done.two r (nilEq_run hu hk (nilEq_rel (ev_sound he hgx h1) (ev_sound he hgy h2) hz) neg x y w) (.bool _)
      · cases hs
    split at hc
    · cases hc; rename_i hk; exact key _ false hk rfl rfl
    · cases hc; rename_i hk; exact key _ true hk rfl rfl
    · cases hc
  · cases hc


/-- The built-in functions. -/
theorem call_done {B : Nat} {μ : Mu} {S S' : AS} {w : World} {N : Nat} {ρ : Env} {a : Act} (r : Rel B μ S w) (hf : μ S.nx = none) (he : ERel μ N ρ a) {c : Call} {ao : AOp} {v : Value} {dst : Option Nat} {type : TypeId} {pos : String} {after : Array Edge} {guard : Option (Nat × Bool)}
    (g : ∀ x, x ∈ (Op.call c).operands → groundO x = true) (hc : cCall P c = some ao) (hs : step ao ρ S = some (v, S')) :
    Done B μ S w ((execOp a.eval { dst := dst, op := .call c, type := type, pos := pos, after := after, guard := guard }).run P w) v S' := by
  obtain ⟨callee, args, argTypes⟩ := c
  unfold cCall at hc
  cases callee with
  | value f =>
    simp only at hc
    split at hc
    · cases hc; simp only [step] at hs; cases hs
    · cases hc
  | invoke _ _ => cases hc
  | builtin b =>
    simp only at hc
    have gA : ∀ x, x ∈ args → groundO x = true := fun x hx => g x (by simp [Op.operands, Call.operands, hx])
    have one : ∀ {l : List Operand}, args.toList = l → args = l.toArray := fun h => by rw [← h, Array.toArray_toList]
    have oneT : ∀ {l : List TypeId}, argTypes.toList = l → argTypes = l.toArray := fun h => by rw [← h, Array.toArray_toList]
    split at hc
    · rename_i x t ha ht
      have e1 := one ha; have e2 := oneT ht; subst e1; subst e2
      have gx := gA x (by simp)
      split at hc
      · rename_i hu
        cases hc
        simp only [step] at hs
        split at hs
        · rename_i u hx
          obtain ⟨q, hq, e⟩ := map_some hs
          cases e
          have hxr := ev_sound he gx hx
          generalize hxe : a.eval x = xe at hxr
          unfold lenV at hq
          split at hq
          · rename_i heq; cases heq; cases hq; cases hxr
            exact .val r (v' := .int .i64 _) (by simp [execOp, resolve, invoke, builtin, Builtin.len_, run_underlying hu, hxe, goInt]) (.int _ _)
          all_goals (first | (cases hq; done) | (rename_i heq; cases heq; done) | (rename_i heq _ ; cases heq; done))
        · cases hs
      · rename_i e hu
        cases hc
        simp only [step] at hs
        split at hs
        · rename_i u hx
          obtain ⟨q, hq, e⟩ := map_some hs
          cases e
          have hxr := ev_sound he gx hx
          generalize hxe : a.eval x = xe at hxr
          unfold lenV at hq
          split at hq
          · rename_i heq; cases heq
          · cases hq
            obtain ⟨a', c', rfl⟩ : ∃ a' c', xe = .slice a' _ c' := by cases hxr <;> exact ⟨_, _, rfl⟩
            exact .val r (v' := .int .i64 _) (by simp [execOp, resolve, invoke, builtin, Builtin.len_, run_underlying hu, hxe, goInt]) (.int _ _)
          all_goals (first | (cases hq; done) | (rename_i heq; cases heq; done) | (rename_i heq _ ; cases heq; done))
        · cases hs
      · rename_i kt e hu
        cases hc
        simp only [step] at hs
        split at hs
        · rename_i u hx
          obtain ⟨q, hq, e⟩ := map_some hs
          cases e
          have hxr := ev_sound he gx hx
          generalize hxe : a.eval x = xe at hxr
          unfold lenV at hq
          split at hq
          · rename_i heq; cases heq
          · rename_i heq; cases heq
          · cases hq; cases hxr
            exact .val r (v' := .int .i64 0) (by simp [execOp, resolve, invoke, builtin, Builtin.len_, run_underlying hu, hxe, goInt]) (.int _ _)
          · split at hq
            · rename_i es clock hi
              cases hq
              cases hxr with
              | @map _ b z hm =>
                obtain ⟨es', hb, hmr⟩ := map_block r hm hi
                have hl := hmr.length
                simp only [Array.length_toList] at hl
                exact .val r (v' := .int .i64 es.length) (by simp [execOp, resolve, invoke, builtin, Builtin.len_, run_underlying hu, hxe, goInt, run_getMap (P := P) hb, hl]) (.int _ _)
            · cases hq
          · cases hq
        · cases hs
      · cases hc
    · rename_i x y ha
      have e1 := one ha; subst e1
      cases hc
      simp only [step] at hs
      split at hs
      · rename_i u1 u2 h1 h2
        obtain ⟨q, hq, e⟩ := map_some hs
        cases e
        obtain ⟨k1, k2⟩ := min_sound (P := P) (ev_sound he (gA x (by simp)) h1) (ev_sound he (gA y (by simp)) h2) hq argTypes type w
        exact .val r (v' := _) (by simp [execOp, resolve, invoke, builtin, k1]) k2
      · cases hs
    · rename_i x y ha
      have e1 := one ha; subst e1
      cases hc
      simp only [step] at hs
      split at hs
      · rename_i u1 u2 h1 h2
        obtain ⟨q, hq, e⟩ := map_some hs
        cases e
        obtain ⟨k1, k2⟩ := max_sound (P := P) (ev_sound he (gA x (by simp)) h1) (ev_sound he (gA y (by simp)) h2) hq argTypes type w
        exact .val r (v' := _) (by simp [execOp, resolve, invoke, builtin, k1]) k2
      · cases hs
    · rename_i s x t u ha ht
      have e1 := one ha; have e2 := oneT ht; subst e1; subst e2
      split at hc
      · rename_i e e' hu1 hu2
        split at hc
        · rename_i n b z hn hb hz
          split at hc
          · rename_i hcond
            cases hc
            simp only [step] at hs
            split at hs
            · rename_i u1 u2 h1 h2
              obtain ⟨v', μ', w', k1, k2, k3, k4⟩ := appV_sound (P := P) r hf (ts := #[t, u]) ⟨⟨t, u, e, e', rfl, hu1, hu2, hn, hb, hz⟩, hcond.1, hcond.2.1, hcond.2.2.1, hcond.2.2.2.1, hcond.2.2.2.2⟩ type
                (ev_sound he (gA s (by simp)) h1) (ev_sound he (gA x (by simp)) h2) hs
              exact ⟨v', μ', w', .inl (by simp [execOp, resolve, invoke, builtin, k1]), k2, k3, k4⟩
            · cases hs
          · cases hc
        · cases hc
      · cases hc
    · rename_i d s t u ha ht
      have e1 := one ha; have e2 := oneT ht; subst e1; subst e2
      split at hc
      · rename_i e hu1
        obtain ⟨n, hn, e'⟩ := map_some hc
        subst e'
        simp only [step] at hs
        split at hs
        · rename_i u1 u2 h1 h2
          obtain ⟨v', w', k1, k2, k3, k4⟩ := copyV_sound (P := P) r hu1 hn (u := u) type (ev_sound he (gA d (by simp)) h1) (ev_sound he (gA s (by simp)) h2) hs
          exact ⟨v', μ, w', .inl (by simp [execOp, resolve, invoke, builtin, k1]), k2, k3, k4⟩
        · cases hs
      · cases hc
    · rename_i x t ha ht
      have e1 := one ha; have e2 := oneT ht; subst e1; subst e2
      split at hc
      · rename_i e hu
        split at hc
        · rename_i z hz
          split at hc
          · rename_i hcond
            cases hc
            simp only [step] at hs
            split at hs
            · rename_i u1 h1
              obtain ⟨S1, hS, e'⟩ := map_some hs
              cases e'
              obtain ⟨w', k1, k2, k3⟩ := clearS_sound (P := P) r hu hz hcond.2 hcond.1 type (ev_sound he (gA x (by simp)) h1) hS
              exact ⟨.tuple #[], μ, w', .inl (by simp [execOp, resolve, invoke, builtin, k1]), .tuple .nil, k2, k3⟩
            · cases hs
          · cases hc
        · cases hc
      · cases hc
    · rename_i x k t u ha ht
      have e1 := one ha; have e2 := oneT ht; subst e1; subst e2
      split at hc
      · rename_i kt e hu
        obtain ⟨kk, hk, e'⟩ := map_some hc
        subst e'
        simp only [step] at hs
        split at hs
        · rename_i u1 u2 h1 h2
          obtain ⟨S1, hS, e'⟩ := map_some hs
          cases e'
          obtain ⟨w', k1, k2, k3⟩ := delM_sound (P := P) r (u := u) hu (keyT_fit hk) type (ev_sound he (gA x (by simp)) h1) (ev_sound he (gA k (by simp)) h2) hS
          exact ⟨.tuple #[], μ, w', .inl (by simp [execOp, resolve, invoke, builtin, k1]), .tuple .nil, k2, k3⟩
        · cases hs
      · cases hc
    · cases hc

theorem step_sound {B : Nat} {μ : Mu} {S S' : AS} {w : World} {N : Nat} {ρ : Env} {a : Act} (r : Rel B μ S w) (hf : μ S.nx = none) (he : ERel μ N ρ a) {o : Oper} {ao : AOp} (hc : cOp P o = some ao) {v : Value} (hs : step ao ρ S = some (v, S')) :
    Done B μ S w ((execOp a.eval o).run P w) v S' := by
  obtain ⟨dst, op, type, pos, after, guard⟩ := o
  unfold cOp at hc
  split at hc
  · cases hc
  rename_i hg
  simp only [Bool.not_eq_false] at hg
  have g : ∀ x, x ∈ op.operands → groundO x = true := fun x hx => List.all_eq_true.1 hg x (by simpa using hx)
  cases op <;> simp only at hc
  case move x =>
    cases hc
    simp only [step] at hs
    obtain ⟨u, hu, e⟩ := map_some hs
    cases e
    exact .val r (v' := a.eval x) (by simp [execOp]) (ev_sound he (g x (by simp [Op.operands])) hu)
  case assign x =>
    cases hc
    simp only [step] at hs
    obtain ⟨u, hu, e⟩ := map_some hs
    cases e
    exact .val r (v' := a.eval x) (by simp [execOp]) (ev_sound he (g x (by simp [Op.operands])) hu)
  case pick c x y =>
    cases hc
    simp only [step] at hs
    split at hs
    · rename_i t ht
      have hcr := ev_sound he (g c (by simp [Op.operands])) ht
      generalize hce : a.eval c = ce at hcr
      cases hcr
      split at hs
      · rename_i ht; subst ht
        obtain ⟨u, hu, e⟩ := map_some hs
        cases e
        exact .val r (v' := a.eval x) (by simp [execOp, hce, asBool]) (ev_sound he (g x (by simp [Op.operands])) hu)
      · rename_i ht
        simp only [Bool.not_eq_true] at ht; subst ht
        obtain ⟨u, hu, e⟩ := map_some hs
        cases e
        exact .val r (v' := a.eval y) (by simp [execOp, hce, asBool]) (ev_sound he (g y (by simp [Op.operands])) hu)
    · cases hs
  case alloc e =>
    split at hc
    · rename_i z hz
      split at hc
      · rename_i hz1
        cases hc
        simp only [step] at hs
        cases hs
        obtain ⟨h1, h2⟩ := ones hz1 μ
        refine new_done r hf rfl _ (cells_new e h1 h2) ?_ (fun μ' hm => .ptr (o := 0) (d := 0) hm)
        simp [execOp, Instr.alloc, run_zeroOf hz, newVar, newRow]
      · cases hc
    · cases hc
  case box e x =>
    cases hc
    simp only [step] at hs
    split at hs
    · rename_i u hu
      split at hs
      · rename_i hk
        cases hs
        obtain ⟨h1, h2⟩ := (ev_sound he (g x (by simp [Op.operands])) hu).cells hk
        refine new_done r hf rfl _ (cells_new e h1 h2) ?_ (fun μ' hm => .ptr (o := 0) (d := 0) hm)
        simp [execOp, Instr.box, newVar, newRow]
      · cases hs
    · cases hs
  case build t ps =>
    have hgp : (ps.toList.map (·.2)).all groundO = true := List.all_eq_true.2 fun x hx => g x (by simpa [Op.operands] using hx)
    split at hc
    · rename_i z fields hz hu
      split at hc
      · rename_i hcond
        obtain ⟨qs, hq, e⟩ := map_some hc
        subst e
        simp only [step] at hs
        split at hs
        · rename_i vs hvs
          obtain ⟨cs, hcs, e⟩ := map_some hs
          cases e
          obtain ⟨h1, h2⟩ := ones hcond.2 μ
          obtain ⟨places, hp1, hp2⟩ := szs_places (P := P) hcond.1
          have hpr := partsS_rel (P := P) he (fields := fields) (place := fun i => places.toArray[i]?) (by intro i; simpa using hp2 i) hgp hq hvs
          obtain ⟨c1, k1, k2, k3⟩ := fill_sound hpr h1 h2 hcs
          refine .val r (v' := .agg c1) ?_ (.agg (by simpa using k2) (by simpa using k3))
          obtain ⟨zi, hzi, hzz⟩ : ∃ i, P.info? t = some i ∧ i.zero = some z := by
            unfold zeroOf at hz
            cases hi : P.info? t with
            | none => simp [hi] at hz
            | some i => exact ⟨i, rfl, by simpa [hi] using hz⟩
          have hb := run_build (P := P) w t (ps.map fun (i, x) => (i, a.eval x)) c1 (by
            unfold Program.built
            simp only [hzi, hu, hzz, hp1]
            rw [Array.toList_map]
            exact k1)
          simp only [execOp, Sem.run_bind, hb, Result.andThen_ok, Sem.run_pure]
        · cases hs
      · cases hc
    · rename_i z n e hz hu
      split at hc
      · rename_i m hm
        split at hc
        · rename_i hz1
          cases hc
          simp only [step] at hs
          split at hs
          · rename_i vs hvs
            obtain ⟨cs, hcs, e'⟩ := map_some hs
            cases e'
            obtain ⟨h1, h2⟩ := ones hz1 μ
            have hpr := partsA_rel he hgp hvs
            obtain ⟨c1, k1, k2, k3⟩ := fill_sound hpr h1 h2 hcs
            refine .val r (v' := .agg c1) ?_ (.agg (by simpa using k2) (by simpa using k3))
            obtain ⟨zi, hzi, hzz⟩ : ∃ i, P.info? t = some i ∧ i.zero = some z := by
              unfold zeroOf at hz
              cases hi : P.info? t with
              | none => simp [hi] at hz
              | some i => exact ⟨i, rfl, by simpa [hi] using hz⟩
            obtain ⟨ie, hie, hies⟩ := run_szOf' hm
            have hb := run_build (P := P) w t (ps.map fun (i, x) => (i, a.eval x)) c1 (by
              unfold Program.built
              simp only [hzi, hu, hzz, hie, hies]
              rw [Array.toList_map]
              exact k1)
            simp only [execOp, Sem.run_bind, hb, Result.andThen_ok, Sem.run_pure]
          · cases hs
        · cases hc
      · cases hc
    · cases hc
  case buildSlice t len ps =>
    have hgp : (ps.toList.map (·.2)).all groundO = true := List.all_eq_true.2 fun x hx => g x (by simpa [Op.operands] using hx)
    split at hc
    · rename_i e hu
      split at hc
      · rename_i n z hn hz
        split at hc
        · rename_i hc0
          obtain ⟨rfl, hps⟩ := hc0
          cases hc
          simp only [step, evp, fillL, Option.map_some, Option.some.injEq, Prod.mk.injEq] at hs
          obtain ⟨rfl, rfl⟩ := hs
          obtain ⟨ie, hie, hies⟩ := run_szOf' hn
          have hps' : ps = #[] := by simpa using hps
          have hb : (Instr.buildSlice t 0 (ps.map fun (i, x) => (i, a.eval x))).run P w = .ok (.slice (some ⟨w.heap.size, 0, none⟩) 0 0) (w.alloc (.cells #[] e)) := by
            subst hps'
            have hz0 : Array.range 0 = #[] := by simp [Array.range]
            simp [Instr.buildSlice, run_underlying hu, sizeOf, typeInfo, hie, Instr.fill, newRow, hz0]
          refine new_done r hf rfl _ (cells_new e (cs := []) (c := #[]) .nil (by simp)) ?_ (fun μ' hm => .slice (o := 0) (d := 0) hm)
          simp only [execOp, Sem.run_bind, hb, Result.andThen_ok, Sem.run_pure]
        split at hc
        · rename_i hcond
          obtain ⟨c1', c2', c3', c4'⟩ := hcond
          cases hc
          simp only [step] at hs
          split at hs
          · rename_i vs hvs
            obtain ⟨cs, hcs, e'⟩ := map_some hs
            cases e'
            obtain ⟨ie, hie, hies⟩ := run_szOf' hn
            have hnpos : 0 < n := by
              rcases Nat.eq_zero_or_pos n with h0 | h0
              · subst h0; simp at c1'
              · exact h0
            have hrow : ((Array.range (len * n)).map (z.cells[· % z.cells.size]!)).toList = repL z.cells.toList len := zero_row c3' hnpos
            have hzl : LRel μ (repL z.cells.toList len) ((Array.range (len * n)).map (z.cells[· % z.cells.size]!)).toList := by
              rw [hrow]
              exact LRel.of_get rfl (fun i v hv => ⟨v, hv, by
                have := repL_mem _ _ _ (List.mem_of_getElem? hv)
                exact scal_rel μ (by have := List.all_eq_true.1 c4' _ this; simp at this; exact this.2)⟩)
            have hz1 : ∀ x ∈ repL z.cells.toList len, x.oneCell' = true := fun y hy => by
              have := repL_mem _ _ _ hy
              have := List.all_eq_true.1 c4' _ this; simp at this; exact this.1
            have hpr := partsA_rel he hgp hvs
            obtain ⟨c1, k1, k2, k3⟩ := fill_sound hpr hzl hz1 hcs
            have hzi : ie.zero = some z := by unfold zeroOf at hz; simpa [hie] using hz
            have hb := run_buildSlice (P := P) w t e len (ps.map fun (i, x) => (i, a.eval x)) c1 ie z hu hie hzi (by rw [hies]; omega) (by rw [hies]; omega) (by
              rw [hies, Array.toList_map]
              exact k1)
            refine new_done r hf rfl _ (cells_new e k2 k3) ?_ (fun μ' hm => .slice (o := 0) (d := 0) hm)
            simp only [execOp, Sem.run_bind, hb, Result.andThen_ok, Sem.run_pure]
          · cases hs
        · cases hc
      · cases hc
    · cases hc
  case load t x =>
    obtain ⟨n, hn, e⟩ := map_some hc
    subst e
    simp only [step] at hs
    split at hs
    · rename_i b o hx
      have hxr := ev_sound he (g x (by simp [Op.operands])) hx
      generalize hxe : a.eval x = xe at hxr
      cases hxr with
      | @ptr _ _ bb d z hm =>
        split at hs
        · rename_i cs hcs
          obtain ⟨u, hu, e⟩ := map_some hs
          cases e
          obtain ⟨c, e, fz, h1, h2, h3, h4⟩ := getCells_sound r hm hcs
          obtain ⟨v', k1, k2⟩ := run_loadVarN (P := P) hn h1 h2 h4 h3 hu
          exact .val r (v' := v') (by simp [execOp, hxe, loadAt, sureAddr, k1]) k2
        · cases hs
    · cases hs
  case store t x y =>
    obtain ⟨n, hn, e⟩ := map_some hc
    subst e
    simp only [step] at hs
    split at hs
    · rename_i b o u hx hy
      split at hs
      · rename_i hcond
        obtain ⟨S1, hS1, e⟩ := map_some hs
        cases e
        have hxr := ev_sound he (g x (by simp [Op.operands])) hx
        have hyr := ev_sound he (g y (by simp [Op.operands])) hy
        generalize hxe : a.eval x = xe at hxr
        cases hxr with
        | @ptr _ _ bb d z hm =>
          obtain ⟨k1, k2⟩ := hyr.cells hcond.1
          obtain ⟨w', hst, hr, hfr⟩ := setCells_sound (P := P) r hm k1 k2 hS1
          refine ⟨undef, μ, w', .inr ⟨?_, rfl⟩, undef_rel μ, hr, hfr⟩
          have hsz : (a.eval y).cells.size = n := by
            have := k1.length
            simp only [Array.length_toList] at this
            omega
          simp [execOp, hxe, storeAt, sureAddr, storeVar, run_szOf hn, hsz, hst]
      · cases hs
    · cases hs
  case nilCheck x =>
    cases hc
    simp only [step] at hs
    split at hs
    · rename_i ad hx
      cases hs
      have hxr := ev_sound he (g x (by simp [Op.operands])) hx
      generalize hxe : a.eval x = xe at hxr
      cases hxr with
      | ptr hm => exact .val r (by simp [execOp, hxe]) (.ptr hm)
    · cases hs
  case binOp op t x y t2 =>
    have := bin_done r he (g x (by simp [Op.operands])) (g y (by simp [Op.operands])) hc hs
    simpa [execOp] using this
  case unOp op t x =>
    cases hc
    simp only [step] at hs
    split at hs
    · rename_i u hu
      obtain ⟨z, hz, e⟩ := map_some hs
      cases e
      obtain ⟨k1, k2⟩ := un_sound (P := P) (ev_sound he (g x (by simp [Op.operands])) hu) hz w
      exact .val r (v' := _) (by simp [execOp, k1]) k2
    · cases hs
  case convert s d x =>
    split at hc
    · rename_i k0 k hu1 hu2
      cases hc
      simp only [step] at hs
      split at hs
      · rename_i kx n hx
        cases hs
        have hxr := ev_sound he (g x (by simp [Op.operands])) hx
        generalize hxe : a.eval x = xe at hxr
        cases hxr
        exact .val r (v' := .int k (k.wrap n)) (by simp [execOp, hxe, conv_sound (P := P) hu1 hu2 kx n w]) (.int _ _)
      · cases hs
    · cases hc
  case makeFunc fn first captured =>
    cases hc
    simp only [step] at hs
    split at hs
    · rename_i u1 u2 h1 h2
      cases hs
      have k1 := evs_sound he (List.all_eq_true.2 fun x hx => g x (by simp [Op.operands]; exact .inl (by simpa using hx))) h1
      have k2 := evs_sound he (List.all_eq_true.2 fun x hx => g x (by simp [Op.operands]; exact .inr (by simpa using hx))) h2
      exact .val r (v' := .func fn (first.map a.eval) (captured.map a.eval)) (by simp [execOp, Instr.makeFunc]) (.func fn (by simpa using k1) (by simpa using k2))
    · cases hs
  case makeMap t res =>
    cases res with
    | some _ => cases hc
    | none =>
      cases hc
      simp only [step] at hs
      cases hs
      have := r.new hf (o := .map [] 0) (ob := .map #[] 0) rfl 0 (by intro μ' w' hs hw; exact ⟨rfl, #[], hw, .nil⟩)
      exact ⟨.map (some w.heap.size), _, _, .inl (by simp [execOp, Instr.makeMap]), .map (if_pos rfl), this.1, this.2⟩
  case makeSlice t l c =>
    split at hc
    · rename_i e hu
      split at hc
      · rename_i n b z hn hb hz
        split at hc
        · rename_i hcond
          cases hc
          simp only [step] at hs
          split at hs
          · rename_i u1 u2 h1 h2
            obtain ⟨v', μ', w', k1, k2, k3, k4⟩ := mkSl_sound (P := P) r hf hu hn hb hz hcond.1 hcond.2.1 hcond.2.2 (ev_sound he (g l (by simp [Op.operands])) h1) (ev_sound he (g c (by simp [Op.operands])) h2) hs
            exact ⟨v', μ', w', .inl (by simp [execOp, k1]), k2, k3, k4⟩
          · cases hs
        · cases hc
      · cases hc
    · cases hc
  case slice t x lo hi mx =>
    have gx := g x (by simp [Op.operands])
    have glo : ∀ y, lo = some y → groundO y = true := fun y hy => g y (by subst hy; simp [Op.operands])
    have ghi : ∀ y, hi = some y → groundO y = true := fun y hy => g y (by subst hy; simp [Op.operands])
    have gmx : ∀ y, mx = some y → groundO y = true := fun y hy => g y (by subst hy; simp [Op.operands])
    split at hc
    · rename_i e hu
      obtain ⟨n, hn, e'⟩ := map_some hc
      subst e'
      simp only [step] at hs
      split at hs
      · rename_i u1 u2 u3 u4 h1 h2 h3 h4
        obtain ⟨z, hz, e'⟩ := map_some hs
        cases e'
        have k2 := evo_sound he glo h2
        have k3 := evo_sound he ghi h3
        have k4 := evo_sound he gmx h4
        obtain ⟨v', q1, q2⟩ := sliceV_sound (P := P) hu hn (ev_sound he gx h1) k2.1 k2.2 k3.1 k3.2 k4.1 k4.2 hz w
        exact .val r (v' := v') (by simp [execOp, q1]) q2
      · cases hs
    · rename_i k e hu
      obtain ⟨n, hn, e'⟩ := map_some hc
      subst e'
      simp only [step] at hs
      split at hs
      · rename_i u1 u2 u3 u4 h1 h2 h3 h4
        obtain ⟨z, hz, e'⟩ := map_some hs
        cases e'
        have k2 := evo_sound he glo h2
        have k3 := evo_sound he ghi h3
        have k4 := evo_sound he gmx h4
        obtain ⟨v', q1, q2⟩ := sliceA_sound (P := P) hu hn (ev_sound he gx h1) k2.1 k2.2 k3.1 k3.2 k4.1 k4.2 hz w
        exact .val r (v' := v') (by simp [execOp, q1]) q2
      · cases hs
    · rename_i hu
      cases mx with
      | some _ => cases hc
      | none =>
        cases hc
        simp only [step] at hs
        split at hs
        · rename_i u1 u2 u3 h1 h2 h3
          obtain ⟨z, hz, e'⟩ := map_some hs
          cases e'
          have k2 := evo_sound he glo h2
          have k3 := evo_sound he ghi h3
          obtain ⟨v', q1, q2⟩ := sliceStr_sound (P := P) hu (ev_sound he gx h1) k2.1 k2.2 k3.1 k3.2 hz w
          exact .val r (v' := v') (by simp [execOp, q1]) q2
        · cases hs
    · cases hc
  case fieldAddr s x f =>
    split at hc
    · rename_i fd hf
      split at hc
      · rename_i n hn
        split at hc
        · rename_i hpos
          cases hc
          simp only [step] at hs
          split at hs
          · rename_i u hu
            obtain ⟨z, hz, e⟩ := map_some hs
            cases e
            obtain ⟨v', k1, k2⟩ := addOff_sound (P := P) hf hn hpos (ev_sound he (g x (by simp [Op.operands])) hu) hz w
            exact .val r (v' := v') (by simp [execOp, k1]) k2
          · cases hs
        · cases hc
      · cases hc
    · cases hc
  case field s x f =>
    split at hc
    · rename_i fd hf
      obtain ⟨n, hn, e⟩ := map_some hc
      subst e
      simp only [step] at hs
      split at hs
      · rename_i u hu
        obtain ⟨z, hz, e⟩ := map_some hs
        cases e
        obtain ⟨v', k1, k2⟩ := fld_sound (P := P) hf hn (ev_sound he (g x (by simp [Op.operands])) hu) hz w
        exact .val r (v' := v') (by simp [execOp, k1]) k2
      · cases hs
    · cases hc
  case indexAddr t x i =>
    split at hc
    · rename_i e hu
      obtain ⟨n, hn, e'⟩ := map_some hc
      subst e'
      simp only [step] at hs
      split at hs
      · rename_i u1 u2 h1 h2
        obtain ⟨z, hz, e'⟩ := map_some hs
        cases e'
        obtain ⟨v', k1, k2⟩ := idxSl_sound (P := P) hu hn (ev_sound he (g x (by simp [Op.operands])) h1) (ev_sound he (g i (by simp [Op.operands])) h2) hz w
        exact .val r (v' := v') (by simp [execOp, k1]) k2
      · cases hs
    · rename_i len e hu
      obtain ⟨n, hn, e'⟩ := map_some hc
      subst e'
      simp only [step] at hs
      split at hs
      · rename_i u1 u2 h1 h2
        obtain ⟨z, hz, e'⟩ := map_some hs
        cases e'
        obtain ⟨v', k1, k2⟩ := idxAr_sound (P := P) hu hn (ev_sound he (g x (by simp [Op.operands])) h1) (ev_sound he (g i (by simp [Op.operands])) h2) hz w
        exact .val r (v' := v') (by simp [execOp, k1]) k2
      · cases hs
    · cases hc
  case index t x i =>
    split at hc
    · rename_i len e hu
      split at hc
      · rename_i m n hm hn
        cases hc
        simp only [step] at hs
        split at hs
        · rename_i u1 u2 h1 h2
          obtain ⟨z, hz, e'⟩ := map_some hs
          cases e'
          obtain ⟨v', k1, k2⟩ := idxV_sound (P := P) hu hm hn (ev_sound he (g x (by simp [Op.operands])) h1) (ev_sound he (g i (by simp [Op.operands])) h2) hz w
          exact .val r (v' := v') (by simp [execOp, k1]) k2
        · cases hs
      · cases hc
    · rename_i hu
      cases hc
      simp only [step] at hs
      split at hs
      · rename_i u1 u2 h1 h2
        obtain ⟨z, hz, e'⟩ := map_some hs
        cases e'
        obtain ⟨v', k1, k2⟩ := idxStr_sound (P := P) hu (ev_sound he (g x (by simp [Op.operands])) h1) (ev_sound he (g i (by simp [Op.operands])) h2) hz w
        exact .val r (v' := v') (by simp [execOp, k1]) k2
      · cases hs
    · cases hc
  case lookup t x k ok =>
    split at hc
    · rename_i kt e hu
      split at hc
      · rename_i z hz
        split at hc
        · rename_i hzg
          obtain ⟨kk, hk, e'⟩ := map_some hc
          subst e'
          simp only [step] at hs
          split at hs
          · rename_i u1 u2 h1 h2
            obtain ⟨q, hq, e'⟩ := map_some hs
            cases e'
            obtain ⟨v', k1, k2⟩ := lookM_sound (P := P) r hu (keyT_fit hk) hz hzg (ev_sound he (g x (by simp [Op.operands])) h1) (ev_sound he (g k (by simp [Op.operands])) h2) ok hq
            exact .val r (v' := v') (by simp [execOp, k1]) k2
          · cases hs
        · cases hc
      · cases hc
    · cases hc
  case mapUpdate t m k x =>
    split at hc
    · rename_i kt e hu
      obtain ⟨kk, hk, e'⟩ := map_some hc
      subst e'
      simp only [step] at hs
      split at hs
      · rename_i u1 u2 u3 h1 h2 h3
        obtain ⟨S1, hS, e'⟩ := map_some hs
        cases e'
        obtain ⟨w', k1, k2, k3⟩ := updM_sound (P := P) r hu (keyT_fit hk) (ev_sound he (g m (by simp [Op.operands])) h1) (ev_sound he (g k (by simp [Op.operands])) h2) (ev_sound he (g x (by simp [Op.operands])) h3) hS
        exact ⟨undef, μ, w', .inr ⟨by simp [execOp, k1], rfl⟩, undef_rel μ, k2, k3⟩
      · cases hs
    · cases hc
  case insert t m k x =>
    split at hc
    · rename_i kt e hu
      obtain ⟨kk, hk, e'⟩ := map_some hc
      subst e'
      simp only [step] at hs
      split at hs
      · rename_i u1 u2 u3 h1 h2 h3
        obtain ⟨S1, hS, e'⟩ := map_some hs
        cases e'
        obtain ⟨w', k1, k2, k3⟩ := updM_sound (P := P) r hu (keyT_fit hk) (ev_sound he (g m (by simp [Op.operands])) h1) (ev_sound he (g k (by simp [Op.operands])) h2) (ev_sound he (g x (by simp [Op.operands])) h3) hS
        exact ⟨undef, μ, w', .inr ⟨by simp [execOp, k1], rfl⟩, undef_rel μ, k2, k3⟩
      · cases hs
    · cases hc
  case mapEntry t m k =>
    split at hc
    · rename_i kt e hu
      split at hc
      · rename_i z hz
        split at hc
        · rename_i hzg
          obtain ⟨kk, hk, e'⟩ := map_some hc
          subst e'
          simp only [step] at hs
          split at hs
          · rename_i u1 u2 h1 h2
            obtain ⟨v', w', k1, k2, k3, k4⟩ := entM_sound (P := P) r hu (keyT_fit hk) hz hzg (ev_sound he (g m (by simp [Op.operands])) h1) (ev_sound he (g k (by simp [Op.operands])) h2) hs
            exact ⟨v', μ, w', .inl (by simp [execOp, k1]), k2, k3, k4⟩
          · cases hs
        · cases hc
      · cases hc
    · cases hc
  case entryStore t m st x =>
    cases hc
    simp only [step] at hs
    split at hs
    · rename_i u1 u2 u3 h1 h2 h3
      obtain ⟨S1, hS, e'⟩ := map_some hs
      cases e'
      obtain ⟨w', k1, k2, k3⟩ := entSt_sound (P := P) r t (ev_sound he (g m (by simp [Op.operands])) h1) (ev_sound he (g st (by simp [Op.operands])) h2) (ev_sound he (g x (by simp [Op.operands])) h3) hS
      exact ⟨undef, μ, w', .inr ⟨by simp [execOp, k1], rfl⟩, undef_rel μ, k2, k3⟩
    · cases hs
  case extract t i =>
    cases hc
    simp only [step] at hs
    split at hs
    · rename_i u hu
      obtain ⟨z, hz, e⟩ := map_some hs
      cases e
      obtain ⟨v', k1, k2⟩ := extr_sound (P := P) (ev_sound he (g t (by simp [Op.operands])) hu) hz w
      exact .val r (v' := v') (by simp [execOp, k1]) k2
    · cases hs
  case range t x =>
    have gx := g x (by simp [Op.operands])
    have key : ∀ (o : AObj) (ob : Obj), o.ro = false → v = .pointer (some ⟨S.nx, 0, none⟩) → S' = S.new o → (Instr.range t (a.eval x)).run P w = .ok (.pointer (some ⟨w.heap.size, 0, none⟩)) (w.alloc ob) →
        (∀ μ' w', Sub μ μ' → w'.heap[w.heap.size]? = some ob → ORel B μ' w' w.heap.size 0 0 o) → Done B μ S w ((execOp a.eval { dst := dst, op := .range t x, type := type, pos := pos, after := after, guard := guard }).run P w) v S' := by
      intro o ob hro e1 e2 hrun ho
      subst e1; subst e2
      exact new_done r hf hro 0 ho (by simp [execOp, hrun]) (fun μ' hm => .ptr (o := 0) (d := 0) hm)
    split at hc
    · rename_i kt e hu
      cases hc
      simp only [step] at hs
      split at hs
      · rename_i hx
        cases hs
        have hxr := ev_sound he gx hx
        generalize hxe : a.eval x = xe at hxr key
        cases hxr
        exact key _ (.mapIter none 0 #[] 0) rfl rfl rfl (by simp [Instr.range, run_underlying hu]) (fun μ' w' hsub hw => ⟨rfl, none, hw, .mnil⟩)
      · rename_i m hx
        split at hs
        · rename_i es clock hi
          cases hs
          have hxr := ev_sound he gx hx
          generalize hxe : a.eval x = xe at hxr key
          cases hxr with
          | @map _ b z hm =>
            obtain ⟨es', hb, hmr⟩ := map_block r hm hi
            exact key _ (.mapIter (some b) clock #[] clock) rfl rfl rfl (by simp [Instr.range, run_underlying hu, run_getMap (P := P) hb]) (fun μ' w' hsub hw => ⟨rfl, some b, hw, .map (hsub _ _ hm)⟩)
        · cases hs
      · cases hs
    · rename_i hu
      cases hc
      simp only [step] at hs
      split at hs
      · rename_i s hx
        cases hs
        have hxr := ev_sound he gx hx
        generalize hxe : a.eval x = xe at hxr key
        cases hxr
        exact key _ (.stringIter s 0) rfl rfl rfl (by simp [Instr.range, run_underlying hu]) (fun μ' w' hsub hw => ⟨rfl, hw⟩)
      · cases hs
    · cases hc
  case call c => exact call_done r hf he g hc hs
  case next it s =>
    cases hc
    simp only [step] at hs
    cases hs
  all_goals (cases hc)

end Go.Ax

/- Code, in both worlds: steps of ranges, calls, regions whose order is that of the text. -/
namespace Go.Ax
open Instr
variable {P : Program}

/-- What a call comes to. -/
def CallQ (B : Nat) (μ : Mu) (S : AS) (w : World) (Q : Value → AS → Prop) (e : Ending) (w' : World) : Prop :=
  ∃ v v' μ' S', e = .returned v' ∧ Q v S' ∧ VRel μ' v v' ∧ Rel B μ' S' w' ∧ Fr S S' μ μ' w w'

/-- A function that can be called. -/
def Callable (P : Program) (f : FuncId) : Prop := ∃ fn, P.funcs[f]? = some fn ∧ (fn.name == "runtime.NumGoroutine") = false ∧ fn.body.isNone = false

def FnsOk (P : Program) (B : Nat) (Γ : Fns) : Prop :=
  ∀ f args S Q, Γ f args S Q → Callable P f ∧ ∀ (μ : Mu) (w : World) (args' : Array Value), Rel B μ S w → Bnd μ S → LRel μ args args'.toList → Calls P f args' w (CallQ B μ S w Q)

theorem run_callFunc {f : FuncId} (h : Callable P f) (args : Array Value) (w : World) : (callFunc f args).run P w = .ok (.enter f args) w := by
  obtain ⟨fn, h1, h2, h3⟩ := h
  simp only [callFunc, Sem.run_bind, run_program, Result.andThen_ok, h1]
  rw [h2, h3]
  simp

/-- A step of a range has ended. -/
def NextQ (B : Nat) (μ : Mu) (S : AS) (w : World) (K : Value → AS → Prop) (run : Result Value) : Prop :=
  ∃ v v' S' w', run = .ok v' w' ∧ K v S' ∧ VRel μ v v' ∧ Rel B μ S' w' ∧ Fr S S' μ μ w w'

theorem iter_block {B : Nat} {μ : Mu} {S : AS} {w : World} (r : Rel B μ S w) {i b d z : Nat} {o : AObj} (hm : μ i = some (b, d, z)) (hi : S.h i = some o) : ORel B μ w b d z o := by
  obtain ⟨b', d', z', h1, h2, _⟩ := r.obj i o hi
  rw [hm] at h1; cases h1
  exact h2

theorem MRel.map_born {μ : Mu} {es es' : List MapEntry} (h : MRel μ es es') : es.map (·.born) = es'.map (·.born) := by
  induction h with
  | nil => rfl
  | cons _ _ hb _ ih => simp [hb, ih]

theorem MRel.mem {μ : Mu} {es es' : List MapEntry} (h : MRel μ es es') {e' : MapEntry} (he : e' ∈ es') : ∃ e ∈ es, VRel μ e.key e'.key ∧ VRel μ e.val e'.val ∧ e.born = e'.born := by
  induction h with
  | nil => simp at he
  | @cons x x' l l' hk hv hb _ ih =>
    rcases List.mem_cons.1 he with rfl | he
    · exact ⟨x, by simp, hk, hv, hb⟩
    · obtain ⟨e, h1, h2⟩ := ih he
      exact ⟨e, by simp [h1], h2⟩

theorem MRel.filter {μ : Mu} {es es' : List MapEntry} (h : MRel μ es es') (p : Nat → Bool) : MRel μ (es.filter fun e => p e.born) (es'.filter fun e => p e.born) := by
  induction h with
  | nil => exact .nil
  | @cons x x' l l' hk hv hb _ ih =>
    simp only [List.filter_cons, hb]
    split
    · exact .cons hk hv hb ih
    · exact ih

theorem obj_set {B : Nat} {μ : Mu} {S : AS} {w : World} (r : Rel B μ S w) {i b d z : Nat} {o o' : AObj} {ob : Obj} (hm : μ i = some (b, d, z)) (hi : S.h i = some o) (hro : o.ro = false) (hro' : o'.ro = false)
    (ho : ∀ w', w'.heap[b]? = some ob → ORel B μ w' b d z o') : Rel B μ (S.set i (some o')) { w with heap := w.heap.setIfInBounds b ob } ∧ Fr S (S.set i (some o')) μ μ w { w with heap := w.heap.setIfInBounds b ob } := by
  have hb : b < w.heap.size := r.mu i _ hm
  refine Rel.set r hi hro hm (fun k hk => ?_) (by simp) rfl rfl rfl (ho _ (by simp [hb])) hro'
  simp [Ne.symm hk]

theorem next_sound {B : Nat} {μ : Mu} {S : AS} {w : World} (r : Rel B μ S w) {it it' : Value} (hit : VRel μ it it') {isS : Bool} {K : Value → AS → Prop} (h : wpNext it isS S K) (ty : TypeId) :
    NextQ B μ S w K ((next it' isS ty).run P w) := by
  unfold wpNext at h
  split at h
  · rename_i ri
    cases hit with
    | @ptr _ _ b d z hm =>
      split at h
      · rename_i s pos hi
        obtain ⟨hd, hb⟩ := iter_block r hm hi
        subst hd
        have hget : (getObj b).run P w = .ok (.stringIter s pos) w := by simp [getObj, Sem.run, hb]
        split at h
        · rename_i hlt
          have hset : ∀ o, (setObj b o).run P w = .ok () { w with heap := w.heap.setIfInBounds b o } := by intro o; simp [setObj, Sem.run, hb]
          obtain ⟨k1, k2⟩ := obj_set r hm hi rfl (o' := .strIter s (pos + (Utf8.decode s pos).2)) (ob := .stringIter s (pos + (Utf8.decode s pos).2)) rfl (fun w' hw => ⟨rfl, hw⟩)
          refine ⟨_, .tuple #[.bool true, goInt pos, .int .i32 (Utf8.decode s pos).1], _, _, ?_, h, .tuple (.cons (.bool _) (.cons (.int _ _) (.cons (.int _ _) .nil))), k1, k2⟩
          simp [next, hget, hlt, hset]
        · rename_i hlt
          refine ⟨_, .tuple #[.bool false], S, w, ?_, h, .tuple (.cons (.bool _) .nil), r, Fr.refl _ _ _⟩
          simp [next, hget, hlt]
      · rename_i since seen last hi
        obtain ⟨hd, m', hb, hmm⟩ := iter_block r hm hi
        subst hd
        cases hmm
        have hget : (getObj b).run P w = .ok (.mapIter none since seen.toArray last) w := by simp [getObj, Sem.run, hb]
        refine ⟨_, .tuple #[.bool false], S, w, ?_, h, .tuple (.cons (.bool _) .nil), r, Fr.refl _ _ _⟩
        simp [next, hget]
      · rename_i m since seen last hi
        obtain ⟨hd, m', hb, hmm⟩ := iter_block r hm hi
        subst hd
        split at h
        · rename_i es clock hmo
          cases hmm with
          | @map _ bm z2 hm2 =>
            obtain ⟨es', hbm, hmr⟩ := map_block r hm2 hmo
            obtain ⟨h1, h2, h3⟩ := h
            have hget : (getObj b).run P w = .ok (.mapIter (some bm) since seen.toArray last) w := by simp [getObj, Sem.run, hb]
            have hgetm := run_getMap (P := P) hbm
            have hset : ∀ (w1 : World) o, w1.heap = w.heap → (setObj b o).run P w1 = .ok () { w1 with heap := w1.heap.setIfInBounds b o } := by intro w1 o hw1; simp [setObj, Sem.run, hw1, hb]
            -- what the model asks
            have hbad : (!seen.toArray.isEmpty && !es'.isEmpty && es'.all (·.born ≥ last)) = false := by
              have e1 : es'.isEmpty = es.isEmpty := by
                rw [← Array.isEmpty_toList]
                generalize es'.toList = l at hmr
                cases hmr <;> rfl
              have e2 : es'.all (·.born ≥ last) = es.all (·.born ≥ last) := by
                have hb2 := hmr.map_born
                rw [← Array.all_toList]
                have : ∀ l : List MapEntry, l.all (·.born ≥ last) = (l.map (·.born)).all (fun n => decide (n ≥ last)) := by intro l; simp [List.all_map]; rfl
                rw [this, this, hb2]
              rw [e1, e2]
              simpa using h1
            -- the candidates
            obtain ⟨old, hold⟩ : ∃ old : Array MapEntry, old = (es'.filter fun e => !seen.toArray.contains e.born).filter (·.born < since) := ⟨_, rfl⟩
            obtain ⟨new, hnew⟩ : ∃ new : Array MapEntry, new = (es'.filter fun e => !seen.toArray.contains e.born).filter (·.born ≥ since) := ⟨_, rfl⟩
            obtain ⟨cands, hcands⟩ : ∃ cands : Array (Option MapEntry), cands = (if old.isEmpty then #[none] else #[]) ++ (old ++ new).map some := ⟨_, rfl⟩
            have hrun : (next (.pointer (some ⟨b, 0 + 0, none⟩)) false ty).run P w = (do
                match cands[← choose (.mapNext cands.size)]? with
                | some (some e) =>
                  setObj b (.mapIter (some bm) since (seen.toArray.push e.born) clock)
                  pure (.tuple #[.bool true, e.key, e.val])
                | some none => pure (.tuple #[.bool false])
                | none => stuck "Next: no such candidate" : Sem Value).run P w := by
              unfold next
              simp only [Nat.add_zero, Sem.run_bind, hget, Result.andThen_ok, hgetm, hbad]
              rw [if_neg (by simp)]
              rw [hcands, hnew, hold, Sem.run_bind]
              rfl
            rw [hrun]
            have hoe : old = #[] → ((es.filter fun e => !seen.contains e.born).filter (·.born < since)) = [] := by
              intro h0
              have hl := ((hmr.filter (fun n => !seen.contains n)).filter (fun n => decide (n < since))).length
              have : (((es'.toList.filter fun e => !seen.contains e.born).filter fun e => decide (e.born < since))) = old.toList := by
                rw [hold]; simp
              rw [this, h0] at hl
              exact List.eq_nil_of_length_eq_zero hl
            have hmem : ∀ e, some e ∈ cands → e ∈ es'.toList ∧ seen.contains e.born = false := by
              intro e he
              rw [hcands] at he
              simp only [Array.mem_append, Array.mem_map, Option.some.injEq, exists_eq_right] at he
              have : e ∈ old ∨ e ∈ new := by
                rcases he with he | he
                · split at he <;> simp at he
                · exact he
              rcases this with h5 | h5
              · rw [hold] at h5; simp at h5; simpa using ⟨h5.1, h5.2.2⟩
              · rw [hnew] at h5; simp at h5; simpa using ⟨h5.1, h5.2.2⟩
            have hnone : none ∈ cands → old = #[] := by
              intro he
              rw [hcands] at he
              simp only [Array.mem_append, Array.mem_map] at he
              rcases he with he | he
              · split at he
                · rename_i h5; simpa using h5
                · simp at he
              · obtain ⟨_, _, h6⟩ := he; cases h6
            have hpos : 0 < cands.size := by
              rw [hcands]
              by_cases h5 : old = #[]
              · simp [h5]; omega
              · have : 0 < old.size := Array.size_pos_iff.2 h5
                simp; omega
            have fin : ∀ (j : Nat) (w1 : World), j < cands.size → w1.heap = w.heap → w1.os = w.os → w1.tape = w.tape → w1.output = w.output →
                NextQ B μ S w K ((match cands[j]? with
                | some (some e) => do
                  setObj b (.mapIter (some bm) since (seen.toArray.push e.born) clock)
                  pure (.tuple #[.bool true, e.key, e.val])
                | some none => pure (.tuple #[.bool false])
                | none => stuck "Next: no such candidate" : Sem Value).run P w1) := by
              intro j w1 hj hw1 ho1 ht1 hu1
              have r1 := r.world hw1
              have f1 : Fr S S μ μ w w1 := Fr.world hw1 ho1 ht1 hu1
              have hjc : cands[j]? = some cands[j] := by simp [hj]
              rw [hjc]
              have hmm : cands[j] ∈ cands := Array.getElem_mem hj
              cases hcj : cands[j] with
              | none =>
                rw [hcj] at hmm
                exact ⟨_, _, S, w1, rfl, h2 (hoe (hnone hmm)), .tuple (.cons (.bool _) .nil), r1, f1⟩
              | some e =>
                rw [hcj] at hmm
                obtain ⟨h6, h7⟩ := hmem e hmm
                obtain ⟨e0, h8, h9, h10, h11⟩ := hmr.mem h6
                obtain ⟨k1, k2⟩ := obj_set r1 hm hi rfl (o' := .mapIter (some m) since (seen ++ [e0.born]) clock) (ob := .mapIter (some bm) since (seen.toArray.push e.born) clock) rfl (fun w' hw => ⟨rfl, some bm, by rw [hw, h11]; simp, .map hm2⟩)
                refine ⟨_, .tuple #[.bool true, e.key, e.val], _, _, ?_, h3 e0 h8 (by rw [h11]; exact h7), .tuple (.cons (.bool _) (.cons h9 (.cons h10 .nil))), k1, f1.trans k2⟩
                simp [hset w1 _ hw1]
            simp only [Sem.run_bind, run_choose]
            by_cases hforced : (Question.mapNext cands.size).forced = true
            · rw [if_pos hforced]
              exact fin 0 w hpos rfl rfl rfl rfl
            · rw [if_neg hforced]
              exact fin _ w.drew (Nat.mod_lt _ hpos) rfl rfl rfl rfl
        · exact h.elim
      · exact h.elim
  · exact h.elim


theorem cCall_call {c : Call} {f : Operand} {args : List Operand} (hc : cCall P c = some (.call f args)) : c.callee = .value f ∧ c.args.toList = args := by
  unfold cCall at hc
  revert hc
  cases hcl : c.callee with
  | value f' =>
    simp only
    intro hc
    split at hc
    · cases hc; exact ⟨rfl, rfl⟩
    · cases hc
  | invoke _ _ => intro hc; cases hc
  | builtin b =>
    simp only
    intro hc
    exfalso
    repeat' (split at hc)
    all_goals first
      | (cases hc; done)
      | (obtain ⟨_, _, e⟩ := map_some hc; cases e; done)

theorem cCall_next {c : Call} {it : Operand} {b : Bool} (hc : cCall P c = some (.next it b)) : False := by
  unfold cCall at hc
  repeat' (split at hc)
  all_goals first
    | (cases hc; done)
    | (obtain ⟨_, _, e⟩ := map_some hc; cases e; done)

theorem cBin_call {op : BinOp} {t : TypeId} {x y f : Operand} {args : List Operand} (hc : cBin P op t x y = some (.call f args)) : False := by
  unfold cBin at hc
  repeat' (split at hc)
  all_goals (cases hc; done)

theorem cBin_next {op : BinOp} {t : TypeId} {x y it : Operand} {b : Bool} (hc : cBin P op t x y = some (.next it b)) : False := by
  unfold cBin at hc
  repeat' (split at hc)
  all_goals (cases hc; done)

theorem cOp_call {o : Oper} {f : Operand} {args : List Operand} (hc : cOp P o = some (.call f args)) : ∃ c : Call, o.op = .call c ∧ c.callee = .value f ∧ c.args.toList = args := by
  obtain ⟨dst, op, type, pos, after, guard⟩ := o
  unfold cOp at hc
  split at hc
  · cases hc
  · cases op <;> (try simp only at hc) <;> first
      | (cases hc; done)
      | (exact ⟨_, rfl, cCall_call hc⟩)
      | (exact (cBin_call hc).elim)
      | (exfalso; repeat' (split at hc)
         all_goals first
           | (cases hc; done)
           | (rename_i heq; cases heq; done)
           | (obtain ⟨_, _, e⟩ := map_some hc; cases e; done))

theorem cOp_next {o : Oper} {it : Operand} {b : Bool} (hc : cOp P o = some (.next it b)) : o.op = .next it b := by
  obtain ⟨dst, op, type, pos, after, guard⟩ := o
  unfold cOp at hc
  split at hc
  · cases hc
  · cases op <;> (try simp only at hc) <;> first
      | (cases hc; rfl; done)
      | (cases hc; done)
      | (exact (cCall_next hc).elim)
      | (exact (cBin_next hc).elim)
      | (exfalso; repeat' (split at hc)
         all_goals first
           | (cases hc; done)
           | (rename_i heq; cases heq; done)
           | (obtain ⟨_, _, e⟩ := map_some hc; cases e; done))

/-- An operation, whatever it is: what it comes to, for whoever goes on. -/
theorem wpOp_sound {B : Nat} {Γ : Fns} (hΓ : FnsOk P B Γ) {μ : Mu} {S : AS} {w : World} {N : Nat} {ρ : Env} {a : Act} (r : Rel B μ S w) (hb : Bnd μ S) (he : ERel μ N ρ a) {o : Oper} {ao : AOp} (hc : cOp P o = some ao)
    {K : Value → AS → Prop} (h : wpOp Γ ao ρ S K) {next : Act → World → Prop} {Q : Exit → Act → World → Prop}
    (hn : ∀ v v' μ' S' w', K v S' → VRel μ' v v' → Rel B μ' S' w' → Fr S S' μ μ' w w' → next (a.put o.dst v') w') : o.wp P a w next Q := by
  have hplain : (match step ao ρ S with | some (v, S') => K v S' | none => False) → o.wp P a w next Q := by
    intro h
    split at h
    · rename_i v S' hs
      obtain ⟨v', μ', w', hrun, hv, hr, hf⟩ := step_sound r hb.fresh he hc hs
      unfold Oper.wp
      rcases hrun with hrun | ⟨hrun, rfl⟩
      · rw [hrun]; exact hn v v' μ' S' w' h hv hr hf
      · rw [hrun]; exact hn v undef μ' S' w' h hv hr hf
    · exact h.elim
  have hg : o.op.operands.toList.all groundO = true := by
    unfold cOp at hc
    split at hc
    · cases hc
    · rename_i hg; simpa using hg
  have g : ∀ x, x ∈ o.op.operands → groundO x = true := fun x hx => List.all_eq_true.1 hg x (by simpa using hx)
  cases ao with
  | call f args =>
    simp only [wpOp] at h
    split at h
    · rename_i id first cap vs hf hvs
      obtain ⟨hcall, hG⟩ := hΓ _ _ _ _ h
      obtain ⟨c, hop, hcf, hca⟩ := cOp_call hc
      have gf : groundO f = true := g f (by rw [hop]; simp [Op.operands, Call.operands, hcf])
      have ga : args.all groundO = true := List.all_eq_true.2 fun x hx => g x (by rw [hop]; simp only [Op.operands, Call.operands, hcf, Array.mem_append]; right; rw [← hca] at hx; simpa using hx)
      have hfr := ev_sound he gf hf
      have hvr := evs_sound he ga hvs
      generalize hfe : a.eval f = fe at hfr
      cases hfr with
      | @func _ _ fst' _ cap' h1 h2 =>
        have hrun : (execOp a.eval o).run P w = .ok (.enter id (fst' ++ c.args.map a.eval ++ cap')) w := by
          have hi := run_callFunc (P := P) hcall (fst' ++ c.args.map a.eval ++ cap') w
          simp only [execOp, hop, resolve, hcf, hfe, Deferred.ofValue, pure_bind, invoke]
          exact hi
        unfold Oper.wp
        rw [hrun]
        simp only [Oper.upon]
        refine (hG μ w (fst' ++ c.args.map a.eval ++ cap') r hb ?_).mono ?_
        · simp only [Array.toList_append, Array.toList_map]
          rw [hca]
          exact (h1.append hvr).append h2
        · rintro e w' ⟨v, v', μ', S', rfl, hK, hv, hr, hf⟩
          exact hn v v' μ' S' w' hK hv hr hf
    · exact h.elim
  | next it isS =>
    simp only [wpOp] at h
    split at h
    · rename_i x hx
      have hop := cOp_next hc
      have hxr := ev_sound he (g it (by rw [hop]; simp [Op.operands])) hx
      obtain ⟨v, v', S', w', hrun, hK, hv, hr, hf⟩ := next_sound (P := P) r hxr h o.type
      unfold Oper.wp
      have hrun' : (execOp a.eval o).run P w = .ok (.value v') w' := by
        simp only [execOp, hop]
        simp [hrun]
      rw [hrun']
      exact hn v v' μ S' w' hK hv hr hf
    · exact h.elim
  | _ => exact hplain h

def cGuard (ops : Array Oper) (g : Option (Nat × Bool)) : Option (Option (Nat × Bool)) :=
  match g with
  | none => some none
  | some (j, b) => match (ops[j]?).bind (·.dst) with
    | some t => some (some (t, b))
    | none => none

def dstOk (N : Nat) : Option Nat → Bool
  | none => true
  | some d => decide (d < N)

def cOper (P : Program) (N : Nat) (ops : Array Oper) (o : Oper) : Option AOper :=
  match cOp P o, cGuard ops o.guard with
  | some a, some g => if dstOk N o.dst then some ⟨o.dst, a, g⟩ else none
  | _, _ => none

def cOps (P : Program) (N : Nat) (ops : Array Oper) : List Oper → Option (List AOper)
  | [] => some []
  | o :: r => match cOper P N ops o, cOps P N ops r with
    | some a, some as => some (a :: as)
    | _, _ => none

theorem want_sound {μ : Mu} {N : Nat} {ρ : Env} {a : Act} (he : ERel μ N ρ a) {ops : Array Oper} {o : Oper} {g : Option (Nat × Bool)} (hg : cGuard ops o.guard = some g) {b : Bool} (h : wantA ρ g = some b) :
    Region.wanted o (yielded ops a.tmps) = b := by
  unfold cGuard at hg
  unfold Region.wanted
  cases hog : o.guard with
  | none => rw [hog] at hg; cases hg; simp only [wantA, Option.some.injEq] at h; subst h; rfl
  | some p =>
    obtain ⟨j, q⟩ := p
    rw [hog] at hg
    simp only at hg
    split at hg
    · rename_i t ht
      cases hg
      simp only [wantA] at h
      split at h
      · rename_i c hc
        cases h
        have hr := he.get t _ hc
        simp only [yielded, ht, Option.bind_some]
        generalize hgd : a.tmps.getD t undef = u at hr
        cases hr
        have : a.tmps[t]? = some (.bool c) := by
          rw [Array.getD_eq_getD_getElem?] at hgd
          cases hq : a.tmps[t]? with
          | none => rw [hq] at hgd; cases hgd
          | some x => rw [hq] at hgd; simp at hgd; rw [hgd]
        rw [this]
        cases c <;> cases q <;> rfl
      · rename_i c hc
        cases h
        have hr := he.get t _ hc
        simp only [yielded, ht, Option.bind_some]
        generalize hgd : a.tmps.getD t undef = u at hr
        cases hr
        cases hq : a.tmps[t]? with
        | none => rfl
        | some x =>
          rw [Array.getD_eq_getD_getElem?, hq] at hgd
          simp at hgd
          subst hgd
          rfl
      · cases h
    · cases hg

theorem dst_lt {N : Nat} {d : Option Nat} (h : dstOk N d = true) : ∀ t, d = some t → t < N := by
  intro t ht; subst ht; simpa [dstOk] using h

theorem wpOps_sound {B : Nat} {Γ : Fns} (hΓ : FnsOk P B Γ) {N : Nat} {ops : Array Oper} {Q : Exit → Act → World → Prop} : ∀ {l : List Oper} {as : List AOper}, cOps P N ops l = some as →
    ∀ {μ : Mu} {S : AS} {w : World} {ρ : Env} {a : Act} (_ : Rel B μ S w) (_ : Bnd μ S) (_ : ERel μ N ρ a) {K : Env → AS → Prop}, wpOps Γ as ρ S K →
    (∀ ρ' S' μ' w' a', K ρ' S' → Rel B μ' S' w' → ERel μ' N ρ' a' → Fr S S' μ μ' w w' → a'.defers = a.defers → Q .normal a' w') → wpList P ops Q l a w
  | [], as, hc, μ, S, w, ρ, a, r, hb, he, K, h, hQ => by
    simp only [cOps, Option.some.injEq] at hc; subst hc
    exact hQ ρ S μ w a h r he (Fr.refl _ _ _) rfl
  | o :: l, as, hc, μ, S, w, ρ, a, r, hb, he, K, h, hQ => by
    simp only [cOps] at hc
    split at hc
    · rename_i a0 as' h1 h2
      cases hc
      unfold cOper at h1
      split at h1
      · rename_i ao g hop hgd
        split at h1
        · rename_i hdst
          cases h1
          have hd := dst_lt hdst
          simp only [wpOps] at h
          unfold wpList
          split at h
          · exact h.elim
          · rename_i hw
            rw [want_sound he hgd hw]
            simp only [Bool.false_eq_true, if_false]
            exact wpOps_sound hΓ h2 r hb (he.put hd (undef_rel μ)) h (fun ρ' S' μ' w' a' k1 k2 k3 k4 k5 => hQ ρ' S' μ' w' a' k1 k2 k3 k4 (k5.trans (by cases o.dst <;> rfl)))
          · rename_i hw
            rw [want_sound he hgd hw]
            simp only [if_true]
            refine .inl (wpOp_sound hΓ r hb he hop h ?_)
            intro v v' μ' S' w' hK hv hr hf
            exact wpOps_sound hΓ h2 hr (hf.bnd hb) ((he.mono hf.sub).put hd hv) hK (fun ρ' S2 μ2 w2 a2 k1 k2 k3 k4 k5 => hQ ρ' S2 μ2 w2 a2 k1 k2 k3 (hf.trans k4) (k5.trans (by cases o.dst <;> rfl)))
        · cases h1
      · cases h1
    · cases hc

end Go.Ax

/- What an operation hangs on: its operands, and what they point at. -/
namespace Go.Ax

def oL : Option Operand → List Operand
  | none => []
  | some x => [x]

/-- The operands of a resolved operation. -/
def AOp.opnds : AOp → List Operand
  | .val x | .box x | .load _ x | .nilck x | .un _ x | .conv _ x | .fldA _ x | .fld _ _ x | .extr x _ | .len _ x | .clear _ x | .rangeM x | .rangeS x | .next x _ => [x]
  | .pick c a b => [c, a, b]
  | .new _ | .mkMap => []
  | .build _ ps | .buildSl _ _ ps => ps.map (·.2.2)
  | .store _ x v => [x, v]
  | .bin _ x y | .eqNil _ _ x y | .eqB _ x y | .eqC _ x y | .min x y | .max x y | .append _ _ x y | .copy _ x y | .idxSl _ x y | .idxAr _ _ x y | .idxV _ _ _ x y | .idxStr x y | .delete _ x y | .mkSl _ _ x y => [x, y]
  | .lookup _ _ x k _ | .mapEnt _ _ x k => [x, k]
  | .mapUpd _ x k v => [x, k, v]
  | .entSt x s v => [x, s, v]
  | .mkFn _ a b => a ++ b
  | .slice _ x lo hi mx | .sliceA _ _ x lo hi mx => x :: (oL lo ++ oL hi ++ oL mx)
  | .sliceStr x lo hi => x :: (oL lo ++ oL hi)
  | .call f args => f :: args

theorem evs_congr {ρ ρ' : Env} : ∀ {l : List Operand}, (∀ x ∈ l, ev ρ x = ev ρ' x) → evs ρ l = evs ρ' l
  | [], _ => rfl
  | x :: r, h => by
    simp only [evs]
    rw [h x (by simp), evs_congr (l := r) (fun y hy => h y (by simp [hy]))]

theorem evp_congr {ρ ρ' : Env} : ∀ {l : List (Nat × Nat × Operand)}, (∀ x ∈ l.map (·.2.2), ev ρ x = ev ρ' x) → evp ρ l = evp ρ' l
  | [], _ => rfl
  | (a, b, x) :: r, h => by
    simp only [evp]
    rw [h x (by simp), evp_congr (l := r) (fun y hy => h y (by simp at hy ⊢; exact .inr hy))]

theorem evo_congr {ρ ρ' : Env} {x : Option Operand} (h : ∀ y ∈ oL x, ev ρ y = ev ρ' y) : evo ρ x = evo ρ' x := by
  cases x with
  | none => rfl
  | some y => simp only [evo]; rw [h y (by simp [oL])]

theorem step_env {ρ ρ' : Env} {ao : AOp} (h : ∀ x ∈ ao.opnds, ev ρ x = ev ρ' x) (S : AS) : step ao ρ S = step ao ρ' S := by
  cases ao
  case build z ps => simp only [step]; rw [evp_congr (ρ' := ρ') h]
  case buildSl n z ps => simp only [step]; rw [evp_congr (ρ' := ρ') h]
  case mkFn fn a b => simp only [step]; rw [evs_congr (ρ' := ρ') (l := a) (fun x hx => h x (by simp [AOp.opnds, hx])), evs_congr (ρ' := ρ') (l := b) (fun x hx => h x (by simp [AOp.opnds, hx]))]
  case slice e x lo hi mx =>
    simp only [step]
    rw [h x (by simp [AOp.opnds]), evo_congr (ρ' := ρ') (x := lo) (fun y hy => h y (by simp [AOp.opnds, hy])), evo_congr (ρ' := ρ') (x := hi) (fun y hy => h y (by simp [AOp.opnds, hy])), evo_congr (ρ' := ρ') (x := mx) (fun y hy => h y (by simp [AOp.opnds, hy]))]
  case sliceA n e x lo hi mx =>
    simp only [step]
    rw [h x (by simp [AOp.opnds]), evo_congr (ρ' := ρ') (x := lo) (fun y hy => h y (by simp [AOp.opnds, hy])), evo_congr (ρ' := ρ') (x := hi) (fun y hy => h y (by simp [AOp.opnds, hy])), evo_congr (ρ' := ρ') (x := mx) (fun y hy => h y (by simp [AOp.opnds, hy]))]
  case sliceStr x lo hi =>
    simp only [step]
    rw [h x (by simp [AOp.opnds]), evo_congr (ρ' := ρ') (x := lo) (fun y hy => h y (by simp [AOp.opnds, hy])), evo_congr (ρ' := ρ') (x := hi) (fun y hy => h y (by simp [AOp.opnds, hy]))]
  all_goals first
    | rfl
    | (simp only [AOp.opnds, List.forall_mem_cons] at h
       simp only [step]
       simp only [h])

theorem idsE_congr {ρ ρ' : Env} : ∀ {l : List Operand}, (∀ x ∈ l, ev ρ x = ev ρ' x) → idsE ρ l = idsE ρ' l
  | [], _ => rfl
  | x :: r, h => by
    simp only [idsE]
    rw [h x (by simp), idsE_congr (l := r) (fun y hy => h y (by simp [hy]))]

theorem mems_opnds (ao : AOp) : ∀ x ∈ ao.mems, x ∈ ao.opnds := by
  intro x hx
  cases ao <;> simp only [AOp.mems, AOp.opnds, List.mem_cons, List.not_mem_nil, or_false] at hx ⊢ <;> first | exact hx | (exact .inl hx) | skip
  all_goals (rename_i k y; cases k <;> simp only [List.mem_cons, List.not_mem_nil, or_false] at hx; exact hx)


/-- What an operation did to a state: an object changed (or forgotten), an object made. -/
structure Delta where
  upd : Option (Nat × Option AObj)
  new : Option AObj

def Delta.app (c : Delta) (S : AS) : AS :=
  match c.new with
  | none => (match c.upd with | none => S | some (b, o) => S.set b o)
  | some n => (match c.upd with | none => S | some (b, o) => S.set b o).new n

structure Delta.Ok (c : Delta) (ids : List Nat) (S : AS) : Prop where
  upd : ∀ b o', c.upd = some (b, o') → b ∈ ids ∧ (∃ o, S.h b = some o ∧ o.ro = false) ∧ ∀ x, o' = some x → x.ro = false
  new : ∀ o, c.new = some o → o.ro = false

def Delta.nil : Delta := ⟨.none, .none⟩

theorem Delta.nil_ok (ids : List Nat) (S : AS) : Delta.nil.Ok ids S := ⟨by simp [Delta.nil], by simp [Delta.nil]⟩

theorem getCells_local {S T : AS} {b o n : Nat} (h : T.h b = S.h b) : getCells T b o n = getCells S b o n := by unfold getCells; rw [h]

theorem srcCells_local {S T : AS} {esz : Nat} {x : Value} (h : ∀ i ∈ idsV x, T.h i = S.h i) : srcCells T esz x = srcCells S esz x := by
  unfold srcCells
  split
  · rfl
  · exact getCells_local (h _ (by simp [idsV]))
  · rfl
  · rfl

/-- How an operation's doing in one state tells its doing in others. -/
def Local (f : AS → Option (Value × AS)) (ids : List Nat) (wr : Bool) (S : AS) (v : Value) (S' : AS) : Prop :=
  ∃ c : Delta, S' = c.app S ∧ c.Ok ids S ∧ (wr = false → c.upd = .none) ∧ ∀ T : AS, (∀ i ∈ ids, T.h i = S.h i) → (T.nx = S.nx ∨ c.new = .none) → f T = some (v, c.app T)

theorem Local.same {f : AS → Option (Value × AS)} {ids : List Nat} {wr : Bool} {S : AS} {v : Value} {S' : AS} (h : f S = some (v, S')) (g : ∃ r : Option Value, ∀ T : AS, (∀ i ∈ ids, T.h i = S.h i) → f T = r.map (·, T)) : Local f ids wr S v S' := by
  obtain ⟨r, hr⟩ := g
  have h1 := hr S (fun _ _ => rfl)
  rw [h] at h1
  cases r with
  | none => cases h1
  | some u =>
    simp only [Option.map_some, Option.some.injEq, Prod.mk.injEq] at h1
    obtain ⟨rfl, rfl⟩ := h1
    exact ⟨Delta.nil, rfl, Delta.nil_ok _ _, fun _ => rfl, fun T hT _ => by rw [hr T hT]; rfl⟩

theorem setCells_delta {S S' : AS} {b o : Nat} {vs : List Value} (h : setCells S b o vs = some S') : ∃ x : AObj, S' = S.set b (some x) ∧ x.ro = false ∧ (∃ y, S.h b = some y ∧ y.ro = false) ∧ ∀ T : AS, T.h b = S.h b → setCells T b o vs = some (T.set b (some x)) := by
  unfold setCells at h
  split at h
  · rename_i cs hcs
    split at h
    · rename_i hle
      cases h
      refine ⟨_, rfl, rfl, ⟨_, hcs, rfl⟩, fun T hT => ?_⟩
      unfold setCells
      rw [hT, hcs]
      simp [hle]
    · cases h
  · cases h

theorem Local.set {f : AS → Option (Value × AS)} {ids : List Nat} {S : AS} {v : Value} {S' : AS} {b : Nat} {x y : AObj} (hb : b ∈ ids) (hx : x.ro = false) (hy : S.h b = some y) (hyr : y.ro = false) (hS : S' = S.set b (some x))
    (g : ∀ T : AS, (∀ i ∈ ids, T.h i = S.h i) → f T = some (v, T.set b (some x))) : Local f ids true S v S' :=
  ⟨⟨some (b, some x), .none⟩, hS, ⟨fun b' o' e => by cases e; exact ⟨hb, ⟨y, hy, hyr⟩, fun z e => by cases e; exact hx⟩, by simp⟩, by simp, fun T hT _ => g T hT⟩

theorem Local.new {f : AS → Option (Value × AS)} {ids : List Nat} {wr : Bool} {S : AS} {v : Value} {S' : AS} {x : AObj} (hx : x.ro = false) (hS : S' = S.new x)
    (g : ∀ T : AS, (∀ i ∈ ids, T.h i = S.h i) → T.nx = S.nx → f T = some (v, T.new x)) : Local f ids wr S v S' :=
  ⟨⟨.none, some x⟩, hS, ⟨by simp, fun o e => by cases e; exact hx⟩, fun _ => rfl, fun T hT hn => by
    rcases hn with hn | hn
    · exact g T hT hn
    · cases hn⟩

theorem appV_local {esz bytes : Nat} {S S' : AS} {s x v : Value} (h : appV esz bytes S s x = some (v, S')) : Local (fun T => appV esz bytes T s x) (idsV s ++ idsV x) true S v S' := by
  have hx : ∀ T : AS, (∀ i ∈ idsV s ++ idsV x, T.h i = S.h i) → srcCells T esz x = srcCells S esz x := fun T hT => srcCells_local fun i hi => hT i (by simp [hi])
  have hs : ∀ T : AS, (∀ i ∈ idsV s ++ idsV x, T.h i = S.h i) → srcCells T esz s = srcCells S esz s := fun T hT => srcCells_local fun i hi => hT i (by simp [hi])
  unfold appV at h
  split at h
  · cases h
  · rename_i new hnew
    split at h
    · rename_i a len cap
      split at h
      · rename_i hfit
        split at h
        · split at h
          · rename_i h0
            cases h
            exact ⟨Delta.nil, rfl, Delta.nil_ok _ _, fun _ => rfl, fun T hT _ => by simp only [appV]; rw [hx T hT, hnew]; simp only; rw [if_pos hfit, if_pos h0]; rfl⟩
          · cases h
        · rename_i b o q
          split at h
          · rename_i h0
            cases h
            exact ⟨Delta.nil, rfl, Delta.nil_ok _ _, fun _ => rfl, fun T hT _ => by simp only [appV]; rw [hx T hT, hnew]; simp only; rw [if_pos hfit, if_pos h0]; rfl⟩
          · rename_i h0
            obtain ⟨S1, hS1, e⟩ := map_some h
            cases e
            obtain ⟨y, h1, h2, ⟨z, h3, h4⟩, h5⟩ := setCells_delta hS1
            refine Local.set (b := b) (by simp [idsV]) h2 h3 h4 h1 (fun T hT => ?_)
            simp only [appV]; rw [hx T hT, hnew]
            simp [hfit, h0, h5 T (hT b (by simp [idsV]))]
      · rename_i hfit
        split at h
        · rename_i hbig
          split at h
          · cases h
          · rename_i old hold
            split at h
            · rename_i b o q
              split at h
              · rename_i l hl
                split at h
                · rename_i hq
                  cases h
                  refine ⟨⟨some (b, .none), some (.cells false (old ++ new))⟩, rfl, ⟨fun b' o' e => by cases e; exact ⟨by simp [idsV], ⟨_, hl, rfl⟩, by simp⟩, fun o e => by cases e; rfl⟩, by simp, fun T hT hn => ?_⟩
                  rcases hn with hn | hn
                  · simp only [appV]; rw [hx T hT, hnew]
                    simp only [hfit, if_false, hbig, if_true]
                    rw [hs T hT, hold]
                    simp only
                    rw [hT b (by simp [idsV]), hl]
                    simp [hq, hn, Delta.app]
                  · cases hn
                · cases h
              · cases h
            · rename_i hno
              cases h
              refine Local.new rfl rfl (fun T hT hn => ?_)
              simp only [appV]; rw [hx T hT, hnew]
              simp only [hfit, if_false, hbig, if_true]
              rw [hs T hT, hold]
              rcases a with _ | ⟨b, o, q⟩
              · simp [hn]
              · cases q with
                | none => simp [hn]
                | some q => exact absurd rfl (hno b o q)
        · cases h
    · cases h


theorem copyV_local {esz : Nat} {S S' : AS} {s x v : Value} (h : copyV esz S s x = some (v, S')) : Local (fun T => copyV esz T s x) (idsV s ++ idsV x) true S v S' := by
  have hx : ∀ T : AS, (∀ i ∈ idsV s ++ idsV x, T.h i = S.h i) → srcCells T esz x = srcCells S esz x := fun T hT => srcCells_local fun i hi => hT i (by simp [hi])
  unfold copyV at h
  split at h
  · rename_i b o q dl c
    split at h
    · cases h
    · rename_i cs hcs
      split at h
      · rename_i h0
        cases h
        exact ⟨Delta.nil, rfl, Delta.nil_ok _ _, fun _ => rfl, fun T hT _ => by simp only [copyV]; rw [hx T hT, hcs]; simp only; rw [if_pos h0]; rfl⟩
      · rename_i h0
        obtain ⟨S1, hS1, e⟩ := map_some h
        cases e
        obtain ⟨y, h1, h2, ⟨z, h3, h4⟩, h5⟩ := setCells_delta hS1
        refine Local.set (b := b) (by simp [idsV]) h2 h3 h4 h1 (fun T hT => ?_)
        simp only [copyV]; rw [hx T hT, hcs]; simp only; rw [if_neg h0, h5 T (hT b (by simp [idsV]))]; rfl
  · split at h
    · cases h
    · rename_i cs hcs
      cases h
      exact ⟨Delta.nil, rfl, Delta.nil_ok _ _, fun _ => rfl, fun T hT _ => by simp only [copyV]; rw [hx T hT, hcs]; rfl⟩
  · cases h

theorem clearV_local {z : List Value} {S S' : AS} {x : Value} (h : clearV z S x = some S') : Local (fun T => (clearV z T x).map (.tuple #[], ·)) (idsV x) true S (.tuple #[]) S' := by
  unfold clearV at h
  split at h
  · cases h
    exact ⟨Delta.nil, rfl, Delta.nil_ok _ _, fun _ => rfl, fun T hT _ => by simp [clearV, Delta.app, Delta.nil]⟩
  · rename_i b o q n c hn0
    obtain ⟨y, h1, h2, ⟨z', h3, h4⟩, h5⟩ := setCells_delta h
    refine Local.set (b := b) (by simp [idsV]) h2 h3 h4 h1 (fun T hT => ?_)
    cases n with
    | zero => exact absurd rfl hn0
    | succ n => simp [clearV, h5 T (hT b (by simp [idsV]))]
  · cases h

theorem updM_local {kk : KK} {S S' : AS} {x k u : Value} (h : updM kk S x k u = some S') : Local (fun T => (updM kk T x k u).map (undef, ·)) (idsV x) true S undef S' := by
  unfold updM at h
  split at h
  · rename_i r
    split at h
    · rename_i es clock hi
      split at h
      · cases h
      · rename_i j w hf
        cases h
        refine Local.set (b := r) (by simp [idsV]) rfl hi rfl rfl (fun T hT => ?_)
        simp only [updM]; rw [hT r (by simp [idsV]), hi]; simp [hf]
      · rename_i hf
        cases h
        refine Local.set (b := r) (by simp [idsV]) rfl hi rfl rfl (fun T hT => ?_)
        simp only [updM]; rw [hT r (by simp [idsV]), hi]; simp [hf]
    · cases h
  · cases h

theorem delM_local {kk : KK} {S S' : AS} {x k : Value} (h : delM kk S x k = some S') : Local (fun T => (delM kk T x k).map (.tuple #[], ·)) (idsV x) true S (.tuple #[]) S' := by
  unfold delM at h
  split at h
  · cases h
    exact ⟨Delta.nil, rfl, Delta.nil_ok _ _, fun _ => rfl, fun T hT _ => by simp [delM, Delta.app, Delta.nil]⟩
  · rename_i r
    split at h
    · rename_i es clock hi
      split at h
      · cases h
      · rename_i j w hf
        cases h
        refine Local.set (b := r) (by simp [idsV]) rfl hi rfl rfl (fun T hT => ?_)
        simp only [delM]; rw [hT r (by simp [idsV]), hi]; simp [hf]
      · rename_i hf
        cases h
        refine Local.set (b := r) (by simp [idsV]) rfl hi rfl rfl (fun T hT => ?_)
        simp only [delM]; rw [hT r (by simp [idsV]), hi]; simp [hf]
    · cases h
  · cases h

theorem entM_local {kk : KK} {z : Value} {S S' : AS} {x k v : Value} (h : entM kk z S x k = some (v, S')) : Local (fun T => entM kk z T x k) (idsV x) true S v S' := by
  unfold entM at h
  split at h
  · rename_i r
    split at h
    · rename_i es clock hi
      split at h
      · cases h
      · rename_i j w hf
        cases h
        refine Local.set (b := r) (by simp [idsV]) rfl hi rfl rfl (fun T hT => ?_)
        simp only [entM]; rw [hT r (by simp [idsV]), hi]; simp [hf]
      · rename_i hf
        cases h
        refine Local.set (b := r) (by simp [idsV]) rfl hi rfl rfl (fun T hT => ?_)
        simp only [entM]; rw [hT r (by simp [idsV]), hi]; simp [hf]
    · cases h
  · cases h

theorem entSt_local {S S' : AS} {x k u : Value} (h : entSt S x k u = some S') : Local (fun T => (entSt T x k u).map (undef, ·)) (idsV x) true S undef S' := by
  unfold entSt at h
  split at h
  · rename_i r kq n
    split at h
    · rename_i es clock hi
      split at h
      · rename_i j hj
        cases h
        refine Local.set (b := r) (by simp [idsV]) rfl hi rfl rfl (fun T hT => ?_)
        simp only [entSt]; rw [hT r (by simp [idsV]), hi]; simp [hj]
      · cases h
    · cases h
  · cases h

theorem step_local {ao : AOp} {ρ : Env} {S S' : AS} {v : Value} (h : step ao ρ S = some (v, S')) : Local (fun T => step ao ρ T) (idsE ρ ao.mems) ao.isWrite S v S' := by
  have val : (∃ r : Option Value, ∀ T : AS, step ao ρ T = r.map (·, T)) → Local (fun T => step ao ρ T) (idsE ρ ao.mems) ao.isWrite S v S' := fun ⟨r, hr⟩ => Local.same h ⟨r, fun T _ => hr T⟩
  cases ao
  case val x => exact val ⟨ev ρ x, fun T => rfl⟩
  case pick c a b =>
    refine val ⟨(match ev ρ c with | some (.bool t) => if t then ev ρ a else ev ρ b | _ => none), fun T => ?_⟩
    simp only [step]
    rcases ev ρ c with _ | q
    · rfl
    · cases q <;> first | rfl | (simp only; split <;> rfl)
  case new cs => simp only [step] at h; cases h; exact Local.new rfl rfl (fun T hT hn => by simp [step, hn])
  case box x =>
    simp only [step] at h
    split at h
    · rename_i u hu
      split at h
      · rename_i hk; cases h; exact Local.new rfl rfl (fun T hT hn => by simp [step, hn, hu, hk])
      · cases h
    · cases h
  case build z ps =>
    refine val ⟨(match evp ρ ps with | some vs => (fillL z vs).map fun cs => .agg cs.toArray | none => none), fun T => ?_⟩
    simp only [step]
    cases evp ρ ps with
    | none => rfl
    | some vs => simp only; cases fillL z vs <;> rfl
  case buildSl n z ps =>
    simp only [step] at h
    split at h
    · rename_i vs hvs
      obtain ⟨cs, hcs, e⟩ := map_some h
      cases e
      exact Local.new rfl rfl (fun T hT hn => by simp [step, hn, hvs, hcs])
    · cases h
  case load n x =>
    simp only [step] at h
    split at h
    · rename_i b o hx
      refine Local.same (S := S) (by simp only [step]; rw [hx]; exact h) ⟨(match getCells S b o (sizeN n) with | some cs => mkV n cs | none => none), fun T hT => ?_⟩
      simp only [step]; rw [hx]; simp only
      rw [getCells_local (hT b (by simp [AOp.mems, idsE, hx, idsV]))]
      cases getCells S b o (sizeN n) <;> rfl
    · cases h
  case store n x y =>
    simp only [step] at h
    split at h
    · rename_i b o u hx hy
      split at h
      · rename_i hcond
        obtain ⟨S1, hS1, e⟩ := map_some h
        cases e
        obtain ⟨y', h1, h2, ⟨z, h3, h4⟩, h5⟩ := setCells_delta hS1
        refine Local.set (b := b) (by simp [AOp.mems, idsE, hx, idsV]) h2 h3 h4 h1 (fun T hT => ?_)
        simp [step, hx, hy, hcond, h5 T (hT b (by simp [AOp.mems, idsE, hx, idsV]))]
      · cases h
    · cases h
  case nilck x =>
    refine val ⟨(match ev ρ x with | some (.pointer (some a)) => some (.pointer (some a)) | _ => none), fun T => ?_⟩
    simp only [step]
    rcases ev ρ x with _ | q
    · rfl
    · cases q <;> try rfl
      rename_i a; cases a <;> rfl
  case bin op x y =>
    refine val ⟨(match ev ρ x, ev ρ y with | some a, some b => binV op a b | _, _ => none), fun T => ?_⟩
    simp only [step]; cases ev ρ x <;> cases ev ρ y <;> rfl
  case eqNil k neg x y =>
    refine val ⟨(match ev ρ x, ev ρ y with | some a, some b => (nilEq k a b).map fun t => .bool (t != neg) | _, _ => none), fun T => ?_⟩
    simp only [step]
    rcases ev ρ x with _ | u <;> rcases ev ρ y with _ | w <;> try rfl
    simp only; cases nilEq k u w <;> rfl
  case eqB neg x y =>
    refine val ⟨(match ev ρ x, ev ρ y with | some (.bool a), some (.bool b) => some (.bool ((a == b) != neg)) | _, _ => none), fun T => ?_⟩
    simp only [step]
    rcases ev ρ x with _ | u <;> rcases ev ρ y with _ | w <;> try rfl
    · cases u <;> rfl
    · cases u <;> cases w <;> rfl
  case eqC neg x y =>
    refine val ⟨(match ev ρ x, ev ρ y with | some a, some b => (keyEq a b).map fun t => .bool (t != neg) | _, _ => none), fun T => ?_⟩
    simp only [step]
    rcases ev ρ x with _ | u <;> rcases ev ρ y with _ | w <;> try rfl
    simp only; cases keyEq u w <;> rfl
  case un op x =>
    refine val ⟨(match ev ρ x with | some a => unV op a | none => none), fun T => ?_⟩
    simp only [step]; cases ev ρ x <;> rfl
  case conv k x =>
    refine val ⟨(match ev ρ x with | some (.int _ n) => some (.int k (k.wrap n)) | _ => none), fun T => ?_⟩
    simp only [step]
    rcases ev ρ x with _ | q
    · rfl
    · cases q <;> rfl
  case mkFn fn a b =>
    refine val ⟨(match evs ρ a, evs ρ b with | some a, some b => some (.func fn a.toArray b.toArray) | _, _ => none), fun T => ?_⟩
    simp only [step]; cases evs ρ a <;> cases evs ρ b <;> rfl
  case mkMap => simp only [step] at h; cases h; exact Local.new rfl rfl (fun T hT hn => by simp [step, hn])
  case mkSl z b l c =>
    simp only [step] at h
    split at h
    · rename_i u1 u2 h1 h2
      have h0 := h
      unfold mkSl at h
      split at h
      · split at h
        · rename_i hcond
          cases h
          exact Local.new rfl rfl (fun T hT hn => by simp [step, h1, h2, mkSl, hcond, hn])
        · cases h
      · cases h
    · cases h
  case slice e x lo hi mx =>
    refine val ⟨(match ev ρ x, evo ρ lo, evo ρ hi, evo ρ mx with | some x, some lo, some hi, some mx => sliceV e x lo hi mx | _, _, _, _ => none), fun T => ?_⟩
    simp only [step]; cases ev ρ x <;> cases evo ρ lo <;> cases evo ρ hi <;> cases evo ρ mx <;> rfl
  case sliceA n e x lo hi mx =>
    refine val ⟨(match ev ρ x, evo ρ lo, evo ρ hi, evo ρ mx with | some x, some lo, some hi, some mx => Ax.sliceA n e x lo hi mx | _, _, _, _ => none), fun T => ?_⟩
    simp only [step]; cases ev ρ x <;> cases evo ρ lo <;> cases evo ρ hi <;> cases evo ρ mx <;> rfl
  case sliceStr x lo hi =>
    refine val ⟨(match ev ρ x, evo ρ lo, evo ρ hi with | some x, some lo, some hi => Ax.sliceStr x lo hi | _, _, _ => none), fun T => ?_⟩
    simp only [step]; cases ev ρ x <;> cases evo ρ lo <;> cases evo ρ hi <;> rfl
  case fldA off x =>
    refine val ⟨(match ev ρ x with | some a => addOff a off | none => none), fun T => ?_⟩
    simp only [step]; cases ev ρ x <;> rfl
  case fld n off x =>
    refine val ⟨(match ev ρ x with | some a => partV n a off | none => none), fun T => ?_⟩
    simp only [step]; cases ev ρ x <;> rfl
  case idxSl e x i =>
    refine val ⟨(match ev ρ x, ev ρ i with | some a, some b => Ax.idxSl e a b | _, _ => none), fun T => ?_⟩
    simp only [step]; cases ev ρ x <;> cases ev ρ i <;> rfl
  case idxAr n e x i =>
    refine val ⟨(match ev ρ x, ev ρ i with | some a, some b => Ax.idxAr n e a b | _, _ => none), fun T => ?_⟩
    simp only [step]; cases ev ρ x <;> cases ev ρ i <;> rfl
  case idxV l e n x i =>
    refine val ⟨(match ev ρ x, ev ρ i with | some a, some b => Ax.idxV l e n a b | _, _ => none), fun T => ?_⟩
    simp only [step]; cases ev ρ x <;> cases ev ρ i <;> rfl
  case idxStr x i =>
    refine val ⟨(match ev ρ x, ev ρ i with | some a, some b => Ax.idxStr a b | _, _ => none), fun T => ?_⟩
    simp only [step]; cases ev ρ x <;> cases ev ρ i <;> rfl
  case lookup kk z x k ok =>
    simp only [step] at h
    split at h
    · rename_i u1 u2 h1 h2
      refine Local.same (S := S) (by simp only [step]; rw [h1, h2]; exact h) ⟨lookM kk z S u1 u2 ok, fun T hT => ?_⟩
      simp only [step]; rw [h1, h2]; simp only
      have : lookM kk z T u1 u2 ok = lookM kk z S u1 u2 ok := by
        unfold lookM
        cases u1 <;> try rfl
        rename_i r
        cases r with
        | none => rfl
        | some r => simp only; rw [hT r (by simp [AOp.mems, idsE, h1, idsV])]
      rw [this]
    · cases h
  case mapUpd kk x k y =>
    simp only [step] at h
    split at h
    · rename_i u1 u2 u3 h1 h2 h3
      obtain ⟨S1, hS1, e⟩ := map_some h
      cases e
      have := updM_local hS1
      simp only [AOp.mems, idsE, h1, List.append_nil, AOp.isWrite]
      refine (show Local (fun T => (updM kk T u1 u2 u3).map (undef, ·)) (idsV u1) true S undef S' → _ from fun hh => ?_) this
      obtain ⟨c, k1, k2, k3, k4⟩ := hh
      exact ⟨c, k1, k2, k3, fun T hT hn => by simp only [step]; rw [h1, h2, h3]; exact k4 T hT hn⟩
    · cases h
  case mapEnt kk z x k =>
    simp only [step] at h
    split at h
    · rename_i u1 u2 h1 h2
      obtain ⟨c, k1, k2, k3, k4⟩ := entM_local h
      simp only [AOp.mems, idsE, h1, List.append_nil, AOp.isWrite]
      exact ⟨c, k1, k2, k3, fun T hT hn => by simp only [step]; rw [h1, h2]; exact k4 T hT hn⟩
    · cases h
  case entSt x s y =>
    simp only [step] at h
    split at h
    · rename_i u1 u2 u3 h1 h2 h3
      obtain ⟨S1, hS1, e⟩ := map_some h
      cases e
      obtain ⟨c, k1, k2, k3, k4⟩ := entSt_local hS1
      simp only [AOp.mems, idsE, h1, List.append_nil, AOp.isWrite]
      exact ⟨c, k1, k2, k3, fun T hT hn => by simp only [step]; rw [h1, h2, h3]; exact k4 T hT hn⟩
    · cases h
  case extr x i =>
    refine val ⟨(match ev ρ x with | some a => Ax.extr a i | none => none), fun T => ?_⟩
    simp only [step]; cases ev ρ x <;> rfl
  case len k x =>
    simp only [step] at h
    split at h
    · rename_i u hx
      refine Local.same (S := S) (by simp only [step]; rw [hx]; exact h) ⟨lenV k S u, fun T hT => ?_⟩
      simp only [step]; rw [hx]; simp only
      have : lenV k T u = lenV k S u := by
        unfold lenV
        cases k <;> cases u <;> try rfl
        rename_i r
        cases r with
        | none => rfl
        | some r => simp only; rw [hT r (by simp [AOp.mems, idsE, hx, idsV])]
      rw [this]
    · cases h
  case min x y =>
    refine val ⟨(match ev ρ x, ev ρ y with | some a, some b => minV a b | _, _ => none), fun T => ?_⟩
    simp only [step]; cases ev ρ x <;> cases ev ρ y <;> rfl
  case max x y =>
    refine val ⟨(match ev ρ x, ev ρ y with | some a, some b => maxV a b | _, _ => none), fun T => ?_⟩
    simp only [step]; cases ev ρ x <;> cases ev ρ y <;> rfl
  case append e b s x =>
    simp only [step] at h
    split at h
    · rename_i u1 u2 h1 h2
      obtain ⟨c, k1, k2, k3, k4⟩ := appV_local h
      simp only [AOp.mems, idsE, h1, h2, List.append_nil, AOp.isWrite]
      exact ⟨c, k1, k2, k3, fun T hT hn => by simp only [step]; rw [h1, h2]; exact k4 T hT hn⟩
    · cases h
  case copy e d s =>
    simp only [step] at h
    split at h
    · rename_i u1 u2 h1 h2
      obtain ⟨c, k1, k2, k3, k4⟩ := copyV_local h
      simp only [AOp.mems, idsE, h1, h2, List.append_nil, AOp.isWrite]
      exact ⟨c, k1, k2, k3, fun T hT hn => by simp only [step]; rw [h1, h2]; exact k4 T hT hn⟩
    · cases h
  case clear z x =>
    simp only [step] at h
    split at h
    · rename_i u1 h1
      obtain ⟨S1, hS1, e⟩ := map_some h
      cases e
      obtain ⟨c, k1, k2, k3, k4⟩ := clearV_local hS1
      simp only [AOp.mems, idsE, h1, List.append_nil, AOp.isWrite]
      exact ⟨c, k1, k2, k3, fun T hT hn => by simp only [step]; rw [h1]; exact k4 T hT hn⟩
    · cases h
  case delete kk x k =>
    simp only [step] at h
    split at h
    · rename_i u1 u2 h1 h2
      obtain ⟨S1, hS1, e⟩ := map_some h
      cases e
      obtain ⟨c, k1, k2, k3, k4⟩ := delM_local hS1
      simp only [AOp.mems, idsE, h1, List.append_nil, AOp.isWrite]
      exact ⟨c, k1, k2, k3, fun T hT hn => by simp only [step]; rw [h1, h2]; exact k4 T hT hn⟩
    · cases h
  case call f args => simp only [step] at h; cases h
  case rangeM x =>
    simp only [step] at h
    split at h
    · rename_i hx; cases h; exact Local.new rfl rfl (fun T hT hn => by simp [step, hx, hn])
    · rename_i m hx
      split at h
      · rename_i es clock hm
        cases h
        exact Local.new rfl rfl (fun T hT hn => by simp only [step]; rw [hx]; simp only; rw [hT m (by simp [AOp.mems, idsE, hx, idsV]), hm]; simp [hn])
      · cases h
    · cases h
  case rangeS x =>
    simp only [step] at h
    split at h
    · rename_i s hx; cases h; exact Local.new rfl rfl (fun T hT hn => by simp [step, hx, hn])
    · cases h
  case next it b => simp only [step] at h; cases h

end Go.Ax

/- Regions whose order is open: what is looked at, and the trace of one order. -/
namespace Go.Ax
variable {P : Program}

def AOp.allocs : AOp → Bool
  | .new _ | .box _ | .buildSl _ _ _ | .mkMap | .mkSl _ _ _ _ | .append _ _ _ _ | .rangeM _ | .rangeS _ => true
  | _ => false

/-- Does an operation come to memory? -/
def AOp.rel (a : AOp) : Bool := !a.mems.isEmpty || a.allocs || a.isCall

def tmpsO : List Operand → List Nat
  | [] => []
  | .tmp t :: r => t :: tmpsO r
  | _ :: r => tmpsO r

/-- The temporaries that an operation looks at. -/
def AOper.looks (a : AOper) : List Nat := tmpsO a.op.opnds ++ (match a.guard with | some (t, _) => [t] | none => [])

def inO (d : Option Nat) (l : List Nat) : Bool := match d with | some t => l.contains t | none => false

def apartA (x y : AOper) : Bool := !inO x.dst y.looks && !inO y.dst x.looks

structure DItem where
  i : Nat
  ao : AOper
  U : List Nat
  cl : List Nat

def edgesOf (o : Oper) : List Nat := (o.after.toList.filter (Region.binds .any)).map (·.on)

def clOf (acc : List DItem) (d : Nat) : List Nat := match acc.find? (fun x => x.i == d) with | some x => x.cl | none => []

def dstNe (a b : Option Nat) : Bool := match a, b with | some x, some y => x != y | _, _ => true

/-- May this item come behind those that stand in either order with it? (k: the place of the first.) -/
def unOk (ao : AOper) (U cl : List Nat) : Nat → List DItem → Bool
  | _, [] => true
  | k, x :: r => (cl.contains x.i || (!x.ao.op.isCall && apartA x.ao ao && (!ao.op.rel || !x.ao.op.rel || U.contains k))) && unOk ao U cl (k + 1) r

theorem unOk_at {ao : AOper} {U cl : List Nat} : ∀ {l : List DItem} {k : Nat}, unOk ao U cl k l = true → ∀ q x, l[q]? = some x → x.i ∉ cl → x.ao.op.isCall = false ∧ apartA x.ao ao = true ∧ (ao.op.rel = true → x.ao.op.rel = true → k + q ∈ U)
  | [], k, _, q, x, hq, _ => by simp at hq
  | y :: r, k, h, q, x, hq, hn => by
    simp only [unOk, Bool.and_eq_true, Bool.or_eq_true, Bool.not_eq_true'] at h
    cases q with
    | zero =>
      simp only [List.getElem?_cons_zero, Option.some.injEq] at hq
      subst hq
      rcases h.1 with h1 | h1
      · exact absurd (by simpa using h1) hn
      · refine ⟨h1.1.1, h1.1.2, fun k1 k2 => ?_⟩
        rcases h1.2 with (h2 | h2) | h2
        · rw [k1] at h2; cases h2
        · rw [k2] at h2; cases h2
        · simpa using h2
    | succ q =>
      simp only [List.getElem?_cons_succ] at hq
      have := unOk_at h.2 q x hq hn
      rwa [show k + 1 + q = k + (q + 1) by omega] at this

def cDraw (P : Program) (N : Nat) (ops : Array Oper) : List (Nat × List Nat × List Nat) → List DItem → Option (List DItem)
  | [], acc => some acc
  | (i, U, cl) :: r, acc => match ops[i]? with
    | none => none
    | some o => match cOper P N ops o with
      | none => none
      | some ao =>
        if (edgesOf o).all (fun d => acc.any fun x => x.i == d) && acc.all (fun x => x.i != i && dstNe x.ao.dst ao.dst) && cl.all (fun c => (edgesOf o).contains c || (edgesOf o).any fun d => (clOf acc d).contains c) && unOk ao U cl 0 acc then
          cDraw P N ops r (acc ++ [⟨i, ao, U, cl⟩])
        else none

structure GoodAt (P : Program) (N : Nat) (ops : Array Oper) (acc : List DItem) (it : DItem) : Prop where
  op : ∃ o, ops[it.i]? = some o ∧ cOper P N ops o = some it.ao ∧ (∀ d ∈ edgesOf o, ∃ x ∈ acc, x.i = d) ∧ ∀ c ∈ it.cl, c ∈ edgesOf o ∨ ∃ d ∈ edgesOf o, c ∈ clOf acc d
  ne : ∀ x ∈ acc, x.i ≠ it.i ∧ dstNe x.ao.dst it.ao.dst = true
  un : ∀ q x, acc[q]? = some x → x.i ∉ it.cl → x.ao.op.isCall = false ∧ apartA x.ao it.ao = true ∧ (it.ao.op.rel = true → x.ao.op.rel = true → q ∈ it.U)

inductive Chain (P : Program) (N : Nat) (ops : Array Oper) : List DItem → Prop
  | nil : Chain P N ops []
  | snoc {acc : List DItem} {it : DItem} (h : Chain P N ops acc) (g : GoodAt P N ops acc it) : Chain P N ops (acc ++ [it])

theorem cDraw_chain {N : Nat} {ops : Array Oper} : ∀ {l : List (Nat × List Nat × List Nat)} {acc items : List DItem}, Chain P N ops acc → cDraw P N ops l acc = some items → Chain P N ops items
  | [], acc, items, h, hc => by simp only [cDraw, Option.some.injEq] at hc; subst hc; exact h
  | (i, U, cl) :: r, acc, items, h, hc => by
    simp only [cDraw] at hc
    split at hc
    · cases hc
    · rename_i o ho
      split at hc
      · cases hc
      · rename_i ao hao
        split at hc
        · rename_i hcond
          simp only [Bool.and_eq_true] at hcond
          obtain ⟨⟨⟨h1, h2⟩, h3⟩, h4⟩ := hcond
          have g : GoodAt P N ops acc ⟨i, ao, U, cl⟩ := by
            refine ⟨⟨o, ho, hao, ?_, ?_⟩, ?_, ?_⟩
            · intro d hd
              have := List.all_eq_true.1 h1 d hd
              simp only [List.any_eq_true, beq_iff_eq] at this
              exact this
            · intro c hc
              have := List.all_eq_true.1 h3 c hc
              simp only [Bool.or_eq_true, List.any_eq_true] at this
              rcases this with h5 | ⟨d, h5, h6⟩
              · exact .inl (by simpa using h5)
              · exact .inr ⟨d, h5, by simpa using h6⟩
            · intro x hx
              have := List.all_eq_true.1 h2 x hx
              simpa using this
            · intro q x hq hx
              have := unOk_at h4 q x hq hx
              rwa [Nat.zero_add] at this
          exact cDraw_chain (.snoc h g) hc
        · cases hc

theorem Chain.at {N : Nat} {ops : Array Oper} {items : List DItem} (h : Chain P N ops items) : ∀ {p : Nat} {it : DItem}, items[p]? = some it → GoodAt P N ops (items.take p) it := by
  induction h with
  | nil => intro p it hp; simp at hp
  | @snoc acc x h g ih =>
    intro p it hp
    rcases Nat.lt_or_ge p acc.length with hlt | hge
    · rw [List.getElem?_append_left hlt] at hp
      rw [List.take_append_of_le_length (by omega)]
      exact ih hp
    · rw [List.getElem?_append_right hge] at hp
      have h0 : p - acc.length = 0 := by
        rcases Nat.eq_zero_or_pos (p - acc.length) with h0 | h0
        · exact h0
        · rw [List.getElem?_eq_none (by simp; omega)] at hp; cases hp
      rw [h0] at hp
      simp at hp
      subst hp
      have : p = acc.length := by omega
      rw [this, List.take_left']
      · exact g
      · rfl

theorem Chain.inj {N : Nat} {ops : Array Oper} {items : List DItem} (h : Chain P N ops items) {p q : Nat} {x y : DItem} (hp : items[p]? = some x) (hq : items[q]? = some y) (he : x.i = y.i) : p = q := by
  have key : ∀ {p q : Nat} {x y : DItem}, items[p]? = some x → items[q]? = some y → p < q → x.i ≠ y.i := by
    intro p q x y hp hq hlt
    exact ((h.at hq).ne x (List.mem_of_getElem? (i := p) (by rw [List.getElem?_take_of_lt hlt]; exact hp))).1
  rcases Nat.lt_trichotomy p q with hlt | heq | hgt
  · exact absurd he (key hp hq hlt)
  · exact heq
  · exact absurd he.symm (key hq hp hgt)

/-- Whoever has been listed with all that it waits for has been listed with all that this waits for. -/
theorem Chain.closed {N : Nat} {ops : Array Oper} {items : List DItem} (h : Chain P N ops items) {L : Nat → Bool} (hL : ∀ i o, ops[i]? = some o → L i = true → ∀ d ∈ edgesOf o, L d = true) :
    ∀ {p : Nat} {it : DItem}, items[p]? = some it → (∀ o, ops[it.i]? = some o → ∀ d ∈ edgesOf o, L d = true) → ∀ c ∈ it.cl, L c = true := by
  intro p
  induction p using Nat.strongRecOn with
  | _ p ih =>
    intro it hp hr c hc
    obtain ⟨o, h1, h2, h3, h4⟩ := (h.at hp).op
    rcases h4 c hc with hc | ⟨d, hd, hc⟩
    · exact hr o h1 c hc
    · unfold clOf at hc
      split at hc
      · rename_i x hx
        have hxi := List.find?_some hx
        simp only [beq_iff_eq] at hxi
        have hxm := List.mem_of_find?_eq_some hx
        obtain ⟨q, hq⟩ := List.getElem?_of_mem hxm
        have hqp : q < p := by
          rcases Nat.lt_or_ge q p with h5 | h5
          · exact h5
          · rw [List.getElem?_eq_none (by simp; omega)] at hq; cases hq
        rw [List.getElem?_take_of_lt hqp] at hq
        refine ih q hqp hq (fun o' ho' d' hd' => hL x.i o' ho' ?_ d' hd') c hc
        rw [hxi]; exact hr o h1 d hd
      · simp at hc

theorem ev_look {ρ ρ' : Env} {x : Operand} (h : ∀ t, x = .tmp t → look ρ t = look ρ' t) : ev ρ x = ev ρ' x := by
  cases x with
  | tmp t => exact h t rfl
  | _ => rfl

theorem mem_tmpsO {t : Nat} : ∀ {l : List Operand}, .tmp t ∈ l → t ∈ tmpsO l
  | x :: r, h => by
    rcases List.mem_cons.1 h with h | h
    · subst h; simp [tmpsO]
    · have := mem_tmpsO h
      cases x <;> simp [tmpsO, this]

theorem ev_looks {ρ ρ' : Env} {a : AOper} (h : ∀ t ∈ a.looks, look ρ t = look ρ' t) : (∀ x ∈ a.op.opnds, ev ρ x = ev ρ' x) ∧ wantA ρ a.guard = wantA ρ' a.guard := by
  constructor
  · intro x hx
    exact ev_look fun t ht => h t (by subst ht; simp only [AOper.looks, List.mem_append]; exact .inl (mem_tmpsO hx))
  · unfold wantA
    cases hg : a.guard with
    | none => rfl
    | some p => simp only; rw [h p.1 (by simp [AOper.looks, hg])]

theorem wpOp_env {Γ : Fns} {ρ ρ' : Env} {ao : AOp} (h : ∀ x ∈ ao.opnds, ev ρ x = ev ρ' x) (S : AS) (K : Value → AS → Prop) : wpOp Γ ao ρ S K ↔ wpOp Γ ao ρ' S K := by
  have hs := step_env h S
  cases ao with
  | call f args =>
    simp only [wpOp]
    rw [h f (by simp [AOp.opnds]), evs_congr (ρ' := ρ') (l := args) (fun x hx => h x (by simp [AOp.opnds, hx]))]
  | next it b => simp only [wpOp]; rw [h it (by simp [AOp.opnds])]
  | _ => simp only [wpOp]; rw [hs]

/-- What an operation that isn't looked at (no memory, nothing made) does: nothing. -/
theorem norel_same {ao : AOp} {ρ : Env} {S S' : AS} {v : Value} (h : step ao ρ S = some (v, S')) (hr : ao.rel = false) : S' = S := by
  simp only [AOp.rel, Bool.or_eq_false_iff, Bool.not_eq_false', List.isEmpty_iff] at hr
  obtain ⟨⟨h1, h2⟩, h3⟩ := hr
  obtain ⟨c, k1, k2, k3, k4⟩ := step_local h
  have hu : c.upd = none := by
    cases hc : c.upd with
    | none => rfl
    | some p =>
      obtain ⟨b, o'⟩ := p
      have := (k2.upd b o' hc).1
      rw [h1] at this; simp [idsE] at this
  have hn : c.new = none := by
    cases hc : c.new with
    | none => rfl
    | some o =>
      exfalso
      have hnx : S'.nx ≠ S.nx := by
        rw [k1]
        simp only [Delta.app, hc, hu]
        simp [AS.new]
      have : S'.nx = S.nx := by
        cases ao <;> simp [AOp.allocs] at h2 <;> simp [AOp.mems] at h1 <;> simp only [step] at h
        all_goals first
          | (cases h; done)
          | skip
        all_goals (repeat' (split at h))
        all_goals first
          | (cases h; done)
          | (cases h; rfl)
          | (obtain ⟨_, _, e⟩ := map_some h; cases e; rfl)
          | skip
      exact hnx this
  rw [k1]
  simp [Delta.app, hu, hn]

end Go.Ax

