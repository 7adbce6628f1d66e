/- The abstract machine, its relation to the model, and each operation in both. -/
import Derived.WalkKit
import Derived.Orders
/- The abstract machine: objects, states, operations, and weakest preconditions of resolved code. -/
namespace Go.Ax

/-- An object of the abstract heap. -/
inductive AObj where
  | cells (ro : Bool) (cs : List Value)
  | map (es : List MapEntry) (clock : Nat)
  | mapIter (m : Option Nat) (since : Nat) (seen : List Nat) (stepped : Nat)
  | strIter (s : ByteArray) (pos : Nat)

def AObj.ro : AObj → Bool
  | .cells r _ => r
  | _ => false

structure AS where
  h : Nat → Option AObj
  nx : Nat

def AS.set (S : AS) (i : Nat) (o : Option AObj) : AS := { S with h := fun j => if j = i then o else S.h j }
def AS.new (S : AS) (o : AObj) : AS := { h := fun j => if j = S.nx then some o else S.h j, nx := S.nx + 1 }

abbrev Env := List (Nat × Value)

def look : Env → Nat → Option Value
  | [], _ => none
  | (j, v) :: r, i => if i = j then some v else look r i

def putE (ρ : Env) (d : Option Nat) (v : Value) : Env :=
  match d with
  | some t => (t, v) :: ρ
  | none => ρ

def ev (ρ : Env) : Operand → Option Value
  | .tmp t => look ρ t
  | .const v => some v
  | .global _ => none
  | .func f => some (.func (.func f) #[] #[])

def evs (ρ : Env) : List Operand → Option (List Value)
  | [] => some []
  | x :: r => match ev ρ x, evs ρ r with
    | some v, some vs => some (v :: vs)
    | _, _ => none

def evo (ρ : Env) : Option Operand → Option (Option Value)
  | none => some none
  | some x => (ev ρ x).map some

def getCells (S : AS) (b o n : Nat) : Option (List Value) :=
  match S.h b with
  | some (.cells _ cs) => if o + n ≤ cs.length then some ((cs.drop o).take n) else none
  | _ => none

def setCells (S : AS) (b o : Nat) (vs : List Value) : Option AS :=
  match S.h b with
  | some (.cells false cs) =>
    if o + vs.length ≤ cs.length then some (S.set b (some (.cells false (cs.take o ++ vs ++ cs.drop (o + vs.length))))) else none
  | _ => none

/-- A value of cells: one cell bare, or an aggregate. -/
def mkV (n : Option Nat) (cs : List Value) : Option Value :=
  match n with
  | none => match cs with
    | [v] => some v
    | _ => none
  | some _ => some (.agg cs.toArray)

def sizeN (n : Option Nat) : Nat := n.getD 1

/-- No tuple: only such values are laid into memory. -/
def okV : Value → Bool
  | .tuple _ => false
  | _ => true

/-- Parts laid into cells: offset, size, value. -/
def fillL : List Value → List (Nat × Nat × Value) → Option (List Value)
  | cs, [] => some cs
  | cs, (off, n, v) :: r =>
    let vs := v.cells.toList
    if okV v = true ∧ vs.length = n ∧ off + n ≤ cs.length then fillL (cs.take off ++ vs ++ cs.drop (off + n)) r else none

def evp (ρ : Env) : List (Nat × Nat × Operand) → Option (List (Nat × Nat × Value))
  | [] => some []
  | (a, b, x) :: r => match ev ρ x, evp ρ r with
    | some v, some vs => some ((a, b, v) :: vs)
    | _, _ => none

inductive NK where
  | ptr | slice | map | func

/-- A value held against nil. -/
def nilEq (k : NK) (x y : Value) : Option Bool :=
  match k, x, y with
  | .ptr, .pointer none, .pointer b => some b.isNone
  | .ptr, .pointer (some _), .pointer none => some false
  | .slice, .slice none _ _, .slice b _ _ => some b.isNone
  | .slice, .slice (some _) _ _, .slice none _ _ => some false
  | .map, .map none, .map b => some b.isNone
  | .map, .map (some _), .map none => some false
  | .func, .nilFunc, .nilFunc => some true
  | .func, .nilFunc, .func _ _ _ => some false
  | .func, .func _ _ _, .nilFunc => some false
  | _, _, _ => none

/-- Two scalars of one kind: are they the same? -/
def eqS : Value → Value → Option Bool
  | .int k a, .int k' b => if k = k' then some (a == b) else none
  | .bool a, .bool b => some (a == b)
  | .string a, .string b => some (a == b)
  | _, _ => none

def eqCells : List Value → List Value → Option Bool
  | [], [] => some true
  | x :: xs, y :: ys => match eqS x y with
    | some true => eqCells xs ys
    | some false => some false
    | none => none
  | _, _ => none

def intBin (op : BinOp) (k : IntKind) (a b : Int) : Option Value :=
  match op with
  | .add => some (.int k (k.wrap (a + b)))
  | .sub => some (.int k (k.wrap (a - b)))
  | .mul => some (.int k (k.wrap (a * b)))
  | .quo => if b = 0 then none else some (.int k (k.wrap (a.tdiv b)))
  | .rem => if b = 0 then none else some (.int k (a.tmod b))
  | .and => some (.int k (k.wrap ((BitVec.ofInt k.bits a &&& BitVec.ofInt k.bits b).toNat : Int)))
  | .or => some (.int k (k.wrap ((BitVec.ofInt k.bits a ||| BitVec.ofInt k.bits b).toNat : Int)))
  | .xor => some (.int k (k.wrap ((BitVec.ofInt k.bits a ^^^ BitVec.ofInt k.bits b).toNat : Int)))
  | .andNot => some (.int k (k.wrap ((BitVec.ofInt k.bits a &&& ~~~BitVec.ofInt k.bits b).toNat : Int)))
  | .eql => some (.bool (a == b))
  | .neq => some (.bool (a != b))
  | .lss => some (.bool (a < b))
  | .leq => some (.bool (a ≤ b))
  | .gtr => some (.bool (a > b))
  | .geq => some (.bool (a ≥ b))
  | _ => none

def strBin (op : BinOp) (a b : ByteArray) : Option Value :=
  match op with
  | .add => if ((a.size + b.size : Nat) : Int) > 9223372036854775807 then none else some (.string (a ++ b))
  | .eql => some (.bool (a.toList == b.toList))
  | .neq => some (.bool (!(a.toList == b.toList)))
  | .lss => some (.bool (Op.bytesLess a.toList b.toList))
  | .leq => some (.bool (Op.bytesLess a.toList b.toList || a.toList == b.toList))
  | .gtr => some (.bool (!(Op.bytesLess a.toList b.toList || a.toList == b.toList)))
  | .geq => some (.bool (!Op.bytesLess a.toList b.toList))
  | _ => none

def binV (op : BinOp) (x y : Value) : Option Value :=
  match x, y with
  | .int k a, .int yk b =>
    match op with
    | .shl => if b < 0 then none else some (.int k (k.wrap (a * 2 ^ min b.toNat k.bits)))
    | .shr => if b < 0 then none else some (.int k (a.fdiv (2 ^ min b.toNat k.bits)))
    | op => if k = yk then intBin op k a b else none
  | .string a, .string b => strBin op a b
  | _, _ => none

def unV (op : UnOp) (x : Value) : Option Value :=
  match op, x with
  | .neg, .int k n => some (.int k (k.wrap (0 - n)))
  | .xor, .int k n => some (.int k (k.wrap ((BitVec.ofInt k.bits (if k.signed then -1 else k.max) ^^^ BitVec.ofInt k.bits n).toNat : Int)))
  | .not, .bool b => some (.bool !b)
  | _, _ => none

def extr (x : Value) (i : Nat) : Option Value :=
  match x with
  | .tuple vs => vs[i]?
  | _ => none

/-- A bound of a slice expression: a number from 0 to y. -/
def bnd (x : Value) (y : Nat) : Option Nat :=
  match x with
  | .int _ i => if 0 ≤ i ∧ i ≤ y then some i.toNat else none
  | _ => none

def bOr (x : Option Value) (y : Nat) (z : Option Nat) : Option Nat :=
  match x with
  | some v => bnd v y
  | none => z

def bounds (len cap : Nat) (lo hi mx : Option Value) : Option (Nat × Nat × Nat) :=
  match bOr mx cap (some cap) with
  | none => none
  | some m =>
    match bOr hi m (if mx.isSome then none else some len) with
    | none => none
    | some h =>
      match bOr lo h (some 0) with
      | none => none
      | some l => if l ≤ h ∧ h ≤ m then some (l, h, m) else none

/-- A slice of a slice. An address of a slice may bear a mark: 'some e': its capacity is at least as told (cells of e each); no mark: just as told. -/
def sliceV (esz : Nat) (x : Value) (lo hi mx : Option Value) : Option Value :=
  match x with
  | .slice a len cap =>
    match bounds len cap lo hi mx with
    | some (l, h, m) =>
      match a with
      | none => some (.slice none (h - l) (m - l))
      | some ⟨i, off, none⟩ => some (.slice (some ⟨i, off + l * esz, none⟩) (h - l) (m - l))
      | some ⟨i, off, some e⟩ =>
        if e = esz then some (.slice (some ⟨i, off + l * esz, if mx.isSome then none else some e⟩) (h - l) (m - l)) else none
    | none => none
  | _ => none

def sliceA (n esz : Nat) (x : Value) (lo hi mx : Option Value) : Option Value :=
  match x with
  | .pointer (some ⟨i, off, none⟩) =>
    match bounds n n lo hi mx with
    | some (l, h, m) => some (.slice (some ⟨i, off + l * esz, none⟩) (h - l) (m - l))
    | none => none
  | _ => none

def sliceStr (x : Value) (lo hi : Option Value) : Option Value :=
  match x with
  | .string s =>
    match bounds s.size s.size lo hi none with
    | some (l, h, _) => some (.string (s.extract l h))
    | none => none
  | _ => none

def addOff (x : Value) (n : Nat) : Option Value :=
  match x with
  | .pointer (some ⟨i, o, none⟩) => some (.pointer (some ⟨i, o + n, none⟩))
  | _ => none

def idxSl (esz : Nat) (x i : Value) : Option Value :=
  match x, i with
  | .slice (some ⟨b, o, _⟩) len _, .int _ k => if 0 ≤ k ∧ k < len then some (.pointer (some ⟨b, o + k.toNat * esz, none⟩)) else none
  | _, _ => none

def idxAr (n esz : Nat) (x i : Value) : Option Value :=
  match x, i with
  | .pointer (some ⟨b, o, none⟩), .int _ k => if 0 ≤ k ∧ k < n then some (.pointer (some ⟨b, o + k.toNat * esz, none⟩)) else none
  | _, _ => none

def partV (n : Option Nat) (x : Value) (off : Nat) : Option Value :=
  match x with
  | .agg cs => match n with
    | none => cs[off]?
    | some m => if off + m ≤ cs.size then some (.agg (cs.extract off (off + m))) else none
  | _ => none

def idxV (len esz : Nat) (n : Option Nat) (x i : Value) : Option Value :=
  match i with
  | .int _ k => if 0 ≤ k ∧ k < len then partV n x (k.toNat * esz) else none
  | _ => none

def idxStr (x i : Value) : Option Value :=
  match x, i with
  | .string s, .int _ k => if 0 ≤ k then (s[k.toNat]?).map fun b => .int .u8 b.toNat else none
  | _, _ => none

/-- Two bools, or two aggregates of scalars. -/
def keyEq (x y : Value) : Option Bool :=
  match x, y with
  | .bool a, .bool b => some (a == b)
  | .agg a, .agg b => if a.size = b.size then eqCells a.toList b.toList else none
  | _, _ => none

/-- The kinds of a map's keys. -/
inductive KK where
  | int | str | agg

def keyEqK (kk : KK) (x y : Value) : Option Bool :=
  match kk, x, y with
  | .int, .int k a, .int k' b => if k = k' then some (a == b) else none
  | .str, .string a, .string b => some (a == b)
  | .agg, .agg a, .agg b => if a.size = b.size then eqCells a.toList b.toList else none
  | _, _, _ => none

def findE (kk : KK) (k : Value) : List MapEntry → Nat → Option (Option (Nat × Value))
  | [], _ => some none
  | e :: es, i => match keyEqK kk k e.key with
    | some true => some (some (i, e.val))
    | some false => findE kk k es (i + 1)
    | none => none

def modE (es : List MapEntry) (i : Nat) (f : MapEntry → MapEntry) : List MapEntry := es.modify i f

def lookM (kk : KK) (zero : Value) (S : AS) (x k : Value) (ok : Bool) : Option Value :=
  match (match x with
    | .map none => some []
    | .map (some r) => (match S.h r with | some (.map es _) => some es | _ => none)
    | _ => none) with
  | none => none
  | some es => match findE kk k es 0 with
    | none => none
    | some (some (_, v)) => some (if ok then .tuple #[v, .bool true] else v)
    | some none => some (if ok then .tuple #[zero, .bool false] else zero)

def updM (kk : KK) (S : AS) (x k v : Value) : Option AS :=
  match x with
  | .map (some r) => match S.h r with
    | some (.map es clock) => match findE kk k es 0 with
      | none => none
      | some (some (i, _)) => some (S.set r (some (.map (modE es i fun e => { e with key := k, val := v }) clock)))
      | some none => some (S.set r (some (.map (es ++ [{ key := k, val := v, born := clock }]) (clock + 1))))
    | _ => none
  | _ => none

def delM (kk : KK) (S : AS) (x k : Value) : Option AS :=
  match x with
  | .map none => some S
  | .map (some r) => match S.h r with
    | some (.map es clock) => match findE kk k es 0 with
      | none => none
      | some (some (i, _)) => some (S.set r (some (.map (es.eraseIdx i) clock)))
      | some none => some (S.set r (some (.map es clock)))
    | _ => none
  | _ => none

def entM (kk : KK) (zero : Value) (S : AS) (x k : Value) : Option (Value × AS) :=
  match x with
  | .map (some r) => match S.h r with
    | some (.map es clock) => match findE kk k es 0 with
      | none => none
      | some (some (i, v)) => some (.tuple #[v, .int .i64 (((es[i]?).map (·.born)).getD 0 : Nat)], S.set r (some (.map (modE es i fun e => { e with key := k }) clock)))
      | some none => some (.tuple #[zero, .int .i64 clock], S.set r (some (.map (es ++ [{ key := k, val := zero, born := clock }]) (clock + 1))))
    | _ => none
  | _ => none

def entSt (S : AS) (x stamp v : Value) : Option AS :=
  match x, stamp with
  | .map (some r), .int _ n => match S.h r with
    | some (.map es clock) => match es.findIdx? (fun e => (e.born : Int) == n) with
      | some i => some (S.set r (some (.map (modE es i fun e => { e with val := v }) clock)))
      | none => none
    | _ => none
  | _, _ => none

inductive LK where
  | str | sl | map

def lenV (k : LK) (S : AS) (x : Value) : Option Value :=
  match k, x with
  | .str, .string s => some (.int .i64 s.size)
  | .sl, .slice _ n _ => some (.int .i64 n)
  | .map, .map none => some (.int .i64 0)
  | .map, .map (some r) => match S.h r with
    | some (.map es _) => some (.int .i64 es.length)
    | _ => none
  | _, _ => none

def minV (x y : Value) : Option Value :=
  match x, y with
  | .int k a, .int _ b => some (.int k (if b < a then b else a))
  | _, _ => none

def maxV (x y : Value) : Option Value :=
  match x, y with
  | .int k a, .int _ b => some (.int k (if b > a then b else a))
  | _, _ => none

def AS.roAt (S : AS) (i : Nat) : Bool :=
  match S.h i with
  | some o => o.ro
  | none => false

/-- The cells of a slice's, or a string's, first elements. -/
def srcCells (S : AS) (esz : Nat) (x : Value) : Option (List Value) :=
  match x with
  | .slice _ 0 _ => some []
  | .slice (some ⟨b, o, _⟩) n _ => getCells S b o (n * esz)
  | .string s => if esz = 1 then some (s.data.toList.map fun b => .int .u8 b.toNat) else none
  | _ => none

def srcLen (x : Value) : Nat :=
  match x with
  | .slice _ n _ => n
  | .string s => s.size
  | _ => 0

/-- append: in place where there is room for sure; onto new cells where there is none for sure; else onto new cells, and who may share the old ones is forgotten. -/
def appV (esz bytes : Nat) (S : AS) (s x : Value) : Option (Value × AS) :=
  match srcCells S esz x with
  | none => none
  | some new =>
    match s with
    | .slice a len cap =>
      if len + srcLen x ≤ cap then
        (match a with
        | none => if srcLen x = 0 then some (.slice none len cap, S) else none
        | some ⟨b, o, q⟩ => if srcLen x = 0 then some (.slice (some ⟨b, o, q⟩) len cap, S) else (setCells S b (o + len * esz) new).map fun S' => (.slice (some ⟨b, o, q⟩) (len + srcLen x) cap, S'))
      else if (len + srcLen x) * bytes ≤ 1099511627776 then
        match srcCells S esz s with
        | none => none
        | some old => match a with
          | some ⟨b, _, some e⟩ =>
            match S.h b with
            | some (.cells false _) => if e = esz then some (.slice (some ⟨S.nx, 0, some esz⟩) (len + srcLen x) (len + srcLen x), (S.set b none).new (.cells false (old ++ new))) else none
            | _ => none
          | _ => some (.slice (some ⟨S.nx, 0, some esz⟩) (len + srcLen x) (len + srcLen x), S.new (.cells false (old ++ new)))
      else none
    | _ => none

def copyV (esz : Nat) (S : AS) (d s : Value) : Option (Value × AS) :=
  match d with
  | .slice (some ⟨b, o, _⟩) dl _ =>
    (match srcCells S esz s with
    | none => none
    | some cs => if min (srcLen s) dl = 0 then some (.int .i64 0, S) else (setCells S b o (cs.take (min (srcLen s) dl * esz))).map fun S' => (.int .i64 (min (srcLen s) dl : Nat), S'))
  | .slice none 0 _ => (match srcCells S esz s with
    | none => none
    | some _ => some (.int .i64 0, S))
  | _ => none

def repL (zero : List Value) : Nat → List Value
  | 0 => []
  | n + 1 => zero ++ repL zero n

def clearV (zero : List Value) (S : AS) (x : Value) : Option AS :=
  match x with
  | .slice _ 0 _ => some S
  | .slice (some ⟨b, o, _⟩) n _ => setCells S b o (repL zero n)
  | _ => none

def mkSl (zero : List Value) (bytes : Nat) (S : AS) (l c : Value) : Option (Value × AS) :=
  match l, c with
  | .int .i64 n, .int .i64 m =>
    if 0 ≤ n ∧ n ≤ m ∧ m < 9223372036854775808 ∧ bytes * m ≤ 1099511627776 then
      some (.slice (some ⟨S.nx, 0, none⟩) n.toNat m.toNat, S.new (.cells false (repL zero m.toNat)))
    else none
  | _, _ => none

/-- Resolved operations. -/
inductive AOp where
  | val (x : Operand)
  | pick (c a b : Operand)
  | new (cs : List Value)
  | box (x : Operand)
  | build (zero : List Value) (ps : List (Nat × Nat × Operand))
  | buildSl (n : Nat) (cells : List Value) (ps : List (Nat × Nat × Operand))
  | load (n : Option Nat) (x : Operand)
  | store (n : Nat) (x v : Operand)
  | nilck (x : Operand)
  | bin (op : BinOp) (x y : Operand)
  | eqNil (k : NK) (neg : Bool) (x y : Operand)
  | eqB (neg : Bool) (x y : Operand)
  | eqC (neg : Bool) (x y : Operand)
  | un (op : UnOp) (x : Operand)
  | conv (k : IntKind) (x : Operand)
  | mkFn (fn : Fn) (first captured : List Operand)
  | mkMap
  | mkSl (zero : List Value) (bytes : Nat) (l c : Operand)
  | slice (esz : Nat) (x : Operand) (lo hi mx : Option Operand)
  | sliceA (n esz : Nat) (x : Operand) (lo hi mx : Option Operand)
  | sliceStr (x : Operand) (lo hi : Option Operand)
  | fldA (off : Nat) (x : Operand)
  | fld (n : Option Nat) (off : Nat) (x : Operand)
  | idxSl (esz : Nat) (x i : Operand)
  | idxAr (n esz : Nat) (x i : Operand)
  | idxV (len esz : Nat) (n : Option Nat) (x i : Operand)
  | idxStr (x i : Operand)
  | lookup (kk : KK) (zero : Value) (x k : Operand) (ok : Bool)
  | mapUpd (kk : KK) (x k v : Operand)
  | mapEnt (kk : KK) (zero : Value) (x k : Operand)
  | entSt (x s v : Operand)
  | extr (x : Operand) (i : Nat)
  | len (k : LK) (x : Operand)
  | min (x y : Operand)
  | max (x y : Operand)
  | append (esz bytes : Nat) (s x : Operand)
  | copy (esz : Nat) (d s : Operand)
  | clear (zero : List Value) (x : Operand)
  | delete (kk : KK) (x k : Operand)
  | call (f : Operand) (args : List Operand)
  | rangeM (x : Operand)
  | rangeS (x : Operand)
  | next (it : Operand) (isString : Bool)

/-- What an operation (no call, no step of a range) does. -/
def step (o : AOp) (ρ : Env) (S : AS) : Option (Value × AS) :=
  match o with
  | .val x => (ev ρ x).map (·, S)
  | .pick c a b => match ev ρ c with
    | some (.bool t) => if t then (ev ρ a).map (·, S) else (ev ρ b).map (·, S)
    | _ => none
  | .new cs => some (.pointer (some ⟨S.nx, 0, none⟩), S.new (.cells false cs))
  | .box x => match ev ρ x with
    | some v => if okV v = true then some (.pointer (some ⟨S.nx, 0, none⟩), S.new (.cells false v.cells.toList)) else none
    | none => none
  | .build z ps => match evp ρ ps with
    | some vs => (fillL z vs).map fun cs => (.agg cs.toArray, S)
    | none => none
  | .buildSl n z ps => match evp ρ ps with
    | some vs => (fillL z vs).map fun cs => (.slice (some ⟨S.nx, 0, none⟩) n n, S.new (.cells false cs))
    | none => none
  | .load n x => match ev ρ x with
    | some (.pointer (some ⟨b, o, none⟩)) => match getCells S b o (sizeN n) with
      | some cs => (mkV n cs).map (·, S)
      | none => none
    | _ => none
  | .store n x v => match ev ρ x, ev ρ v with
    | some (.pointer (some ⟨b, o, none⟩)), some v => if okV v = true ∧ v.cells.size = n then (setCells S b o v.cells.toList).map (undef, ·) else none
    | _, _ => none
  | .nilck x => match ev ρ x with
    | some (.pointer (some a)) => some (.pointer (some a), S)
    | _ => none
  | .bin op x y => match ev ρ x, ev ρ y with
    | some a, some b => (binV op a b).map (·, S)
    | _, _ => none
  | .eqNil k neg x y => match ev ρ x, ev ρ y with
    | some a, some b => (nilEq k a b).map fun t => (.bool (t != neg), S)
    | _, _ => none
  | .eqB neg x y => match ev ρ x, ev ρ y with
    | some (.bool a), some (.bool b) => some (.bool ((a == b) != neg), S)
    | _, _ => none
  | .eqC neg x y => match ev ρ x, ev ρ y with
    | some a, some b => (keyEq a b).map fun t => (.bool (t != neg), S)
    | _, _ => none
  | .un op x => match ev ρ x with
    | some a => (unV op a).map (·, S)
    | none => none
  | .conv k x => match ev ρ x with
    | some (.int _ n) => some (.int k (k.wrap n), S)
    | _ => none
  | .mkFn fn first captured => match evs ρ first, evs ρ captured with
    | some a, some b => some (.func fn a.toArray b.toArray, S)
    | _, _ => none
  | .mkMap => some (.map (some S.nx), S.new (.map [] 0))
  | .mkSl z b l c => match ev ρ l, ev ρ c with
    | some l, some c => Ax.mkSl z b S l c
    | _, _ => none
  | .slice esz x lo hi mx => match ev ρ x, evo ρ lo, evo ρ hi, evo ρ mx with
    | some x, some lo, some hi, some mx => (sliceV esz x lo hi mx).map (·, S)
    | _, _, _, _ => none
  | .sliceA n esz x lo hi mx => match ev ρ x, evo ρ lo, evo ρ hi, evo ρ mx with
    | some x, some lo, some hi, some mx => (Ax.sliceA n esz x lo hi mx).map (·, S)
    | _, _, _, _ => none
  | .sliceStr x lo hi => match ev ρ x, evo ρ lo, evo ρ hi with
    | some x, some lo, some hi => (Ax.sliceStr x lo hi).map (·, S)
    | _, _, _ => none
  | .fldA off x => match ev ρ x with
    | some x => (addOff x off).map (·, S)
    | none => none
  | .fld n off x => match ev ρ x with
    | some x => (partV n x off).map (·, S)
    | none => none
  | .idxSl esz x i => match ev ρ x, ev ρ i with
    | some x, some i => (Ax.idxSl esz x i).map (·, S)
    | _, _ => none
  | .idxAr n esz x i => match ev ρ x, ev ρ i with
    | some x, some i => (Ax.idxAr n esz x i).map (·, S)
    | _, _ => none
  | .idxV len esz n x i => match ev ρ x, ev ρ i with
    | some x, some i => (Ax.idxV len esz n x i).map (·, S)
    | _, _ => none
  | .idxStr x i => match ev ρ x, ev ρ i with
    | some x, some i => (Ax.idxStr x i).map (·, S)
    | _, _ => none
  | .lookup kk z x k ok => match ev ρ x, ev ρ k with
    | some x, some k => (lookM kk z S x k ok).map (·, S)
    | _, _ => none
  | .mapUpd kk x k v => match ev ρ x, ev ρ k, ev ρ v with
    | some x, some k, some v => (updM kk S x k v).map (undef, ·)
    | _, _, _ => none
  | .mapEnt kk z x k => match ev ρ x, ev ρ k with
    | some x, some k => entM kk z S x k
    | _, _ => none
  | .entSt x s v => match ev ρ x, ev ρ s, ev ρ v with
    | some x, some s, some v => (Ax.entSt S x s v).map (undef, ·)
    | _, _, _ => none
  | .extr x i => match ev ρ x with
    | some x => (Ax.extr x i).map (·, S)
    | none => none
  | .len k x => match ev ρ x with
    | some x => (lenV k S x).map (·, S)
    | none => none
  | .min x y => match ev ρ x, ev ρ y with
    | some a, some b => (minV a b).map (·, S)
    | _, _ => none
  | .max x y => match ev ρ x, ev ρ y with
    | some a, some b => (maxV a b).map (·, S)
    | _, _ => none
  | .append esz bytes s x => match ev ρ s, ev ρ x with
    | some s, some x => appV esz bytes S s x
    | _, _ => none
  | .copy esz d s => match ev ρ d, ev ρ s with
    | some d, some s => copyV esz S d s
    | _, _ => none
  | .clear z x => match ev ρ x with
    | some x => (clearV z S x).map (.tuple #[], ·)
    | none => none
  | .delete kk x k => match ev ρ x, ev ρ k with
    | some x, some k => (delM kk S x k).map (.tuple #[], ·)
    | _, _ => none
  | .call _ _ => none
  | .rangeM x => match ev ρ x with
    | some (.map none) => some (.pointer (some ⟨S.nx, 0, none⟩), S.new (.mapIter none 0 [] 0))
    | some (.map (some m)) => match S.h m with
      | some (.map _ clock) => some (.pointer (some ⟨S.nx, 0, none⟩), S.new (.mapIter (some m) clock [] clock))
      | _ => none
    | _ => none
  | .rangeS x => match ev ρ x with
    | some (.string s) => some (.pointer (some ⟨S.nx, 0, none⟩), S.new (.strIter s 0))
    | _ => none
  | .next _ _ => none

structure AOper where
  dst : Option Nat
  op : AOp
  guard : Option (Nat × Bool)

/-- Is an operation wanted? -/
def wantA (ρ : Env) : Option (Nat × Bool) → Option Bool
  | none => some true
  | some (t, b) => match look ρ t with
    | some (.bool c) => some (c == b)
    | some (.tuple _) => some false
    | _ => none

abbrev Fns := Nat → List Value → AS → (Value → AS → Prop) → Prop

/-- A step of a range. -/
def wpNext (it : Value) (isString : Bool) (S : AS) (K : Value → AS → Prop) : Prop :=
  match it with
  | .pointer (some ⟨r, 0, none⟩) => match S.h r, isString with
    | some (.strIter s pos), true =>
      if pos < s.size then K (.tuple #[.bool true, .int .i64 pos, .int .i32 (Utf8.decode s pos).1]) (S.set r (some (.strIter s (pos + (Utf8.decode s pos).2))))
      else K (.tuple #[.bool false]) S
    | some (.mapIter none _ _ _), false => K (.tuple #[.bool false]) S
    | some (.mapIter (some m) since seen last), false => match S.h m with
      | some (.map es clock) =>
        (!seen.isEmpty && !es.isEmpty && es.all (·.born ≥ last)) = false ∧
        (((es.filter fun e => !seen.contains e.born).filter (·.born < since)) = [] → K (.tuple #[.bool false]) S) ∧
        ∀ e ∈ es, seen.contains e.born = false →
          K (.tuple #[.bool true, e.key, e.val]) (S.set r (some (.mapIter (some m) since (seen ++ [e.born]) clock)))
      | _ => False
    | _, _ => False
  | _ => False

def wpOp (Γ : Fns) (o : AOp) (ρ : Env) (S : AS) (K : Value → AS → Prop) : Prop :=
  match o with
  | .call f args => match ev ρ f, evs ρ args with
    | some (.func (.func id) first cap), some vs => Γ id (first.toList ++ vs ++ cap.toList) S K
    | _, _ => False
  | .next it b => match ev ρ it with
    | some x => wpNext x b S K
    | none => False
  | o => match step o ρ S with
    | some (v, S') => K v S'
    | none => False

def wpOps (Γ : Fns) : List AOper → Env → AS → (Env → AS → Prop) → Prop
  | [], ρ, S, Q => Q ρ S
  | o :: r, ρ, S, Q => match wantA ρ o.guard with
    | none => False
    | some false => wpOps Γ r (putE ρ o.dst undef) S Q
    | some true => wpOp Γ o.op ρ S fun v S' => wpOps Γ r (putE ρ o.dst v) S' Q

/-- Only some temporaries are kept. -/
def keepE (ρ : Env) : List Nat → Env
  | [] => []
  | t :: r => match look ρ t with
    | some v => (t, v) :: keepE ρ r
    | none => keepE ρ r

inductive ACode where
  | skip
  | reg (live : List Nat) (ops : List AOper)
  | dreg (live : List Nat) (ops : List (AOper × List Nat))
  | seq (a b : ACode)
  | cond (c : Operand) (a b : ACode)
  | block (id : Nat) (b : ACode)
  | loop (b : ACode)
  | exit (id : Nat)
  | ret

inductive AExit where
  | normal
  | exit (id : Nat)
  | ret

def wpLoop (body : Env → AS → (AExit → Env → AS → Prop) → Prop) : Nat → Env → AS → (AExit → Env → AS → Prop) → Prop
  | 0, _, _, _ => False
  | k + 1, ρ, S, Q => body ρ S fun x ρ' S' => match x with
    | .normal => wpLoop body k ρ' S' Q
    | x => Q x ρ' S'

/-- The ids at which a value points. -/
def idsV : Value → List Nat
  | .pointer (some a) => [a.block]
  | .slice (some a) _ _ => [a.block]
  | .map (some r) => [r]
  | _ => []

def AOp.isCall : AOp → Bool
  | .call _ _ => true
  | _ => false

def AOp.isWrite : AOp → Bool
  | .store _ _ _ | .mapUpd _ _ _ _ | .mapEnt _ _ _ _ | .entSt _ _ _ | .append _ _ _ _ | .copy _ _ _ | .clear _ _ | .delete _ _ _ => true
  | _ => false

/-- The operands by which an operation (no call) comes to memory. -/
def AOp.mems : AOp → List Operand
  | .load _ x | .len .map x | .clear _ x | .rangeM x => [x]
  | .store _ x _ | .lookup _ _ x _ _ | .mapUpd _ x _ _ | .mapEnt _ _ x _ | .entSt x _ _ | .delete _ x _ => [x]
  | .append _ _ s x | .copy _ s x => [s, x]
  | _ => []

def idsE (ρ : Env) : List Operand → List Nat
  | [] => []
  | x :: r => (match ev ρ x with | some v => idsV v | none => []) ++ idsE ρ r

structure DRec where
  w : Bool
  ids : List Nat
  lo : Nat
  hi : Nat
  deriving Inhabited

def DRec.none : DRec := ⟨false, [], 0, 0⟩

/-- May an operation that comes to these ids stand in either order with an earlier one? -/
def okPair (ids : List Nat) (w : Bool) (r : DRec) : Bool :=
  ids.all fun i => !(decide (r.lo ≤ i) && decide (i < r.hi)) && !((w || r.w) && r.ids.contains i)

/-- What a call may not see: what earlier operations that stand in either order with it come to, or made. -/
def hidden (S : AS) : List DRec → List Nat
  | [] => []
  | r :: rs => r.ids.filter (fun i => !S.roAt i) ++ List.range' r.lo (r.hi - r.lo) ++ hidden S rs

def AS.hide (S : AS) (hid : List Nat) : AS := { S with h := fun i => if hid.contains i then .none else S.h i }
def AS.join (S : AS) (hid : List Nat) (S1 : AS) : AS := { h := fun i => if hid.contains i || S.roAt i then S.h i else S1.h i, nx := S1.nx }

def recs (hist : List DRec) (U : List Nat) : List DRec := U.map fun i => hist.getD i DRec.none

def wpDops (Γ : Fns) : List (AOper × List Nat) → List DRec → Env → AS → (Env → AS → Prop) → Prop
  | [], _, ρ, S, Q => Q ρ S
  | (o, U) :: r, hist, ρ, S, Q => match wantA ρ o.guard with
    | none => False
    | some false => wpDops Γ r (hist ++ [DRec.none]) (putE ρ o.dst undef) S Q
    | some true =>
      if o.op.isCall then
        wpOp Γ o.op ρ (S.hide (hidden S (recs hist U))) fun v S1 =>
          wpDops Γ r (hist ++ [DRec.none]) (putE ρ o.dst v) (S.join (hidden S (recs hist U)) S1) Q
      else match step o.op ρ S with
        | some (v, S') =>
          if (recs hist U).all (okPair (idsE ρ o.op.mems) o.op.isWrite) = true then
            wpDops Γ r (hist ++ [⟨o.op.isWrite, idsE ρ o.op.mems, S.nx, S'.nx⟩]) (putE ρ o.dst v) S' Q
          else False
        | none => False

def wpC (Γ : Fns) (n : Nat) : ACode → Env → AS → (AExit → Env → AS → Prop) → Prop
  | .skip, ρ, S, Q => Q .normal ρ S
  | .reg live ops, ρ, S, Q => wpOps Γ ops ρ S fun ρ' S' => Q .normal (keepE ρ' live) S'
  | .dreg live ops, ρ, S, Q => wpDops Γ ops [] ρ S fun ρ' S' => Q .normal (keepE ρ' live) S'
  | .seq a b, ρ, S, Q => wpC Γ n a ρ S fun x ρ' S' => match x with
    | .normal => wpC Γ n b ρ' S' Q
    | x => Q x ρ' S'
  | .cond c a b, ρ, S, Q => match ev ρ c with
    | some (.bool t) => if t then wpC Γ n a ρ S Q else wpC Γ n b ρ S Q
    | _ => False
  | .block id b, ρ, S, Q => wpC Γ n b ρ S fun x ρ' S' => match x with
    | .exit i => if i = id then Q .normal ρ' S' else Q (.exit i) ρ' S'
    | x => Q x ρ' S'
  | .loop b, ρ, S, Q => wpLoop (wpC Γ n b) n ρ S Q
  | .exit id, ρ, S, Q => Q (.exit id) ρ S
  | .ret, ρ, S, Q => Q .ret ρ S

inductive ARes where
  | tmp (t : Nat)
  | cell (t : Nat) (n : Option Nat)

structure AFun where
  res : List ARes
  body : ACode

def resV (ρ : Env) (S : AS) : ARes → Option Value
  | .tmp t => look ρ t
  | .cell t n => match look ρ t with
    | some (.pointer (some ⟨b, o, none⟩)) => match getCells S b o (sizeN n) with
      | some cs => mkV n cs
      | none => none
    | _ => none

def resVs (ρ : Env) (S : AS) : List ARes → Option (List Value)
  | [] => some []
  | r :: rs => match resV ρ S r, resVs ρ S rs with
    | some v, some vs => some (v :: vs)
    | _, _ => none

def result (ρ : Env) (S : AS) (rs : List ARes) : Option Value :=
  match resVs ρ S rs with
  | some [v] => some v
  | some vs => some (.tuple vs.toArray)
  | none => none

def argsE : Nat → List Value → Env
  | _, [] => []
  | i, v :: r => (i, v) :: argsE (i + 1) r

/-- The functions of a program; X: what is known of others (no memory of theirs is seen). -/
def wpF (G : Nat → Option AFun) (X : Nat → List Value → Option Value) : Nat → Fns
  | 0, _, _, _, _ => False
  | k + 1, f, args, S, Q => match G f with
    | some af => wpC (wpF G X k) k af.body (argsE 0 args) S fun x ρ S' => match x with
      | .exit _ => False
      | _ => match result ρ S' af.res with
        | some v => Q v S'
        | none => False
    | none => match X f args with
      | some v => Q v S
      | none => False

end Go.Ax

/- How the abstract machine stands to the model's world: values, objects, states, frames. -/
namespace Go.Ax

abbrev Mu := Nat → Option (Nat × Nat × Nat)

mutual
inductive VRel (μ : Mu) : Value → Value → Prop
  | bool (b : Bool) : VRel μ (.bool b) (.bool b)
  | int (k : IntKind) (n : Int) : VRel μ (.int k n) (.int k n)
  | float (k : FloatKind) (n : Nat) : VRel μ (.float k n) (.float k n)
  | complex (k : FloatKind) (a b : Nat) : VRel μ (.complex k a b) (.complex k a b)
  | string (s : ByteArray) : VRel μ (.string s) (.string s)
  | nilFunc : VRel μ .nilFunc .nilFunc
  | nilIface : VRel μ .nilIface .nilIface
  | pnil : VRel μ (.pointer none) (.pointer none)
  | ptr {i o b d z : Nat} (h : μ i = some (b, d, z)) : VRel μ (.pointer (some ⟨i, o, none⟩)) (.pointer (some ⟨b, o + d, none⟩))
  | snil (l c : Nat) : VRel μ (.slice none l c) (.slice none l c)
  | slice {i o b d z l c : Nat} (h : μ i = some (b, d, z)) : VRel μ (.slice (some ⟨i, o, none⟩) l c) (.slice (some ⟨b, o + d, none⟩) l c)
  | slack {i o b d z l c c' e : Nat} (h : μ i = some (b, d, z)) (hc : c ≤ c') (hz : o + d + c' * e ≤ z) : VRel μ (.slice (some ⟨i, o, some e⟩) l c) (.slice (some ⟨b, o + d, none⟩) l c')
  | s0 {i o : Nat} {q : Option Nat} (a : Addr) : VRel μ (.slice (some ⟨i, o, q⟩) 0 0) (.slice (some a) 0 0)
  | mnil : VRel μ (.map none) (.map none)
  | map {i b z : Nat} (h : μ i = some (b, 0, z)) : VRel μ (.map (some i)) (.map (some b))
  | func (fn : Fn) {a a' c c' : Array Value} (ha : LRel μ a.toList a'.toList) (hc : LRel μ c.toList c'.toList) : VRel μ (.func fn a c) (.func fn a' c')
  | iface (t : TypeId) {v v' : Value} (h : VRel μ v v') : VRel μ (.iface t v) (.iface t v')
  | agg {a a' : Array Value} (h : LRel μ a.toList a'.toList) (h1 : ∀ x ∈ a.toList, x.oneCell' = true) : VRel μ (.agg a) (.agg a')
  | tuple {a a' : Array Value} (h : LRel μ a.toList a'.toList) : VRel μ (.tuple a) (.tuple a')
inductive LRel (μ : Mu) : List Value → List Value → Prop
  | nil : LRel μ [] []
  | cons {v v' : Value} {l l' : List Value} (h : VRel μ v v') (t : LRel μ l l') : LRel μ (v :: l) (v' :: l')
end

def Sub (μ μ' : Mu) : Prop := ∀ i p, μ i = some p → μ' i = some p

theorem Sub.refl (μ : Mu) : Sub μ μ := fun _ _ h => h
theorem Sub.trans {a b c : Mu} (h : Sub a b) (k : Sub b c) : Sub a c := fun i x hh => k i x (h i x hh)

mutual
theorem VRel.mono {μ μ' : Mu} (s : Sub μ μ') : ∀ {v v' : Value}, VRel μ v v' → VRel μ' v v'
  | _, _, .bool b => .bool b
  | _, _, .int k n => .int k n
  | _, _, .float k n => .float k n
  | _, _, .complex k a b => .complex k a b
  | _, _, .string x => .string x
  | _, _, .nilFunc => .nilFunc
  | _, _, .nilIface => .nilIface
  | _, _, .pnil => .pnil
  | _, _, .ptr h => .ptr (s _ _ h)
  | _, _, .snil l c => .snil l c
  | _, _, .slice h => .slice (s _ _ h)
  | _, _, .slack h hc hz => .slack (s _ _ h) hc hz
  | _, _, .s0 a => .s0 a
  | _, _, .mnil => .mnil
  | _, _, .map h => .map (s _ _ h)
  | _, _, .func fn ha hc => .func fn (ha.mono s) (hc.mono s)
  | _, _, .iface t h => .iface t (h.mono s)
  | _, _, .agg h h1 => .agg (h.mono s) h1
  | _, _, .tuple h => .tuple (h.mono s)
theorem LRel.mono {μ μ' : Mu} (s : Sub μ μ') : ∀ {l l' : List Value}, LRel μ l l' → LRel μ' l l'
  | _, _, .nil => .nil
  | _, _, .cons h t => .cons (h.mono s) (t.mono s)
end

theorem LRel.length {μ : Mu} : ∀ {l l' : List Value}, LRel μ l l' → l.length = l'.length
  | _, _, .nil => rfl
  | _, _, .cons _ t => by simp [t.length]

theorem LRel.append {μ : Mu} {a b : List Value} (h : LRel μ a b) {c d : List Value} (k : LRel μ c d) : LRel μ (a ++ c) (b ++ d) := by
  induction a generalizing b with
  | nil => cases h; exact k
  | cons x a ih => cases h with | cons hx t => exact .cons hx (ih t)

theorem LRel.take {μ : Mu} {a b : List Value} (h : LRel μ a b) (n : Nat) : LRel μ (a.take n) (b.take n) := by
  induction a generalizing b n with
  | nil => cases h; simp; exact .nil
  | cons x a ih =>
    cases h with | cons hx t =>
      cases n with
      | zero => simp; exact .nil
      | succ n => simp; exact .cons hx (ih t n)

theorem LRel.drop {μ : Mu} {a b : List Value} (h : LRel μ a b) (n : Nat) : LRel μ (a.drop n) (b.drop n) := by
  induction a generalizing b n with
  | nil => cases h; simp; exact .nil
  | cons x a ih =>
    cases h with | cons hx t =>
      cases n with
      | zero => simp; exact .cons hx t
      | succ n => simp; exact ih t n

theorem LRel.get {μ : Mu} {a b : List Value} (h : LRel μ a b) : ∀ {i : Nat} {v : Value}, a[i]? = some v → ∃ v', b[i]? = some v' ∧ VRel μ v v' := by
  induction a generalizing b with
  | nil => intro i v hv; simp at hv
  | cons x a ih =>
    cases h with | cons hx t =>
      intro i v hv
      cases i with
      | zero => simp at hv; subst hv; exact ⟨_, rfl, hx⟩
      | succ i => simp at hv; exact ih t hv

theorem LRel.of_get {μ : Mu} {a b : List Value} (hl : a.length = b.length) (h : ∀ (i : Nat) v, a[i]? = some v → ∃ v', b[i]? = some v' ∧ VRel μ v v') : LRel μ a b := by
  induction a generalizing b with
  | nil => cases b with
    | nil => exact .nil
    | cons y b => simp at hl
  | cons x a ih =>
    cases b with
    | nil => simp at hl
    | cons y b =>
      obtain ⟨v', h1, h2⟩ := h 0 x rfl
      simp at h1; subst h1
      exact .cons h2 (ih (by simpa using hl) (fun i v hv => by simpa using h (i + 1) v (by simpa using hv)))

theorem VRel.one {μ : Mu} {v v' : Value} (h : VRel μ v v') : v'.oneCell' = v.oneCell' := by cases h <;> rfl

theorem LRel.one {μ : Mu} {a b : List Value} (h : LRel μ a b) (h1 : ∀ x ∈ a, x.oneCell' = true) : ∀ x ∈ b, x.oneCell' = true := by
  induction a generalizing b with
  | nil => cases h; intro x hx; simp at hx
  | cons y a ih =>
    cases h with | cons hx t =>
      intro x hm
      rcases List.mem_cons.1 hm with rfl | hm
      · rw [hx.one]; exact h1 _ (by simp)
      · exact ih t (fun x hx => h1 x (by simp [hx])) x hm

/-- A value's cells. -/
theorem VRel.cells {μ : Mu} {v v' : Value} (h : VRel μ v v') (hk : okV v = true) :
    LRel μ v.cells.toList v'.cells.toList ∧ (∀ x ∈ v.cells.toList, x.oneCell' = true) := by
  cases h with
  | agg h h1 => exact ⟨h, h1⟩
  | tuple h => simp [okV] at hk
  | bool | int | float | complex | string | nilFunc | nilIface | pnil | snil | s0 | mnil => exact ⟨.cons (by constructor) .nil, by simp [Value.cells, Value.oneCell']⟩
  | ptr h => exact ⟨.cons (.ptr h) .nil, by simp [Value.cells, Value.oneCell']⟩
  | slice h => exact ⟨.cons (.slice h) .nil, by simp [Value.cells, Value.oneCell']⟩
  | slack h hc hz => exact ⟨.cons (.slack h hc hz) .nil, by simp [Value.cells, Value.oneCell']⟩
  | map h => exact ⟨.cons (.map h) .nil, by simp [Value.cells, Value.oneCell']⟩
  | func fn ha hc => exact ⟨.cons (.func fn ha hc) .nil, by simp [Value.cells, Value.oneCell']⟩
  | iface t h => exact ⟨.cons (.iface t h) .nil, by simp [Value.cells, Value.oneCell']⟩

theorem VRel.okV {μ : Mu} {v v' : Value} (h : VRel μ v v') : okV v' = okV v := by cases h <;> rfl

inductive MRel (μ : Mu) : List MapEntry → List MapEntry → Prop
  | nil : MRel μ [] []
  | cons {e e' : MapEntry} {l l' : List MapEntry} (hk : VRel μ e.key e'.key) (hv : VRel μ e.val e'.val) (hb : e.born = e'.born) (t : MRel μ l l') : MRel μ (e :: l) (e' :: l')

theorem MRel.mono {μ μ' : Mu} (s : Sub μ μ') {l l' : List MapEntry} (h : MRel μ l l') : MRel μ' l l' := by
  induction h with
  | nil => exact .nil
  | cons hk hv hb _ ih => exact .cons (hk.mono s) (hv.mono s) hb ih

theorem MRel.length {μ : Mu} {l l' : List MapEntry} (h : MRel μ l l') : l.length = l'.length := by
  induction h with
  | nil => rfl
  | cons _ _ _ _ ih => simp [ih]

theorem MRel.append {μ : Mu} {a b c d : List MapEntry} (h : MRel μ a b) (k : MRel μ c d) : MRel μ (a ++ c) (b ++ d) := by
  induction h with
  | nil => exact k
  | cons hk hv hb _ ih => exact .cons hk hv hb ih

/-- An object and a block. -/
def ORel (B : Nat) (μ : Mu) (w : World) (b d z : Nat) : AObj → Prop
  | .cells ro cs => ∃ c e fz, w.heap[b]? = some (.cells c e fz) ∧ LRel μ cs ((c.toList.drop d).take cs.length) ∧ (∀ x ∈ cs, x.oneCell' = true) ∧ (ro = false → fz = (0, 0)) ∧ (ro = true → b < B) ∧ z ≤ c.size ∧ d + cs.length ≤ c.size
  | .map es clock => d = 0 ∧ ∃ es', w.heap[b]? = some (.map es' clock) ∧ MRel μ es es'.toList
  | .mapIter m since seen st => d = 0 ∧ ∃ m', w.heap[b]? = some (.mapIter m' since seen.toArray st) ∧ VRel μ (.map m) (.map m')
  | .strIter s pos => d = 0 ∧ w.heap[b]? = some (.stringIter s pos)

theorem ORel.mono {B : Nat} {μ μ' : Mu} (s : Sub μ μ') {w : World} {b d z : Nat} {o : AObj} (h : ORel B μ w b d z o) : ORel B μ' w b d z o := by
  cases o with
  | cells ro cs => obtain ⟨c, e, fz, h1, h2, h3⟩ := h; exact ⟨c, e, fz, h1, h2.mono s, h3⟩
  | map es clock => obtain ⟨h0, es', h1, h2⟩ := h; exact ⟨h0, es', h1, h2.mono s⟩
  | mapIter m since seen st => obtain ⟨h0, m', h1, h2⟩ := h; exact ⟨h0, m', h1, h2.mono s⟩
  | strIter s pos => exact h

theorem ORel.same {B : Nat} {μ : Mu} {w w' : World} {b d z : Nat} {o : AObj} (hw : w'.heap[b]? = w.heap[b]?) (h : ORel B μ w b d z o) : ORel B μ w' b d z o := by
  cases o <;> simp only [ORel] at h ⊢ <;> rw [hw] <;> exact h

structure Rel (B : Nat) (μ : Mu) (S : AS) (w : World) : Prop where
  obj : ∀ i o, S.h i = some o → ∃ b d z, μ i = some (b, d, z) ∧ ORel B μ w b d z o ∧ (o.ro = false → B ≤ b)
  inj : ∀ i j o o' p q, S.h i = some o → S.h j = some o' → o.ro = false → μ i = some p → μ j = some q → p.1 = q.1 → i = j
  mu : ∀ i p, μ i = some p → p.1 < w.heap.size
  size : B ≤ w.heap.size

/-- What became of the world. -/
structure Fr (S S' : AS) (μ μ' : Mu) (w w' : World) : Prop where
  os : w'.os = w.os
  tape : w'.tape = w.tape
  output : w'.output = w.output
  size : w.heap.size ≤ w'.heap.size
  sub : Sub μ μ'
  nx : S.nx ≤ S'.nx
  fresh : ∀ i p, μ i = none → μ' i = some p → S.nx ≤ i ∧ i < S'.nx
  ro : ∀ i o, S'.h i = some o → o.ro = true → S.h i = some o
  blk : ∀ b, b < w.heap.size → (∀ i o p, S.h i = some o → o.ro = false → μ i = some p → p.1 ≠ b) → w'.heap[b]? = w.heap[b]?
  own : ∀ i o p, S'.h i = some o → o.ro = false → μ' i = some p → p.1 < w.heap.size → ∃ j o' q, S.h j = some o' ∧ o'.ro = false ∧ μ j = some q ∧ q.1 = p.1

theorem Fr.refl (S : AS) (μ : Mu) (w : World) : Fr S S μ μ w w :=
  ⟨rfl, rfl, rfl, Nat.le_refl _, Sub.refl _, Nat.le_refl _, fun i p h h' => (by rw [h] at h'; cases h'), fun _ _ h _ => h, fun _ _ _ => rfl, fun i o p h1 h2 h3 _ => ⟨i, o, p, h1, h2, h3, rfl⟩⟩

theorem Fr.trans {S S1 S2 : AS} {μ μ1 μ2 : Mu} {w w1 w2 : World} (h : Fr S S1 μ μ1 w w1) (k : Fr S1 S2 μ1 μ2 w1 w2) : Fr S S2 μ μ2 w w2 where
  os := k.os.trans h.os
  tape := k.tape.trans h.tape
  output := k.output.trans h.output
  size := Nat.le_trans h.size k.size
  sub := h.sub.trans k.sub
  nx := Nat.le_trans h.nx k.nx
  fresh := fun i p h1 h2 => by
    cases hm : μ1 i with
    | none => have := k.fresh i p hm h2; exact ⟨Nat.le_trans h.nx this.1, this.2⟩
    | some x => have := h.fresh i x h1 hm; exact ⟨this.1, Nat.lt_of_lt_of_le this.2 k.nx⟩
  ro := fun i o h1 h2 => h.ro i o (k.ro i o h1 h2) h2
  blk := fun b hb hn => by
    rw [k.blk b (Nat.lt_of_lt_of_le hb h.size) (fun i o p h1 h2 h3 h4 => by
      obtain ⟨j, o', e, g1, g2, g3, g4⟩ := h.own i o p h1 h2 h3 (by omega)
      exact hn j o' e g1 g2 g3 (by omega)), h.blk b hb hn]
  own := fun i o p h1 h2 h3 hb => by
    obtain ⟨j, o', e, g1, g2, g3, g4⟩ := k.own i o p h1 h2 h3 (Nat.lt_of_lt_of_le hb h.size)
    obtain ⟨j2, o2, e2, f1, f2, f3, f4⟩ := h.own j o' e g1 g2 g3 (by omega)
    exact ⟨j2, o2, e2, f1, f2, f3, by omega⟩

theorem Fr.below {B : Nat} {S S' : AS} {μ μ' : Mu} {w w' : World} (h : Fr S S' μ μ' w w') (r : Rel B μ S w) : RowKit.Below B w w' :=
  ⟨h.os, h.tape, h.output, h.size, fun k hk => h.blk k (Nat.lt_of_lt_of_le hk r.size) (fun i o p h1 h2 h3 h4 => by
    obtain ⟨b, d, z, g1, _, g3⟩ := r.obj i o h1
    rw [g1] at h3; cases h3
    have := g3 h2
    simp only at h4
    omega)⟩

/-- No id from the next one on is known. -/
def Bnd (μ : Mu) (S : AS) : Prop := ∀ i, S.nx ≤ i → μ i = none

theorem Bnd.fresh {μ : Mu} {S : AS} (h : Bnd μ S) : μ S.nx = none := h S.nx (Nat.le_refl _)

theorem Fr.bnd {S S' : AS} {μ μ' : Mu} {w w' : World} (h : Fr S S' μ μ' w w') (b : Bnd μ S) : Bnd μ' S' := by
  intro i hi
  cases hm : μ' i with
  | none => rfl
  | some p =>
    have := h.fresh i p (b i (Nat.le_trans h.nx hi)) hm
    omega

theorem Rel.ne {B : Nat} {μ : Mu} {S : AS} {w : World} (r : Rel B μ S w) (hf : μ S.nx = none) {i : Nat} {o : AObj} (h : S.h i = some o) : i ≠ S.nx := by
  intro e
  obtain ⟨b, d, z, h1, _⟩ := r.obj i o h
  rw [e, hf] at h1; cases h1

/-- Only a draw. -/
theorem Rel.world {B : Nat} {μ : Mu} {S : AS} {w w' : World} (r : Rel B μ S w) (h : w'.heap = w.heap) : Rel B μ S w' :=
  ⟨fun i o hi => by obtain ⟨b, d, z, h1, h2, h3⟩ := r.obj i o hi; exact ⟨b, d, z, h1, h2.same (by rw [h]), h3⟩, r.inj, fun i p hm => by rw [h]; exact r.mu i p hm, by rw [h]; exact r.size⟩

theorem Fr.world {S : AS} {μ : Mu} {w w' : World} (h : w'.heap = w.heap) (h1 : w'.os = w.os) (h2 : w'.tape = w.tape) (h3 : w'.output = w.output) : Fr S S μ μ w w' :=
  ⟨h1, h2, h3, by rw [h]; exact Nat.le_refl _, Sub.refl _, Nat.le_refl _, fun i p h h' => (by rw [h] at h'; cases h'), fun _ _ h _ => h, fun _ _ _ => by rw [h], fun i o p h1 h2 h3 _ => ⟨i, o, p, h1, h2, h3, rfl⟩⟩

def muSet (μ : Mu) (i : Nat) (p : Nat × Nat × Nat) : Mu := fun j => if j = i then some p else μ j

theorem muSet_sub {μ : Mu} {S : AS} (hf : μ S.nx = none) (p : Nat × Nat × Nat) : Sub μ (muSet μ S.nx p) := by
  intro i q h
  have : i ≠ S.nx := fun e => by rw [e, hf] at h; cases h
  simp only [muSet]
  rw [if_neg this]
  exact h

/-- A new object, in a new block. -/
theorem Rel.new {B : Nat} {μ : Mu} {S : AS} {w : World} (r : Rel B μ S w) (hf : μ S.nx = none) {o : AObj} (hro : o.ro = false) {ob : Obj} (z : Nat)
    (ho : ∀ μ' w', Sub μ μ' → w'.heap[w.heap.size]? = some ob → ORel B μ' w' w.heap.size 0 z o) :
    Rel B (muSet μ S.nx (w.heap.size, 0, z)) (S.new o) (w.alloc ob) ∧ Fr S (S.new o) μ (muSet μ S.nx (w.heap.size, 0, z)) w (w.alloc ob) := by
  have hs := muSet_sub hf (w.heap.size, 0, z)
  have hold : ∀ k, k < w.heap.size → (w.alloc ob).heap[k]? = w.heap[k]? := fun k hk => RowKit.Below.heap_alloc w ob k hk
  have hnew : (w.alloc ob).heap[w.heap.size]? = some ob := by
    show (w.heap.push ob)[w.heap.size]? = _
    simp
  constructor
  · constructor
    · intro i o' hi
      simp only [AS.new] at hi
      by_cases e : i = S.nx
      · rw [if_pos e] at hi; cases hi
        exact ⟨w.heap.size, 0, z, by simp [muSet, e], ho _ _ hs hnew, fun _ => r.size⟩
      · rw [if_neg e] at hi
        obtain ⟨b, d, z', h1, h2, h3⟩ := r.obj i o' hi
        exact ⟨b, d, z', hs i _ h1, (h2.mono hs).same (hold b (r.mu i _ h1)), h3⟩
    · intro i j o1 o2 p q hi hj h1 h2 h3 h4
      simp only [AS.new] at hi hj
      simp only [muSet] at h2 h3
      by_cases e1 : i = S.nx <;> by_cases e2 : j = S.nx
      · rw [e1, e2]
      · rw [if_pos e1] at h2; rw [if_neg e2] at h3; cases h2
        have := r.mu j _ h3; simp only at h4; omega
      · rw [if_neg e1] at h2; rw [if_pos e2] at h3; cases h3
        have := r.mu i _ h2; simp only at h4; omega
      · rw [if_neg e1] at hi h2; rw [if_neg e2] at hj h3
        exact r.inj i j o1 o2 p q hi hj h1 h2 h3 h4
    · intro i p h
      simp only [muSet] at h
      simp only [World.size_alloc]
      by_cases e : i = S.nx
      · rw [if_pos e] at h; cases h; simp
      · rw [if_neg e] at h; have := r.mu i p h; omega
    · have := r.size; simp; omega
  · refine ⟨rfl, rfl, rfl, by simp, hs, by simp [AS.new], ?_, ?_, fun b hb _ => hold b hb, ?_⟩
    · intro i p h1 h2
      simp only [muSet] at h2
      by_cases e : i = S.nx
      · rw [e]; simp [AS.new]
      · rw [if_neg e, h1] at h2; cases h2
    · intro i o' h1 h2
      simp only [AS.new] at h1
      by_cases e : i = S.nx
      · rw [if_pos e] at h1; cases h1; rw [hro] at h2; cases h2
      · rw [if_neg e] at h1; exact h1
    · intro i o' p h1 h2 h3 hb
      simp only [AS.new] at h1
      simp only [muSet] at h3
      by_cases e : i = S.nx
      · rw [if_pos e] at h3; cases h3; simp at hb
      · rw [if_neg e] at h1 h3
        exact ⟨i, o', p, h1, h2, h3, rfl⟩

/-- An object is changed. -/
theorem Rel.set {B : Nat} {μ : Mu} {S : AS} {w : World} (r : Rel B μ S w) {i b d z : Nat} {o o' : AObj} (hi : S.h i = some o) (hro : o.ro = false) (hm : μ i = some (b, d, z))
    {w' : World} (hw : ∀ k, k ≠ b → w'.heap[k]? = w.heap[k]?) (hsz : w'.heap.size = w.heap.size) (hos : w'.os = w.os) (ht : w'.tape = w.tape) (hou : w'.output = w.output)
    (ho : ORel B μ w' b d z o') (hro' : o'.ro = false) : Rel B μ (S.set i (some o')) w' ∧ Fr S (S.set i (some o')) μ μ w w' := by
  have hB : B ≤ b := by
    obtain ⟨b', d', z', h1, _, h3⟩ := r.obj i o hi
    rw [hm] at h1; cases h1; exact h3 hro
  constructor
  · constructor
    · intro j oj hj
      simp only [AS.set] at hj
      by_cases e : j = i
      · rw [if_pos e] at hj; cases hj; exact ⟨b, d, z, by rw [e]; exact hm, ho, fun _ => hB⟩
      · rw [if_neg e] at hj
        obtain ⟨b', d', z', h1, h2, h3⟩ := r.obj j oj hj
        refine ⟨b', d', z', h1, h2.same (hw b' ?_), h3⟩
        intro hb
        subst hb
        exact e (r.inj i j o oj _ _ hi hj hro hm h1 rfl).symm
    · intro j k oj ok p q hj hk h1 h2 h3 h4
      simp only [AS.set] at hj hk
      by_cases ej : j = i <;> by_cases ek : k = i
      · rw [ej, ek]
      · rw [if_neg ek] at hk; rw [ej] at h2
        rw [ej]; exact r.inj i k o ok p q hi hk hro h2 h3 h4
      · rw [if_neg ej] at hj; rw [ek] at h3
        rw [ek]; exact (r.inj i j o oj q p hi hj hro h3 h2 h4.symm).symm
      · rw [if_neg ej] at hj; rw [if_neg ek] at hk
        exact r.inj j k oj ok p q hj hk h1 h2 h3 h4
    · intro j p h; rw [hsz]; exact r.mu j p h
    · rw [hsz]; exact r.size
  · refine ⟨hos, ht, hou, by omega, Sub.refl _, Nat.le_refl _, fun i p h h' => (by rw [h] at h'; cases h'), ?_, ?_, ?_⟩
    · intro j oj h1 h2
      simp only [AS.set] at h1
      by_cases e : j = i
      · rw [if_pos e] at h1; cases h1; rw [hro'] at h2; cases h2
      · rw [if_neg e] at h1; exact h1
    · intro b1 hb1 hn
      exact hw b1 (fun e => by subst e; exact hn i o _ hi hro hm rfl)
    · intro j oj p h1 h2 h3 _
      simp only [AS.set] at h1
      by_cases e : j = i
      · rw [e] at h3; exact ⟨i, o, p, hi, hro, h3, rfl⟩
      · rw [if_neg e] at h1; exact ⟨j, oj, p, h1, h2, h3, rfl⟩

/-- Old objects are forgotten. -/
theorem Rel.weaken {B : Nat} {μ : Mu} {S T : AS} {w : World} (r : Rel B μ S w) (h : ∀ i o, T.h i = some o → S.h i = some o) : Rel B μ T w :=
  ⟨fun i o hi => r.obj i o (h i o hi), fun i j o o' p q hi hj => r.inj i j o o' p q (h i o hi) (h j o' hj), r.mu, r.size⟩

theorem take_h (S : AS) (i : Nat) (o : AObj) (j : Nat) : ((S.set i none).new o).h j = if j = S.nx then some o else if j = i then none else S.h j := rfl

/-- An object takes another one's block over (its cells may be more than were known); the other one is forgotten. -/
theorem Rel.take {B : Nat} {μ : Mu} {S : AS} {w : World} (r : Rel B μ S w) (hf : μ S.nx = none) {i b d z : Nat} {o o' : AObj} (hi : S.h i = some o) (hro : o.ro = false) (hm : μ i = some (b, d, z)) (d' : Nat)
    {w' : World} (hw : ∀ k, k ≠ b → w'.heap[k]? = w.heap[k]?) (hsz : w'.heap.size = w.heap.size) (hos : w'.os = w.os) (ht : w'.tape = w.tape) (hou : w'.output = w.output)
    (ho : ∀ μ', Sub μ μ' → ORel B μ' w' b d' z o') (hro' : o'.ro = false) :
    Rel B (muSet μ S.nx (b, d', z)) ((S.set i none).new o') w' ∧ Fr S ((S.set i none).new o') μ (muSet μ S.nx (b, d', z)) w w' := by
  have hs := muSet_sub hf (b, d', z)
  have hB : B ≤ b := by
    obtain ⟨b', d1, z', h1, _, h3⟩ := r.obj i o hi
    rw [hm] at h1; cases h1; exact h3 hro
  have hlt := r.ne hf hi
  have hother : ∀ j oj, S.h j = some oj → j ≠ i → ∀ p, μ j = some p → p.1 ≠ b := fun j oj hj hne p hp e =>
    hne (r.inj i j o oj _ _ hi hj hro hm hp e.symm).symm
  constructor
  · constructor
    · intro j oj hj
      rw [take_h] at hj
      by_cases e : j = S.nx
      · rw [if_pos e] at hj; cases hj
        exact ⟨b, d', z, by simp [muSet, e], ho _ hs, fun _ => hB⟩
      · rw [if_neg e] at hj
        by_cases e2 : j = i
        · rw [if_pos e2] at hj; cases hj
        · rw [if_neg e2] at hj
          obtain ⟨b', d1, z', h1, h2, h3⟩ := r.obj j oj hj
          exact ⟨b', d1, z', hs j _ h1, (h2.mono hs).same (hw b' (hother j oj hj e2 _ h1)), h3⟩
    · intro j k oj ok p q hj hk h1 h2 h3 h4
      rw [take_h] at hj hk
      simp only [muSet] at h2 h3
      by_cases ej : j = S.nx <;> by_cases ek : k = S.nx
      · rw [ej, ek]
      · rw [if_pos ej] at h2; rw [if_neg ek] at h3 hk; cases h2
        by_cases e2 : k = i
        · rw [if_pos e2] at hk; cases hk
        · rw [if_neg e2] at hk; exact absurd h4.symm (hother k ok hk e2 _ h3)
      · rw [if_neg ej] at h2 hj; rw [if_pos ek] at h3; cases h3
        by_cases e2 : j = i
        · rw [if_pos e2] at hj; cases hj
        · rw [if_neg e2] at hj; exact absurd h4 (hother j oj hj e2 _ h2)
      · rw [if_neg ej] at hj h2; rw [if_neg ek] at hk h3
        by_cases e2 : j = i
        · rw [if_pos e2] at hj; cases hj
        · by_cases e3 : k = i
          · rw [if_pos e3] at hk; cases hk
          · rw [if_neg e2] at hj; rw [if_neg e3] at hk
            exact r.inj j k oj ok p q hj hk h1 h2 h3 h4
    · intro j p h
      simp only [muSet] at h
      rw [hsz]
      by_cases e : j = S.nx
      · rw [if_pos e] at h; cases h; have := r.mu i _ hm; exact this
      · rw [if_neg e] at h; exact r.mu j p h
    · rw [hsz]; exact r.size
  · refine ⟨hos, ht, hou, by omega, hs, by simp [AS.new, AS.set], ?_, ?_, ?_, ?_⟩
    · intro j p h1 h2
      simp only [muSet] at h2
      by_cases e : j = S.nx
      · rw [e]; simp [AS.new, AS.set]
      · rw [if_neg e, h1] at h2; cases h2
    · intro j oj h1 h2
      rw [take_h] at h1
      by_cases e : j = S.nx
      · rw [if_pos e] at h1; cases h1; rw [hro'] at h2; cases h2
      · rw [if_neg e] at h1
        by_cases e2 : j = i
        · rw [if_pos e2] at h1; cases h1
        · rw [if_neg e2] at h1; exact h1
    · intro b1 hb1 hn
      exact hw b1 (fun e => by subst e; exact hn i o _ hi hro hm rfl)
    · intro j oj p h1 h2 h3 _
      rw [take_h] at h1
      simp only [muSet] at h3
      by_cases e : j = S.nx
      · rw [if_pos e] at h3; cases h3; exact ⟨i, o, _, hi, hro, hm, rfl⟩
      · rw [if_neg e] at h1 h3
        by_cases e2 : j = i
        · rw [if_pos e2] at h1; cases h1
        · rw [if_neg e2] at h1; exact ⟨j, oj, p, h1, h2, h3, rfl⟩

end Go.Ax

/- From the model's operations to resolved ones. -/
namespace Go.Ax

def szOf (P : Program) (t : TypeId) : Option Nat := (P.info? t).map (·.size)
def bytesOf (P : Program) (t : TypeId) : Option Nat := (P.info? t).map (·.bytes)
def zeroOf (P : Program) (t : TypeId) : Option Value := (P.info? t).bind (·.zero)

/-- How many cells a variable of a type has; bare: one cell. -/
def aggN (P : Program) (t : TypeId) : Option (Option Nat) :=
  match P.underlying t with
  | some (.struct _) | some (.array _ _) => (szOf P t).map some
  | some _ => some none
  | none => none

def scalV : Value → Bool
  | .bool _ | .int _ _ | .float _ _ | .complex _ _ _ | .string _ | .nilFunc | .nilIface | .pointer none | .slice none _ _ | .map none => true
  | _ => false

/-- Values that mean the same in both worlds. -/
def groundV : Value → Bool
  | .agg cs => cs.toList.all scalV
  | v => scalV v

def groundO : Operand → Bool
  | .const v => groundV v
  | .global _ => false
  | _ => true

def fieldOf (P : Program) (s : TypeId) (f : Nat) : Option Field :=
  match P.underlying s with
  | some (.struct fields) => fields[f]?
  | _ => none

def partsS (P : Program) (fields : Array Field) : List (Nat × Operand) → Option (List (Nat × Nat × Operand))
  | [] => some []
  | (i, x) :: r => match fields[i]? with
    | some f => match szOf P f.type, partsS P fields r with
      | some n, some ps => some ((f.offset, n, x) :: ps)
      | _, _ => none
    | none => none

def partsA (n : Nat) : List (Nat × Operand) → List (Nat × Nat × Operand)
  | [] => []
  | (i, x) :: r => (i * n, n, x) :: partsA n r

/-- Are all fields' sizes known? -/
def sizesOk (P : Program) (fields : List Field) : Bool := fields.all fun f => (szOf P f.type).isSome

def intT (P : Program) (t : TypeId) : Bool := match P.underlying t with | some (.int _) => true | _ => false
def keyT (P : Program) (t : TypeId) : Option KK := match P.underlying t with | some (.int _) => some .int | some .string => some .str | _ => none

def nkOf : TypeDesc → Option NK
  | .pointer _ => some .ptr
  | .slice _ => some .slice
  | .map _ _ => some .map
  | .func _ _ _ => some .func
  | _ => none

def cBin (P : Program) (op : BinOp) (t : TypeId) (x y : Operand) : Option AOp :=
  match P.underlying t with
  | some (.int _) | some .string => some (.bin op x y)
  | some .bool => match op with
    | .eql => some (.eqB false x y)
    | .neq => some (.eqB true x y)
    | _ => none
  | some d => match nkOf d, op with
    | some k, .eql => some (.eqNil k false x y)
    | some k, .neq => some (.eqNil k true x y)
    | _, _ => none
  | none => none

def cCall (P : Program) (c : Call) : Option AOp :=
  match c.callee with
  | .value f => if groundO f then some (.call f c.args.toList) else none
  | .invoke _ _ => none
  | .builtin b => match b, c.args.toList, c.argTypes.toList with
    | .len, [x], [t] => match P.underlying t with
      | some .string => some (.len .str x)
      | some (.slice _) => some (.len .sl x)
      | some (.map _ _) => some (.len .map x)
      | _ => none
    | .min, [x, y], _ => some (.min x y)
    | .max, [x, y], _ => some (.max x y)
    | .append, [s, x], [t, u] => match P.underlying t, P.underlying u with
      | some (.slice e), some (.slice _) => match szOf P e, bytesOf P e, zeroOf P e with
        | some n, some b, some z => if z.cells.size = n ∧ 0 < n ∧ 0 < b ∧ b ≤ 1048576 ∧ z.cells.toList.all (fun v => v.oneCell' && scalV v) then some (.append n b s x) else none
        | _, _, _ => none
      | _, _ => none
    | .copy, [d, s], [t, _] => match P.underlying t with
      | some (.slice e) => (szOf P e).map fun n => .copy n d s
      | _ => none
    | .clear, [x], [t] => match P.underlying t with
      | some (.slice e) => match zeroOf P e with
        | some z => if 0 < z.cells.size ∧ z.cells.toList.all (fun v => v.oneCell' && scalV v) then some (.clear z.cells.toList x) else none
        | none => none
      | _ => none
    | .delete, [x, k], [t, _] => match P.underlying t with
      | some (.map kt _) => (keyT P kt).map fun kk => .delete kk x k
      | _ => none
    | _, _, _ => none

def cOp (P : Program) (o : Oper) : Option AOp :=
  if o.op.operands.toList.all groundO = false then none else
  match o.op with
  | .move x | .assign x => some (.val x)
  | .pick c a b => some (.pick c a b)
  | .alloc e => match zeroOf P e with
    | some z => if z.cells.toList.all (fun v => v.oneCell' && scalV v) then some (.new z.cells.toList) else none
    | none => none
  | .box _ x => some (.box x)
  | .build t ps => match zeroOf P t, P.underlying t with
    | some z, some (.struct fields) =>
      if sizesOk P fields.toList ∧ z.cells.toList.all (fun v => v.oneCell' && scalV v) then (partsS P fields ps.toList).map (AOp.build z.cells.toList) else none
    | some z, some (.array _ e) => match szOf P e with
      | some n => if z.cells.toList.all (fun v => v.oneCell' && scalV v) then some (.build z.cells.toList (partsA n ps.toList)) else none
      | none => none
    | _, _ => none
  | .buildSlice t len ps => match P.underlying t with
    | some (.slice e) => match szOf P e, zeroOf P e with
      | some n, some z =>
        if 0 < len * n ∧ len * n ≤ 16777216 ∧ z.cells.size = n ∧ z.cells.toList.all (fun v => v.oneCell' && scalV v) then
          some (.buildSl len (repL z.cells.toList len) (partsA n ps.toList)) else none
      | _, _ => none
    | _ => none
  | .load t x => (aggN P t).map fun n => .load n x
  | .store t x v => (szOf P t).map fun n => .store n x v
  | .nilCheck x => some (.nilck x)
  | .binOp op t x y _ => cBin P op t x y
  | .unOp op _ x => some (.un op x)
  | .convert s d x => match P.underlying s, P.underlying d with
    | some (.int _), some (.int k) => some (.conv k x)
    | _, _ => none
  | .makeFunc fn first captured => some (.mkFn fn first.toList captured.toList)
  | .makeMap _ none => some .mkMap
  | .makeSlice t l c => match P.underlying t with
    | some (.slice e) => match szOf P e, bytesOf P e, zeroOf P e with
      | some n, some b, some z => if z.cells.size = n ∧ 0 < n ∧ z.cells.toList.all (fun v => v.oneCell' && scalV v) then some (.mkSl z.cells.toList b l c) else none
      | _, _, _ => none
    | _ => none
  | .slice t x lo hi mx => match P.underlying t with
    | some (.slice e) => (szOf P e).map fun n => .slice n x lo hi mx
    | some (.array n e) => (szOf P e).map fun s => .sliceA n s x lo hi mx
    | some .string => match mx with
      | none => some (.sliceStr x lo hi)
      | some _ => none
    | _ => none
  | .fieldAddr s x f => match fieldOf P s f with
    | some fd => match szOf P fd.type with
      | some n => if 0 < n then some (.fldA fd.offset x) else none
      | none => none
    | none => none
  | .field s x f => match fieldOf P s f with
    | some fd => (aggN P fd.type).map fun n => .fld n fd.offset x
    | none => none
  | .indexAddr t x i => match P.underlying t with
    | some (.slice e) => (szOf P e).map fun n => .idxSl n x i
    | some (.array len e) => (szOf P e).map fun n => .idxAr len n x i
    | _ => none
  | .index t x i => match P.underlying t with
    | some (.array len e) => match aggN P e, szOf P e with
      | some m, some n => some (.idxV len n m x i)
      | _, _ => none
    | some .string => some (.idxStr x i)
    | _ => none
  | .lookup t x k ok => match P.underlying t with
    | some (.map kt e) => match zeroOf P e with
      | some z => if groundV z then (keyT P kt).map fun kk => .lookup kk z x k ok else none
      | none => none
    | _ => none
  | .mapUpdate t m k v | .insert t m k v => match P.underlying t with
    | some (.map kt _) => (keyT P kt).map fun kk => .mapUpd kk m k v
    | _ => none
  | .mapEntry t m k => match P.underlying t with
    | some (.map kt e) => match zeroOf P e with
      | some z => if groundV z then (keyT P kt).map fun kk => .mapEnt kk z m k else none
      | none => none
    | _ => none
  | .entryStore _ m s v => some (.entSt m s v)
  | .range t x => match P.underlying t with
    | some (.map _ _) => some (.rangeM x)
    | some .string => some (.rangeS x)
    | _ => none
  | .next it s => some (.next it s)
  | .extract t i => some (.extr t i)
  | .call c => cCall P c
  | _ => none

end Go.Ax

/- Each operation, in both worlds: memory's cells; the operations that only compute. -/
namespace Go.Ax
open Instr

structure ERel (μ : Mu) (N : Nat) (ρ : Env) (a : Act) : Prop where
  size : N ≤ a.tmps.size
  get : ∀ t v, look ρ t = some v → VRel μ v (a.tmps.getD t undef)

theorem ERel.mono {μ μ' : Mu} (s : Sub μ μ') {N : Nat} {ρ : Env} {a : Act} (h : ERel μ N ρ a) : ERel μ' N ρ a := ⟨h.size, fun t v hv => (h.get t v hv).mono s⟩

theorem ERel.put {μ : Mu} {N : Nat} {ρ : Env} {a : Act} (h : ERel μ N ρ a) {dst : Option Nat} (hd : ∀ d, dst = some d → d < N) {v v' : Value} (hv : VRel μ v v') : ERel μ N (putE ρ dst v) (a.put dst v') := by
  cases dst with
  | none => exact h
  | some d =>
    have hlt : d < a.tmps.size := Nat.lt_of_lt_of_le (hd d rfl) h.size
    refine ⟨by simp [Act.put]; exact h.size, fun t u hu => ?_⟩
    simp only [putE, look] at hu
    by_cases e : t = d
    · rw [if_pos e] at hu; cases hu
      subst e
      simp [Act.put, hlt, hv]
    · rw [if_neg e] at hu
      have := h.get t u hu
      simpa [Act.put, Array.getElem?_setIfInBounds_ne (Ne.symm e)] using this

theorem undef_rel (μ : Mu) : VRel μ undef undef := .tuple .nil

theorem scal_rel (μ : Mu) {v : Value} (h : scalV v = true) : VRel μ v v := by
  unfold scalV at h
  split at h <;> first | constructor | (exact absurd h (by simp))

theorem scals_rel (μ : Mu) {l : List Value} (h : l.all scalV = true) : LRel μ l l := by
  induction l with
  | nil => exact .nil
  | cons x l ih => simp only [List.all_cons, Bool.and_eq_true] at h; exact .cons (scal_rel μ h.1) (ih h.2)

theorem scal_one {v : Value} (h : scalV v = true) : v.oneCell' = true := by
  unfold scalV at h
  split at h <;> first | rfl | (exact absurd h (by simp))

theorem ground_rel (μ : Mu) {v : Value} (h : groundV v = true) : VRel μ v v := by
  unfold groundV at h
  split at h
  · exact .agg (scals_rel μ h) (fun x hx => scal_one (List.all_eq_true.1 h x hx))
  · exact scal_rel μ h

theorem ev_sound {μ : Mu} {N : Nat} {ρ : Env} {a : Act} (h : ERel μ N ρ a) {x : Operand} {v : Value} (hg : groundO x = true) (hx : ev ρ x = some v) : VRel μ v (a.eval x) := by
  cases x with
  | tmp t => exact h.get t v hx
  | const c => simp only [ev, Option.some.injEq] at hx; subst hx; exact ground_rel μ hg
  | global g => simp [ev] at hx
  | func f => simp only [ev, Option.some.injEq] at hx; subst hx; exact .func _ .nil .nil

theorem evs_sound {μ : Mu} {N : Nat} {ρ : Env} {a : Act} (h : ERel μ N ρ a) : ∀ {xs : List Operand} {vs : List Value}, xs.all groundO = true → evs ρ xs = some vs → LRel μ vs (xs.map a.eval)
  | [], vs, _, hx => by simp only [evs, Option.some.injEq] at hx; subst hx; exact .nil
  | x :: r, vs, hg, hx => by
    simp only [evs] at hx
    simp only [List.all_cons, Bool.and_eq_true] at hg
    split at hx
    · rename_i v ws h1 h2
      cases hx
      exact .cons (ev_sound h hg.1 h1) (evs_sound h hg.2 h2)
    · cases hx

/-- What the first cells of an object are in the world. -/
theorem getCells_sound {B : Nat} {μ : Mu} {S : AS} {w : World} (r : Rel B μ S w) {i b d z o n : Nat} {cs : List Value} (hm : μ i = some (b, d, z)) (hg : getCells S i o n = some cs) :
    ∃ c e fz, w.heap[b]? = some (.cells c e fz) ∧ LRel μ cs ((c.toList.drop (o + d)).take n) ∧ (∀ x ∈ cs, x.oneCell' = true) ∧ cs.length = n := by
  unfold getCells at hg
  split at hg
  · rename_i ro l hl
    split at hg
    · rename_i hle
      cases hg
      obtain ⟨b', d', z', h1, ⟨c, e, fz, g1, g2, g3, _⟩, _⟩ := r.obj i _ hl
      rw [hm] at h1; cases h1
      refine ⟨c, e, fz, g1, ?_, fun x hx => g3 x (List.mem_of_mem_drop (List.mem_of_mem_take hx)), by simp; omega⟩
      have k := (g2.drop o).take n
      have e1 : (((c.toList.drop d).take l.length).drop o).take n = (c.toList.drop (o + d)).take n := by
        rw [List.drop_take, List.take_take, List.drop_drop]
        congr 1
        · omega
        · congr 1; omega
      rw [e1] at k
      exact k
    · cases hg
  · cases hg

theorem getCells_ids {S : AS} {i o n : Nat} {cs : List Value} (h : getCells S i o n = some cs) : ∃ ro l, S.h i = some (.cells ro l) ∧ o + n ≤ l.length ∧ cs = (l.drop o).take n := by
  unfold getCells at h
  split at h
  · split at h
    · cases h; exact ⟨_, _, by assumption, by assumption, rfl⟩
    · cases h
  · cases h

variable {P : Program}

theorem run_cells {w : World} {b o n : Nat} {c : Array Value} {e : TypeId} {fz : Nat × Nat} (hb : w.heap[b]? = some (.cells c e fz)) (hn : ((c.toList.drop o).take n).length = n) :
    (loadCells ⟨b, o, none⟩ n).run P w = .ok ((c.toList.drop o).take n).toArray w := by
  have := run_loadCells_list (P := P) w ⟨b, o, none⟩ ((c.toList.drop o).take n) (fun j v hv => by
    have hadd : (⟨b, o, none⟩ : Addr).add j = ⟨b, o + j, none⟩ := by unfold Addr.add; split <;> simp_all
    rw [hadd]
    have hj : j < n := by
      rcases Nat.lt_or_ge j n with h | h
      · exact h
      · rw [List.getElem?_eq_none (by omega)] at hv; cases hv
    rw [List.getElem?_take_of_lt hj, List.getElem?_drop] at hv
    simpa [World.cell?, hb] using hv)
  rw [hn] at this
  exact this

theorem run_szOf {t : TypeId} {n : Nat} (h : szOf P t = some n) (w : World) : (sizeOf t).run P w = .ok n w := by
  unfold szOf at h
  cases hi : P.info? t with
  | none => simp [hi] at h
  | some i => simp [hi] at h; simp [sizeOf, typeInfo, hi, h]

theorem run_bytesOf {t : TypeId} {n : Nat} (h : bytesOf P t = some n) (w : World) : ∃ i, (typeInfo t).run P w = .ok i w ∧ i.bytes = n := by
  unfold bytesOf at h
  cases hi : P.info? t with
  | none => simp [hi] at h
  | some i => simp [hi] at h; exact ⟨i, by simp [typeInfo, hi], h⟩

theorem run_zeroOf {t : TypeId} {z : Value} (h : zeroOf P t = some z) (w : World) : (zeroValue t).run P w = .ok z w := by
  unfold zeroOf at h
  cases hi : P.info? t with
  | none => simp [hi] at h
  | some i => simp [hi] at h; simp [zeroValue, typeInfo, hi, h]

theorem run_loadVarN {t : TypeId} {n : Option Nat} (h : aggN P t = some n) {w : World} {b o : Nat} {c : Array Value} {e : TypeId} {fz : Nat × Nat} (hb : w.heap[b]? = some (.cells c e fz)) {μ : Mu} {cs : List Value}
    (hr : LRel μ cs ((c.toList.drop o).take (sizeN n))) (hl : cs.length = sizeN n) (h1 : ∀ x ∈ cs, x.oneCell' = true) {v : Value} (hv : mkV n cs = some v) :
    ∃ v', (loadVar t ⟨b, o, none⟩).run P w = .ok v' w ∧ VRel μ v v' := by
  unfold aggN at h
  have hn : ((c.toList.drop o).take (sizeN n)).length = sizeN n := by rw [← hr.length, hl]
  cases hu : P.underlying t with
  | none => simp [hu] at h
  | some dd =>
    rw [hu] at h
    cases n with
    | some m =>
      have hs : szOf P t = some m ∧ (isAgg t).run P w = .ok true w := by
        cases dd <;> simp at h <;> exact ⟨by simpa using h, by simp [isAgg, run_underlying hu]⟩
      simp only [mkV, Option.some.injEq] at hv
      subst hv
      refine ⟨.agg ((c.toList.drop o).take m).toArray, ?_, .agg (by simpa [sizeN] using hr) (by simpa using h1)⟩
      have := run_cells (P := P) hb (by simpa [sizeN] using hn)
      simp [loadVar, hs.2, run_szOf hs.1, this]
    | none =>
      have hs : (isAgg t).run P w = .ok false w := by
        cases dd <;> simp at h <;> simp [isAgg, run_underlying hu]
      simp only [mkV] at hv
      split at hv
      · rename_i u
        cases hv
        simp only [sizeN, Option.getD_none] at hr hn
        obtain ⟨u', h2, h3⟩ := hr.get (i := 0) (v := v) rfl
        refine ⟨u', ?_, h3⟩
        rw [List.getElem?_take_of_lt (by omega), List.getElem?_drop] at h2
        simp only [Nat.add_zero] at h2
        have hc : w.cell? ⟨b, o, none⟩ = some u' := by simp [World.cell?, hb]; simpa using h2
        simp [loadVar, hs, hc]
      · cases hv

/-- Cells are written. -/
theorem setCells_sound {B : Nat} {μ : Mu} {S S' : AS} {w : World} (r : Rel B μ S w) {i b d z o : Nat} {vs vs' : List Value} (hm : μ i = some (b, d, z)) (hv : LRel μ vs vs') (h1 : ∀ x ∈ vs, x.oneCell' = true)
    (hg : setCells S i o vs = some S') : ∃ w', (storeCells ⟨b, o + d, none⟩ vs' 0).run P w = .ok () w' ∧ Rel B μ S' w' ∧ Fr S S' μ μ w w' := by
  unfold setCells at hg
  split at hg
  · rename_i l hl
    split at hg
    · rename_i hle
      cases hg
      obtain ⟨b', d', z', g0, ⟨c, e, fz, g1, g2, g3, g4, _, g6, g7⟩, _⟩ := r.obj i _ hl
      rw [hm] at g0; cases g0
      have hfz := g4 rfl; subst hfz
      have hlen := g2.length
      simp only [List.length_take, List.length_drop, Array.length_toList] at hlen
      have hll := hv.length
      have hsz : o + d + 0 + vs'.length ≤ c.size := by omega
      have hst := run_storeCells_at (P := P) b (o + d) e vs' 0 c w g1 hsz (hv.one h1)
      refine ⟨_, hst, ?_⟩
      refine Rel.set r hl rfl hm (fun k hk => setRow_other w b k _ hk) (by simp) rfl rfl rfl ⟨_, e, (0, 0), setRow_heap w b c _ e _ g1, ?_, ?_, fun _ => rfl, by simp, by simp; omega, by simp; omega⟩ rfl
      · have ht : LRel μ (l.take o) (((c.toList.drop d).take l.length).take o) := g2.take o
        have hd : LRel μ (l.drop (o + vs.length)) (((c.toList.drop d).take l.length).drop (o + vs.length)) := g2.drop _
        have := (ht.append hv).append hd
        have e1 : ((c.toList.take (o + d + 0) ++ vs' ++ c.toList.drop (o + d + 0 + vs'.length)).drop d).take (l.take o ++ vs ++ l.drop (o + vs.length)).length
            = ((c.toList.drop d).take l.length).take o ++ vs' ++ ((c.toList.drop d).take l.length).drop (o + vs.length) := by
          apply List.ext_getElem?
          intro j
          simp only [List.getElem?_take, List.getElem?_drop, List.getElem?_append, List.length_append, List.length_take, List.length_drop, Array.length_toList, Nat.add_zero]
          repeat' split
          all_goals first
            | rfl
            | omega
            | (congr 1; omega)
            | (rw [List.getElem?_eq_none (by simp; omega)])
            | (symm; rw [List.getElem?_eq_none (by simp; omega)])
        rw [List.toList_toArray, e1]
        exact this
      · intro x hx
        simp only [List.mem_append] at hx
        rcases hx with (hx | hx) | hx
        · exact g3 x (List.mem_of_mem_take hx)
        · exact h1 x hx
        · exact g3 x (List.mem_of_mem_drop hx)
    · cases hg
  · cases hg

end Go.Ax

/- Each operation that only computes, in both worlds. -/
namespace Go.Ax
open Instr
variable {P : Program}

/-- An operation has ended: with related values, states and frames. -/
def Done (B : Nat) (μ : Mu) (S : AS) (w : World) (run : Result Next) (v : Value) (S' : AS) : Prop :=
  ∃ v' μ' w', (run = .ok (.value v') w' ∨ (run = .ok .skip w' ∧ v' = undef)) ∧ VRel μ' v v' ∧ Rel B μ' S' w' ∧ Fr S S' μ μ' w w'

theorem Done.val {B : Nat} {μ : Mu} {S : AS} {w : World} (r : Rel B μ S w) {run : Result Next} {v v' : Value} (h : run = .ok (.value v') w) (hv : VRel μ v v') : Done B μ S w run v S :=
  ⟨v', μ, w, .inl h, hv, r, Fr.refl _ _ _⟩

theorem bnd_sound {μ : Mu} {x x' : Value} (h : VRel μ x x') {y n : Nat} (hb : bnd x y = some n) {y' : Nat} (hy : y ≤ y') (code : BoundsCode) (w : World) :
    (sliceBound x' y' code).run P w = .ok n w ∧ n ≤ y := by
  unfold bnd at hb
  cases h with
  | int k i =>
    simp only at hb
    split at hb
    · rename_i hi; cases hb; exact ⟨run_sliceBound w k i y' code hi.1 (by omega), by omega⟩
    · cases hb
  | _ => cases hb

/-- Bounds of a slice expression: where the capacity is at least as known. -/
theorem bounds_sound {μ : Mu} {len cap cap' : Nat} (hcap : cap ≤ cap') {lo hi mx lo' hi' mx' : Option Value}
    (hlo : ∀ v, lo = some v → ∃ v', lo' = some v' ∧ VRel μ v v') (hlo0 : lo = none → lo' = none)
    (hhi : ∀ v, hi = some v → ∃ v', hi' = some v' ∧ VRel μ v v') (hhi0 : hi = none → hi' = none)
    (hmx : ∀ v, mx = some v → ∃ v', mx' = some v' ∧ VRel μ v v') (hmx0 : mx = none → mx' = none)
    {l h m : Nat} (hb : bounds len cap lo hi mx = some (l, h, m)) (isS : Bool) (w : World) :
    ∃ m', (sliceBounds isS len cap' lo' hi' mx').run P w = .ok (l, h, m') w ∧ m ≤ m' ∧ (mx = none → m = cap ∧ m' = cap') ∧ (mx.isSome = true → m' = m) ∧ l ≤ h ∧ h ≤ m := by
  unfold bounds at hb
  split at hb
  · cases hb
  · rename_i m0 hm0
    split at hb
    · cases hb
    · rename_i h0 hh0
      split at hb
      · cases hb
      · rename_i l0 hl0
        split at hb
        · rename_i hc
          simp only [Option.some.injEq, Prod.mk.injEq] at hb
          obtain ⟨rfl, rfl, rfl⟩ := hb
          have klo : (lo' = none ∧ l0 = 0) ∨ ∃ vl', lo' = some vl' ∧ ∀ code, (sliceBound vl' h0 code).run P w = .ok l0 w := by
            cases lo with
            | none => simp only [bOr, Option.some.injEq] at hl0; exact .inl ⟨hlo0 rfl, hl0.symm⟩
            | some vl => obtain ⟨vl', rfl, rl⟩ := hlo _ rfl; exact .inr ⟨vl', rfl, fun code => (bnd_sound (P := P) rl hl0 (Nat.le_refl _) code w).1⟩
          cases mx with
          | none =>
            have := hmx0 rfl; subst this
            simp only [bOr, Option.some.injEq] at hm0
            subst hm0
            refine ⟨cap', ?_, hcap, by simp, by simp, hc⟩
            cases hi with
            | none =>
              have := hhi0 rfl; subst this
              simp [bOr] at hh0
              subst hh0
              rcases klo with ⟨rfl, rfl⟩ | ⟨vl', rfl, hl⟩
              · simp [sliceBounds]
              · simp [sliceBounds, hl]
            | some vh =>
              obtain ⟨vh', rfl, rh⟩ := hhi _ rfl
              have hh := fun code => bnd_sound (P := P) rh hh0 hcap code w
              rcases klo with ⟨rfl, rfl⟩ | ⟨vl', rfl, hl⟩
              · simp [sliceBounds, (hh _).1]
              · simp [sliceBounds, (hh _).1, hl]
          | some vm =>
            obtain ⟨vm', rfl, rm⟩ := hmx _ rfl
            have hm := fun code => bnd_sound (P := P) rm hm0 hcap code w
            refine ⟨m0, ?_, Nat.le_refl _, by simp, by simp, hc⟩
            cases hi with
            | none => simp [bOr] at hh0
            | some vh =>
              obtain ⟨vh', rfl, rh⟩ := hhi _ rfl
              have hh := fun code => bnd_sound (P := P) rh hh0 (Nat.le_refl _) code w
              rcases klo with ⟨rfl, rfl⟩ | ⟨vl', rfl, hl⟩
              · simp [sliceBounds, (hh _).1, (hm _).1]
              · simp [sliceBounds, (hh _).1, (hm _).1, hl]
        · cases hb

theorem run_asB {t : TypeId} {e : TypeId} (h : P.underlying t = some (.slice e)) (x : Value) (lo hi mx : Option Value) (w : World) : (sliceAt t x lo hi mx).run P w = (slice t x lo hi mx).run P w := by
  simp [sliceAt, run_underlying h]

theorem addr_add (b o n : Nat) : (⟨b, o, none⟩ : Addr).add n = ⟨b, o + n, none⟩ := by unfold Addr.add; split <;> simp_all

theorem sliceV_sound {μ : Mu} {t e : TypeId} {n : Nat} (ht : P.underlying t = some (.slice e)) (hz : szOf P e = some n) {x x' : Value} (h : VRel μ x x') {lo hi mx lo' hi' mx' : Option Value}
    (hlo : ∀ v, lo = some v → ∃ v', lo' = some v' ∧ VRel μ v v') (hlo0 : lo = none → lo' = none)
    (hhi : ∀ v, hi = some v → ∃ v', hi' = some v' ∧ VRel μ v v') (hhi0 : hi = none → hi' = none)
    (hmx : ∀ v, mx = some v → ∃ v', mx' = some v' ∧ VRel μ v v') (hmx0 : mx = none → mx' = none)
    {v : Value} (hs : sliceV n x lo hi mx = some v) (w : World) : ∃ v', (sliceAt t x' lo' hi' mx').run P w = .ok v' w ∧ VRel μ v v' := by
  rw [run_asB ht]
  unfold sliceV at hs
  cases h with
  | snil len cap =>
    simp only at hs
    split at hs
    · rename_i l h m hb
      cases hs
      obtain ⟨m', h1, h2, h3, h4, h5⟩ := bounds_sound (P := P) (Nat.le_refl cap) hlo hlo0 hhi hhi0 hmx hmx0 hb true w
      have hmm : m' = m := by
        cases hq : mx with
        | none => have := h3 hq; omega
        | some _ => exact h4 (by simp [hq])
      subst hmm
      refine ⟨.slice none (h - l) (m' - l), ?_, .snil _ _⟩
      simp [slice, run_underlying ht, h1, run_szOf hz]
    · cases hs
  | @slice i o b d z len cap hm =>
    simp only at hs
    split at hs
    · rename_i l h m hb
      cases hs
      obtain ⟨m', h1, h2, h3, h4, h5⟩ := bounds_sound (P := P) (Nat.le_refl cap) hlo hlo0 hhi hhi0 hmx hmx0 hb true w
      have hmm : m' = m := by
        cases hq : mx with
        | none => have := h3 hq; omega
        | some _ => exact h4 (by simp [hq])
      subst hmm
      have hrun : (slice t (.slice (some ⟨b, o + d, none⟩) len cap) lo' hi' mx').run P w = .ok (.slice (if m' = l then some ⟨b, o + d, none⟩ else some ⟨b, o + d + l * n, none⟩) (h - l) (m' - l)) w := by
        simp [slice, run_underlying ht, h1, run_szOf hz, addr_add]
      refine ⟨_, hrun, ?_⟩
      by_cases hml : m' = l
      · have e1 : h - l = 0 := by omega
        have e2 : m' - l = 0 := by omega
        rw [if_pos hml, e1, e2]
        exact .s0 _
      · rw [if_neg hml]
        have e : o + d + l * n = (o + l * n) + d := by omega
        rw [e]
        exact .slice hm
    · cases hs
  | @slack i o b d z len cap cap' e hm hc hzz =>
    simp only at hs
    split at hs
    · rename_i l h m hb
      split at hs
      · rename_i hen
        subst hen
        cases hs
        obtain ⟨m', h1, h2, h3, h4, h5⟩ := bounds_sound (P := P) hc hlo hlo0 hhi hhi0 hmx hmx0 hb true w
        have hrun : (slice t (.slice (some ⟨b, o + d, none⟩) len cap') lo' hi' mx').run P w = .ok (.slice (if m' = l then some ⟨b, o + d, none⟩ else some ⟨b, o + d + l * e, none⟩) (h - l) (m' - l)) w := by
          simp [slice, run_underlying ht, h1, run_szOf hz, addr_add]
        refine ⟨_, hrun, ?_⟩
        by_cases hml : m' = l
        · have e1 : h - l = 0 := by omega
          have e2 : m' - l = 0 := by omega
          have e3 : m - l = 0 := by omega
          rw [if_pos hml, e1, e2, e3]
          exact .s0 _
        · rw [if_neg hml]
          have e9 : o + d + l * e = (o + l * e) + d := by omega
          rw [e9]
          cases hq : mx with
          | none =>
            simp only [Option.isSome_none, Bool.false_eq_true, if_false]
            have := h3 hq
            refine .slack hm (by omega) ?_
            have hl : l ≤ m' := by omega
            have : (m' - l) * e = m' * e - l * e := Nat.sub_mul _ _ _
            have h6 : l * e ≤ m' * e := Nat.mul_le_mul_right _ hl
            have : m' = cap' := (h3 hq).2
            subst this
            omega
          | some vm =>
            simp only [Option.isSome_some, if_true]
            have := h4 (by simp [hq])
            subst this
            exact .slice hm
      · cases hs
    · cases hs
  | @s0 i o q a =>
    simp only at hs
    split at hs
    · rename_i l h m hb
      obtain ⟨m', h1, h2, h3, h4, h5⟩ := bounds_sound (P := P) (Nat.le_refl 0) hlo hlo0 hhi hhi0 hmx hmx0 hb true w
      have hm0 : m' = 0 := by
        cases hq : mx with
        | none => exact (h3 hq).2
        | some vm =>
          have h6 := h4 (by simp [hq])
          unfold bounds at hb
          rw [hq] at hb
          split at hb
          · cases hb
          · rename_i m0 hm0
            obtain ⟨vm', _, rm⟩ := hmx _ hq
            have := (bnd_sound (P := P) rm hm0 (Nat.le_refl 0) .sliceB w).2
            split at hb
            · cases hb
            · split at hb
              · cases hb
              · split at hb
                · cases hb; omega
                · cases hb
      have el : l = 0 := by omega
      have eh : h = 0 := by omega
      have em : m = 0 := by omega
      subst hm0; subst el; subst eh; subst em
      have hrun : (slice t (.slice (some a) 0 0) lo' hi' mx').run P w = .ok (.slice (some a) 0 0) w := by
        simp [slice, run_underlying ht, h1, run_szOf hz]
      refine ⟨_, hrun, ?_⟩
      cases q with
      | none => cases hs; exact .s0 _
      | some q =>
        simp only at hs
        split at hs
        · cases hs; exact .s0 _
        · cases hs
    · cases hs
  | _ => cases hs

theorem sliceA_sound {μ : Mu} {t e : TypeId} {k n : Nat} (ht : P.underlying t = some (.array k e)) (hz : szOf P e = some n) {x x' : Value} (h : VRel μ x x') {lo hi mx lo' hi' mx' : Option Value}
    (hlo : ∀ v, lo = some v → ∃ v', lo' = some v' ∧ VRel μ v v') (hlo0 : lo = none → lo' = none)
    (hhi : ∀ v, hi = some v → ∃ v', hi' = some v' ∧ VRel μ v v') (hhi0 : hi = none → hi' = none)
    (hmx : ∀ v, mx = some v → ∃ v', mx' = some v' ∧ VRel μ v v') (hmx0 : mx = none → mx' = none)
    {v : Value} (hs : sliceA k n x lo hi mx = some v) (w : World) : ∃ v', (sliceAt t x' lo' hi' mx').run P w = .ok v' w ∧ VRel μ v v' := by
  unfold sliceA at hs
  cases h with
  | @ptr i o b d z hm =>
    simp only at hs
    split at hs
    · rename_i l h m hb
      cases hs
      obtain ⟨m', h1, h2, h3, h4, h5⟩ := bounds_sound (P := P) (Nat.le_refl k) hlo hlo0 hhi hhi0 hmx hmx0 hb false w
      have hmm : m' = m := by
        cases hq : mx with
        | none => have := h3 hq; omega
        | some _ => exact h4 (by simp [hq])
      subst hmm
      have hrun : (sliceAt t (.pointer (some ⟨b, o + d, none⟩)) lo' hi' mx').run P w = .ok (.slice (some (if m' = l then ⟨b, o + d, none⟩ else ⟨b, o + d + l * n, none⟩)) (h - l) (m' - l)) w := by
        simp [sliceAt, run_underlying ht, sureAddr, h1, run_szOf hz, addr_add]
      refine ⟨_, hrun, ?_⟩
      by_cases hml : m' = l
      · have e1 : h - l = 0 := by omega
        have e2 : m' - l = 0 := by omega
        rw [e1, e2]
        exact .s0 _
      · rw [if_neg hml]
        have e : o + d + l * n = (o + l * n) + d := by omega
        rw [e]
        exact .slice hm
    · cases hs
  | _ => cases hs

theorem sliceStr_sound {μ : Mu} {t : TypeId} (ht : P.underlying t = some .string) {x x' : Value} (h : VRel μ x x') {lo hi lo' hi' : Option Value}
    (hlo : ∀ v, lo = some v → ∃ v', lo' = some v' ∧ VRel μ v v') (hlo0 : lo = none → lo' = none)
    (hhi : ∀ v, hi = some v → ∃ v', hi' = some v' ∧ VRel μ v v') (hhi0 : hi = none → hi' = none)
    {v : Value} (hs : sliceStr x lo hi = some v) (w : World) : ∃ v', (sliceAt t x' lo' hi' none).run P w = .ok v' w ∧ VRel μ v v' := by
  unfold sliceStr at hs
  cases h with
  | string s =>
    simp only at hs
    split at hs
    · rename_i l h m hb
      cases hs
      obtain ⟨m', h1, _⟩ := bounds_sound (P := P) (mx := none) (mx' := none) (Nat.le_refl s.size) hlo hlo0 hhi hhi0 (by simp) (by simp) hb false w
      exact ⟨.string (s.extract l h), by simp [sliceAt, slice, run_underlying ht, h1], .string _⟩
    · cases hs
  | _ => cases hs

end Go.Ax

/- More operations that only compute, in both worlds. -/
namespace Go.Ax
open Instr
variable {P : Program}

theorem addOff_sound {μ : Mu} {s : TypeId} {f : Nat} {fd : Field} {n : Nat} (hf : fieldOf P s f = some fd) (hz : szOf P fd.type = some n) (hn : 0 < n) {x x' v : Value} (h : VRel μ x x')
    (hs : addOff x fd.offset = some v) (w : World) : ∃ v', (fieldAt s x' f).run P w = .ok v' w ∧ VRel μ v v' := by
  unfold fieldOf at hf
  split at hf
  · rename_i fields hu
    unfold addOff at hs
    cases h with
    | @ptr i o b d z hm =>
      cases hs
      refine ⟨.pointer (some ⟨b, o + d + fd.offset, none⟩), ?_, ?_⟩
      · have : n ≠ 0 := by omega
        simp [fieldAt, run_underlying hu, hf, sureAddr, fieldPlace, run_szOf hz, this, addr_add]
      · have e : o + d + fd.offset = (o + fd.offset) + d := by omega
        rw [e]; exact .ptr hm
    | _ => cases hs
  · cases hf

theorem part_sound {μ : Mu} {t : TypeId} {n : Option Nat} (hn : aggN P t = some n) {x x' v : Value} (h : VRel μ x x') {off : Nat} (hs : partV n x off = some v) (w : World) :
    ∃ cs', x' = .agg cs' ∧ ∃ v', (part t cs' off).run P w = .ok v' w ∧ VRel μ v v' := by
  unfold partV at hs
  cases h with
  | @agg cs cs' hr h1 =>
    refine ⟨cs', rfl, ?_⟩
    unfold aggN at hn
    cases hu : P.underlying t with
    | none => simp [hu] at hn
    | some dd =>
      rw [hu] at hn
      cases n with
      | none =>
        have ha : (isAgg t).run P w = .ok false w := by cases dd <;> simp at hn <;> simp [isAgg, run_underlying hu]
        simp only at hs
        obtain ⟨u, h2, h3⟩ := hr.get (i := off) (v := v) (by simpa using hs)
        refine ⟨u, ?_, h3⟩
        have h2' : cs'[off]? = some u := by simpa using h2
        simp [part, ha, h2']
      | some m =>
        have hm : szOf P t = some m ∧ (isAgg t).run P w = .ok true w := by
          cases dd <;> simp at hn <;> exact ⟨by simpa using hn, by simp [isAgg, run_underlying hu]⟩
        simp only at hs
        split at hs
        · rename_i hle
          cases hs
          refine ⟨.agg (cs'.extract off (off + m)), by simp [part, hm.2, run_szOf hm.1], .agg ?_ ?_⟩
          · simpa [Array.toList_extract, List.extract_eq_take_drop] using (hr.drop off).take m
          · intro y hy
            refine h1 y ?_
            rw [Array.toList_extract, List.extract_eq_take_drop] at hy
            exact List.mem_of_mem_drop (List.mem_of_mem_take hy)
        · cases hs
  | _ => cases hs

theorem fld_sound {μ : Mu} {s : TypeId} {f : Nat} {fd : Field} {n : Option Nat} (hf : fieldOf P s f = some fd) (hn : aggN P fd.type = some n) {x x' v : Value} (h : VRel μ x x')
    (hs : partV n x fd.offset = some v) (w : World) : ∃ v', (field s x' f).run P w = .ok v' w ∧ VRel μ v v' := by
  unfold fieldOf at hf
  split at hf
  · rename_i fields hu
    obtain ⟨cs', rfl, v', h1, h2⟩ := part_sound hn h hs w
    exact ⟨v', by simp [field, run_underlying hu, hf, asAgg, h1], h2⟩
  · cases hf

theorem idxSl_sound {μ : Mu} {t e : TypeId} {n : Nat} (ht : P.underlying t = some (.slice e)) (hz : szOf P e = some n) {x x' i i' v : Value} (h : VRel μ x x') (hi : VRel μ i i')
    (hs : idxSl n x i = some v) (w : World) : ∃ v', (indexAt t x' i').run P w = .ok v' w ∧ VRel μ v v' := by
  unfold idxSl at hs
  cases h with
  | @slice j o b d z len c hm =>
    cases hi with
    | int k q =>
      simp only at hs
      split at hs
      · rename_i hq
        cases hs
        refine ⟨.pointer (some ⟨b, o + d + q.toNat * n, none⟩), ?_, ?_⟩
        · simp [indexAt, asIntOf, run_underlying ht, hq, run_szOf hz, addr_add]
        · have e : o + d + q.toNat * n = (o + q.toNat * n) + d := by omega
          rw [e]; exact .ptr hm
      · cases hs
    | _ => cases hs
  | @slack j o b d z len c c' e hm hc hzz =>
    cases hi with
    | int k q =>
      simp only at hs
      split at hs
      · rename_i hq
        cases hs
        refine ⟨.pointer (some ⟨b, o + d + q.toNat * n, none⟩), ?_, ?_⟩
        · simp [indexAt, asIntOf, run_underlying ht, hq, run_szOf hz, addr_add]
        · have e : o + d + q.toNat * n = (o + q.toNat * n) + d := by omega
          rw [e]; exact .ptr hm
      · cases hs
    | _ => cases hs
  | @s0 j o q a =>
    cases hi with
    | int k q =>
      simp only at hs
      split at hs
      · rename_i hq; omega
      · cases hs
    | _ => cases hs
  | _ => cases hs

theorem idxAr_sound {μ : Mu} {t e : TypeId} {len n : Nat} (ht : P.underlying t = some (.array len e)) (hz : szOf P e = some n) {x x' i i' v : Value} (h : VRel μ x x') (hi : VRel μ i i')
    (hs : idxAr len n x i = some v) (w : World) : ∃ v', (indexAt t x' i').run P w = .ok v' w ∧ VRel μ v v' := by
  unfold idxAr at hs
  cases h with
  | @ptr j o b d z hm =>
    cases hi with
    | int k q =>
      simp only at hs
      split at hs
      · rename_i hq
        cases hs
        refine ⟨.pointer (some ⟨b, o + d + q.toNat * n, none⟩), ?_, ?_⟩
        · simp [indexAt, asIntOf, run_underlying ht, sureAddr, hq, run_szOf hz, addr_add]
        · have e : o + d + q.toNat * n = (o + q.toNat * n) + d := by omega
          rw [e]; exact .ptr hm
      · cases hs
    | _ => cases hs
  | _ => cases hs

theorem idxV_sound {μ : Mu} {t e : TypeId} {len n : Nat} {m : Option Nat} (ht : P.underlying t = some (.array len e)) (hm : aggN P e = some m) (hz : szOf P e = some n) {x x' i i' v : Value} (h : VRel μ x x') (hi : VRel μ i i')
    (hs : idxV len n m x i = some v) (w : World) : ∃ v', (index t x' i').run P w = .ok v' w ∧ VRel μ v v' := by
  unfold idxV at hs
  cases hi with
  | int k q =>
    simp only at hs
    split at hs
    · rename_i hq
      obtain ⟨cs', rfl, v', h1, h2⟩ := part_sound hm h hs w
      exact ⟨v', by simp [index, asIntOf, run_underlying ht, hq, run_szOf hz, h1], h2⟩
    · cases hs
  | _ => cases hs

theorem idxStr_sound {μ : Mu} {t : TypeId} (ht : P.underlying t = some .string) {x x' i i' v : Value} (h : VRel μ x x') (hi : VRel μ i i')
    (hs : idxStr x i = some v) (w : World) : ∃ v', (index t x' i').run P w = .ok v' w ∧ VRel μ v v' := by
  unfold idxStr at hs
  cases h with
  | string s =>
    cases hi with
    | int k q =>
      simp only at hs
      split at hs
      · rename_i hq
        cases e : s[q.toNat]? with
        | none => simp [e] at hs
        | some b => simp [e] at hs; subst hs; exact ⟨_, by simp [index, asIntOf, run_underlying ht, hq, e], .int _ _⟩
      · cases hs
    | _ => cases hs
  | _ => cases hs

theorem intBin_run {op : BinOp} {k : IntKind} {a b : Int} {v : Value} (h : intBin op k a b = some v) (t : TypeId) (w : World) : (binOp op t (.int k a) (.int k b)).run P w = .ok v w := by
  unfold intBin at h
  cases op <;> simp only at h <;> first
    | (cases h; simp [binOp, Op.intArith, Op.intBits, Op.intCmp]; done)
    | (split at h <;> first | (cases h; done) | (rename_i hb; cases h; simp [binOp, Op.intDiv, hb]; done))
    | (cases h; done)

theorem intBin_rel {op : BinOp} {k : IntKind} {a b : Int} {v : Value} (h : intBin op k a b = some v) (μ : Mu) : VRel μ v v := by
  unfold intBin at h
  cases op <;> simp only at h <;> first
    | (cases h; constructor; done)
    | (split at h <;> first | (cases h; done) | (cases h; constructor; done))
    | (cases h; done)

theorem strBin_run {op : BinOp} {a b : ByteArray} {v : Value} (h : strBin op a b = some v) (t : TypeId) (w : World) : (binOp op t (.string a) (.string b)).run P w = .ok v w ∧ ∀ μ, VRel μ v v := by
  unfold strBin at h
  cases op <;> simp only at h <;> first
    | (cases h; exact ⟨by simp [binOp, Op.stringOp], fun μ => by constructor⟩; done)
    | (cases h; done)
    | skip
  by_cases hb : ((a.size + b.size : Nat) : Int) > 9223372036854775807
  · rw [if_pos hb] at h; cases h
  · rw [if_neg hb] at h; cases h
    refine ⟨?_, fun μ => .string _⟩
    simp only [binOp, Op.stringOp, IntKind.max_i64]
    rw [if_neg hb]; rfl

theorem eqGuard_int (op : BinOp) (t : TypeId) (x y : Operand) (k : IntKind) (n : Int) (v : Value) : eqGuard op t x y (.int k n) v = pure () := by cases op <;> rfl
theorem eqGuard_str (op : BinOp) (t : TypeId) (x y : Operand) (s : ByteArray) (v : Value) : eqGuard op t x y (.string s) v = pure () := by cases op <;> rfl

theorem bin_sound {μ : Mu} {op : BinOp} {x x' y y' v : Value} (hx : VRel μ x x') (hy : VRel μ y y') (h : binV op x y = some v) (t : TypeId) (xo yo : Operand) (w : World) :
    (do eqGuard op t xo yo x' y'; binOp op t x' y' : Sem Value).run P w = .ok v w ∧ VRel μ v v := by
  unfold binV at h
  cases hx with
  | int k a =>
    cases hy with
    | int k' b =>
      simp only at h
      rw [eqGuard_int]
      simp only [pure_bind]
      split at h
      · split at h
        · cases h
        · rename_i hb; cases h; exact ⟨by simp [binOp, Op.shift, hb], .int _ _⟩
      · split at h
        · cases h
        · rename_i hb; cases h; exact ⟨by simp [binOp, Op.shift, hb], .int _ _⟩
      · split at h
        · rename_i hk; subst hk; exact ⟨intBin_run h t w, intBin_rel h μ⟩
        · cases h
    | _ => cases h
  | string a =>
    cases hy with
    | string b => rw [eqGuard_str]; simp only [pure_bind]; exact ⟨(strBin_run h t w).1, (strBin_run (P := P) h t w).2 μ⟩
    | _ => cases h
  | _ => cases h

theorem un_sound {μ : Mu} {op : UnOp} {x x' v : Value} (hx : VRel μ x x') (h : unV op x = some v) (w : World) : (Op.unary op x').run P w = .ok v w ∧ VRel μ v v := by
  unfold unV at h
  cases hx with
  | int k n =>
    cases op <;> simp only at h <;> first
      | (cases h; done)
      | (cases h; exact ⟨by simp [Op.unary, Op.intArith, Op.intBits], .int _ _⟩)
  | bool b =>
    cases op <;> simp only at h <;> first
      | (cases h; done)
      | (cases h; exact ⟨by simp [Op.unary], .bool _⟩)
  | _ => cases op <;> cases h

theorem conv_sound {s d : TypeId} {k0 k : IntKind} (hs : P.underlying s = some (.int k0)) (hd : P.underlying d = some (.int k)) (kx : IntKind) (n : Int) (w : World) :
    (convert s d (.int kx n)).run P w = .ok (.int k (k.wrap n)) w := by
  simp [convert, run_underlying hs, run_underlying hd, Conv.intToInt]

theorem extr_sound {μ : Mu} {x x' v : Value} (hx : VRel μ x x') {i : Nat} (h : extr x i = some v) (w : World) : ∃ v', (extract x' i).run P w = .ok v' w ∧ VRel μ v v' := by
  unfold extr at h
  cases hx with
  | tuple hr =>
    obtain ⟨u, h1, h2⟩ := hr.get (i := i) (v := v) (by simpa using h)
    refine ⟨u, ?_, h2⟩
    have h1' := h1
    simp only [Array.getElem?_toList] at h1'
    simp [extract, h1']
  | _ => cases h

theorem min_sound {μ : Mu} {x x' y y' v : Value} (hx : VRel μ x x') (hy : VRel μ y y') (h : minV x y = some v) (ts : Array TypeId) (t : TypeId) (w : World) : (Builtin.min_ ts t #[x', y']).run P w = .ok v w ∧ VRel μ v v := by
  unfold minV at h
  cases hx with
  | int k a => cases hy with
    | int k' b => cases h; exact ⟨run_min_int2 w ts t k k' a b, .int _ _⟩
    | _ => cases h
  | _ => cases h

theorem max_sound {μ : Mu} {x x' y y' v : Value} (hx : VRel μ x x') (hy : VRel μ y y') (h : maxV x y = some v) (ts : Array TypeId) (t : TypeId) (w : World) : (Builtin.max_ ts t #[x', y']).run P w = .ok v w ∧ VRel μ v v := by
  unfold maxV at h
  cases hx with
  | int k a => cases hy with
    | int k' b => cases h; exact ⟨run_max_int2 w ts t k k' a b, .int _ _⟩
    | _ => cases h
  | _ => cases h

theorem eqGuard_nils (op : BinOp) (t : TypeId) (x y : Operand) (a b : Value) (h : a ≠ .nilIface) (h' : ∀ cs, a ≠ .agg cs) : eqGuard op t x y a b = pure () := by
  cases op <;> first
    | rfl
    | (cases a <;> first | rfl | (exact absurd rfl h) | (exact absurd rfl (h' _)))

theorem nilEq_rel {μ : Mu} {k : NK} {a a' b b' : Value} {q : Bool} (ha : VRel μ a a') (hb : VRel μ b b') (h : nilEq k a b = some q) : nilEq k a' b' = some q := by
  cases ha <;> cases hb <;> cases k <;> first | exact h | (simp [nilEq] at h ⊢; done) | (simp [nilEq] at h ⊢; exact h)

/-- Two values of a type whose values can only be held against nil. -/
theorem nilEq_run {t : TypeId} {d : TypeDesc} (ht : P.underlying t = some d) {k : NK} (hk : nkOf d = some k) {a b : Value} {q : Bool} (h : nilEq k a b = some q) (neg : Bool) (x y : Operand) (w : World) :
    (do eqGuard (if neg = true then .neq else .eql) t x y a b; binOp (if neg = true then .neq else .eql) t a b : Sem Value).run P w = .ok (.bool (q != neg)) w := by
  have h0 : a ≠ .nilIface ∧ ∀ cs, a ≠ .agg cs := by
    constructor
    · intro e; subst e; cases k <;> simp [nilEq] at h
    · intro cs e; subst e; cases k <;> simp [nilEq] at h
  rw [eqGuard_nils _ _ _ _ _ _ h0.1 h0.2]
  simp only [pure_bind]
  have key : (Op.equal t a b).run P w = .ok q w := by
    suffices hx : ∀ n, (Op.equalIn (n + 1) t a b).run P w = .ok q w from hx 9999
    intro n
    cases d <;> simp only [nkOf] at hk <;> first | (cases hk; done) | skip
    all_goals (cases hk; unfold nilEq at h; split at h <;> first | (cases h; done) | (rename_i e; cases e; done) | skip)
    all_goals first
      | (cases h; simp [Op.equalIn, run_underlying ht]; done)
      | (rename_i b' ; cases h; cases b' <;> simp [Op.equalIn, run_underlying ht]; done)
  cases neg
  · simp only [Bool.false_eq_true, if_false, Bool.bne_false]
    cases a <;> cases b <;> cases k <;> simp only [nilEq, reduceCtorEq] at h <;> simp [binOp, key]
  · simp only [if_true, Bool.bne_true]
    cases a <;> cases b <;> cases k <;> simp only [nilEq, reduceCtorEq] at h <;> simp [binOp, key]

theorem eqB_run {t : TypeId} (ht : P.underlying t = some .bool) (u c : Bool) (neg : Bool) (x y : Operand) (w : World) :
    (do eqGuard (if neg = true then .neq else .eql) t x y (.bool u) (.bool c); binOp (if neg = true then .neq else .eql) t (.bool u) (.bool c) : Sem Value).run P w = .ok (.bool ((u == c) != neg)) w := by
  rw [eqGuard_nils _ _ _ _ _ _ (by simp) (by simp)]
  simp only [pure_bind]
  cases neg
  · simp [run_eql_bool w t u c ht]
  · simp [run_neq_bool w t u c ht]

end Go.Ax

/- The operations that come to memory, in both worlds: making, reading and writing cells. -/
namespace Go.Ax
open Instr
variable {P : Program}

theorem fold_set (off : Nat) : ∀ (vs : List Value) (k : Nat) (arr : Array Value), off + k + vs.length ≤ arr.size →
    ((vs.zipIdx k).foldl (fun cs (p : Value × Nat) => cs.setIfInBounds (off + p.2) p.1) arr).toList = arr.toList.take (off + k) ++ vs ++ arr.toList.drop (off + k + vs.length)
  | [], k, arr, _ => by simp
  | v :: vs, k, arr, h => by
    simp only [List.zipIdx_cons, List.foldl_cons]
    simp only [List.length_cons] at h
    rw [fold_set off vs (k + 1) _ (by simp; omega)]
    have := list_seg_step arr.toList (off + k) v vs (by simp; omega)
    simp only [Array.toList_setIfInBounds, List.length_cons]
    rw [← Nat.add_assoc off k 1]
    exact this

/-- Parts of an aggregate. -/
inductive PRel (μ : Mu) (place : Nat → Option (Nat × Nat)) : List (Nat × Nat × Value) → List (Nat × Value) → Prop
  | nil : PRel μ place [] []
  | cons {off n i : Nat} {v v' : Value} {l : List (Nat × Nat × Value)} {l' : List (Nat × Value)} (hp : place i = some (off, n)) (hv : VRel μ v v') (t : PRel μ place l l') : PRel μ place ((off, n, v) :: l) ((i, v') :: l')

theorem fill_sound {μ : Mu} {place : Nat → Option (Nat × Nat)} {ps : List (Nat × Nat × Value)} {ps' : List (Nat × Value)} (h : PRel μ place ps ps') :
    ∀ {cs cs1 : List Value} {c : Array Value}, LRel μ cs c.toList → (∀ x ∈ cs, x.oneCell' = true) → fillL cs ps = some cs1 → ∃ c1, fill place c ps' = some c1 ∧ LRel μ cs1 c1.toList ∧ (∀ x ∈ cs1, x.oneCell' = true) := by
  induction h with
  | nil => intro cs cs1 c hc h1 hf; simp only [fillL, Option.some.injEq] at hf; subst hf; exact ⟨c, rfl, hc, h1⟩
  | @cons off n i v v' l l' hp hv _ ih =>
    intro cs cs1 c hc h1 hf
    simp only [fillL] at hf
    split at hf
    · rename_i hcond
      obtain ⟨hk, hn, hle⟩ := hcond
      obtain ⟨hv1, hv2⟩ := hv.cells hk
      have hl := hv1.length
      have hcl := hc.length
      simp only [Array.length_toList] at hcl hl hn
      have hfold := fold_set off v'.cells.toList 0 c (by simp only [Array.length_toList]; omega)
      have hLR : LRel μ (cs.take off ++ v.cells.toList ++ cs.drop (off + n)) (c.toList.take (off + 0) ++ v'.cells.toList ++ c.toList.drop (off + 0 + v'.cells.toList.length)) := by
        have := ((hc.take off).append hv1).append (hc.drop (off + n))
        have e : off + 0 + v'.cells.toList.length = off + n := by simp; omega
        rw [e]; exact this
      rw [← hfold] at hLR
      obtain ⟨c1, g1, g2, g3⟩ := ih hLR (by
        intro x hx
        simp only [List.mem_append] at hx
        rcases hx with (hx | hx) | hx
        · exact h1 x (List.mem_of_mem_take hx)
        · exact hv2 x hx
        · exact h1 x (List.mem_of_mem_drop hx)) hf
      refine ⟨c1, ?_, g2, g3⟩
      simp only [fill, hp]
      rw [if_neg (by simp; omega)]
      rw [← g1]
      congr 1
      rw [← Array.foldl_toList, Array.toList_zipIdx]
    · cases hf

theorem szs_places {fields : List Field} (h : sizesOk P fields = true) : ∃ places : List (Nat × Nat), fields.mapM (fun f => (P.info? f.type).map fun i => (f.offset, i.size)) = some places ∧
    ∀ i : Nat, places[i]? = ((fields[i]?).bind fun (f : Field) => (szOf P f.type).map fun n => (f.offset, n)) := by
  induction fields with
  | nil => exact ⟨[], rfl, fun i => by simp⟩
  | cons f r ih =>
    simp only [sizesOk, List.all_cons, Bool.and_eq_true] at h
    obtain ⟨pl, h1, h2⟩ := ih h.2
    have h3 := h.1
    unfold szOf at h3
    cases hi : P.info? f.type with
    | none => simp [hi] at h3
    | some x =>
      refine ⟨(f.offset, x.size) :: pl, by simp [List.mapM_cons, hi, h1], fun i => ?_⟩
      cases i with
      | zero => simp [szOf, hi]
      | succ i => simpa using h2 i

theorem partsS_rel {μ : Mu} {N : Nat} {ρ : Env} {a : Act} (he : ERel μ N ρ a) {fields : Array Field} {place : Nat → Option (Nat × Nat)}
    (hp : ∀ i : Nat, place i = ((fields[i]?).bind fun (f : Field) => (szOf P f.type).map fun n => (f.offset, n))) :
    ∀ {ps : List (Nat × Operand)} {qs : List (Nat × Nat × Operand)} {vs : List (Nat × Nat × Value)}, (ps.map (·.2)).all groundO = true → partsS P fields ps = some qs → evp ρ qs = some vs →
      PRel μ place vs (ps.map fun p => (p.1, a.eval p.2))
  | [], qs, vs, _, h, hv => by simp only [partsS, Option.some.injEq] at h; subst h; simp only [evp, Option.some.injEq] at hv; subst hv; exact .nil
  | (i, x) :: r, qs, vs, hg, h, hv => by
    simp only [partsS] at h
    simp only [List.map_cons, List.all_cons, Bool.and_eq_true] at hg
    split at h
    · rename_i f hf
      split at h
      · rename_i n qs' hn hq
        cases h
        simp only [evp] at hv
        split at hv
        · rename_i v ws hv1 hv2
          cases hv
          refine .cons ?_ (ev_sound he hg.1 hv1) (partsS_rel he hp hg.2 hq hv2)
          rw [hp i, hf]; simp [hn]
        · cases hv
      · cases h
    · cases h

theorem partsA_rel {μ : Mu} {N : Nat} {ρ : Env} {a : Act} (he : ERel μ N ρ a) {n : Nat} :
    ∀ {ps : List (Nat × Operand)} {vs : List (Nat × Nat × Value)}, (ps.map (·.2)).all groundO = true → evp ρ (partsA n ps) = some vs →
      PRel μ (fun i => some (i * n, n)) vs (ps.map fun p => (p.1, a.eval p.2))
  | [], vs, _, hv => by simp only [partsA, evp, Option.some.injEq] at hv; subst hv; exact .nil
  | (i, x) :: r, vs, hg, hv => by
    simp only [List.map_cons, List.all_cons, Bool.and_eq_true] at hg
    simp only [partsA, evp] at hv
    split at hv
    · rename_i v ws hv1 hv2
      cases hv
      exact .cons rfl (ev_sound he hg.1 hv1) (partsA_rel he hg.2 hv2)
    · cases hv

theorem ones {l : List Value} (h : l.all (fun v => v.oneCell' && scalV v) = true) (μ : Mu) : LRel μ l l ∧ ∀ x ∈ l, x.oneCell' = true := by
  constructor
  · exact scals_rel μ (List.all_eq_true.2 fun x hx => by have := List.all_eq_true.1 h x hx; simp at this; exact this.2)
  · intro x hx; have := List.all_eq_true.1 h x hx; simp at this; exact this.1

theorem repL_length (z : List Value) : ∀ n, (repL z n).length = n * z.length
  | 0 => by simp [repL]
  | n + 1 => by simp [repL, repL_length z n, Nat.add_mul]; omega

theorem repL_get (z : List Value) : ∀ (n i : Nat), i < n * z.length → (repL z n)[i]? = z[i % z.length]?
  | 0, i, h => by simp at h
  | n + 1, i, h => by
    simp only [repL]
    by_cases hi : i < z.length
    · rw [List.getElem?_append_left hi, Nat.mod_eq_of_lt hi]
    · rw [List.getElem?_append_right (by omega), repL_get z n (i - z.length) (by rw [Nat.add_mul] at h; omega)]
      congr 1
      rw [← Nat.mod_eq_sub_mod (by omega)]

theorem repL_mem (z : List Value) : ∀ (n : Nat) (x : Value), x ∈ repL z n → x ∈ z
  | 0, x, h => by simp [repL] at h
  | n + 1, x, h => by
    simp only [repL, List.mem_append] at h
    rcases h with h | h
    · exact h
    · exact repL_mem z n x h

/-- The model's own row of zero values. -/
theorem zero_row {z : Array Value} {n k : Nat} (hz : z.size = n) (hn : 0 < n) : ((Array.range (k * n)).map (z[· % z.size]!)).toList = repL z.toList k := by
  apply List.ext_getElem?
  intro i
  by_cases hi : i < k * n
  · rw [repL_get z.toList k i (by simp [hz, hi])]
    have hm : i % n < z.size := by rw [hz]; exact Nat.mod_lt _ hn
    have e : z[i % n]! = z[i % n] := by simp [hm]
    simp [hi, hz, e]
  · rw [List.getElem?_eq_none (by simp; omega), List.getElem?_eq_none (by rw [repL_length]; simp [hz]; omega)]

theorem new_done {B : Nat} {μ : Mu} {S : AS} {w : World} (r : Rel B μ S w) (hf : μ S.nx = none) {o : AObj} {ob : Obj} (hro : o.ro = false) (z : Nat)
    (ho : ∀ μ' w', Sub μ μ' → w'.heap[w.heap.size]? = some ob → ORel B μ' w' w.heap.size 0 z o) {run : Result Next} {v v' : Value}
    (hrun : run = .ok (.value v') (w.alloc ob)) (hv : ∀ μ' : Mu, μ' S.nx = some (w.heap.size, 0, z) → VRel μ' v v') : Done B μ S w run v (S.new o) := by
  obtain ⟨h1, h2⟩ := r.new hf hro z ho
  exact ⟨v', _, _, .inl hrun, hv _ (by simp [muSet]), h1, h2⟩

theorem cells_new {B : Nat} {μ : Mu} {w : World} {cs : List Value} {c : Array Value} (e : TypeId) (h : LRel μ cs c.toList) (h1 : ∀ x ∈ cs, x.oneCell' = true) :
    ∀ μ' w', Sub μ μ' → w'.heap[w.heap.size]? = some (.cells c e) → ORel B μ' w' w.heap.size 0 c.size (.cells false cs) := by
  intro μ' w' hs hw
  have hl := h.length
  simp only [Array.length_toList] at hl
  refine ⟨c, e, (0, 0), hw, ?_, h1, fun _ => rfl, by simp, Nat.le_refl _, by omega⟩
  rw [List.drop_zero, List.take_of_length_le (by simp; omega)]
  exact h.mono hs

end Go.Ax

/- append, copy, clear, make of slices, in both worlds. -/
namespace Go.Ax
open Instr
variable {P : Program}

theorem run_szOf' {t : TypeId} {n : Nat} (h : szOf P t = some n) : ∃ i, P.info? t = some i ∧ i.size = n := by
  unfold szOf at h
  cases hi : P.info? t with
  | none => simp [hi] at h
  | some i => simp [hi] at h; exact ⟨i, rfl, h⟩

theorem src_sound {B : Nat} {μ : Mu} {S : AS} {w : World} (r : Rel B μ S w) {x x' : Value} (hx : VRel μ x x') {esz : Nat} {cs : List Value} (h : srcCells S esz x = some cs) :
    (∀ w : World, (Builtin.lenOf x').run P w = .ok (srcLen x) w) ∧ cs.length = srcLen x * esz ∧ (∀ y ∈ cs, y.oneCell' = true) ∧
    ∀ n, n ≤ srcLen x → ∀ w1 : World, w1.heap = w.heap → ∃ c : Array Value, (Builtin.firstCells esz n x').run P w1 = .ok c w1 ∧ LRel μ (cs.take (n * esz)) c.toList := by
  unfold srcCells at h
  split at h
  · rename_i a c
    cases h
    have hz : ∃ a' c', x' = .slice a' 0 c' := by cases hx <;> exact ⟨_, _, rfl⟩
    obtain ⟨a', c', rfl⟩ := hz
    refine ⟨fun w => by simp [Builtin.lenOf, srcLen], by simp [srcLen], by simp, fun n hn w1 _ => ?_⟩
    have : n = 0 := by simpa [srcLen] using hn
    subst this
    refine ⟨#[], ?_, by simp; exact .nil⟩
    cases a' with
    | none => simp [Builtin.firstCells]
    | some a' => simp [Builtin.firstCells, loadCells, loadCellsFrom]
  · rename_i b o q n c hn0
    obtain ⟨bb, d, c', z, rfl, hm⟩ : ∃ bb d c' z, x' = .slice (some ⟨bb, o + d, none⟩) n c' ∧ μ b = some (bb, d, z) := by
      cases hx with
      | slice hm => exact ⟨_, _, _, _, rfl, hm⟩
      | slack hm hc hz => exact ⟨_, _, _, _, rfl, hm⟩
      | s0 a => simp at hn0
    obtain ⟨cc, e, fz, h1, h2, h3, h4⟩ := getCells_sound r hm h
    refine ⟨fun w => by simp [Builtin.lenOf, srcLen], by simpa [srcLen] using h4, h3, fun k hk w1 hw1 => ?_⟩
    simp only [srcLen] at hk
    have hle : k * esz ≤ n * esz := Nat.mul_le_mul_right _ hk
    have h5 : LRel μ (cs.take (k * esz)) ((cc.toList.drop (o + d)).take (k * esz)) := by
      have := h2.take (k * esz)
      rw [List.take_take, Nat.min_eq_left hle] at this
      exact this
    have h6 : ((cc.toList.drop (o + d)).take (k * esz)).length = k * esz := by rw [← h5.length]; simp; omega
    refine ⟨((cc.toList.drop (o + d)).take (k * esz)).toArray, ?_, by simpa using h5⟩
    simp only [Builtin.firstCells]
    exact run_cells (P := P) (by rw [hw1]; exact h1) h6
  · rename_i s
    split at h
    · rename_i he
      subst he
      cases h
      cases hx
      refine ⟨fun w => by simp [Builtin.lenOf, srcLen], ?_, ?_, ?_⟩
      · simp [srcLen]
      · intro y hy; simp only [List.mem_map] at hy; obtain ⟨b, _, rfl⟩ := hy; rfl
      · intro n hn w1 _
        refine ⟨((s.extract 0 n).data.map fun b => .int .u8 b.toNat), by simp [Builtin.firstCells], ?_⟩
        simp only [Nat.mul_one]
        have e : ((s.extract 0 n).data.map fun b => Value.int .u8 b.toNat).toList = (s.data.toList.map fun b => Value.int .u8 b.toNat).take n := by
          rw [Array.toList_map, ByteArray.data_extract, Array.toList_extract, List.extract_eq_take_drop]
          simp [List.map_take]
        rw [e]
        refine LRel.of_get rfl ?_
        intro i v hv
        refine ⟨v, hv, ?_⟩
        have hmem := List.mem_of_getElem? hv
        have := List.mem_of_mem_take hmem
        simp only [List.mem_map] at this
        obtain ⟨b, _, rfl⟩ := this
        exact .int _ _
    · cases h
  · cases h

theorem zeroCells_nil {z : Array Value} {k : Nat} : (Builtin.zeroCells z k).toList.length = k * z.size := by simp [Builtin.zeroCells]

theorem next_small {need cap : Nat} (h : cap < need) : Builtin.nextslicecap need cap ≤ 2 * need + 1000 := by
  unfold Builtin.nextslicecap
  have hg : ∀ rounds c, c ≤ 2 * need + 1000 → c < need ∨ True → Builtin.growBy need rounds c ≤ 2 * need + 1000 := by
    intro rounds
    induction rounds with
    | zero => intro c hc _; simpa [Builtin.growBy] using hc
    | succ n ih =>
      intro c hc _
      simp only [Builtin.growBy]
      split
      · exact hc
      · rename_i hlt
        exact ih _ (by omega) (.inr trivial)
  split
  · omega
  · split
    · omega
    · exact hg 4 cap (by omega) (.inr trivial)

theorem mul_small {need n b : Nat} (hb : 0 < b) (h : need * b ≤ 1099511627776) (hb2 : b ≤ 1048576) (hn : n ≤ 2 * need + 1000) : ¬ n * b > 2 ^ 48 := by
  have h1 : n * b ≤ (2 * need + 1000) * b := Nat.mul_le_mul_right _ hn
  have h2 : (2 * need + 1000) * b = 2 * (need * b) + 1000 * b := by rw [Nat.add_mul, Nat.mul_assoc]
  omega

/-- The facts by which an append is reckoned. -/
structure AppT (P : Program) (ts : Array TypeId) (esz bytes : Nat) (z : Value) : Prop where
  ex : ∃ t u e e', ts = #[t, u] ∧ P.underlying t = some (.slice e) ∧ P.underlying u = some (.slice e') ∧ szOf P e = some esz ∧ bytesOf P e = some bytes ∧ zeroOf P e = some z
  size : z.cells.size = esz
  pos : 0 < esz
  bpos : 0 < bytes
  bsm : bytes ≤ 1048576
  zone : z.cells.toList.all (fun v => v.oneCell' && scalV v) = true

theorem appV_sound {B : Nat} {μ : Mu} {S S' : AS} {w : World} (r : Rel B μ S w) (hf : μ S.nx = none) {ts : Array TypeId} {esz bytes : Nat} {z : Value} (ht : AppT P ts esz bytes z) (ty : TypeId) {s s' x x' v : Value} (hs : VRel μ s s') (hx : VRel μ x x')
    (h : appV esz bytes S s x = some (v, S')) : ∃ v' μ' w', (Builtin.append_ ts ty #[s', x']).run P w = .ok v' w' ∧ VRel μ' v v' ∧ Rel B μ' S' w' ∧ Fr S S' μ μ' w w' := by
  obtain ⟨t, u, e, e', rfl, hu1, hu2, hsz, hby, hz0⟩ := ht.ex
  unfold appV at h
  split at h
  · cases h
  · rename_i new hnew
    obtain ⟨hlen, hnl, hn1, hfirst⟩ := src_sound (P := P) r hx hnew
    obtain ⟨bi, hbi, hbb⟩ := run_bytesOf (P := P) hby w
    split at h
    · rename_i a len cap
      split at h
      · rename_i hfit
        obtain ⟨c, hc1, hc2⟩ := hfirst (srcLen x) (Nat.le_refl _) w rfl
        rw [← hnl, List.take_of_length_le (Nat.le_refl _)] at hc2
        split at h
        · split at h
          · rename_i hn0
            cases h
            cases hs
            have hce : c = #[] := by
              have : c.toList = [] := List.eq_nil_of_length_eq_zero (by rw [← hc2.length, hnl, hn0]; simp)
              exact Array.toList_eq_nil_iff.1 this
            rw [hn0] at hc1 hlen
            subst hce
            refine ⟨.slice none len cap, μ, w, ?_, .snil _ _, r, Fr.refl _ _ _⟩
            have hle : len ≤ cap := by omega
            simp [Builtin.append_, run_underlying hu1, run_underlying hu2, run_szOf hsz, hlen, hc1, hle]
          · cases h
        · rename_i b o q
          split at h
          · rename_i hn0
            cases h
            have hce : c = #[] := by
              have : c.toList = [] := List.eq_nil_of_length_eq_zero (by rw [← hc2.length, hnl, hn0]; simp)
              exact Array.toList_eq_nil_iff.1 this
            rw [hn0] at hc1 hlen
            subst hce
            obtain ⟨a', cap', rfl, hcap, hv⟩ : ∃ a' cap', s' = .slice (some a') len cap' ∧ cap ≤ cap' ∧ VRel μ (.slice (some ⟨b, o, q⟩) len cap) (.slice (some a') len cap') := by
              cases hs with
              | slice hm => exact ⟨_, _, rfl, Nat.le_refl _, .slice hm⟩
              | slack hm hc hz => exact ⟨_, _, rfl, hc, .slack hm hc hz⟩
              | s0 a => exact ⟨_, _, rfl, Nat.le_refl _, .s0 a⟩
            refine ⟨.slice (some a') len cap', μ, w, ?_, hv, r, Fr.refl _ _ _⟩
            have hle : len ≤ cap' := by omega
            simp [Builtin.append_, run_underlying hu1, run_underlying hu2, run_szOf hsz, hlen, hc1, hle, storeCells]
          · rename_i hn0
            cases hset : setCells S b (o + len * esz) new with
            | none => rw [hset] at h; cases h
            | some S1 =>
              rw [hset] at h
              simp only [Option.map_some, Option.some.injEq, Prod.mk.injEq] at h
              obtain ⟨rfl, rfl⟩ := h
              obtain ⟨bb, d, z', cap', rfl, hm, hcap, hv⟩ : ∃ bb d z' cap', s' = .slice (some ⟨bb, o + d, none⟩) len cap' ∧ μ b = some (bb, d, z') ∧ cap ≤ cap' ∧
                  VRel μ (.slice (some ⟨b, o, q⟩) (len + srcLen x) cap) (.slice (some ⟨bb, o + d, none⟩) (len + srcLen x) cap') := by
                cases hs with
                | slice hm => exact ⟨_, _, _, _, rfl, hm, Nat.le_refl _, .slice hm⟩
                | slack hm hc hz => exact ⟨_, _, _, _, rfl, hm, hc, .slack hm hc hz⟩
                | s0 a => omega
              obtain ⟨w', hst, hr, hfr⟩ := setCells_sound (P := P) r hm hc2 hn1 hset
              refine ⟨_, μ, w', ?_, hv, hr, hfr⟩
              have hle : len + srcLen x ≤ cap' := by omega
              have ea : o + len * esz + d = o + d + len * esz := by omega
              rw [ea] at hst
              simp [Builtin.append_, run_underlying hu1, run_underlying hu2, run_szOf hsz, hlen, hc1, hle, addr_add, hst]
      · rename_i hfit
        split at h
        · rename_i hbig
          cases hold : srcCells S esz (.slice a len cap) with
          | none => rw [hold] at h; cases h
          | some old =>
            rw [hold] at h
            simp only at h
            obtain ⟨_, hol, ho1, hofirst⟩ := src_sound (P := P) r hs hold
            simp only [srcLen] at hol hofirst
            -- the world's way where a new row is made
            have hgrow : ∀ a' cap', s' = .slice a' len cap' → ¬ len + srcLen x ≤ cap' →
                ∃ (c1 c2 : Array Value) (k : Nat), (Builtin.append_ #[t, u] ty #[s', x']).run P w = .ok (.slice (some ⟨w.heap.size, 0, none⟩) (len + srcLen x) (len + srcLen x + k)) (w.drew.alloc (.cells (c1 ++ c2 ++ Builtin.zeroCells z.cells k) e)) ∧
                  LRel μ old c1.toList ∧ LRel μ new c2.toList := by
              intro a' cap' hs' hno
              obtain ⟨c1, h1, h2⟩ := hofirst len (Nat.le_refl _) w.drew rfl
              obtain ⟨c2, h3, h4⟩ := hfirst (srcLen x) (Nat.le_refl _) w.drew rfl
              rw [← hol, List.take_of_length_le (Nat.le_refl _)] at h2
              rw [← hnl, List.take_of_length_le (Nat.le_refl _)] at h4
              have hbound := next_small (need := len + srcLen x) (cap := cap') (by omega)
              have hok := mul_small ht.bpos hbig ht.bsm hbound
              refine ⟨c1, c2, w.tape w.drawn (.appendCap (len + srcLen x) cap' e) % (2 ^ 63 - (len + srcLen x)), ?_, h2, h4⟩
              have hbz : ¬ bi.bytes = 0 := by have := ht.bpos; omega
              have hby' : ∀ w1 : World, (typeInfo e).run P w1 = .ok bi w1 := by
                intro w1
                unfold bytesOf at hby
                cases hi : P.info? e with
                | none => simp [hi] at hby
                | some i =>
                  have : (typeInfo e).run P w = .ok i w := by simp [typeInfo, hi]
                  rw [this] at hbi; cases hbi
                  simp [typeInfo, hi]
              have hz' : ∀ w1 : World, (zeroValue e).run P w1 = .ok z w1 := fun w1 => run_zeroOf hz0 w1
              subst hs'
              rw [← hbb] at hok
              have hfc : Question.forced (.appendCap (len + srcLen x) cap' e) = false := rfl
              simp [Builtin.append_, run_underlying hu1, run_underlying hu2, run_szOf hsz, hlen, hno, hby', hok, hbz, h1, h3, hz', newRow, Question.cut, hfc]
            have hnew2 : ∀ (T : AS), (∀ i o, T.h i = some o → S.h i = some o) → T.nx = S.nx → S' = T.new (.cells false (old ++ new)) → v = .slice (some ⟨S.nx, 0, some esz⟩) (len + srcLen x) (len + srcLen x) →
                (∃ (c1 c2 : Array Value) (k : Nat), (Builtin.append_ #[t, u] ty #[s', x']).run P w = .ok (.slice (some ⟨w.heap.size, 0, none⟩) (len + srcLen x) (len + srcLen x + k)) (w.drew.alloc (.cells (c1 ++ c2 ++ Builtin.zeroCells z.cells k) e)) ∧
                  LRel μ old c1.toList ∧ LRel μ new c2.toList) → ∃ v' μ' w', (Builtin.append_ #[t, u] ty #[s', x']).run P w = .ok v' w' ∧ VRel μ' v v' ∧ Rel B μ' S' w' ∧ Fr S S' μ μ' w w' := by
              intro T hT hTn hS' hv' ⟨c1, c2, k, hrun, hl1, hl2⟩
              subst hS'; subst hv'
              have hl1' := hl1.length
              have hl2' := hl2.length
              simp only [Array.length_toList] at hl1' hl2'
              have hz2 : (Builtin.zeroCells z.cells k).size = k * esz := by simp [Builtin.zeroCells, ht.size]
              have rT : Rel B μ T w.drew := (r.weaken hT).world rfl
              have hb := rT.new (by rw [hTn]; exact hf) (o := .cells false (old ++ new)) rfl (ob := .cells (c1 ++ c2 ++ Builtin.zeroCells z.cells k) e) (c1 ++ c2 ++ Builtin.zeroCells z.cells k).size (by
                intro μ' w' hsub hw'
                refine ⟨_, e, (0, 0), hw', ?_, ?_, fun _ => rfl, by simp, Nat.le_refl _, by simp; omega⟩
                · rw [List.drop_zero, Array.toList_append, Array.toList_append, List.take_append_of_le_length (by simp; omega), List.take_of_length_le (by simp; omega)]
                  exact (hl1.append hl2).mono hsub
                · intro y hy
                  simp only [List.mem_append] at hy
                  rcases hy with hy | hy
                  · exact ho1 y hy
                  · exact hn1 y hy)
              refine ⟨_, _, _, hrun, ?_, hb.1, ?_⟩
              · have hm : muSet μ T.nx (w.drew.heap.size, 0, (c1 ++ c2 ++ Builtin.zeroCells z.cells k).size) S.nx = some (w.heap.size, 0, (c1 ++ c2 ++ Builtin.zeroCells z.cells k).size) := by simp [muSet, hTn]
                refine .slack (d := 0) hm (by omega) ?_
                simp only [Array.size_append, hz2, ← hl1', ← hl2', hol, hnl, Nat.zero_add, Nat.add_mul, Nat.add_zero]
                omega
              · have f0 : Fr S T μ μ w w.drew := by
                  refine ⟨rfl, rfl, rfl, Nat.le_refl _, Sub.refl _, by omega, fun i p h h' => (by rw [h] at h'; cases h'), fun i o h1 _ => hT i o h1, fun _ _ _ => rfl, fun i o p h1 h2 h3 _ => ⟨i, o, p, hT i o h1, h2, h3, rfl⟩⟩
                exact f0.trans hb.2
            cases a with
            | none =>
              simp only [Option.some.injEq, Prod.mk.injEq] at h
              cases hs with
              | snil =>
                exact hnew2 S (fun _ _ h => h) rfl h.2.symm h.1.symm (hgrow _ _ rfl hfit)
            | some a =>
              obtain ⟨b, o, q⟩ := a
              cases q with
              | none =>
                simp only [Option.some.injEq, Prod.mk.injEq] at h
                refine hnew2 S (fun _ _ h => h) rfl h.2.symm h.1.symm ?_
                cases hs with
                | slice hm => exact hgrow _ _ rfl hfit
                | s0 a => exact hgrow _ _ rfl hfit
              | some q =>
                simp only at h
                split at h
                · rename_i l hl
                  split at h
                  · rename_i hq
                    subst hq
                    simp only [Option.some.injEq, Prod.mk.injEq] at h
                    have hT : ∀ i o, (S.set b none).h i = some o → S.h i = some o := by
                      intro i o hi
                      simp only [AS.set] at hi
                      split at hi
                      · cases hi
                      · exact hi
                    cases hs with
                    | s0 a => exact hnew2 (S.set b none) hT rfl h.2.symm h.1.symm (hgrow _ _ rfl hfit)
                    | @slack _ _ bb d z' _ _ cap' _ hm hc hz =>
                      by_cases hno : len + srcLen x ≤ cap'
                      · obtain ⟨c, hc1, hc2⟩ := hfirst (srcLen x) (Nat.le_refl _) w rfl
                        rw [← hnl, List.take_of_length_le (Nat.le_refl _)] at hc2
                        have hc2l := hc2.length
                        simp only [Array.length_toList] at hc2l
                        obtain ⟨b', d', z2, g0, ⟨cc, e2, fz, g1, g2, g3, g4, _, g6, g7⟩, _⟩ := r.obj b _ hl
                        rw [hm] at g0; cases g0
                        have hfz := g4 rfl; subst hfz
                        have hmul : (len + srcLen x) * q ≤ cap' * q := Nat.mul_le_mul_right _ hno
                        rw [Nat.add_mul] at hmul
                        have hst := run_storeCells_at (P := P) bb (o + d + len * q) e2 c.toList 0 cc w g1 (by simp; omega) (hc2.one hn1)
                        obtain ⟨rfl, rfl⟩ := h
                        have htk := Rel.take r hf hl rfl hm (o' := .cells false (old ++ new)) (o + d) (fun k hk => setRow_other w bb k _ hk) (by simp) rfl rfl rfl (w' := w.setRow bb (cc.toList.take (o + d + len * q + 0) ++ c.toList ++ cc.toList.drop (o + d + len * q + 0 + c.toList.length)).toArray) (by
                          intro μ' hsub
                          refine ⟨_, e2, (0, 0), setRow_heap w bb cc _ e2 _ g1, ?_, ?_, fun _ => rfl, by simp, by simp; omega, by simp; omega⟩
                          · have hold2 : LRel μ old ((cc.toList.drop (o + d)).take (len * q)) := by
                              by_cases hl0 : len = 0
                              · have : old = [] := List.eq_nil_of_length_eq_zero (by rw [hol, hl0]; simp)
                                rw [this, hl0]; simp; exact .nil
                              · have : getCells S b o (len * q) = some old := by
                                  unfold srcCells at hold
                                  split at hold
                                  · rename_i heq; cases heq; exact absurd rfl hl0
                                  · rename_i heq; cases heq; exact hold
                                  · rename_i heq; cases heq
                                  · cases hold
                                obtain ⟨c3, e3, fz3, k1, k2, _⟩ := getCells_sound r hm this
                                rw [g1] at k1; cases k1
                                exact k2
                            have hLL := (hold2.append hc2).mono hsub
                            have e9 : ((cc.toList.take (o + d + len * q + 0) ++ c.toList ++ cc.toList.drop (o + d + len * q + 0 + c.toList.length)).toArray.toList.drop (o + d)).take (old ++ new).length
                                = (cc.toList.drop (o + d)).take (len * q) ++ c.toList := by
                              apply List.ext_getElem?
                              intro j
                              simp only [List.getElem?_take, List.getElem?_drop, List.getElem?_append, List.length_append, List.length_take, List.length_drop, Array.length_toList, Nat.add_zero]
                              repeat' split
                              all_goals first
                                | rfl
                                | omega
                                | (congr 1; omega)
                                | (rw [List.getElem?_eq_none (by simp; omega)])
                                | (symm; rw [List.getElem?_eq_none (by simp; omega)])
                            rw [e9]
                            exact hLL
                          · intro y hy
                            simp only [List.mem_append] at hy
                            rcases hy with hy | hy
                            · exact ho1 y hy
                            · exact hn1 y hy) rfl
                        refine ⟨.slice (some ⟨bb, o + d, none⟩) (len + srcLen x) cap', _, _, ?_, ?_, htk.1, htk.2⟩
                        · simp [Builtin.append_, run_underlying hu1, run_underlying hu2, run_szOf hsz, hlen, hc1, hno, addr_add]
                          simp at hst
                          rw [hst]
                          simp
                        · have hm2 : muSet μ S.nx (bb, o + d, z') S.nx = some (bb, o + d, z') := by simp [muSet]
                          have := VRel.slack (o := 0) (l := len + srcLen x) hm2 hno (e := q) (by omega)
                          simpa using this
                      · exact hnew2 (S.set b none) hT rfl h.2.symm h.1.symm (hgrow _ _ rfl hno)
                  · cases h
                · cases h
        · cases h
    · cases h

end Go.Ax

