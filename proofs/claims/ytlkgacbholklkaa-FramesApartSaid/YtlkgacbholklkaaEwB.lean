/-
  THE EVALUATOR, PART B: the evaluator's own operations, how they are run over the abstract heap, and how the machine's operations are turned into them.
-/
import Derived.Test.YtlkgacbholklkaaEwA
import Derived.Lib.Bytealg
namespace Go.E
open Go
inductive NOpd where
  | t (i : Nat)
  | c (v : Value)
  | g (i : Nat)
  deriving Inhabited

inductive EqT where
  | basic (d : TypeDesc)
  | parts (ps : List (Nat × Option Nat × EqT))
  | arr (n es : Nat) (sz : Option Nat) (e : EqT)
  deriving Inhabited

inductive NOp where
  | mov (x : NOpd)
  | pick (c a b : NOpd)
  | alloc (es : Nat) (zero : List Value)
  | box (es : Nat) (x : NOpd)
  | build (zero : List Value) (parts : List (Nat × Nat × NOpd))
  | bslice (es len : Nat) (zero : List Value) (parts : List (Nat × Nat × NOpd))
  | load1 (a : NOpd)
  | loadN (n : Nat) (a : NOpd)
  | store (n : Nat) (a x : NOpd)
  | nilchk (x : NOpd)
  | bin (op : BinOp) (e : EqT) (x y : NOpd)
  | un (op : UnOp) (x : NOpd)
  | convInt (k : IntKind) (x : NOpd)
  | convStr (x : NOpd)
  | i2s (x : NOpd)
  | b2s (x : NOpd)
  | s2b (x : NOpd)
  | b2b (x : NOpd)
  | mkfunc (f : Nat) (first captured : List NOpd)
  | mkmap
  | mkslice (es : Nat) (bytes : Nat) (zero : List Value) (len cap : NOpd)
  | slice (es : Nat) (x : NOpd) (lo hi mx : Option NOpd)
  | sliceStr (x : NOpd) (lo hi : Option NOpd)
  | sliceArr (n es : Nat) (x : NOpd) (lo hi mx : Option NOpd)
  | faddr (off : Nat) (x : NOpd)
  | field (sz : Option Nat) (off : Nat) (x : NOpd)
  | iaddr (es : Nat) (x i : NOpd)
  | iaddrArr (n es : Nat) (x i : NOpd)
  | idxStr (x i : NOpd)
  | idxArr (n : Nat) (sz : Option Nat) (es : Nat) (x i : NOpd)
  | lookup (kind : TypeDesc) (zero : Value) (m k : NOpd) (ok : Bool)
  | mapupd (kind : TypeDesc) (m k v : NOpd)
  | extract (x : NOpd) (i : Nat)
  | append (es bytes : Nat) (s x : NOpd)
  | appendZ (es : Nat) (zero : List Value) (s x : NOpd)
  | copy (es : Nat) (d s : NOpd)
  | lenC (n : Nat)
  | len (k : Nat) (x : NOpd)
  | minmax (mx : Bool) (xs : List NOpd)
  | clear (es : Nat) (zero : List Value) (x : NOpd)
  | clearM (x : NOpd)
  | delete (kind : TypeDesc) (m k : NOpd)
  | rangeM (x : NOpd)
  | nextM (x : NOpd)
  | rangeS (x : NOpd)
  | nextS (x : NOpd)
  | entryM (x : NOpd)
  | s2ap (n : Nat) (x : NOpd)
  | ixByteS (x y : NOpd)
  | extB (cnt : Bool) (x y : NOpd)
  | call (f : NOpd) (args : List NOpd)
  deriving Inhabited

inductive Res where
  | val (v : Value) (H : AHeap)
  | call (f : Fid) (args : List Value) (H : AHeap)

def NOpd.ev (T : Env) : NOpd → Value
  | .t i => T.getD i undef
  | .c v => v
  | .g i => .pointer (some ⟨i, 0, none⟩)

def cellsL (v : Value) : List Value := v.cells.toList

def fillN : List Value → List (Nat × Nat × Value) → Option (List Value)
  | cs, [] => some cs
  | cs, (off, size, v) :: rest =>
    if (cellsL v).length = size ∧ off + size ≤ cs.length ∧ (cellsL v).all (·.oneCell') = true then fillN (cs.take off ++ cellsL v ++ cs.drop (off + size)) rest else none

def bnd (x : Option Value) (dflt top : Nat) : Option Nat :=
  match x with
  | none => if dflt ≤ top then some dflt else none
  | some (.int _ i) => if 0 ≤ i ∧ i ≤ top then some i.toNat else none
  | some _ => none

def AHeap.row (H : AHeap) (b o n : Nat) : Option (List Value) :=
  match H.get b with
  | .cells cs _ _ => if o + n ≤ cs.length then some ((cs.drop o).take n) else none
  | _ => none

def byteVals (s : ByteArray) : List Value := s.data.toList.map fun b => .int .u8 b.toNat

def AHeap.src (H : AHeap) (es : Nat) (x : Value) (k : Nat) : Option (List Value) :=
  if k = 0 then some [] else
  match x with
  | .slice (some a) _ _ => H.row a.block a.off (k * es)
  | .string s => if es = 1 then some ((byteVals s).take k) else none
  | _ => none

def lenV : Value → Option Nat
  | .slice _ n _ => some n
  | .string s => some s.size
  | _ => none

def AHeap.putRow (H : AHeap) (b o : Nat) (xs : List Value) : Option AHeap :=
  match H.get b with
  | .cells cs es ro => if ro = false ∧ o + xs.length ≤ cs.length ∧ xs.all (·.oneCell') = true then some (H.set b (.cells (cs.take o ++ xs ++ cs.drop (o + xs.length)) es ro)) else none
  | _ => none

def toBytes : List Value → Option (List UInt8)
  | [] => some []
  | .int .u8 n :: r => (toBytes r).map (UInt8.ofNat n.toNat :: ·)
  | _ :: _ => none

def partN (cs : List Value) (off : Nat) : Option Nat → Option Value
  | none => cs[off]?
  | some n => if off + n ≤ cs.length then some (.agg ⟨(cs.drop off).take n⟩) else none

def b2sN (H : AHeap) (x : Value) : Option Value :=
  match x with
  | .slice none _ _ => some (.string .empty)
  | .slice (some a) l _ => (if l = 0 then some [] else H.row a.block a.off l).bind fun cs => (toBytes cs).map fun bs => .string ⟨⟨bs⟩⟩
  | _ => none

def bytesV (H : AHeap) (x : Value) : Option (List UInt8) :=
  match x with
  | .string s => some s.data.toList
  | .slice none _ _ => some []
  | .slice (some a) l _ => (if l = 0 then some [] else H.row a.block a.off l).bind toBytes
  | _ => none

def eqPart (eqv : EqT → Value → Value → Option Bool) (xs ys : List Value) : List (Nat × Option Nat × EqT) → Option Bool
  | [] => some true
  | (off, sz, e) :: r =>
    match partN xs off sz, partN ys off sz with
    | some x, some y => match eqv e x y with
      | some true => eqPart eqv xs ys r
      | some false => some false
      | none => none
    | _, _ => none

def eqItemsN (eqv : Value → Value → Option Bool) (es : Nat) (sz : Option Nat) (xs ys : List Value) : List Nat → Option Bool
  | [] => some true
  | i :: r =>
    match partN xs (i * es) sz, partN ys (i * es) sz with
    | some x, some y => match eqv x y with
      | some true => eqItemsN eqv es sz xs ys r
      | some false => some false
      | none => none
    | _, _ => none

def eqBasic : TypeDesc → Value → Value → Option Bool
  | .bool, .bool a, .bool b => some (a == b)
  | .int _, .int k a, .int k' b => if k = k' then some (a == b) else none
  | .string, .string a, .string b => some (a == b)
  | .pointer _, .pointer none, .pointer b => some b.isNone
  | .pointer _, .pointer (some _), .pointer none => some false
  | .slice _, .slice none _ _, .slice b _ _ => some b.isNone
  | .slice _, .slice (some _) _ _, .slice none _ _ => some false
  | .map _ _, .map none, .map b => some b.isNone
  | .map _ _, .map (some _), .map none => some false
  | .func _ _ _, .nilFunc, .nilFunc => some true
  | .func _ _ _, .nilFunc, .func _ _ _ => some false
  | .func _ _ _, .func _ _ _, .nilFunc => some false
  | _, _, _ => none

def eqN : Nat → EqT → Value → Value → Option Bool
  | 0, _, _, _ => none
  | _ + 1, .basic d, x, y => eqBasic d x y
  | d + 1, .parts ps, .agg xs, .agg ys => eqPart (eqN d) xs.toList ys.toList ps
  | d + 1, .arr n es sz e, .agg xs, .agg ys => eqItemsN (eqN d e) es sz xs.toList ys.toList (List.range n)
  | _ + 1, _, _, _ => none

def binInt (op : BinOp) (k : IntKind) (a b : Int) : Option Value :=
  match op with
  | .add => some (.int k (k.wrap (a + b)))
  | .sub => some (.int k (k.wrap (a - b)))
  | .mul => some (.int k (k.wrap (a * b)))
  | .quo => if b = 0 then none else some (.int k (k.wrap (a.tdiv b)))
  | .rem => if b = 0 then none else some (.int k (a.tmod b))
  | .and => some (.int k (k.wrap (BitVec.ofInt k.bits a &&& BitVec.ofInt k.bits b).toNat))
  | .or => some (.int k (k.wrap (BitVec.ofInt k.bits a ||| BitVec.ofInt k.bits b).toNat))
  | .xor => some (.int k (k.wrap (BitVec.ofInt k.bits a ^^^ BitVec.ofInt k.bits b).toNat))
  | .andNot => some (.int k (k.wrap (BitVec.ofInt k.bits a &&& ~~~BitVec.ofInt k.bits b).toNat))
  | .eql => some (.bool (a == b))
  | .neq => some (.bool (a != b))
  | .lss => some (.bool (a < b))
  | .leq => some (.bool (a ≤ b))
  | .gtr => some (.bool (a > b))
  | .geq => some (.bool (a ≥ b))
  | _ => none

def binStr (op : BinOp) (x y : ByteArray) : Option Value :=
  let eq := x.toList == y.toList
  let lt := Op.bytesLess x.toList y.toList
  match op with
  | .add => if x.size + y.size ≤ 2147483648 then some (.string (x ++ y)) else none
  | .eql => some (.bool eq)
  | .neq => some (.bool !eq)
  | .lss => some (.bool lt)
  | .leq => some (.bool (lt || eq))
  | .gtr => some (.bool !(lt || eq))
  | .geq => some (.bool !lt)
  | _ => none

def binN (op : BinOp) (e : EqT) (x y : Value) : Option Value :=
  match x, y with
  | .int k a, .int k' b =>
    match op with
    | .shl => if b < 0 then none else some (.int k (k.wrap (a * 2 ^ (min b.toNat k.bits))))
    | .shr => if b < 0 then none else some (.int k (a.fdiv (2 ^ (min b.toNat k.bits))))
    | _ => if k = k' then binInt op k a b else none
  | .string a, .string b => binStr op a b
  | x, y =>
    match op with
    | .eql => (eqN 10 e x y).map .bool
    | .neq => (eqN 10 e x y).map fun b => .bool !b
    | _ => none

def unN (op : UnOp) (x : Value) : Option Value :=
  match op, x with
  | .neg, .int k n => some (.int k (k.wrap (0 - n)))
  | .xor, .int k n => some (.int k (k.wrap (BitVec.ofInt k.bits (if k.signed then -1 else k.max) ^^^ BitVec.ofInt k.bits n).toNat))
  | .not, .bool b => some (.bool !b)
  | _, _ => none

def minmax2 (mx : Bool) : Value → Value → Option Value
  | .int k x, .int k' y => if k = k' then some (.int k (if mx then (if y > x then y else x) else (if y < x then y else x))) else none
  | _, _ => none

def minmaxL (mx : Bool) : Value → List Value → Option Value
  | x, [] => some x
  | x, y :: r => (minmax2 mx x y).bind fun z => minmaxL mx z r

def zeroOf (zero : List Value) (n : Nat) : List Value := (List.replicate n zero).flatten

def limit : Nat := 2147483648

def sliceBnds (l c : Nat) (lo hi mx : Option Value) : Option (Nat × Nat × Nat) :=
  (bnd mx c c).bind fun m => (bnd hi l m).bind fun h => (bnd lo 0 h).bind fun i => some (i, h, m)

def AHeap.appendK (H : AHeap) (es : Nat) (base : Option Addr) (l c k : Nat) (src : Option (List Value)) : Option (Value × AHeap) :=
    if l + k ≤ c then
      match base with
      | none => some (.slice none l c, H)
      | some a => if k = 0 then some (.slice (some a) l c, H) else
        src.bind fun xs => (H.putRow a.block (a.off + l * es) xs).map fun H' => (.slice (some a) (l + k) c, H')
    else if l + k ≤ limit then
      src.bind fun xs =>
        match base with
        | none => some (.slice (some ⟨H.next, 0, none⟩) k k, H.add (.cells xs es false))
        | some a =>
          match H.get a.block with
          | .cells cs es' ro =>
            if a.off + l * es ≤ cs.length then
              let old := (cs.drop a.off).take (l * es)
              if es' ≠ 0 ∧ a.off + c * es' = cs.length then
                if ro = false ∧ es' = es then some (.slice (some ⟨H.next, 0, none⟩) (l + k) (l + k), (H.set a.block .dead).add (.cells (old ++ xs) es false)) else none
              else some (.slice (some ⟨H.next, 0, none⟩) (l + k) (l + k), H.add (.cells (old ++ xs) es false))
            else none
          | _ => none
    else none

def AHeap.appendV (H : AHeap) (es : Nat) (s x : Value) : Option (Value × AHeap) :=
  match s, lenV x with
  | .slice base l c, some k => H.appendK es base l c k (H.src es x k)
  | _, _ => none

def AHeap.appendZ (H : AHeap) (es : Nat) (zero : List Value) (s x : Value) : Option (Value × AHeap) :=
  match s, x with
  | .slice base l c, .int _ n => if 0 ≤ n ∧ n ≤ limit then H.appendK es base l c n.toNat (some (zeroOf zero n.toNat)) else none
  | _, _ => none

def AHeap.mapOf (H : AHeap) : Value → Option (List MapEntry)
  | .map none => some []
  | .map (some r) => match H.get r with
    | .map es _ => some es
    | .table es => some es
    | _ => none
  | _ => none

def AHeap.copyN (H : AHeap) (es : Nat) (s : Value) (n : Nat) : Option Addr → Option AHeap
  | none => some H
  | some a => if n = 0 then some H else (H.src es s n).bind fun xs => H.putRow a.block a.off xs

def AHeap.clearN (H : AHeap) (zero : List Value) (n : Nat) : Option Addr → Option AHeap
  | none => some H
  | some a => if n = 0 then some H else H.putRow a.block a.off (zeroOf zero n)

def lookRes (zero : Value) (ok : Bool) : Option (Nat × Value) → Value
  | some (_, x) => if ok then .tuple #[x, .bool true] else x
  | none => if ok then .tuple #[zero, .bool false] else zero

mutual
def closedV : Value → Bool
  | .bool _ | .int _ _ | .float _ _ | .string _ | .pointer none | .slice none 0 0 | .map none | .nilFunc | .nilIface => true
  | .func (.func _) ⟨a⟩ ⟨b⟩ => closedVs a && closedVs b
  | .iface _ v => closedV v
  | .agg ⟨l⟩ => closedVs l
  | .tuple ⟨l⟩ => closedVs l
  | _ => false
def closedVs : List Value → Bool
  | [] => true
  | v :: l => closedV v && closedVs l
end
def iterStep (es : List MapEntry) (since last : Nat) (seen : List Nat) : Option (Option MapEntry) :=
  if !seen.isEmpty && !es.isEmpty && es.all (·.born ≥ last) then none
  else match es.filter fun e => !seen.contains e.born with
    | [] => some none
    | [e] => if e.born < since then some (some e) else none
    | _ => none

def eop (o : NOp) (T : Env) (H : AHeap) : Option Res :=
  let v (x : Option Value) : Option Res := x.map fun x => .val x H
  match o with
  | .mov x => some (.val (x.ev T) H)
  | .pick c a b => match c.ev T with
    | .bool c => some (.val (if c then a.ev T else b.ev T) H)
    | _ => none
  | .alloc es zero => some (.val (.pointer (some ⟨H.next, 0, none⟩)) (H.add (.cells zero es false)))
  | .box es x => if (cellsL (x.ev T)).all (·.oneCell') then some (.val (.pointer (some ⟨H.next, 0, none⟩)) (H.add (.cells (cellsL (x.ev T)) es false))) else none
  | .build zero parts => v ((fillN zero (parts.map fun (o, s, x) => (o, s, x.ev T))).map fun cs => .agg ⟨cs⟩)
  | .bslice es len zero parts => (fillN zero (parts.map fun (o, s, x) => (o, s, x.ev T))).map fun cs => .val (.slice (some ⟨H.next, 0, none⟩) len len) (H.add (.cells cs es false))
  | .load1 a => match a.ev T with
    | .pointer (some p) => v ((H.row p.block p.off 1).bind fun cs => cs[0]?)
    | _ => none
  | .loadN n a => match a.ev T with
    | .pointer (some p) => v ((H.row p.block p.off n).map fun cs => .agg ⟨cs⟩)
    | _ => none
  | .store n a x => match a.ev T with
    | .pointer (some p) => if (cellsL (x.ev T)).length = n then (H.putRow p.block p.off (cellsL (x.ev T))).map fun H' => .val undef H' else none
    | _ => none
  | .nilchk x => match x.ev T with
    | .pointer (some p) => some (.val (.pointer (some p)) H)
    | .func f a b => some (.val (.func f a b) H)
    | _ => none
  | .bin op e x y => v (binN op e (x.ev T) (y.ev T))
  | .un op x => v (unN op (x.ev T))
  | .convInt k x => match x.ev T with
    | .int _ n => some (.val (.int k (k.wrap n)) H)
    | _ => none
  | .convStr x => match x.ev T with
    | .string s => some (.val (.string s) H)
    | _ => none
  | .i2s x => match x.ev T with
    | .int _ n => some (.val (.string (Utf8.encode n)) H)
    | _ => none
  | .b2s x => v (b2sN H (x.ev T))
  | .s2b x => match x.ev T with
    | .string s => if s.size ≤ limit then some (.val (.slice (some ⟨H.next, 0, none⟩) s.size s.size) (H.add (.cells (byteVals s) 1 false))) else none
    | _ => none
  | .b2b x => match x.ev T with
    | .slice (some a) l c => if c = 0 then none else match H.get a.block with
      | .cells _ _ false => some (.val (.slice (some a) l c) H)
      | _ => none
    | _ => none
  | .mkfunc f a b => some (.val (.func (.func f) ⟨a.map (·.ev T)⟩ ⟨b.map (·.ev T)⟩) H)
  | .mkmap => some (.val (.map (some H.next)) (H.add (.map [] 0)))
  | .mkslice es _ zero l c => match l.ev T, c.ev T with
    | .int _ l, .int _ c => if 0 ≤ l ∧ l ≤ c ∧ c ≤ limit then
        some (.val (.slice (some ⟨H.next, 0, none⟩) l.toNat c.toNat) (H.add (.cells (zeroOf zero c.toNat) es false))) else none
    | _, _ => none
  | .slice es x lo hi mx => match x.ev T with
    | .slice a l c => (sliceBnds l c (lo.map (·.ev T)) (hi.map (·.ev T)) (mx.map (·.ev T))).bind fun (i, h, m) =>
      match a with
      | none => some (.val (.slice none 0 0) H)
      | some a => if c = 0 then some (.val (.slice (some a) 0 0) H) else
        match H.get a.block with
        | .cells _ es' _ => if es' = 0 ∨ es' = es then some (.val (.slice (some ⟨a.block, a.off + i * es, none⟩) (h - i) (m - i)) H) else none
        | _ => none
    | _ => none
  | .sliceStr x lo hi => match x.ev T with
    | .string s => (sliceBnds s.size s.size (lo.map (·.ev T)) (hi.map (·.ev T)) none).bind fun (i, h, _) => some (.val (.string (s.extract i h)) H)
    | _ => none
  | .sliceArr n es x lo hi mx => match x.ev T with
    | .pointer (some a) => (sliceBnds n n (lo.map (·.ev T)) (hi.map (·.ev T)) (mx.map (·.ev T))).bind fun (i, h, m) =>
      match H.get a.block with
      | .cells _ _ _ => some (.val (.slice (some ⟨a.block, a.off + i * es, none⟩) (h - i) (m - i)) H)
      | _ => none
    | _ => none
  | .faddr off x => match x.ev T with
    | .pointer (some a) => some (.val (.pointer (some ⟨a.block, a.off + off, none⟩)) H)
    | _ => none
  | .field sz off x => match x.ev T with
    | .agg cs => match sz with
      | none => v (cs.toList[off]?)
      | some n => if off + n ≤ cs.toList.length then some (.val (.agg ⟨(cs.toList.drop off).take n⟩) H) else none
    | _ => none
  | .iaddr es x i => match x.ev T, i.ev T with
    | .slice (some a) l _, .int _ i => if 0 ≤ i ∧ i < l then some (.val (.pointer (some ⟨a.block, a.off + i.toNat * es, none⟩)) H) else none
    | _, _ => none
  | .iaddrArr n es x i => match x.ev T, i.ev T with
    | .pointer (some a), .int _ i => if 0 ≤ i ∧ i < n then some (.val (.pointer (some ⟨a.block, a.off + i.toNat * es, none⟩)) H) else none
    | _, _ => none
  | .idxStr x i => match x.ev T, i.ev T with
    | .string s, .int _ i => if 0 ≤ i then v ((s.data.toList[i.toNat]?).map fun b => .int .u8 b.toNat) else none
    | _, _ => none
  | .idxArr n sz es x i => match x.ev T, i.ev T with
    | .agg cs, .int _ i => if 0 ≤ i ∧ i < n then
        match sz with
        | none => v (cs.toList[i.toNat * es]?)
        | some k => if i.toNat * es + k ≤ cs.toList.length then some (.val (.agg ⟨(cs.toList.drop (i.toNat * es)).take k⟩) H) else none
      else none
    | _, _ => none
  | .lookup kind zero m k ok => if keyOk kind (k.ev T) then
      (H.mapOf (m.ev T)).bind fun es => (Instr.findNow kind (k.ev T) es 0).map fun r =>
        .val (lookRes zero ok r) H
    else none
  | .mapupd kind m k x => match m.ev T with
    | .map (some r) => if keyOk kind (k.ev T) then match H.get r with
      | .map es clock => match Instr.findNow kind (k.ev T) es 0 with
        | some (some (i, _)) => some (.val undef (H.set r (.map (es.modify i fun e => { e with key := k.ev T, val := x.ev T }) clock)))
        | some none => some (.val undef (H.set r (.map (es ++ [{ key := k.ev T, val := x.ev T, born := clock }]) (clock + 1))))
        | none => none
      | _ => none else none
    | _ => none
  | .extract x i => match x.ev T with
    | .tuple vs => v (vs.toList[i]?)
    | _ => none
  | .append es _ s x => (H.appendV es (s.ev T) (x.ev T)).map fun (r, H') => .val r H'
  | .appendZ es zero s x => (H.appendZ es zero (s.ev T) (x.ev T)).map fun (r, H') => .val r H'
  | .copy es d s => match d.ev T, lenV (s.ev T) with
    | .slice base l _, some k => (H.copyN es (s.ev T) (min k l) base).map fun H' => .val (.int .i64 (min k l : Nat)) H'
    | _, _ => none
  | .lenC n => some (.val (.int .i64 n) H)
  | .len k x => match k, x.ev T with
    | 0, .string s => some (.val (.int .i64 s.size) H)
    | 1, .slice _ n _ => some (.val (.int .i64 n) H)
    | 2, .map r => v ((H.mapOf (.map r)).map fun es => .int .i64 es.length)
    | _, _ => none
  | .minmax mx xs => match xs.map (·.ev T) with
    | [] => none
    | x :: r => v (minmaxL mx x r)
  | .clear _ zero x => match x.ev T with
    | .slice base n _ => (H.clearN zero n base).map fun H' => .val (.tuple #[]) H'
    | _ => none
  | .clearM x => match x.ev T with
    | .map none => some (.val (.tuple #[]) H)
    | .map (some r) => match H.get r with
      | .map _ clock => some (.val (.tuple #[]) (H.set r (.map [] clock)))
      | _ => none
    | _ => none
  | .delete kind m k => match m.ev T with
    | .map none => if keyOk kind (k.ev T) then some (.val (.tuple #[]) H) else none
    | .map (some r) => if keyOk kind (k.ev T) then match H.get r with
      | .map es clock => match Instr.findNow kind (k.ev T) es 0 with
        | some (some (i, _)) => some (.val (.tuple #[]) (H.set r (.map (es.eraseIdx i) clock)))
        | some none => some (.val (.tuple #[]) H)
        | none => none
      | _ => none else none
    | _ => none
  | .rangeM x => match x.ev T with
    | .map none => some (.val (.pointer (some ⟨H.next, 0, none⟩)) (H.add (.iter none 0 [] 0)))
    | .map (some m) => match H.get m with
      | .map _ clock => some (.val (.pointer (some ⟨H.next, 0, none⟩)) (H.add (.iter (some m) clock [] clock)))
      | _ => none
    | _ => none
  | .rangeS x => match x.ev T with
    | .string s => some (.val (.pointer (some ⟨H.next, 0, none⟩)) (H.add (.siter s 0)))
    | _ => none
  | .nextS x => match x.ev T with
    | .pointer (some p) => if p.off = 0 then match H.get p.block with
      | .siter s pos => if pos < s.size then some (.val (.tuple #[.bool true, .int .i64 pos, .int .i32 (Utf8.decode s pos).1]) (H.set p.block (.siter s (pos + (Utf8.decode s pos).2))))
        else some (.val (.tuple #[.bool false]) H)
      | _ => none else none
    | _ => none
  | .nextM x => match x.ev T with
    | .pointer (some p) => if p.off = 0 then match H.get p.block with
      | .iter none _ _ _ => some (.val (.tuple #[.bool false]) H)
      | .iter (some m) since seen last => match H.get m with
        | .map es clock => match iterStep es since last seen with
          | some none => some (.val (.tuple #[.bool false]) H)
          | some (some e) => if closedV e.key = true then some (.val (.tuple #[.bool true, e.key, e.val]) (H.set p.block (.iter (some m) since (seen ++ [e.born]) clock))) else none
          | none => none
        | _ => none
      | _ => none else none
    | _ => none
  | .entryM x => match x.ev T with
    | .pointer (some p) => if p.off = 0 then match H.get p.block with
      | .iter (some m) _ seen last => match H.get m, seen.getLast? with
        | .map es clock, some stamp => if clock = last then (es.find? fun e => e.born == stamp).bind fun e => if closedV e.key = true then some (.val (.tuple #[e.key, e.val]) H) else none else none
        | _, _ => none
      | _ => none else none
    | _ => none
  | .s2ap n x => match x.ev T with
    | .slice (some a) l _ => if 0 < n ∧ n ≤ l then some (.val (.pointer (some a)) H) else none
    | _ => none
  | .ixByteS x y => match x.ev T, y.ev T with
    | .string s, .int .u8 c => some (.val (.int .i64 (Go.Lib.indexByte s.data.toList c.toNat.toUInt8)) H)
    | _, _ => none
  | .extB cnt x y => match bytesV H (x.ev T), y.ev T with
    | some bs, .int .u8 c => some (.val (.int .i64 (if cnt = true then (Go.Lib.countByte bs c.toNat.toUInt8 : Int) else Go.Lib.indexByte bs c.toNat.toUInt8)) H)
    | _, _ => none
  | .call f args => match f.ev T with
    | .func (.func f) first captured => some (.call (.fn f) (first.toList ++ args.map (·.ev T) ++ captured.toList) H)
    | .func (.yield b) ⟨[]⟩ ⟨[]⟩ => some (.call (.yield b) (args.map (·.ev T)) H)
    | _ => none

/-! ### turning the machine's operations into these -/
variable (P : Program) (G : Nat)
def cOpd : Operand → Option NOpd
  | .tmp t => some (.t t)
  | .const v => if closedV v then some (.c v) else none
  | .global g => if g < G then some (.g g) else none
  | .func f => some (.c (.func (.func f) #[] #[]))

def cOpt (x : Option Operand) : Option (Option NOpd) :=
  match x with
  | none => some none
  | some x => (cOpd G x).map some

def cOpds : List Operand → Option (List NOpd)
  | [] => some []
  | x :: r => (cOpd G x).bind fun a => (cOpds r).map (a :: ·)

def isAggD : TypeDesc → Bool
  | .struct _ | .array _ _ => true
  | _ => false

def keyKind : TypeDesc → Bool
  | .int _ | .string | .bool => true
  | _ => false

def zeroInfo (t : TypeId) : Option (List Value × Nat × Nat) :=
  match P.info? t with
  | some i => match i.zero with
    | some z => if closedVs (cellsL z) ∧ (cellsL z).length = i.size ∧ 0 < i.size ∧ 0 < i.bytes ∧ i.bytes ≤ 65536 ∧ (cellsL z).all (·.oneCell') = true then some (cellsL z, i.size, i.bytes) else none
    | none => none
  | none => none

def zeroVal (t : TypeId) : Option Value :=
  match P.info? t with
  | some i => match i.zero with
    | some z => if closedV z then some z else none
    | none => none
  | none => none

def sizeI (t : TypeId) : Option Nat := (P.info? t).map (·.size)

def eqFields (f : TypeId → Option EqT) : List Field → Option (List (Nat × Option Nat × EqT))
  | [] => some []
  | x :: r => if x.name = "_" then none else
    match P.underlying x.type, sizeI P x.type with
    | some d, some n => (f x.type).bind fun e => (eqFields f r).map ((x.offset, if isAggD d then some n else none, e) :: ·)
    | _, _ => none

def eqTOf : Nat → TypeId → Option EqT
  | 0, _ => none
  | d + 1, t => match P.underlying t with
    | some .bool => some (.basic .bool)
    | some (.int k) => some (.basic (.int k))
    | some .string => some (.basic .string)
    | some (.pointer e) => some (.basic (.pointer e))
    | some (.slice e) => some (.basic (.slice e))
    | some (.map k e) => some (.basic (.map k e))
    | some (.func a b c) => some (.basic (.func a b c))
    | some (.array n e) => if P.eqGuardType P.depth t then none else
      match P.underlying e, sizeI P e with
      | some de, some es => (eqTOf d e).map fun x => .arr n es (if isAggD de then some es else none) x
      | _, _ => none
    | some (.struct fs) => if P.stoodInHeld t || P.eqGuardType P.depth t then none else (eqFields P (eqTOf d) fs.toList).map .parts
    | _ => none

def cParts (place : Nat → Option (Nat × Nat)) : List (Nat × Operand) → Option (List (Nat × Nat × NOpd))
  | [] => some []
  | (i, x) :: r => match place i with
    | some (off, size) => (cOpd G x).bind fun a => (cParts place r).map ((off, size, a) :: ·)
    | none => none

def fieldPlaces : List Field → Option (List (Nat × Nat))
  | [] => some []
  | f :: r => (sizeI P f.type).bind fun n => (fieldPlaces r).map ((f.offset, n) :: ·)

def cBuiltin (b : Builtin) (argTypes : List TypeId) (args : List Operand) : Option NOp :=
  match b, argTypes, args with
  | .append, [t, u], [s, x] => match P.underlying t, P.underlying u with
    | some (.slice e), some (.slice _) | some (.slice e), some .string => (zeroInfo P e).bind fun (_, es, by_) => (cOpd G s).bind fun s => (cOpd G x).bind fun x => some (.append es by_ s x)
    | some (.slice e), some (.int _) => (zeroInfo P e).bind fun (z, es, _) => (cOpd G s).bind fun s => (cOpd G x).bind fun x => some (.appendZ es z s x)
    | _, _ => none
  | .copy, [t, _], [d, s] => match P.underlying t with
    | some (.slice e) => (zeroInfo P e).bind fun (_, es, _) => (cOpd G d).bind fun d => (cOpd G s).bind fun s => some (.copy es d s)
    | _ => none
  | .len, [t], [x] => match P.underlying t with
    | some (.array n _) => some (.lenC n)
    | some .string => (cOpd G x).bind fun x => some (.len 0 x)
    | some (.slice _) => (cOpd G x).bind fun x => some (.len 1 x)
    | some (.map _ _) => (cOpd G x).bind fun x => some (.len 2 x)
    | _ => none
  | .max, _, xs => (cOpds G xs).bind fun xs => some (.minmax true xs)
  | .min, _, xs => (cOpds G xs).bind fun xs => some (.minmax false xs)
  | .clear, [t], [x] => match P.underlying t with
    | some (.slice e) => (zeroInfo P e).bind fun (z, es, _) => (cOpd G x).bind fun x => some (.clear es z x)
    | some (.map _ _) => (cOpd G x).bind fun x => some (.clearM x)
    | _ => none
  | .delete, (t :: _), [m, k] => match P.underlying t with
    | some (.map kt _) => match P.underlying kt with
      | some d => if keyKind d then (cOpd G m).bind fun m => (cOpd G k).bind fun k => some (.delete d m k) else none
      | none => none
    | _ => none
  | _, _, _ => none

def extIx (f : Operand) : Bool :=
  match f with
  | .func i => match P.funcs[i]? with
    | some fn => fn.body.isNone && fn.name == "internal/bytealg.IndexByteString" && fn.origin == ""
    | none => false
  | _ => false

def extBK (f : Operand) : Option Bool :=
  match f with
  | .func i => match P.funcs[i]? with
    | some fn => if (fn.body.isNone && fn.origin == "") = true then
        (if fn.name == "internal/bytealg.IndexByte" then some false else if fn.name == "internal/bytealg.Count" then some true else if fn.name == "internal/bytealg.CountString" then some true else none) else none
    | none => none
  | _ => none

def cOp (o : Oper) : Option NOp :=
  match o.op with
  | .move x | .assign x => (cOpd G x).map .mov
  | .pick c a b => (cOpd G c).bind fun c => (cOpd G a).bind fun a => (cOpd G b).bind fun b => some (.pick c a b)
  | .alloc t => (zeroInfo P t).map fun (z, _, _) => .alloc 0 z
  | .box t x => (sizeI P t).bind fun _ => (cOpd G x).map fun x => .box 0 x
  | .build t parts => match P.underlying t, zeroInfo P t with
    | some (.struct fs), some (z, _, _) => (fieldPlaces P fs.toList).bind fun pl => (cParts G (pl[·]?) parts.toList).map fun ps => .build z ps
    | some (.array _ e), some (z, _, _) => (sizeI P e).bind fun n => (cParts G (fun i => some (i * n, n)) parts.toList).map fun ps => .build z ps
    | _, _ => none
  | .buildSlice t len parts => match P.underlying t with
    | some (.slice e) => (zeroInfo P e).bind fun (z, n, _) => if len * n ≤ 16777216 then (cParts G (fun i => some (i * n, n)) parts.toList).map fun ps => .bslice n len (zeroOf z len) ps else none
    | _ => none
  | .load t a => match P.underlying t, sizeI P t with
    | some d, some n => (cOpd G a).map fun a => if isAggD d then .loadN n a else .load1 a
    | _, _ => none
  | .store t a x => (sizeI P t).bind fun n => (cOpd G a).bind fun a => (cOpd G x).map fun x => .store n a x
  | .nilCheck x => (cOpd G x).map .nilchk
  | .binOp op t x y _ => (cOpd G x).bind fun x => (cOpd G y).bind fun y =>
    match op with
    | .eql | .neq => (eqTOf P 10 t).map fun e => .bin op e x y
    | _ => some (.bin op (.basic .bool) x y)
  | .unOp op _ x => (cOpd G x).map fun x => .un op x
  | .convert s d x => match P.underlying s, P.underlying d with
    | some (.int _), some (.int k) => (cOpd G x).map fun x => .convInt k x
    | some .string, some .string => (cOpd G x).map .convStr
    | some (.int _), some .string => (cOpd G x).map .i2s
    | some (.slice e), some .string => match P.underlying e with
      | some (.int .u8) => (cOpd G x).map .b2s
      | _ => none
    | some .string, some (.slice e) => match P.underlying e with
      | some (.int .u8) => (cOpd G x).map .s2b
      | _ => none
    | some (.slice _), some (.slice e) => match s == d, P.underlying e with
      | true, some (.int .u8) => (cOpd G x).map .b2b
      | _, _ => none
    | _, _ => none
  | .makeFunc (.func f) a b => (cOpds G a.toList).bind fun a => (cOpds G b.toList).map fun b => .mkfunc f a b
  | .makeMap _ none => some .mkmap
  | .makeSlice t l c => match P.underlying t with
    | some (.slice e) => (zeroInfo P e).bind fun (z, n, by_) => (cOpd G l).bind fun l => (cOpd G c).map fun c => .mkslice n by_ z l c
    | _ => none
  | .slice t x lo hi mx => if mx.isSome && hi.isNone then none else (cOpd G x).bind fun x => (cOpt G lo).bind fun lo => (cOpt G hi).bind fun hi => (cOpt G mx).bind fun mx =>
    match P.underlying t with
    | some (.slice e) => (sizeI P e).bind fun n => if 0 < n then some (.slice n x lo hi mx) else none
    | some .string => if mx.isNone then some (.sliceStr x lo hi) else none
    | some (.array k e) => (sizeI P e).bind fun n => if 0 < n then some (.sliceArr k n x lo hi mx) else none
    | _ => none
  | .fieldAddr t x f => match P.underlying t with
    | some (.struct fs) => match fs[f]? with
      | some f => (sizeI P f.type).bind fun n => if 0 < n then (cOpd G x).map fun x => .faddr f.offset x else none
      | none => none
    | _ => none
  | .field t x f => match P.underlying t with
    | some (.struct fs) => match fs[f]? with
      | some f => match P.underlying f.type, sizeI P f.type with
        | some d, some n => (cOpd G x).map fun x => .field (if isAggD d then some n else none) f.offset x
        | _, _ => none
      | none => none
    | _ => none
  | .indexAddr t x i => (cOpd G x).bind fun x => (cOpd G i).bind fun i => match P.underlying t with
    | some (.slice e) => (sizeI P e).map fun n => .iaddr n x i
    | some (.array k e) => (sizeI P e).map fun n => .iaddrArr k n x i
    | _ => none
  | .index t x i => (cOpd G x).bind fun x => (cOpd G i).bind fun i => match P.underlying t with
    | some .string => some (.idxStr x i)
    | some (.array k e) => match P.underlying e, sizeI P e with
      | some d, some n => some (.idxArr k (if isAggD d then some n else none) n x i)
      | _, _ => none
    | _ => none
  | .lookup t m k ok => (cOpd G m).bind fun m => (cOpd G k).bind fun k => match P.underlying t with
    | some (.map kt e) => match P.underlying kt, zeroVal P e with
      | some d, some z => if keyKind d then some (.lookup d z m k ok) else none
      | _, _ => none
    | _ => none
  | .mapUpdate t m k x => (cOpd G m).bind fun m => (cOpd G k).bind fun k => (cOpd G x).bind fun x => match P.underlying t with
    | some (.map kt _) => match P.underlying kt with
      | some d => if keyKind d then some (.mapupd d m k x) else none
      | none => none
    | _ => none
  | .extract x i => (cOpd G x).map fun x => .extract x i
  | .range t x => match P.underlying t with
    | some (.map _ _) => (cOpd G x).map .rangeM
    | some .string => (cOpd G x).map .rangeS
    | _ => none
  | .next x s => (cOpd G x).map fun x => if s then .nextS x else .nextM x
  | .entry x => (cOpd G x).map .entryM
  | .sliceToArrayPointer t x => match P.underlying t with
    | some (.array n _) => (cOpd G x).map (.s2ap n)
    | _ => none
  | .call c => match c.callee with
    | .value f => if extIx P f then (match c.args.toList with
        | [x, y] => (cOpd G x).bind fun x => (cOpd G y).bind fun y => some (.ixByteS x y)
        | _ => none) else match extBK P f with
      | some cnt => (match c.args.toList with
        | [x, y] => (cOpd G x).bind fun x => (cOpd G y).bind fun y => some (.extB cnt x y)
        | _ => none)
      | none => (cOpd G f).bind fun f => (cOpds G c.args.toList).map fun a => .call f a
    | .builtin b => cBuiltin P G b c.argTypes.toList c.args.toList
    | .invoke _ _ => none
  | _ => none

end Go.E
