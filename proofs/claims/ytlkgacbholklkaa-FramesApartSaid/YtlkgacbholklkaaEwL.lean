/-
  THE EVALUATOR, PART L: code: how it is compiled, how it is run.
-/
import Derived.Test.YtlkgacbholklkaaEwK
import Derived.OrdersIn
import Derived.TacticsIn
import Derived.LoopNIn
import Derived.Scope
import Derived.RangeFuncLeaves
import Derived.OwnWalkIn
set_option linter.unusedSimpArgs false
set_option linter.unusedVariables false
namespace Go.E
open Go
structure NOper where
  dst : Option Nat
  op : NOp
  guard : Option (Nat × Bool)
  deriving Inhabited

inductive NCode where
  | skip
  | region (ops : List NOper)
  | regionD (ops : List NOper) (chk : List (List Nat))
  | seq (a b : NCode)
  | cond (c : NOpd) (a b : NCode)
  | block (id : Nat) (body : NCode)
  | loop (body : NCode)
  | exit (id : Nat)
  | ret
  | rangeFunc (g : NOpd) (ps : List Nat) (assign body : Code) (k : Nat)
  | stuck
  deriving Inhabited

inductive NX where
  | normal
  | exit (id : Nat)
  | ret
  deriving DecidableEq

abbrev Out := Option (NX × Env × AHeap)
abbrev Callee := Fid → List Value → AHeap → Option (Value × AHeap)

def NX.jmp : NX → Option Jmp
  | .normal => none
  | .exit i => some (.exit i)
  | .ret => some .ret
def jmpX : Option Jmp → NX
  | none => .normal
  | some (.exit i) => .exit i
  | some .ret => .ret
def NX.fin : NX → Bool
  | .normal => true
  | _ => false
def endSt (x : NX) : LoopState := bif x.fin then .ready else .done
def isBusy : LoopState → Bool
  | .busy => true
  | _ => false

def put (T : Env) (d : Option Nat) (v : Value) : Env :=
  match d with
  | some d => T.set d v
  | none => T

def wantedN (g : Option (Nat × Bool)) (T : Env) : Bool :=
  match g with
  | none => true
  | some (d, want) => match T[d]? with
    | some (.bool b) => b == want
    | _ => false

def stepN (C : Callee) (o : NOper) (T : Env) (H : AHeap) : Option (Env × AHeap) :=
  if wantedN o.guard T then
    match eop o.op T H with
    | some (.val v H') => some (put T o.dst v, H')
    | some (.call f args H') => (C f args H').map fun (v, H2) => (put T o.dst v, H2)
    | none => none
  else some (put T o.dst undef, H)

def runOps (C : Callee) : List NOper → Env → AHeap → Option (Env × AHeap)
  | [], T, H => some (T, H)
  | o :: r, T, H => match stepN C o T H with
    | some (T', H') => runOps C r T' H'
    | none => none

def runD (C : Callee) : List NOper → Env → AHeap → List (Env × AHeap) → Option (List (Env × AHeap) × Env × AHeap)
  | [], T, H, acc => some (acc ++ [(T, H)], T, H)
  | o :: r, T, H, acc => match stepN C o T H with
    | some (T', H') => runD C r T' H' (acc ++ [(T, H)])
    | none => none

mutual
def valEq : Value → Value → Bool
  | .bool a, .bool b => a == b
  | .int k a, .int l b => k == l && a == b
  | .float k a, .float l b => k == l && a == b
  | .complex k a b, .complex l c d => k == l && a == c && b == d
  | .string a, .string b => a.data.toList == b.data.toList
  | .pointer a, .pointer b => a == b
  | .slice a l c, .slice b m d => a == b && l == m && c == d
  | .map a, .map b => a == b
  | .chan a, .chan b => a == b
  | .func f ⟨a⟩ ⟨b⟩, .func g ⟨c⟩ ⟨d⟩ => f == g && valsEq a c && valsEq b d
  | .nilFunc, .nilFunc => true
  | .iface t v, .iface u w => t == u && valEq v w
  | .nilIface, .nilIface => true
  | .agg ⟨a⟩, .agg ⟨b⟩ => valsEq a b
  | .tuple ⟨a⟩, .tuple ⟨b⟩ => valsEq a b
  | _, _ => false
def valsEq : List Value → List Value → Bool
  | [], [] => true
  | a :: x, b :: y => valEq a b && valsEq x y
  | _, _ => false
end
mutual
theorem valEq_eq : ∀ (a b : Value), valEq a b = true → a = b
  | .bool a, b, h => by cases b <;> simp_all [valEq]
  | .int k a, b, h => by cases b <;> simp_all [valEq]
  | .float k a, b, h => by cases b <;> simp_all [valEq]
  | .complex k a c, b, h => by cases b <;> simp_all [valEq]
  | .string a, b, h => by
    cases b <;> simp [valEq] at h
    rename_i b
    obtain ⟨⟨a⟩⟩ := a
    obtain ⟨⟨b⟩⟩ := b
    simp at h
    rw [h]
  | .pointer a, b, h => by cases b <;> simp_all [valEq]
  | .slice a l c, b, h => by cases b <;> simp_all [valEq]
  | .map a, b, h => by cases b <;> simp_all [valEq]
  | .chan a, b, h => by cases b <;> simp_all [valEq]
  | .func f ⟨a⟩ ⟨b⟩, .func g ⟨c⟩ ⟨d⟩, h => by
    simp only [valEq, Bool.and_eq_true, beq_iff_eq] at h
    obtain ⟨⟨h1, h2⟩, h3⟩ := h
    rw [h1, valsEq_eq a c h2, valsEq_eq b d h3]
  | .func f ⟨a⟩ ⟨c⟩, .bool _, h => by simp [valEq] at h
  | .func f ⟨a⟩ ⟨c⟩, .int _ _, h => by simp [valEq] at h
  | .func f ⟨a⟩ ⟨c⟩, .float _ _, h => by simp [valEq] at h
  | .func f ⟨a⟩ ⟨c⟩, .complex _ _ _, h => by simp [valEq] at h
  | .func f ⟨a⟩ ⟨c⟩, .string _, h => by simp [valEq] at h
  | .func f ⟨a⟩ ⟨c⟩, .pointer _, h => by simp [valEq] at h
  | .func f ⟨a⟩ ⟨c⟩, .slice _ _ _, h => by simp [valEq] at h
  | .func f ⟨a⟩ ⟨c⟩, .map _, h => by simp [valEq] at h
  | .func f ⟨a⟩ ⟨c⟩, .chan _, h => by simp [valEq] at h
  | .func f ⟨a⟩ ⟨c⟩, .nilFunc, h => by simp [valEq] at h
  | .func f ⟨a⟩ ⟨c⟩, .iface _ _, h => by simp [valEq] at h
  | .func f ⟨a⟩ ⟨c⟩, .nilIface, h => by simp [valEq] at h
  | .func f ⟨a⟩ ⟨c⟩, .agg _, h => by simp [valEq] at h
  | .func f ⟨a⟩ ⟨c⟩, .tuple _, h => by simp [valEq] at h
  | .nilFunc, b, h => by cases b <;> simp_all [valEq]
  | .iface t v, b, h => by
    cases b <;> simp [valEq] at h
    rename_i u w
    rw [h.1, valEq_eq v w h.2]
  | .nilIface, b, h => by cases b <;> simp_all [valEq]
  | .agg ⟨a⟩, b, h => by
    cases b <;> simp [valEq] at h
    rename_i b
    obtain ⟨b⟩ := b
    rw [valsEq_eq a b h]
  | .tuple ⟨a⟩, b, h => by
    cases b <;> simp [valEq] at h
    rename_i b
    obtain ⟨b⟩ := b
    rw [valsEq_eq a b h]
theorem valsEq_eq : ∀ (a b : List Value), valsEq a b = true → a = b
  | [], [], _ => rfl
  | [], _ :: _, h => by simp [valsEq] at h
  | _ :: _, [], h => by simp [valsEq] at h
  | a :: x, b :: y, h => by
    simp only [valsEq, Bool.and_eq_true] at h
    rw [valEq_eq a b h.1, valsEq_eq x y h.2]
end
mutual
@[simp] theorem valEq_refl : ∀ (a : Value), valEq a a = true
  | .bool a => by simp [valEq]
  | .int k a => by simp [valEq]
  | .float k a => by simp [valEq]
  | .complex k a c => by simp [valEq]
  | .string a => by simp [valEq]
  | .pointer a => by simp [valEq]
  | .slice a l c => by simp [valEq]
  | .map a => by simp [valEq]
  | .chan a => by simp [valEq]
  | .func f ⟨a⟩ ⟨b⟩ => by simp [valEq, valsEq_refl a, valsEq_refl b]
  | .nilFunc => rfl
  | .iface t v => by simp [valEq, valEq_refl v]
  | .nilIface => rfl
  | .agg ⟨a⟩ => by simp [valEq, valsEq_refl a]
  | .tuple ⟨a⟩ => by simp [valEq, valsEq_refl a]
@[simp] theorem valsEq_refl : ∀ (a : List Value), valsEq a a = true
  | [] => rfl
  | a :: x => by simp [valsEq, valEq_refl a, valsEq_refl x]
end
def chkAt (o : NOper) (T Tf : Env) (H : AHeap) : Bool :=
  match o.dst with
  | some d => match eop o.op T H with
    | some (.val v _) => valEq v (Tf.getD d undef)
    | _ => false
  | none => false

def chkOne (sts : List (Env × AHeap)) (Tf : Env) (o : NOper) (r : Nat) (c : List Nat) : Bool :=
  match sts[r]? with
  | some (T, _) => !wantedN o.guard T || c.all fun b => match sts[b]? with
    | some (_, H) => chkAt o T Tf H
    | none => false
  | none => false

def chkAll (sts : List (Env × AHeap)) (Tf : Env) : List NOper → List (List Nat) → Nat → Bool
  | o :: os, c :: cs, r => (c.isEmpty || chkOne sts Tf o r c) && chkAll sts Tf os cs (r + 1)
  | _, _, _ => true

def loopN (body : Env → AHeap → Out) : Nat → Env → AHeap → Out
  | 0, _, _ => none
  | n + 1, T, H => match body T H with
    | some (.normal, T', H') => loopN body n T' H'
    | r => r

def execN (C : Callee) (n : Nat) : NCode → Env → AHeap → Out
  | .skip, T, H => some (.normal, T, H)
  | .region ops, T, H => match runOps C ops T H with
    | some (T', H') => some (.normal, T', H')
    | none => none
  | .regionD ops chk, T, H => match runD C ops T H [] with
    | some (sts, T', H') => if chkAll sts T' ops chk 0 then some (.normal, T', H') else none
    | none => none
  | .seq a b, T, H => match execN C n a T H with
    | some (.normal, T', H') => execN C n b T' H'
    | r => r
  | .cond c a b, T, H => match c.ev T with
    | .bool true => execN C n a T H
    | .bool false => execN C n b T H
    | _ => none
  | .block id body, T, H => match execN C n body T H with
    | some (.exit i, T', H') => if i = id then some (.normal, T', H') else some (.exit i, T', H')
    | r => r
  | .loop body, T, H => loopN (execN C n body) n T H
  | .exit id, T, H => some (.exit id, T, H)
  | .ret, T, H => some (.ret, T, H)
  | .rangeFunc g ps asg body _, T, H => match g.ev T with
    | .func (.func f) ⟨fs⟩ ⟨cs⟩ => match C (.fn f) (fs ++ [.func (.yield H.next) ⟨[]⟩ ⟨[]⟩] ++ cs) (H.add (.loop .ready none T ps asg body)) with
      | some (_, H2) => match H2.get H.next with
        | .loop st pend _ _ _ _ => if isBusy st then none else some (jmpX pend, T, H2.set H.next .dead)
        | _ => none
      | none => none
    | _ => none
  | .stuck, _, _ => none

inductive NRes where
  | tmp (t : Nat)
  | cell (t : Nat) (n : Option Nat)
  deriving Inhabited

structure NFunc where
  ntmps : Nat
  results : List NRes
  body : NCode
  deriving Inhabited

def resN (T : Env) (H : AHeap) : NRes → Option Value
  | .tmp t => some (T.getD t undef)
  | .cell t n => match T.getD t undef with
    | .pointer (some p) => match n with
      | none => (H.row p.block p.off 1).bind fun cs => cs[0]?
      | some k => (H.row p.block p.off k).map fun cs => .agg ⟨cs⟩
    | _ => none

def resultsN (T : Env) (H : AHeap) : List NRes → Option (List Value)
  | [] => some []
  | r :: rs => (resN T H r).bind fun v => (resultsN T H rs).map (v :: ·)

def resultV : List Value → Value
  | [v] => v
  | vs => .tuple ⟨vs⟩

structure NProg where
  fn : Nat → Option NFunc
  code : Code → Option NCode

def overL (T : Env) : List Nat → List Value → Env
  | p :: ps, v :: vs => overL (T.set p v) ps vs
  | _, _ => T

def dstOkO (N : Nat) : List NOper → Bool
  | [] => true
  | o :: r => (match o.dst with | some d => decide (d < N) | none => true) && dstOkO N r
def dstOk (N : Nat) : NCode → Bool
  | .region ops => dstOkO N ops
  | .regionD ops _ => dstOkO N ops
  | .seq a b => dstOk N a && dstOk N b
  | .cond _ a b => dstOk N a && dstOk N b
  | .block _ a => dstOk N a
  | .loop a => dstOk N a
  | .rangeFunc _ _ _ _ k => decide (k = N)
  | _ => true

def roundN (X : NCode → Env → AHeap → Out) (code : Code → Option NCode) (b : Nat) (args : List Value) (H : AHeap) : Option (Value × AHeap) :=
  match H.get b with
  | .loop .ready _ T ps asg body => if args.length = ps.length then
      match code asg, code body with
      | some ca, some cb => if (dstOk T.length ca && dstOk T.length cb && ps.all fun p => decide (p < T.length)) then match X ca (overL T ps args) H with
        | some (.normal, T1, H1) => match H1.get b with
          | .loop .ready pend T ps asg body => match X cb T1 (H1.set b (.loop .busy pend T ps asg body)) with
            | some (x, _, H3) => match H3.get b with
              | .loop .busy _ T ps asg body => some (.bool x.fin, H3.set b (.loop (endSt x) x.jmp T ps asg body))
              | _ => none
            | none => none
          | _ => none
        | _ => none
        else none
      | _, _ => none
    else none
  | _ => none

def callN (N : NProg) : Nat → Callee
  | 0, _, _, _ => none
  | n + 1, .fn f, args, H => match N.fn f with
    | none => none
    | some g => if (decide (args.length ≤ g.ntmps) && dstOk g.ntmps g.body) = false then none else match execN (callN N n) n g.body (args ++ List.replicate (g.ntmps - args.length) undef) H with
      | some (.exit _, _, _) => none
      | some (_, T, H') => (resultsN T H' g.results).map fun vs => (resultV vs, H')
      | none => none
  | n + 1, .yield b, args, H => roundN (execN (callN N n) n) N.code b args H

/-! ### compiling -/
def binding (o : Oper) : List Nat := (o.after.toList.filter (Region.binds .any)).map (·.on)

def closeDeps : List (List Nat) → List (List Nat) → List (List Nat)
  | acc, [] => acc
  | acc, d :: r => closeDeps (acc ++ [d ++ d.flatMap fun j => acc.getD j []]) r

inductive Kind where
  | pure | read | alloc | active
  deriving DecidableEq

def NOp.kind : NOp → Kind
  | .mov _ | .pick .. | .build .. | .nilchk _ | .bin .. | .un .. | .convInt .. | .convStr _ | .i2s _ | .mkfunc .. | .faddr .. | .field .. | .iaddr .. | .iaddrArr .. | .idxStr .. | .idxArr ..
  | .extract .. | .lenC _ | .minmax .. | .sliceStr .. | .s2ap .. | .ixByteS .. => .pure
  | .load1 _ | .loadN .. | .b2s _ | .lookup .. | .slice .. | .sliceArr .. | .len .. => .read
  | .alloc .. | .box .. | .bslice .. | .mkslice .. | .mkmap => .alloc
  | _ => .active

def NOpd.tmps : NOpd → List Nat
  | .t i => [i]
  | _ => []

def optTmps : Option NOpd → List Nat
  | none => []
  | some x => x.tmps

def NOp.tmps : NOp → List Nat
  | .mov x | .box _ x | .load1 x | .loadN _ x | .nilchk x | .un _ x | .convInt _ x | .convStr x | .i2s x | .b2s x | .s2b x | .b2b x | .faddr _ x | .field _ _ x | .extract x _ | .len _ x | .clear _ _ x | .clearM x | .rangeM x | .nextM x | .rangeS x | .nextS x | .entryM x | .s2ap _ x => x.tmps
  | .pick a b c | .mapupd _ a b c => a.tmps ++ b.tmps ++ c.tmps
  | .alloc .. | .mkmap | .lenC _ => []
  | .build _ ps | .bslice _ _ _ ps => ps.flatMap fun (_, _, x) => x.tmps
  | .store _ a b | .bin _ _ a b | .mkslice _ _ _ a b | .iaddr _ a b | .iaddrArr _ _ a b | .idxStr a b | .idxArr _ _ _ a b | .lookup _ _ a b _ | .append _ _ a b | .appendZ _ _ a b | .ixByteS a b | .extB _ a b | .copy _ a b | .delete _ a b => a.tmps ++ b.tmps
  | .mkfunc _ a b => a.flatMap (·.tmps) ++ b.flatMap (·.tmps)
  | .slice _ x a b c | .sliceArr _ _ x a b c => x.tmps ++ optTmps a ++ optTmps b ++ optTmps c
  | .sliceStr x a b => x.tmps ++ optTmps a ++ optTmps b
  | .minmax _ xs => xs.flatMap (·.tmps)
  | .call f xs => f.tmps ++ xs.flatMap (·.tmps)

def NOper.looks (o : NOper) : List Nat := o.op.tmps ++ (match o.guard with | some (d, _) => [d] | none => [])

def actives : Nat → List NOper → List Nat
  | _, [] => []
  | i, o :: r => if o.op.kind = .active then i :: actives (i + 1) r else actives (i + 1) r

def places (n : Nat) (acts : List Nat) (deps : List (List Nat)) (p : Nat) : List Nat :=
  (List.range (acts.length + 1)).filterMap fun k =>
    -- every active operation that p hangs on is among the first k; none of the first k hangs on p
    if (acts.drop k).all (fun q => !(deps.getD p []).contains q) && (acts.take k).all (fun q => !(deps.getD q []).contains p) then some (acts.getD k n) else none

def drawOk (n : Nat) (pi : List Nat) (dirs : List (List Nat)) (afters : List (List Nat)) (ops : List NOper) : Bool :=
  let deps := closeDeps [] dirs
  let acts := actives 0 ops
  let ix := List.range n
  pi.length == n && ops.length == n && dirs.length == n && afters.length == n &&
  (ix.all fun i => pi.contains i) &&
  (ix.all fun i => ix.all fun j => i == j || pi.getD i n != pi.getD j n) &&
  (ix.all fun i => (dirs.getD i []).all (· < i)) &&
  (ix.all fun i => (afters.getD (pi.getD i n) []).all fun e => (dirs.getD i []).any fun j => pi.getD j n == e) &&
  (ix.all fun i => (dirs.getD i []).all fun j => (afters.getD (pi.getD i n) []).contains (pi.getD j n)) &&
  (ix.all fun i => ix.all fun j => i == j || (match (ops.getD i default).dst, (ops.getD j default).dst with | some d, some e => d != e | _, _ => true)) &&
  (ix.all fun i => (ops.getD i default).looks.all fun t => ix.all fun j => !((ops.getD j default).dst == some t) || i == j || (deps.getD i []).contains j || (deps.getD j []).contains i) &&
  (acts.all fun q => acts.all fun r => !(q < r) || (deps.getD r []).contains q) &&
  (ix.all fun i => decide ((ops.getD i default).op.kind = .active) || acts.all fun q => !(q < i) || (deps.getD i []).contains q)

def chkOf (n : Nat) (dirs : List (List Nat)) (ops : List NOper) : List (List Nat) :=
  let deps := closeDeps [] dirs
  let acts := actives 0 ops
  (List.range n).map fun p => if (ops.getD p default).op.kind = .read then places n acts deps p else []

def asap (afters : List (List Nat)) (act : List Bool) : Nat → List Nat → List Nat
  | 0, acc => acc
  | f + 1, acc =>
    let ready := (List.range afters.length).filter fun i => !acc.contains i && (afters.getD i []).all acc.contains
    match ready.find? (fun i => !(act.getD i true)), ready with
    | some i, _ => asap afters act f (acc ++ [i])
    | none, i :: _ => asap afters act f (acc ++ [i])
    | none, [] => acc

variable (P : Program) (G : Nat)
def cOper (ops : Array Oper) (o : Oper) : Option NOper :=
  match o.guard with
  | none => (cOp P G o).map fun n => ⟨o.dst, n, none⟩
  | some (j, want) => match (ops[j]?).bind (·.dst) with
    | some d => (cOp P G o).map fun n => ⟨o.dst, n, some (d, want)⟩
    | none => none

def cOpers (ops : Array Oper) : List Oper → Option (List NOper)
  | [] => some []
  | o :: r => (cOper P G ops o).bind fun n => (cOpers ops r).map (n :: ·)

def cOpersAt (ops : Array Oper) : List Nat → Option (List NOper)
  | [] => some []
  | i :: r => match ops[i]? with
    | some o => (cOper P G ops o).bind fun n => (cOpersAt ops r).map (n :: ·)
    | none => none

def cDraw (ops : Array Oper) : Option (List NOper × List (List Nat)) :=
  (cOpers P G ops ops.toList).bind fun ns0 =>
    let afters := ops.toList.map binding
    let pi := asap afters (ns0.map fun o => o.op.kind = .active) ops.size []
    let dirs := pi.map fun i => (afters.getD i []).map fun e => pi.idxOf e
    (cOpersAt P G ops pi).bind fun ns =>
      if drawOk ops.size pi dirs afters ns then some (ns, chkOf ops.size dirs ns) else none

def noRange : Code → Bool
  | .seq a b => noRange a && noRange b
  | .cond _ a b => noRange a && noRange b
  | .block _ c => noRange c
  | .loop c => noRange c
  | .scope c => noRange c
  | .rangeFunc .. => false
  | _ => true

def cCode (N : Nat) : Code → Option NCode
  | .skip | .label _ => some .skip
  | .region _ ops draw => if draw then (match cDraw P G ops with | some (ns, chk) => some (.regionD ns chk) | none => some .stuck) else (match cOpers P G ops ops.toList with | some ns => some (.region ns) | none => some .stuck)
  | .seq a b => (cCode N a).bind fun x => (cCode N b).map fun y => .seq x y
  | .cond c a b => match cOpd G c with
    | some c => (cCode N a).bind fun x => (cCode N b).map fun y => .cond c x y
    | none => some .stuck
  | .block id c => (cCode N c).map (.block id)
  | .loop c => (cCode N c).map .loop
  | .scope c => cCode N c
  | .exit id => some (.exit id)
  | .ret => some .ret
  | .rangeFunc g ps asg body => match cOpd G g with
    | some g => (cCode N asg).bind fun a => (cCode N body).map fun b => .rangeFunc g ps.toList asg body N
    | none => some .stuck
  | _ => some .stuck

def cRes : List ResultVar → Option (List NRes)
  | [] => some []
  | .tmp t :: r => (cRes r).map (.tmp t :: ·)
  | .cell t ty :: r => match P.underlying ty, sizeI P ty with
    | some d, some n => (cRes r).map (.cell t (if isAggD d then some n else none) :: ·)
    | _, _ => none

def cFunc (f : Func) : Option NFunc :=
  match f.body with
  | none => none
  | some c => if f.name = "runtime.NumGoroutine" then none else (cCode P G f.ntmps c).bind fun b => (cRes P f.results.toList).map fun rs => ⟨f.ntmps, rs, b⟩

def cProg : NProg := ⟨fun f => (P.funcs[f]?).bind (cFunc P G), fun c => if noRange c then cCode P G 0 c else none⟩

end Go.E
