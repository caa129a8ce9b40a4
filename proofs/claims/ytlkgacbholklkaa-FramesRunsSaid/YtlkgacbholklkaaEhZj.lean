/-
  THE EVALUATOR, PART ZJ: the rounds of a function's ranges over functions, by number; their records as assertions.
-/
import Derived.Test.YtlkgacbholklkaaEhZi
set_option linter.unusedSimpArgs false
set_option linter.unusedVariables false
namespace Go.E
open Go
/-- the ranges over functions in code, in order -/
def loopsOf : Code → List (Code × Code)
  | .seq a b => loopsOf a ++ loopsOf b
  | .cond _ a b => loopsOf a ++ loopsOf b
  | .block _ c => loopsOf c
  | .loop c => loopsOf c
  | .scope c => loopsOf c
  | .rangeFunc _ _ a b => (a, b) :: (loopsOf a ++ loopsOf b)
  | _ => []
def loopAt (P : Program) (f k : Nat) : Code × Code := (((P.funcs[f]?).bind (·.body)).map loopsOf |>.getD []).getD k (.skip, .skip)
def loopA (P : Program) (f k : Nat) : Code := (loopAt P f k).1
def loopB (P : Program) (f k : Nat) : Code := (loopAt P f k).2

section
variable {C : Nat → Callee} {B H : AHeap} {As : List Asn} {Q : Post}
/-- A RANGE OVER A FUNCTION, with assertions: the loop's record lies in a block of its own -/
theorem wp_rangeS {g : NOpd} {ps : List Nat} {asg body : Code} {k : Nat} {T : FEnv} {f : Nat} {cs : List Value} (hg : g.evF T = .func (.func f) ⟨[]⟩ ⟨cs⟩) (hS : S B H As)
    (h : ∀ l, ofL l = T → k ≤ l.length → ∀ b H1, S B H1 (pto b (.loop .ready none l ps asg body) :: As) → wpF C f (.func (.yield b) ⟨[]⟩ ⟨[]⟩ :: cs) H1 fun _ H2 => ∃ st pend l' ps' a' c' As', S B H2 (pto b (.loop st pend l' ps' a' c') :: As') ∧ isBusy st = false ∧ ∀ H3, S B H3 As' → Q (jmpX pend) T H3) :
    WP C (.rangeFunc g ps asg body k) T H Q := by
  refine wp_rangeFunc hg fun l hl hk b H1 hb hH => ?_
  subst hb hH
  refine wpF_mono (h l hl hk _ _ (hS.add _)) ?_
  rintro v H2 ⟨st, pend, l', ps', a', c', As', h1, h2, h3⟩
  exact ⟨st, pend, l', ps', a', c', h1.get, h2, h3 _ (h1.set .dead).drop⟩

/-- A ROUND, with assertions -/
theorem wp_roundS {code : Code → Option NCode} (ho : OpensY C code) {b k : Nat} {args : List Value} {l : Env} {ps : List Nat} {asg body : Code} {pend : Option Jmp} {ca cb : NCode} {T : FEnv} {R : Value → AHeap → Prop}
    (hS : S B H (pto b (.loop .ready pend l ps asg body) :: As)) (ha : code asg = some ca) (hc : code body = some cb) (hlen : Nat.beq args.length ps.length = true) (hk : k ≤ l.length) (hd : (dstOk k ca && dstOk k cb && ps.all fun p => decide (p < k)) = true) (hT : ofL l = T)
    (h : WP C ca (overF T ps args) H fun x T1 H1 => x = .normal ∧ ∃ As1, S B H1 (pto b (.loop .ready pend l ps asg body) :: As1) ∧ ∀ H2, S B H2 (pto b (.loop .busy pend l ps asg body) :: As1) → WP C cb T1 H2 fun x _ H3 =>
      ∃ As3, S B H3 (pto b (.loop .busy pend l ps asg body) :: As3) ∧ ∀ H4, S B H4 (pto b (.loop (endSt x) x.jmp l ps asg body) :: As3) → R (.bool x.fin) H4) :
    wpC C (.yield b) args H R := by
  refine wp_round ho hS.get ha hc hlen hk hd hT ⟨fun Q' hQ => h.out Q' fun x T1 H1 k => hQ _ _ _ ?_⟩
  obtain ⟨rfl, As1, h1, h2⟩ := k
  refine ⟨rfl, pend, h1.get, ⟨fun Q' hQ => (h2 _ (h1.set _)).out Q' fun x T3 H3 k => hQ _ _ _ ?_⟩⟩
  obtain ⟨As3, h3, h4⟩ := k
  exact ⟨pend, h3.get, h4 _ (h3.set _)⟩
end
end Go.E
