/-
  THE EVALUATOR, PART ZJ: the rounds of a function's ranges over functions, by number; their records as assertions.
-/
import Derived.Test.YtlkgacbholklkaaEwZi
set_option linter.unusedSimpArgs false
set_option linter.unusedVariables false
namespace Go.E
open Go
def loopsOf : Code → List (Code × Code)
  | .seq a b => loopsOf a ++ loopsOf b
  | .cond _ a b => loopsOf a ++ loopsOf b
  | .block _ c => loopsOf c
  | .loop c => loopsOf c
  | .scope c => loopsOf c
  | .rangeFunc _ _ a b => (a, b) :: (loopsOf a ++ loopsOf b)
  | _ => []
def loopAt (P : Program) (f k : Nat) : Code × Code := (((P.funcs[f]?).bind (·.body)).map loopsOf |>.getD []).getD k (.skip, .skip)
def loopA (P : Program) (f k : Nat) : Code := (loopAt P f k).1
def loopB (P : Program) (f k : Nat) : Code := (loopAt P f k).2

section
variable {C : Callees} {B H : AHeap} {As : List Asn} {Q : Post}
theorem wp_rangeS {g : NOpd} {ps : List Nat} {asg body : Code} {k : Nat} {T : FEnv} {f : Nat} {cs : List Value} (hg : g.evF T = .func (.func f) ⟨[]⟩ ⟨cs⟩) (hS : S B H As)
    (h : ∀ l, ofL l = T → k = l.length → ∀ b H1, S B H1 (pto b (.loop .ready none l ps asg body) :: As) → wpF C f (.func (.yield b) ⟨[]⟩ ⟨[]⟩ :: cs) H1 fun _ H2 => ∃ st pend l' ps' a' c' As', S B H2 (pto b (.loop st pend l' ps' a' c') :: As') ∧ isBusy st = false ∧ ∀ H3, S B H3 As' → Q (jmpX pend) T H3) :
    WP C (.rangeFunc g ps asg body k) T H Q := by
  refine wp_rangeFunc hg fun l hl hk b H1 hb hH => ?_
  subst hb hH
  refine wpF_mono (h l hl hk _ _ (hS.add _)) ?_
  rintro v H2 ⟨st, pend, l', ps', a', c', As', h1, h2, h3⟩
  exact ⟨st, pend, l', ps', a', c', h1.get, h2, h3 _ (h1.set .dead).drop⟩

theorem wp_roundS {code : Code → Option NCode} (ho : OpensY C code) {b k : Nat} {args : List Value} {l : Env} {ps : List Nat} {asg body : Code} {pend : Option Jmp} {ca cb : NCode} {T : FEnv} {R : Value → AHeap → Prop}
    (hS : S B H (pto b (.loop .ready pend l ps asg body) :: As)) (ha : code asg = some ca) (hc : code body = some cb) (hlen : Nat.beq args.length ps.length = true) (hk : k = l.length) (hd : (dstOk k ca && dstOk k cb && ps.all fun p => decide (p < k)) = true) (hT : ofL l = T)
    (h : WP C ca (overF T ps args) H fun x T1 H1 => x = .normal ∧ ∃ As1, S B H1 (pto b (.loop .ready pend l ps asg body) :: As1) ∧ ∀ H2, S B H2 (pto b (.loop .busy pend l ps asg body) :: As1) → WP C cb T1 H2 fun x _ H3 =>
      ∃ As3, S B H3 (pto b (.loop .busy pend l ps asg body) :: As3) ∧ ∀ H4, S B H4 (pto b (.loop (endSt x) x.jmp l ps asg body) :: As3) → R (.bool x.fin) H4) :
    wpC C (.yield b) args H R := by
  refine wp_round ho hS.get ha hc hlen hk hd hT ⟨fun Q' hQ => h.out Q' fun x T1 H1 k => hQ _ _ _ ?_⟩
  obtain ⟨rfl, As1, h1, h2⟩ := k
  refine ⟨rfl, pend, h1.get, ⟨fun Q' hQ => (h2 _ (h1.set _)).out Q' fun x T3 H3 k => hQ _ _ _ ?_⟩⟩
  obtain ⟨As3, h3, h4⟩ := k
  exact ⟨pend, h3.get, h4 _ (h3.set _)⟩
end
/-! ### several steps in one, more of them (for texts that a program shortens) -/
section
variable {C : Callees} {T : FEnv} {H B : AHeap} {As : List Asn}
theorem zn {x : NOpd} {b o : Nat} {d : Nat} {g : Option (Nat × Bool)} {r : List NOper} {Q : KO} (k : WO C r (upd T d (.pointer (some ⟨b, o, none⟩))) H Q) (hx : x.evF T = .pointer (some ⟨b, o, none⟩) := by rfl) (hw : wantedF g T = true := by rfl) : WO C (⟨some d, .nilchk x, g⟩ :: r) T H Q := wpO_cons (op1_nilchk hw hx k)
theorem zm {x : NOpd} {b o : Nat} {d : Nat} {g : Option (Nat × Bool)} {r : List NOper} {rs : List (FEnv × AHeap)} {Q : List (FEnv × AHeap) → KO} (k : WD C r (upd T d (.pointer (some ⟨b, o, none⟩))) H ((T, H) :: rs) Q) (hx : x.evF T = .pointer (some ⟨b, o, none⟩) := by rfl) (hw : wantedF g T = true := by rfl) : WD C (⟨some d, .nilchk x, g⟩ :: r) T H rs Q := wpD_cons (op1_nilchk hw hx k)
theorem zf {n : Nat} {x : NOpd} {b : Nat} {d : Nat} {g : Option (Nat × Bool)} {r : List NOper} {Q : KO} (k : WO C r (upd T d (.pointer (some ⟨b, n, none⟩))) H Q) (hx : x.evF T = .pointer (some ⟨b, 0, none⟩) := by rfl) (hw : wantedF g T = true := by rfl) : WO C (⟨some d, .faddr n x, g⟩ :: r) T H Q := wpO_cons (op1_faddr0 hw hx k)
theorem zg {n : Nat} {x : NOpd} {b : Nat} {d : Nat} {g : Option (Nat × Bool)} {r : List NOper} {rs : List (FEnv × AHeap)} {Q : List (FEnv × AHeap) → KO} (k : WD C r (upd T d (.pointer (some ⟨b, n, none⟩))) H ((T, H) :: rs) Q) (hx : x.evF T = .pointer (some ⟨b, 0, none⟩) := by rfl) (hw : wantedF g T = true := by rfl) : WD C (⟨some d, .faddr n x, g⟩ :: r) T H rs Q := wpD_cons (op1_faddr0 hw hx k)
theorem zk {o : NOper} {r : List NOper} {Q : KO} (k : WO C r (putF T o.dst undef) H Q) (hw : wantedF o.guard T = false := by rfl) : WO C (o :: r) T H Q := wpO_cons (op1_skip hw k)
theorem zl {o : NOper} {r : List NOper} {rs : List (FEnv × AHeap)} {Q : List (FEnv × AHeap) → KO} (k : WD C r (putF T o.dst undef) H ((T, H) :: rs) Q) (hw : wantedF o.guard T = false := by rfl) : WD C (o :: r) T H rs Q := wpD_cons (op1_skip hw k)
theorem zh {a : NOpd} {b o : Nat} {cs : List Value} {es : Nat} {ro : Bool} {v : Value} {d : Nat} {g : Option (Nat × Bool)} {r : List NOper} {Q : KO} (hg : H.get b = .cells cs es ro) (k : WO C r (upd T d v) H Q) (ha : a.evF T = .pointer (some ⟨b, o, none⟩) := by rfl) (hv : cs[o]? = some v := by rfl) (hw : wantedF g T = true := by rfl) : WO C (⟨some d, .load1 a, g⟩ :: r) T H Q := wpO_cons (op1_load hw ha hg hv k)
theorem zj {a : NOpd} {b o : Nat} {cs : List Value} {es : Nat} {ro : Bool} {v : Value} {d : Nat} {g : Option (Nat × Bool)} {r : List NOper} {rs : List (FEnv × AHeap)} {Q : List (FEnv × AHeap) → KO} (hg : H.get b = .cells cs es ro) (k : WD C r (upd T d v) H ((T, H) :: rs) Q) (ha : a.evF T = .pointer (some ⟨b, o, none⟩) := by rfl) (hv : cs[o]? = some v := by rfl) (hw : wantedF g T = true := by rfl) : WD C (⟨some d, .load1 a, g⟩ :: r) T H rs Q := wpD_cons (op1_load hw ha hg hv k)
theorem zt {c a b : NOpd} {v : Value} {d : Nat} {g : Option (Nat × Bool)} {r : List NOper} {Q : KO} (k : WO C r (upd T d v) H Q) (hx : a.evF T = v := by (conv => lhs; whnf) <;> rfl) (hc : c.evF T = .bool true := by rfl) (hw : wantedF g T = true := by rfl) : WO C (⟨some d, .pick c a b, g⟩ :: r) T H Q := wpO_cons (op1_pick_t hw hc hx k)
theorem zu {c a b : NOpd} {v : Value} {d : Nat} {g : Option (Nat × Bool)} {r : List NOper} {Q : KO} (k : WO C r (upd T d v) H Q) (hx : b.evF T = v := by (conv => lhs; whnf) <;> rfl) (hc : c.evF T = .bool false := by rfl) (hw : wantedF g T = true := by rfl) : WO C (⟨some d, .pick c a b, g⟩ :: r) T H Q := wpO_cons (op1_pick_f hw hc hx k)
theorem zr {t : Nat} {rs : List NRes} {K : List Value → Prop} {v : Value} (k : ResK T H rs fun vs => K (v :: vs)) (h : T t = v := by (conv => lhs; whnf) <;> rfl) : ResK T H (.tmp t :: rs) K := rk_tmp h k
theorem zq {Tf : FEnv} {a : NOpd} {d : Nat} {b o : Nat} {cs : List Value} {es : Nat} {ro : Bool} {v : Value} (hg : H.get b = .cells cs es ro) (ha : a.evF T = .pointer (some ⟨b, o, none⟩) := by rfl) (hv : cs[o]? = some v := by rfl) (hd : Tf d = v := by rfl) : chkF1 (.load1 a) d Tf T H := chk_load ha hg hv hd
theorem zx {rs : List (FEnv × AHeap)} {Tf : FEnv} {o : NOper} {os : List NOper} {b : Nat} {c : List Nat} {cs : List (List Nat)} {r d : Nat} (n : Nat) (h : chkFs rs.reverse o.op d Tf T (b :: c)) (k : chkF rs.reverse Tf os cs (r + 1)) (hn : r + n + 1 = rs.length := by rfl) (hs : rs[n]? = some (T, H) := by rfl) (hd : o.dst = some d := by rfl) : chkF rs.reverse Tf (o :: os) ((b :: c) :: cs) r := chk_cons n hn hs hd h k
theorem zy {rs : List (FEnv × AHeap)} {Tf T' : FEnv} {o : NOp} {d b : Nat} {c : List Nat} (n : Nat) (h : chkF1 o d Tf T H) (k : chkFs rs.reverse o d Tf T c) (hn : b + n + 1 = rs.length := by rfl) (hb : rs[n]? = some (T', H) := by rfl) : chkFs rs.reverse o d Tf T (b :: c) := chkFs_cons n hn hb h k
end
abbrev zA (d s : Nat) : NOper := ⟨some d, .mov (.t s), none⟩
abbrev zB (d s : Nat) : NOper := ⟨some d, .nilchk (.t s), none⟩
abbrev zC (d n s : Nat) : NOper := ⟨some d, .faddr n (.t s), none⟩
abbrev zD (d s : Nat) : NOper := ⟨some d, .load1 (.t s), none⟩
abbrev zE (d : Nat) (o : NOp) : NOper := ⟨some d, o, none⟩
abbrev zF (d g : Nat) (b : Bool) (o : NOp) : NOper := ⟨some d, o, some (g, b)⟩
end Go.E
