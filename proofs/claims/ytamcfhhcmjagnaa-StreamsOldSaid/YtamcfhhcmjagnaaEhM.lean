/-
  THE EVALUATOR, PART M: what the evaluator says of compiled code holds of the machine's (the regions that draw their order aside).
-/
import Derived.Test.YtamcfhhcmjagnaaEhL
import Derived.RangeFuncRecord
set_option linter.unusedSimpArgs false
set_option linter.unusedVariables false
namespace Go.E
open Go
variable {P : Program} {G : Nat}
def NX.out : NX → Exit
  | .normal => .normal
  | .exit i => .exit i
  | .ret => .ret

def Fr (ro : Option Nat) : Fence := { Fence.wide with round := ro }
theorem Fr_depth {ro : Option Nat} {n : Nat} : (Fr ro).depth.isSome = true → 1 ≤ n := fun h => by cases h
theorem callsIn_Fr {ro : Option Nat} {n : Nat} {f : FuncId} {args : Array Value} {w : World} {R : Ending → World → Prop} (h : Calls P f args w R) : CallsIn (Fr ro) n P f args w R :=
  (callsIn_wide (n := n)).2 h

def Gives (φ : Phi) (H : AHeap) (w : World) (v : Value) (H' : AHeap) : Ending → World → Prop :=
  fun e w' => ∃ φ' v', e = .returned v' ∧ VR φ' v v' ∧ Stp φ H w φ' H' w'

def FidOk (P : Program) (R : Ending → World → Prop) (φ : Phi) (args' : Array Value) (w : World) : Fid → Prop
  | .fn f => (∃ fn, P.funcs[f]? = some fn ∧ fn.body.isSome = true ∧ fn.name ≠ "runtime.NumGoroutine") ∧ Calls P f args' w R
  | .yield b => ∀ m, φ b = some m → ∃ fn tmps asg body, (Instr.yield m.blk args').run P w = .ok (.round m.blk fn tmps asg body) w ∧ RoundIn Fence.wide 0 P m.blk fn tmps asg body w R

def CalleeOk (P : Program) (G : Nat) (C : Callee) : Prop :=
  ∀ f args H v H', C f args H = some (v, H') → ∀ φ args' w, GOk G φ → VRs φ args args' → Sim φ H w → FidOk P (Gives φ H w v H') φ args'.toArray w f

/-! ### the marks of the ranges over functions among a function's deferred calls -/
def mark (D : Nat) : Deferred := { target := .collected D, args := #[] }
structure MOk (φ : Phi) (H : AHeap) (w₀ w : World) (ms : List Nat) : Prop where
  nodup : ms.Nodup
  lo : ∀ D ∈ ms, w₀.heap.size ≤ D
  at_ : ∀ D ∈ ms, w.heap[D]? = some (.deferred (some []))
  free : ∀ D ∈ ms, ¬ Wr φ H D
theorem MOk.nil {φ : Phi} {H : AHeap} {w₀ w : World} : MOk φ H w₀ w [] := ⟨List.nodup_nil, by simp, by simp, by simp⟩

theorem MOk.app {φ₁ φ₂ : Phi} {H₁ H₂ : AHeap} {w₀ w₁ w₂ : World} {ms ms' : List Nat} (h : MOk φ₁ H₁ w₀ w₁ ms) (hs : w₀.heap.size ≤ w₁.heap.size) (st : Stp φ₁ H₁ w₁ φ₂ H₂ w₂) (h' : MOk φ₂ H₂ w₁ w₂ ms') : MOk φ₂ H₂ w₀ w₂ (ms' ++ ms) := by
  have hlt : ∀ D ∈ ms, D < w₁.heap.size := fun D hD => (Array.getElem?_eq_some_iff.1 (h.at_ D hD)).1
  refine ⟨List.nodup_append.2 ⟨h'.nodup, h.nodup, ?_⟩, ?_, ?_, ?_⟩
  · intro a ha b hb e
    have := h'.lo a ha
    have := hlt b hb
    omega
  · intro D hD
    rcases List.mem_append.1 hD with h1 | h1
    · exact Nat.le_trans hs (h'.lo D h1)
    · exact h.lo D h1
  · intro D hD
    rcases List.mem_append.1 hD with h1 | h1
    · exact h'.at_ D h1
    · exact (st.keep D (hlt D h1) (h.free D h1)).trans (h.at_ D h1)
  · intro D hD
    rcases List.mem_append.1 hD with h1 | h1
    · exact h'.free D h1
    · exact fun hw => h.free D h1 (st.wr D (hlt D h1) hw)

def PostC (φ : Phi) (H : AHeap) (w : World) (ds : List Deferred) (x : NX) (T' : Env) (H' : AHeap) : Exit → Act → World → Prop :=
  fun e a' w' => e = x.out ∧ ∃ ms, a'.defers = ms.map mark ++ ds ∧ ∃ φ', VRs φ' T' a'.tmps.toList ∧ Stp φ H w φ' H' w' ∧ MOk φ' H' w w' ms

theorem put_rel {φ : Phi} {T : Env} {a : Act} (ht : VRs φ T a.tmps.toList) (d : Option Nat) {v v' : Value} (hv : VR φ v v') : VRs φ (put T d v) (a.put d v').tmps.toList := by
  cases d with
  | none => exact ht
  | some d => simpa [put, Act.put] using ht.set d hv

theorem put_defers (a : Act) (d : Option Nat) (v : Value) : (a.put d v).defers = a.defers := by cases d <;> rfl

theorem wanted_rel {φ : Phi} {T : Env} {a : Act} (ht : VRs φ T a.tmps.toList) {ops : Array Oper} {o : Oper} {n : NOper} (hc : cOper P G ops o = some n) : Region.wanted o (yielded ops a.tmps) = wantedN n.guard T ∧ n.dst = o.dst ∧ cOp P G o = some n.op := by
  unfold cOper at hc
  split at hc
  · rename_i hg
    simp only [Option.map_eq_some_iff] at hc
    obtain ⟨m, h1, rfl⟩ := hc
    exact ⟨by simp [Region.wanted, hg, wantedN], rfl, h1⟩
  · rename_i j want hg
    split at hc
    case h_2 => cases hc
    rename_i d hd
    simp only [Option.map_eq_some_iff] at hc
    obtain ⟨m, h1, rfl⟩ := hc
    refine ⟨?_, rfl, h1⟩
    simp only [Region.wanted, hg, wantedN, yielded, hd, Option.bind_some]
    cases hT : T[d]? with
    | none =>
      have : a.tmps[d]? = none := by
        have := ht.length
        simp only [Array.length_toList] at this
        simp at hT ⊢; omega
      simp [this]
    | some v =>
      obtain ⟨v', h2, h3⟩ := ht.get d v hT
      have h2' : a.tmps[d]? = some v' := by simpa using h2
      rw [h2']
      cases h3
      case junk h hb => cases v' <;> first | exact absurd rfl (hb _) | simp
      all_goals simp

theorem cOp_nodefer {o : Oper} {n : NOp} (h : cOp P G o = some n) : ∀ c, o.op ≠ .defer c := by
  intro c hc
  simp [cOp, hc] at h

theorem wpIn_of_run {ro : Option Nat} {o : Oper} {a : Act} {w : World} {next : Act → World → Prop} {Q : Exit → Act → World → Prop} (hd : ∀ c, o.op ≠ .defer c) (h : o.uponIn (Fr ro) 0 P a next Q ((execOp a.eval o).run P w)) : o.wpIn (Fr ro) 0 P a w next Q := by
  refine ⟨fun _ _ => trivial, ?_⟩
  rw [Oper.semAt_eq _ _ _ hd]
  exact h

theorem oper_sound {C : Callee} (hC : CalleeOk P G C) {ro : Option Nat} {o : Oper} {nop : NOp} (hop : cOp P G o = some nop) {T : Env} {H H' : AHeap} {v : Value}
    (h : (match eop nop T H with | some (.val v H') => some (v, H') | some (.call f args H') => C f args H' | none => none) = some (v, H'))
    {φ : Phi} {a : Act} {w : World} (hg : GOk G φ) (ht : VRs φ T a.tmps.toList) (hs : Sim φ H w) {next : Act → World → Prop} {Q : Exit → Act → World → Prop}
    (hk : ∀ φ' v' w', VR φ' v v' → Stp φ H w φ' H' w' → next (a.put o.dst v') w') : o.wpIn (Fr ro) 0 P a w next Q := by
  refine wpIn_of_run (cOp_nodefer hop) ?_
  split at h
  · rename_i v0 H1 he
    cases h
    obtain ⟨nx, w', φ', v', h1, h2, h3, h4⟩ := cOp_sound (P := P) hg ht hs hop he
    rw [h1]
    rcases h2 with rfl | ⟨rfl, rfl⟩
    · exact hk φ' v' w' h3 h4
    · exact hk φ' _ w' h3 h4
  · rename_i f args H1 he
    have hout := cOp_sound (P := P) hg ht hs hop he
    cases f with
    | fn f =>
      obtain ⟨rfl, args', h1, h2⟩ := hout
      obtain ⟨⟨fn, f1, f2, f3⟩, hcalls⟩ := hC (.fn f) args _ v _ h φ args' w hg h1 hs
      rw [h2 fn f1 f2 f3]
      refine ⟨Fr_depth, callsIn_Fr (Calls.mono hcalls ?_)⟩
      rintro e w' ⟨φ', v', rfl, h3, h4⟩
      exact hk φ' v' w' h3 h4
    | yield b =>
      obtain ⟨rfl, args', m, h1, hb, h2⟩ := hout
      obtain ⟨fn, tmps, asg, body, h3, h4⟩ := hC (.yield b) args _ v _ h φ args' w hg h1 hs m hb
      rw [h2, h3]
      refine ⟨Fr_depth, RoundIn.mono (F := Fr ro) h4 ?_⟩
      rintro e w' ⟨φ', v', rfl, h5, h6⟩
      exact hk φ' v' w' h5 h6
  · cases h

theorem stepN_sound {C : Callee} (hC : CalleeOk P G C) {ro : Option Nat} {φ₀ : Phi} {H₀ : AHeap} {w₀ : World} {ops : Array Oper} {o : Oper} {n : NOper} (hc : cOper P G ops o = some n) {T T' : Env} {H H' : AHeap} (h : stepN C n T H = some (T', H'))
    {φ : Phi} {a : Act} {w : World} (hg : GOk G φ) (ht : VRs φ T a.tmps.toList) (hst : Stp φ₀ H₀ w₀ φ H w) {next : Act → World → Prop} {Q : Exit → Act → World → Prop}
    (hk : ∀ φ' a' w', GOk G φ' → VRs φ' T' a'.tmps.toList → Stp φ₀ H₀ w₀ φ' H' w' → a'.defers = a.defers → next a' w') :
    if Region.wanted o (yielded ops a.tmps) then o.wpIn (Fr ro) 0 P a w next Q else (∀ f, o.about P w a.eval = some f → (Fr ro).fn f) ∧ next (a.put o.dst undef) w := by
  obtain ⟨hw, hd, hop⟩ := wanted_rel ht hc
  rw [hw]
  unfold stepN at h
  split at h
  · rename_i hwt
    rw [if_pos hwt]
    obtain ⟨v, hv, rfl⟩ : ∃ v, (match eop n.op T H with | some (.val v H') => some (v, H') | some (.call f args H') => C f args H' | none => none) = some (v, H') ∧ T' = put T n.dst v := by
      split at h
      · rename_i v0 H1 he
        cases h
        exact ⟨v0, by rw [he], rfl⟩
      · rename_i f args H1 he
        simp only [Option.map_eq_some_iff, Prod.mk.injEq] at h
        obtain ⟨⟨v, H2⟩, hcall, rfl, rfl⟩ := h
        exact ⟨v, by rw [he]; exact hcall, rfl⟩
      · cases h
    refine oper_sound hC hop hv hg ht hst.sim fun φ' v' w' h3 h4 => ?_
    exact hk φ' _ w' (hg.mono h4.le) (by rw [hd]; exact put_rel (ht.mono h4.le) _ h3) (hst.trans h4) (put_defers _ _ _)
  · rename_i hwt
    rw [if_neg hwt]
    cases h
    exact ⟨fun _ _ => trivial, hk φ _ w hg (by rw [hd]; exact put_rel ht _ (undefR φ)) hst (put_defers _ _ _)⟩

theorem runOps_sound {C : Callee} (hC : CalleeOk P G C) {ro : Option Nat} {φ₀ : Phi} {H₀ : AHeap} {w₀ : World} {ops : Array Oper} {ds : List Deferred} {T' : Env} {H' : AHeap} : ∀ (l : List Oper) (ns : List NOper), cOpers P G ops l = some ns → ∀ (T : Env) (H : AHeap), runOps C ns T H = some (T', H') →
    ∀ (φ : Phi) (a : Act) (w : World), GOk G φ → VRs φ T a.tmps.toList → Stp φ₀ H₀ w₀ φ H w → a.defers = ds → wpListIn (Fr ro) 0 P ops (PostC φ₀ H₀ w₀ ds .normal T' H') l a w
  | [], ns, hc, T, H, h, φ, a, w, hg, ht, hst, hds => by
    simp [cOpers] at hc; subst hc
    simp [runOps] at h
    obtain ⟨rfl, rfl⟩ := h
    exact ⟨rfl, [], hds, φ, ht, hst, .nil⟩
  | o :: l, ns, hc, T, H, h, φ, a, w, hg, ht, hst, hds => by
    simp only [cOpers, Option.bind_eq_some_iff, Option.map_eq_some_iff] at hc
    obtain ⟨n, h1, ns', h2, rfl⟩ := hc
    simp only [runOps] at h
    split at h
    case h_2 => cases h
    rename_i T1 H1 h3
    have h4 := h
    exact stepN_sound hC (ro := ro) (Q := PostC φ₀ H₀ w₀ ds .normal T' H') h1 h3 hg ht hst (next := wpListIn (Fr ro) 0 P ops (PostC φ₀ H₀ w₀ ds .normal T' H') l)
      (fun φ' a' w' hg' ht' hst' hds' => runOps_sound hC l ns' h2 T1 H1 h4 φ' a' w' hg' ht' hst' (hds'.trans hds))

theorem PostC.of_stp {φ₁ φ₂ : Phi} {H₁ H₂ : AHeap} {w₁ w₂ : World} (h : Stp φ₁ H₁ w₁ φ₂ H₂ w₂) {ds ds₂ : List Deferred} {ms : List Nat} (hm : MOk φ₂ H₂ w₁ w₂ ms) (hd : ds₂ = ms.map mark ++ ds) {x : NX} {T' : Env} {H' : AHeap} {e : Exit} {a : Act} {w : World} (k : PostC φ₂ H₂ w₂ ds₂ x T' H' e a w) : PostC φ₁ H₁ w₁ ds x T' H' e a w := by
  obtain ⟨h1, ms', h2, φ', h3, h4, h5⟩ := k
  refine ⟨h1, ms' ++ ms, ?_, φ', h3, h.trans h4, hm.app h.size h4 h5⟩
  rw [h2, hd, List.map_append, List.append_assoc]

theorem rounds_mono {F : Fence} {c : Code} {Q Q' : Exit → Act → World → Prop} (hq : ∀ e a w, Q e a w → Q' e a w) : ∀ (k : Nat) (a : Act) (w : World), Code.roundsIn F 0 P c Q k a w → Code.roundsIn F 0 P c Q' k a w
  | 0, _, _, h => h
  | k + 1, a, w, h => by
    rw [roundsIn_succ] at h ⊢
    refine wpIn_mono h ?_
    intro e a1 w1 h1
    cases e with
    | normal => exact rounds_mono hq k a1 w1 h1
    | _ => exact hq _ _ _ h1

theorem wpIn_scope_straight {F : Fence} {n : Nat} {Q : Exit → Act → World → Prop} {a : Act} {w : World} {c : Code} (h : c.wpIn F n P (Exit.noGoto Q) a w) : (Code.scope c).wpIn F n P Q a w := by
  intro b k cs hro hb hr
  have s1 : step P (lone (b.atR a (.code (.scope c) :: k)) cs w) = .next (lone (b.atR a (.code c :: .inScope c :: k)) cs w) := step_lone_go (by simp [stepG, stepG.exec, Frame.atR])
  have s2 : ∀ {a : Act} {w : World}, step P (lone (b.atR a (.inScope c :: k)) cs w) = .next (lone (b.atR a k) cs w) := step_lone_go (by simp [stepG, stepG.exec, Frame.atR])
  have h0 : (lone (b.atR a (.code (.scope c) :: k)) cs w).fenced P F := fenced_calm hb hr rfl
  obtain ⟨e, a₁, w₁, hq, harr⟩ := h b (.inScope c :: k) cs hro hb hr
  cases e with
  | normal => exact ⟨.normal, a₁, w₁, hq, .head h0 s1 (StepsIn.trans harr (.one (fenced_calm hb hr rfl) s2))⟩
  | exit id =>
    refine ⟨.exit id, a₁, w₁, hq, fun k' hk => .head h0 s1 (harr.1 k' (by simp [exitTo, hk])), fun hr' hk => ?_⟩
    obtain ⟨k₁, h1, h2⟩ := harr.2 hr' (by simp [exitTo, hk])
    exact ⟨k₁, h1, .head h0 s1 h2⟩
  | goto l => exact hq.elim
  | ret => exact ⟨_, a₁, w₁, hq, .of_steps (.one h0 s1) harr⟩
  | panic ch => exact ⟨_, a₁, w₁, hq, .of_steps (.one h0 s1) harr⟩
  | outgrown => exact ⟨_, a₁, w₁, hq, .of_steps (.one h0 s1) harr⟩

def DrawSound (P : Program) (G : Nat) : Prop :=
  ∀ (C : Callee), CalleeOk P G C → ∀ (ro : Option Nat) (id : Nat) (ops : Array Oper) (ns : List NOper) (chk : List (List Nat)), cDraw P G ops = some (ns, chk) →
    ∀ (T : Env) (H : AHeap) (sts : List (Env × AHeap)) (T' : Env) (H' : AHeap), runD C ns T H [] = some (sts, T', H') → chkAll sts T' ns chk 0 = true →
    ∀ (φ : Phi) (a : Act) (w : World), GOk G φ → VRs φ T a.tmps.toList → Sim φ H w → (Code.region id ops true).wpIn (Fr ro) 0 P (PostC φ H w a.defers .normal T' H') a w

theorem Stp.allocM {φ : Phi} {H : AHeap} {w : World} (hs : Sim φ H w) (o : Obj) : Stp φ H w φ H (w.alloc o) := by
  have hk : ∀ k, k < w.heap.size → (w.alloc o).heap[k]? = w.heap[k]? := fun k hk => heap_alloc_old w o k hk
  refine ⟨.refl _, ⟨hs.dom, fun b m hb => ?_, hs.inj⟩, rfl, rfl, rfl, by simp, fun k h _ => hk k h, fun _ _ h => h, Nat.le_refl _, fun _ _ h => ⟨rfl, h⟩⟩
  by_cases hd : H.get b = .dead
  · rw [hd]; trivial
  · exact ObjR.mono (.refl _) (hk _ (hs.blk_lt hb hd)) (hs.obj b m hb)

theorem Stp.putM {φ : Phi} {H : AHeap} {w₀ w : World} {φ₀ : Phi} {H₀ : AHeap} (h : Stp φ₀ H₀ w₀ φ H w) {D : Nat} {o : Obj} {ds : Option (List Deferred)} (ho : w.heap[D]? = some (.deferred ds)) (hlo : w₀.heap.size ≤ D) : Stp φ₀ H₀ w₀ φ H (w.putObj D o) := by
  have hoth : ∀ k, k ≠ D → (w.putObj D o).heap[k]? = w.heap[k]? := fun k hk => World.putObj_heap_other hk
  refine ⟨h.le, ⟨h.sim.dom, fun b m hb => ?_, h.sim.inj⟩, h.os, h.tape, h.output, by rw [World.putObj_size]; exact h.size, fun k hk hn => (hoth k (by omega)).trans (h.keep k hk hn), h.wr, h.next, h.unmapped⟩
  have hobj := h.sim.obj b m hb
  by_cases e : m.blk = D
  · cases hg : H.get b with
    | dead => trivial
    | cells cs es ro => rw [hg] at hobj; obtain ⟨_, _, _, _, C, el, fr, d, _⟩ := hobj; rw [e, ho] at d; cases d
    | map es clock => rw [hg] at hobj; obtain ⟨es', d, _⟩ := hobj; rw [e, ho] at d; cases d
    | siter s pos => rw [hg] at hobj; obtain ⟨_, d⟩ := hobj; rw [e, ho] at d; cases d
    | loop st pend T ps asg body => rw [hg] at hobj; obtain ⟨_, r, d, _⟩ := hobj; rw [e, ho] at d; cases d
    | iter mp since seen last => rw [hg] at hobj; obtain ⟨_, mp', d, _⟩ := hobj; rw [e, ho] at d; cases d
    | table es => rw [hg] at hobj; obtain ⟨es', clock, d, _⟩ := hobj; rw [e, ho] at d; cases d
  · exact ObjR.mono (.refl _) (hoth _ e) hobj

theorem endX_wp {x : Option Jmp} {Q : Exit → Act → World → Prop} {a : Act} {w : World} {ro : Option Nat} (h : Q (jmpX x).out a w) :
    (match x.map Jmp.code with | none => Q .normal a w | some c => c.wpIn (Fr ro) 0 P Q a w) := by
  cases x with
  | none => exact h
  | some j => cases j with
    | exit i => exact wpIn_exit h
    | ret => exact wpIn_ret h

theorem range_sound {C : Callee} (hC : CalleeOk P G C) {g : Operand} {g' : NOpd} (h0 : cOpd G g = some g') {ps : Array Tmp} {asg body : Code} {T : Env} {H : AHeap} {f : Nat} {fs cs : List Value} {v : Value} {H2 : AHeap}
    (hev : g'.ev T = .func (.func f) ⟨fs⟩ ⟨cs⟩) (hcall : C (.fn f) (fs ++ [.func (.yield H.next) ⟨[]⟩ ⟨[]⟩] ++ cs) (H.add (.loop .ready none T ps.toList asg body)) = some (v, H2))
    {st : LoopState} {pend : Option Jmp} {T2 : Env} {ps2 : List Nat} {asg2 body2 : Code} (hget : H2.get H.next = .loop st pend T2 ps2 asg2 body2) (hbusy : isBusy st = false)
    {φ : Phi} {a : Act} {w : World} (hg : GOk G φ) (ht : VRs φ T a.tmps.toList) (hs : Sim φ H w) : (Code.rangeFunc g ps asg body).wpIn (Fr none) 0 P (PostC φ H w a.defers (jmpX pend) T (H2.set H.next .dead)) a w := by
  have rg := ev_rel hg ht h0
  rw [hev] at rg
  obtain ⟨fs', cs', hax, rfs, rcs⟩ : ∃ fs' cs', a.eval g = .func (.func f) ⟨fs'⟩ ⟨cs'⟩ ∧ VRs φ fs fs' ∧ VRs φ cs cs' := by
    generalize a.eval g = y at rg
    cases rg with
    | func _ h1 h2 => exact ⟨_, _, rfl, h1, h2⟩
  refine wpIn_rangeFunc fun fn _ => ?_
  obtain ⟨r, hr⟩ : ∃ r : Loop, r = { state := .ready, pending := none, fn := fn, tmps := a.tmps, params := ps, assign := asg, body := body, defers := w.heap.size } := ⟨_, rfl⟩
  obtain ⟨W1, hW1⟩ : ∃ W1, (w.alloc (.deferred (some []))).alloc (.loop r) = W1 := ⟨_, rfl⟩
  obtain ⟨m, hm⟩ : ∃ m : Emb, m = ⟨w.heap.size + 1, 0, 0, 0, 0⟩ := ⟨_, rfl⟩
  have hL1 : W1.heap[w.heap.size + 1]? = some (.loop r) := by
    rw [← hW1]; have := World.alloc_heap_new (w.alloc (.deferred (some []))) (.loop r); rwa [World.size_alloc] at this
  have hD1 : W1.heap[w.heap.size]? = some (.deferred (some [])) := by
    rw [← hW1]; exact (heap_alloc_old _ _ _ (by simp)).trans (World.alloc_heap_new w _)
  have hsz : W1.heap.size = w.heap.size + 2 := by rw [← hW1]; simp
  have st0 := Stp.allocM hs (.deferred (some []))
  have hle : φ.le (φ.add H.next m) := Phi.add_le hs.fresh
  have st1 : Stp φ H (w.alloc (.deferred (some []))) (φ.add H.next m) (H.add (.loop .ready none T ps.toList asg body)) W1 := by
    rw [← hW1]
    refine Stp.alloc st0.sim (m := m) (by rw [hm]; simp) ?_
    refine ⟨by rw [hm], r, ?_, by rw [hr], by rw [hr]; rfl, by rw [hr]; exact ht.mono hle, by rw [hr], by rw [hr], by rw [hr]⟩
    rw [hm, hW1]; exact hL1
  have st01 := st0.trans st1
  have hgm : m.blk = w.heap.size + 1 := by rw [hm]
  have hadd : (φ.add H.next m) H.next = some m := Phi.add_self _ _ _
  have hargs : VRs (φ.add H.next m) (fs ++ [.func (.yield H.next) ⟨[]⟩ ⟨[]⟩] ++ cs) (fs' ++ [.func (.yield (w.heap.size + 1)) ⟨[]⟩ ⟨[]⟩] ++ cs') := by
    refine ((rfs.mono hle).append (.cons ?_ .nil)).append (rcs.mono hle)
    have := VR.yield hadd
    rwa [hgm] at this
  obtain ⟨⟨fn2, f1, f2, f3⟩, hcalls⟩ := hC (.fn f) _ _ _ _ hcall (φ.add H.next m) _ W1 (hg.mono hle) hargs st01.sim
  have hwD : ¬ Wr (φ.add H.next m) (H.add (.loop .ready none T ps.toList asg body)) w.heap.size := by
    rintro ⟨c, mc, hc, he, hw⟩
    unfold Phi.add at hc
    split at hc
    · cases hc; omega
    · rename_i hne
      rw [AHeap.get_add, if_neg hne] at hw
      have := hs.blk_lt hc (by intro e; rw [e] at hw; cases hw)
      omega
  refine ⟨w.heap.size + 1, [mark w.heap.size], W1, { target := .fn (.func f) ⟨cs'⟩, args := (fs' ++ [Value.func (.yield (w.heap.size + 1)) ⟨[]⟩ ⟨[]⟩]).toArray }, W1, f,
    (fs' ++ [Value.func (.yield (w.heap.size + 1)) ⟨[]⟩ ⟨[]⟩] ++ cs').toArray, W1, ?_, ?_, fun _ _ => trivial, ?_, Fr_depth, ?_⟩
  · rw [← hW1, hr]; exact run_enterLoop_outer _ _ _ _ _
  · have hax' : a.eval g = .func (.func f) ⟨fs'⟩ ⟨cs'⟩ := hax
    have hy : a.eval (.const (.func (.yield (w.heap.size + 1)) #[] #[])) = .func (.yield (w.heap.size + 1)) #[] #[] := rfl
    simp only [resolve, hax', Deferred.ofValue, Array.map, List.push_toArray]
    simp [hy]
  · cases hbd : fn2.body with
    | none => rw [hbd] at f2; cases f2
    | some c => simp [invoke, callFunc, f1, f3, hbd, List.append_toArray]
  · refine callsIn_Fr (Calls.mono hcalls ?_)
    rintro e w3 ⟨φ2, v2, rfl, hv2, st2⟩
    have hb2 := st2.le _ _ hadd
    have hob := st2.sim.obj _ _ hb2
    rw [hget] at hob
    obtain ⟨_, r3, hl3, hst3, hpe3, _⟩ := hob
    rw [hgm] at hl3
    have hnb : r3.state ≠ .busy := by rw [hst3]; intro e; rw [e] at hbusy; cases hbusy
    refine ⟨r3.pending, _, run_endLoop hl3 hnb, ?_⟩
    have st3 : Stp φ2 H2 w3 φ2 (H2.set H.next .dead) (w3.putObj (w.heap.size + 1) (.loop { r3 with state := .exhausted })) :=
      Stp.put' st2.sim hb2 (by rw [hget]; rfl) trivial rfl rfl rfl (by simp) (fun k hk => World.putObj_heap_other (by rw [← hgm]; exact hk))
    have st23 := st2.trans st3
    have hmok : MOk φ2 (H2.set H.next .dead) w (w3.putObj (w.heap.size + 1) (.loop { r3 with state := .exhausted })) [w.heap.size] := by
      refine ⟨by simp, by simp, ?_, ?_⟩
      · intro D hD
        rw [List.mem_singleton] at hD
        subst hD
        rw [World.putObj_heap_other (by omega)]
        exact (st2.keep _ (by omega) hwD).trans hD1
      · intro D hD
        rw [List.mem_singleton] at hD
        subst hD
        exact fun hw => hwD (st23.wr _ (by omega) hw)
    have hwp := endX_wp (P := P) (x := pend) (Q := PostC φ H w a.defers (jmpX pend) T (H2.set H.next .dead)) (a := { a with defers := [mark w.heap.size] ++ a.defers }) (w := w3.putObj (w.heap.size + 1) (.loop { r3 with state := .exhausted })) (ro := none)
      ⟨rfl, [w.heap.size], rfl, φ2, ht.mono (st01.trans st23).le, st01.trans st23, hmok⟩
    revert hwp
    generalize w3.putObj (w.heap.size + 1) (.loop { r3 with state := .exhausted }) = w4
    rw [← hpe3]
    exact id

theorem exec_sound (hD : DrawSound P G) {C : Callee} (hC : CalleeOk P G C) {ro : Option Nat} {n : Nat} : ∀ (c : Code) (nc : NCode), cCode P G c = some nc → ro = none ∨ noRange c = true → ∀ (T : Env) (H : AHeap) (x : NX) (T' : Env) (H' : AHeap), execN C n nc T H = some (x, T', H') →
    ∀ (φ : Phi) (a : Act) (w : World), GOk G φ → VRs φ T a.tmps.toList → Sim φ H w → c.wpIn (Fr ro) 0 P (PostC φ H w a.defers x T' H') a w
  | .skip, nc, hc, hro, T, H, x, T', H', h, φ, a, w, hg, ht, hs => by
    simp [cCode] at hc; subst hc
    simp [execN] at h; obtain ⟨rfl, rfl, rfl⟩ := h
    exact wpIn_skip ⟨rfl, [], rfl, φ, ht, .refl hs, .nil⟩
  | .label l, nc, hc, hro, T, H, x, T', H', h, φ, a, w, hg, ht, hs => by
    simp [cCode] at hc; subst hc
    simp [execN] at h; obtain ⟨rfl, rfl, rfl⟩ := h
    exact wpIn_label ⟨rfl, [], rfl, φ, ht, .refl hs, .nil⟩
  | .region id ops draw, nc, hc, hro, T, H, x, T', H', h, φ, a, w, hg, ht, hs => by
    simp only [cCode] at hc
    cases draw with
    | false =>
      simp only [Bool.false_eq_true, if_false] at hc
      split at hc
      case h_2 => cases hc; simp [execN] at h
      rename_i ns h1
      cases hc
      simp only [execN] at h
      split at h
      case h_2 => cases h
      rename_i T1 H1 h2
      cases h
      exact wpIn_region_list (runOps_sound hC _ _ h1 T H h2 φ a w hg ht (.refl hs) rfl)
    | true =>
      simp only [if_true] at hc
      split at hc
      case h_2 => cases hc; simp [execN] at h
      rename_i ns chk h1
      cases hc
      simp only [execN] at h
      split at h
      case h_2 => cases h
      rename_i sts T1 H1 h2
      split at h
      case isFalse => cases h
      rename_i hchk
      cases h
      exact hD C hC ro id ops ns chk h1 T H _ _ _ h2 hchk φ a w hg ht hs
  | .seq c d, nc, hc, hro, T, H, x, T', H', h, φ, a, w, hg, ht, hs => by
    simp only [cCode, Option.bind_eq_some_iff, Option.map_eq_some_iff] at hc
    obtain ⟨c', h1, d', h2, rfl⟩ := hc
    have hro1 : ro = none ∨ noRange c = true := hro.imp id fun h => by simp only [noRange, Bool.and_eq_true] at h; exact h.1
    have hro2 : ro = none ∨ noRange d = true := hro.imp id fun h => by simp only [noRange, Bool.and_eq_true] at h; exact h.2
    simp only [execN] at h
    split at h
    · rename_i T1 H1 he
      refine wpIn_seq (wpIn_mono (exec_sound hD hC c c' h1 hro1 T H _ _ _ he φ a w hg ht hs) ?_)
      rintro e a1 w1 ⟨rfl, ms, hds, φ1, ht1, hst1, hm1⟩
      refine wpIn_mono (exec_sound hD hC d d' h2 hro2 T1 H1 x T' H' h φ1 a1 w1 (hg.mono hst1.le) ht1 hst1.sim) ?_
      intro e2 a2 w2 k
      exact k.of_stp hst1 hm1 hds
    · rename_i he
      refine wpIn_seq (wpIn_mono (exec_sound hD hC c c' h1 hro1 T H _ _ _ h φ a w hg ht hs) ?_)
      rintro e a1 w1 k
      have hx := k.1
      subst hx
      cases x with
      | normal => exact absurd h (he _ _)
      | exit i => exact k
      | ret => exact k
  | .cond g c d, nc, hc, hro, T, H, x, T', H', h, φ, a, w, hg, ht, hs => by
    simp only [cCode] at hc
    split at hc
    case h_2 => cases hc; simp [execN] at h
    rename_i g' h0
    simp only [Option.bind_eq_some_iff, Option.map_eq_some_iff] at hc
    obtain ⟨c', h1, d', h2, rfl⟩ := hc
    have hro1 : ro = none ∨ noRange c = true := hro.imp id fun h => by simp only [noRange, Bool.and_eq_true] at h; exact h.1
    have hro2 : ro = none ∨ noRange d = true := hro.imp id fun h => by simp only [noRange, Bool.and_eq_true] at h; exact h.2
    have rg := ev_rel hg ht h0
    simp only [execN] at h
    split at h
    · rename_i hb
      rw [hb] at rg
      have : a.eval g = .bool true := by generalize a.eval g = y at rg; cases rg; rfl
      exact wpIn_cond_true this (exec_sound hD hC c c' h1 hro1 T H x T' H' h φ a w hg ht hs)
    · rename_i hb
      rw [hb] at rg
      have : a.eval g = .bool false := by generalize a.eval g = y at rg; cases rg; rfl
      exact wpIn_cond_false this (exec_sound hD hC d d' h2 hro2 T H x T' H' h φ a w hg ht hs)
    · cases h
  | .block id c, nc, hc, hro, T, H, x, T', H', h, φ, a, w, hg, ht, hs => by
    simp only [cCode, Option.map_eq_some_iff] at hc
    obtain ⟨c', h1, rfl⟩ := hc
    simp only [execN] at h
    split at h
    · rename_i i T1 H1 he
      refine wpIn_block (wpIn_mono (exec_sound hD hC c c' h1 hro T H _ _ _ he φ a w hg ht hs) ?_)
      rintro e a1 w1 ⟨rfl, rest⟩
      split at h
      · rename_i hi
        cases h
        show (if i = id then _ else _)
        rw [if_pos hi]
        exact ⟨rfl, rest⟩
      · rename_i hi
        cases h
        show (if i = id then _ else _)
        rw [if_neg hi]
        exact ⟨rfl, rest⟩
    · rename_i he
      refine wpIn_block (wpIn_mono (exec_sound hD hC c c' h1 hro T H _ _ _ h φ a w hg ht hs) ?_)
      rintro e a1 w1 k
      have hx := k.1
      subst hx
      cases x with
      | normal => exact k
      | exit i => exact absurd h (he _ _ _)
      | ret => exact k
  | .loop c, nc, hc, hro, T, H, x, T', H', h, φ, a, w, hg, ht, hs => by
    simp only [cCode, Option.map_eq_some_iff] at hc
    obtain ⟨c', h1, rfl⟩ := hc
    simp only [execN] at h
    have key : ∀ (k : Nat) (T : Env) (H : AHeap), loopN (execN C n c') k T H = some (x, T', H') → ∀ (φ : Phi) (a : Act) (w : World), GOk G φ → VRs φ T a.tmps.toList → Sim φ H w →
        Code.roundsIn (Fr ro) 0 P c (PostC φ H w a.defers x T' H') k a w := by
      intro k
      induction k with
      | zero => intro T H h; simp [loopN] at h
      | succ k ih =>
        intro T H h φ a w hg ht hs
        simp only [loopN] at h
        rw [roundsIn_succ]
        split at h
        · rename_i T1 H1 he
          refine wpIn_mono (exec_sound hD hC c c' h1 hro T H _ _ _ he φ a w hg ht hs) ?_
          rintro e a1 w1 ⟨rfl, ms, hds, φ1, ht1, hst1, hm1⟩
          have := ih T1 H1 h φ1 a1 w1 (hg.mono hst1.le) ht1 hst1.sim
          refine rounds_mono ?_ k a1 w1 this
          intro e2 a2 w2 k2
          exact k2.of_stp hst1 hm1 hds
        · rename_i he
          refine wpIn_mono (exec_sound hD hC c c' h1 hro T H _ _ _ h φ a w hg ht hs) ?_
          rintro e a1 w1 k2
          have hx := k2.1
          subst hx
          cases x with
          | normal => exact absurd h (he _ _)
          | exit i => exact k2
          | ret => exact k2
    exact wpIn_loop_rounds n (key n T H h φ a w hg ht hs)
  | .scope c, nc, hc, hro, T, H, x, T', H', h, φ, a, w, hg, ht, hs => by
    simp only [cCode] at hc
    refine wpIn_scope_straight (wpIn_mono (exec_sound hD hC c nc hc hro T H x T' H' h φ a w hg ht hs) ?_)
    rintro e a1 w1 k
    have hx := k.1
    subst hx
    cases x <;> exact k
  | .exit id, nc, hc, hro, T, H, x, T', H', h, φ, a, w, hg, ht, hs => by
    simp [cCode] at hc; subst hc
    simp [execN] at h; obtain ⟨rfl, rfl, rfl⟩ := h
    exact wpIn_exit ⟨rfl, [], rfl, φ, ht, .refl hs, .nil⟩
  | .ret, nc, hc, hro, T, H, x, T', H', h, φ, a, w, hg, ht, hs => by
    simp [cCode] at hc; subst hc
    simp [execN] at h; obtain ⟨rfl, rfl, rfl⟩ := h
    exact wpIn_ret ⟨rfl, [], rfl, φ, ht, .refl hs, .nil⟩
  | .rangeFunc g ps asg body, nc, hc, hro, T, H, x, T', H', h, φ, a, w, hg, ht, hs => by
    have hro : ro = none := hro.resolve_right (by simp [noRange])
    subst hro
    simp only [cCode] at hc
    split at hc
    case h_2 => cases hc; simp [execN] at h
    rename_i g' h0
    simp only [Option.bind_eq_some_iff, Option.map_eq_some_iff] at hc
    obtain ⟨a', h1, b', h2, rfl⟩ := hc
    simp only [execN] at h
    split at h
    case h_2 => cases h
    rename_i f fs cs hev
    split at h
    case h_2 => cases h
    rename_i v H2 hcall
    split at h
    case h_2 => cases h
    rename_i st pend T2 ps2 asg2 body2 hget
    split at h
    case isTrue => cases h
    rename_i hb
    cases h
    exact range_sound hC h0 hev hcall hget (by simpa using hb) hg ht hs
  | .goto l, nc, hc, hro, T, H, x, T', H', h, φ, a, w, hg, ht, hs => by simp [cCode] at hc; subst hc; simp [execN] at h
  | .refuse y, nc, hc, hro, T, H, x, T', H', h, φ, a, w, hg, ht, hs => by simp [cCode] at hc; subst hc; simp [execN] at h

def resOne (tmps : Array Value) : ResultVar → Sem Value
  | .tmp t => pure (tmps.getD t undef)
  | .cell b t => do loadVar t (← asAddr (tmps.getD b undef))

theorem results_eq (fn : Func) (tmps : Array Value) : results fn tmps = (do
    let vs ← fn.results.mapM (resOne tmps)
    pure (if h : vs.size = 1 then vs[0] else .tuple vs)) := by
  unfold results
  congr 1

theorem resN_sound {φ : Phi} {H : AHeap} {w : World} {T : Env} {a : Act} (ht : VRs φ T a.tmps.toList) (hs : Sim φ H w) : ∀ {rs : List ResultVar} {ns : List NRes} {vs : List Value}, cRes P rs = some ns → resultsN T H ns = some vs →
    ∃ vs', VRs φ vs vs' ∧ (rs.mapM (resOne a.tmps)).run P w = .ok vs' w
  | [], ns, vs, hc, h => by
    simp [cRes] at hc; subst hc
    simp [resultsN] at h; subst h
    exact ⟨[], .nil, rfl⟩
  | .tmp t :: rs, ns, vs, hc, h => by
    simp only [cRes, Option.map_eq_some_iff] at hc
    obtain ⟨ns', h1, rfl⟩ := hc
    simp only [resultsN, resN, Option.bind_some, Option.map_eq_some_iff] at h
    obtain ⟨vs1, h2, rfl⟩ := h
    obtain ⟨vs', h3, h4⟩ := resN_sound ht hs h1 h2
    have hv := ht.getD t (undefR φ)
    refine ⟨a.tmps.getD t undef :: vs', .cons (by simpa [Array.getD_eq_getD_getElem?, List.getD_eq_getElem?_getD] using hv) h3, ?_⟩
    simp only [List.mapM_cons, resOne, Sem.run_bind, Sem.run_pure, Result.andThen_ok, h4]
  | .cell t ty :: rs, ns, vs, hc, h => by
    simp only [cRes] at hc
    split at hc
    case h_2 => cases hc
    rename_i d k hd hk
    simp only [Option.map_eq_some_iff] at hc
    obtain ⟨ns', h1, rfl⟩ := hc
    simp only [resultsN, Option.bind_eq_some_iff, Option.map_eq_some_iff] at h
    obtain ⟨v, hv, vs1, h2, rfl⟩ := h
    obtain ⟨vs', h3, h4⟩ := resN_sound ht hs h1 h2
    have ht' := ht.getD t (undefR φ)
    have ht2 : VR φ (T.getD t undef) (a.tmps.getD t undef) := by simpa [Array.getD_eq_getD_getElem?, List.getD_eq_getElem?_getD] using ht'
    simp only [resN] at hv
    split at hv
    case h_2 => cases hv
    rename_i p hp
    rw [hp] at ht2
    obtain ⟨b, m, o, rfl, hax, hb⟩ : ∃ b m o, p = ⟨b, o, none⟩ ∧ a.tmps.getD t undef = .pointer (some ⟨Emb.blk m, m.sh + o, none⟩) ∧ φ b = some m := by
      generalize a.tmps.getD t undef = y at ht2
      cases ht2 with
      | ptr o hb => exact ⟨_, _, o, rfl, rfl, hb⟩
    have hasA : (asAddr (a.tmps.getD t undef)).run P w = .ok ⟨m.blk, m.sh + o, none⟩ w := by rw [hax]; rfl
    by_cases ha : isAggD d = true
    · rw [if_pos ha] at hv
      simp only [Option.map_eq_some_iff] at hv
      obtain ⟨cs, hrow, rfl⟩ := hv
      obtain ⟨cs', g1, g2, g3⟩ := run_loadVar_rel (P := P) hs hd hk hb (cs := cs) (by rw [if_pos ha]; exact hrow)
      rw [if_pos ha] at g3
      refine ⟨.agg cs'.toArray :: vs', .cons (.agg g1) h3, ?_⟩
      simp only [List.mapM_cons, resOne, Sem.run_bind, hasA, Sem.run_pure, Result.andThen_ok, g3, h4]
    · rw [if_neg ha] at hv
      simp only [Option.bind_eq_some_iff] at hv
      obtain ⟨cs, hrow, h0⟩ := hv
      obtain ⟨cs', g1, g2, g3⟩ := run_loadVar_rel (P := P) hs hd hk hb (cs := cs) (by rw [if_neg ha]; exact hrow)
      rw [if_neg ha] at g3
      obtain ⟨v', g4, g5⟩ := g1.get 0 v h0
      have : cs'.getD 0 undef = v' := by simp [g4]
      rw [this] at g3
      refine ⟨v' :: vs', .cons g5 h3, ?_⟩
      simp only [List.mapM_cons, resOne, Sem.run_bind, hasA, Sem.run_pure, Result.andThen_ok, g3, h4]

theorem resultV_rel {φ : Phi} : ∀ {vs vs' : List Value}, VRs φ vs vs' → VR φ (resultV vs) (if h : vs'.toArray.size = 1 then vs'.toArray[0] else .tuple vs'.toArray)
  | _, _, .nil => .tuple .nil
  | _, _, .cons h .nil => h
  | _, _, .cons h (.cons h2 h3) => .tuple (.cons h (.cons h2 h3))

theorem leaves_marks {fn : Func} {tmps : Array Value} {φ₀ φ : Phi} {H₀ H : AHeap} {w₀ : World} {R : Ending → World → Prop}
    (hres : ∀ w', Stp φ₀ H₀ w₀ φ H w' → ∃ v, (results fn tmps).run P w' = .ok v w' ∧ R (.returned v) w') : ∀ (ms : List Nat) (w : World), Stp φ₀ H₀ w₀ φ H w → MOk φ H w₀ w ms → LeavesInM (Fr none) 0 P fn tmps R (ms.map mark) .returning w
  | [], w, st, _ => hres w st
  | D :: ms, w, st, hm => by
    have hD := hm.at_ D (by simp)
    refine ⟨by simp, .inl ⟨D, _, rfl, run_takeDeferred hD, ?_⟩⟩
    have hnd := List.nodup_cons.1 hm.nodup
    refine leaves_marks hres ms _ (st.putM hD (hm.lo D (by simp))) ⟨hnd.2, fun E hE => hm.lo E (by simp [hE]), fun E hE => ?_, fun E hE => hm.free E (by simp [hE])⟩
    rw [World.putObj_heap_other (by rintro rfl; exact hnd.1 hE)]
    exact hm.at_ E (by simp [hE])

theorem body_soundD (hD : DrawSound P G) {C : Callee} (hC : CalleeOk P G C) {n f : Nat} {g : NFunc} (hN : (cProg P G).fn f = some g) {args : List Value} {H : AHeap} {x : NX} {T : Env} {H1 : AHeap} {vs : List Value} (hx : x = .normal ∨ x = .ret)
    (he : execN C n g.body (args ++ List.replicate (g.ntmps - args.length) undef) H = some (x, T, H1)) (hv : resultsN T H1 g.results = some vs) {φ : Phi} {args' : List Value} {w : World} (hg : GOk G φ) (hargs : VRs φ args args') (hs : Sim φ H w) :
    FidOk P (Gives φ H w (resultV vs) H1) φ args'.toArray w (.fn f) := by
  simp only [cProg, Option.bind_eq_some_iff] at hN
  obtain ⟨fn, hfn, hcf⟩ := hN
  unfold cFunc at hcf
  split at hcf
  · cases hcf
  rename_i c hbody
  split at hcf
  · cases hcf
  rename_i hname
  simp only [Option.bind_eq_some_iff, Option.map_eq_some_iff] at hcf
  obtain ⟨b, hb, rs, hrs, rfl⟩ := hcf
  refine ⟨⟨fn, hfn, by rw [hbody]; rfl, hname⟩, ?_⟩
  have hlen := hargs.length
  have ht0 : VRs φ (args ++ List.replicate (fn.ntmps - args.length) undef) (args'.toArray ++ Array.replicate (fn.ntmps - args'.toArray.size) undef).toList := by
    simp only [Array.toList_append, Array.toList_replicate, List.size_toArray, ← hlen]
    exact hargs.append (VRs.replicate (undefR φ) _)
  refine (callsIn_wide (n := 0)).1 (callsIn_of_wp_marks (F := Fr none) hfn hbody trivial ?_)
  refine wpIn_mono (exec_sound hD hC (ro := none) c b hb (.inl rfl) _ H x T H1 he φ _ w hg ht0 hs) ?_
  rintro e a' w' ⟨rfl, ms, hds, φ', ht', hst, hm⟩
  have hl := leaves_marks (P := P) (fn := fn) (tmps := a'.tmps) (R := Gives φ H w (resultV vs) H1) (fun w2 st2 => by
    obtain ⟨vs', h1, h2⟩ := resN_sound ht' st2.sim hrs hv
    refine ⟨if h : vs'.toArray.size = 1 then vs'.toArray[0] else .tuple vs'.toArray, ?_, φ', _, rfl, resultV_rel h1, st2⟩
    rw [results_eq, Array.mapM_eq_mapM_toList]
    simp only [Sem.run_bind, Sem.run_map]
    rw [h2]
    rfl) ms w' hst hm
  have hds' : a'.defers = ms.map mark := by rw [hds]; simp
  rcases hx with rfl | rfl
  · show LeavesInM _ _ _ _ _ _ a'.defers _ _
    rw [hds']; exact hl
  · show LeavesInM _ _ _ _ _ _ a'.defers _ _
    rw [hds']; exact hl

theorem overL_rel {φ : Phi} : ∀ (ps : List Nat) (vs vs' : List Value) (T : Env) (T' : Array Value), VRs φ vs vs' → VRs φ T T'.toList → VRs φ (overL T ps vs) ((ps.toArray.zip vs'.toArray).foldl (fun t (p, v) => t.setIfInBounds p v) T').toList
  | [], _, _, T, T', _, h => by
    rw [List.zip_toArray, List.foldl_toArray]
    simpa [overL] using h
  | p :: ps, _, _, T, T', .nil, h => by
    rw [List.zip_toArray, List.foldl_toArray]
    simpa [overL] using h
  | p :: ps, _, _, T, T', .cons hv hvs, h => by
    rw [List.zip_toArray, List.foldl_toArray]
    simp only [overL, List.zip_cons_cons, List.foldl_cons]
    have := overL_rel ps _ _ _ (T'.setIfInBounds p _) hvs (by simpa using h.set p hv)
    rw [List.zip_toArray, List.foldl_toArray] at this
    exact this

theorem round_sound (hD : DrawSound P G) {C : Callee} (hC : CalleeOk P G C) {n b : Nat} {args : List Value} {H : AHeap} {v : Value} {H' : AHeap} (h : roundN (execN C n) (cProg P G).code b args H = some (v, H')) {φ : Phi} {args' : List Value} {w : World} (hg : GOk G φ) (hargs : VRs φ args args') (hs : Sim φ H w) :
    FidOk P (Gives φ H w v H') φ args'.toArray w (.yield b) := by
  intro m hb
  unfold roundN at h
  split at h
  case h_2 => cases h
  rename_i pend0 T0 ps0 asg0 body0 hget
  split at h
  case isFalse => cases h
  rename_i hlen
  split at h
  case h_2 => cases h
  rename_i ca cb hca hcb
  split at h
  case h_2 => cases h
  rename_i T1 H1 hx1
  split at h
  case h_2 => cases h
  rename_i pend1 Tr psr asgr bodyr hget1
  split at h
  case h_2 => cases h
  rename_i x T2 H3 hx2
  split at h
  case h_2 => cases h
  rename_i pend3 T3 ps3 asg3 body3 hget3
  cases h
  simp only [cProg] at hca hcb
  split at hca
  case isFalse => cases hca
  rename_i hna
  split at hcb
  case isFalse => cases hcb
  rename_i hnb
  have hob := hs.obj b m hb
  rw [hget] at hob
  obtain ⟨hsh, r, hl, hst, hpe, hT, hps, hasg, hbody⟩ := hob
  have hsz : args'.toArray.size = r.params.size := by
    have := hargs.length
    rw [List.size_toArray, ← this, hlen, ← hps, Array.length_toList]
  refine ⟨r.fn, _, r.assign, r.body, run_yield hl hsz, ?_⟩
  have ht0 : VRs φ (overL T0 ps0 args) ((r.params.zip args'.toArray).foldl (fun t (p, v) => t.setIfInBounds p v) r.tmps).toList := by
    have := overL_rel ps0 args args' T0 r.tmps hargs hT
    rw [← hps] at this ⊢
    simpa using this
  rw [hasg, hbody]
  refine roundIn_of_wpIn (F := Fence.wide) trivial ?_
  refine wpIn_mono (exec_sound hD hC (ro := some m.blk) asg0 ca hca (.inr hna) _ H _ _ _ hx1 φ { tmps := _, defers := [] } w hg ht0 hs) ?_
  rintro e a1 w1 ⟨rfl, ms1, hds1, φ1, ht1, st1, _⟩
  have hb1 := st1.le _ _ hb
  have hob1 := st1.sim.obj b m hb1
  rw [hget1] at hob1
  obtain ⟨_, r1, hl1, hst1, hpe1, hT1, hps1, hasg1, hbody1⟩ := hob1
  refine ⟨_, run_beginRound hl1 hst1, ?_⟩
  have hlt1 := (Array.getElem?_eq_some_iff.1 hl1).1
  have st2 : Stp φ1 H1 w1 φ1 (H1.set b (.loop .busy pend1 Tr psr asgr bodyr)) (w1.putObj m.blk (.loop { r1 with state := .busy })) :=
    Stp.put' st1.sim hb1 (by rw [hget1]; rfl) ⟨hsh, _, World.putObj_heap_same hlt1, rfl, hpe1, hT1, hps1, hasg1, hbody1⟩ rfl rfl rfl (by simp) (fun k hk => World.putObj_heap_other hk)
  have st12 := st1.trans st2
  refine wpIn_mono (exec_sound hD hC (ro := some m.blk) body0 cb hcb (.inr hnb) _ _ _ _ _ hx2 φ1 a1 _ (hg.mono st1.le) ht1 st2.sim) ?_
  rintro e a3 w3 ⟨rfl, ms3, _, φ3, ht3, st3, _⟩
  have hb3 := st3.le _ _ hb1
  have hob3 := st3.sim.obj b m hb3
  rw [hget3] at hob3
  obtain ⟨_, r3, hl3, hst3, hpe3, hT3, hps3, hasg3, hbody3⟩ := hob3
  have hlt3 := (Array.getElem?_eq_some_iff.1 hl3).1
  have fin : (Instr.endRound m.blk (x.jmp.map Jmp.code)).run P w3 = .ok (.bool x.fin) (w3.putObj m.blk (.loop { r3 with state := endSt x, pending := x.jmp.map Jmp.code })) := by
    rw [run_endRound _ hl3]
    cases x <;> rfl
  have st4 : Stp φ3 H3 w3 φ3 (H3.set b (.loop (endSt x) x.jmp T3 ps3 asg3 body3)) (w3.putObj m.blk (.loop { r3 with state := endSt x, pending := x.jmp.map Jmp.code })) :=
    Stp.put' st3.sim hb3 (by rw [hget3]; rfl) ⟨hsh, _, World.putObj_heap_same hlt3, rfl, rfl, hT3, hps3, hasg3, hbody3⟩ rfl rfl rfl (by simp) (fun k hk => World.putObj_heap_other hk)
  have hall := (st12.trans st3).trans st4
  cases x with
  | normal => exact ⟨_, _, fin, φ3, _, rfl, .bool _, hall⟩
  | ret => exact ⟨_, _, fin, φ3, _, rfl, .bool _, hall⟩
  | exit i => exact ⟨_, _, fin, φ3, _, rfl, .bool _, hall⟩

theorem callN_sound (hD : DrawSound P G) : ∀ n, CalleeOk P G (callN (cProg P G) n)
  | 0 => fun f args H v H' h => by simp [callN] at h
  | n + 1 => fun f args H v H' h φ args' w hg hargs hs => by
    cases f with
    | yield b =>
      simp only [callN] at h
      exact round_sound hD (callN_sound hD n) h hg hargs hs
    | fn f =>
      simp only [callN] at h
      split at h
      · cases h
      rename_i g hN
      split at h
      · cases h
      · rename_i x T H1 hx he
        simp only [Option.map_eq_some_iff] at h
        obtain ⟨vs, hv, heq⟩ := h
        cases heq
        refine body_soundD hD (callN_sound hD n) hN ?_ he hv hg hargs hs
        cases x with
        | normal => exact .inl rfl
        | ret => exact .inr rfl
        | exit i => exact absurd rfl (hx i)
      · cases h

end Go.E
