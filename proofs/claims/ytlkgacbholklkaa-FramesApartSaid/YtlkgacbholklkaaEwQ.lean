/-
  THE EVALUATOR WITH CHOICES, PART Q: operations, regions in their order.
-/
import Derived.Test.YtlkgacbholklkaaEwP
import Derived.RangeFuncRecord
set_option linter.unusedSimpArgs false
set_option linter.unusedVariables false
namespace Go.E
open Go
variable {P : Program} {G : Nat}
def NX.out : NX → Exit
  | .normal => .normal
  | .exit i => .exit i
  | .ret => .ret

def Fr (ro : Option Nat) : Fence := { Fence.wide with round := ro }
theorem Fr_depth {ro : Option Nat} {n : Nat} : (Fr ro).depth.isSome = true → 1 ≤ n := fun h => by cases h
theorem callsIn_Fr {ro : Option Nat} {n : Nat} {f : FuncId} {args : Array Value} {w : World} {R : Ending → World → Prop} (h : Calls P f args w R) : CallsIn (Fr ro) n P f args w R :=
  (callsIn_wide (n := n)).2 h

def Gives (φ : Phi) (H : AHeap) (w : World) (v : Value) (H' : AHeap) : Ending → World → Prop :=
  fun e w' => ∃ φ' v', e = .returned v' ∧ VR φ' v v' ∧ Stp φ H w φ' H' w'

def FidOk (P : Program) (R : Ending → World → Prop) (φ : Phi) (args' : Array Value) (w : World) : Fid → Prop
  | .fn f => (∃ fn, P.funcs[f]? = some fn ∧ fn.body.isSome = true ∧ fn.name ≠ "runtime.NumGoroutine") ∧ Calls P f args' w R
  | .yield b => ∀ m, φ b = some m → ∃ fn tmps asg body, (Instr.yield m.blk args').run P w = .ok (.round m.blk fn tmps asg body) w ∧ RoundIn Fence.wide 0 P m.blk fn tmps asg body w R

def GivesR (φ : Phi) (H : AHeap) (w : World) (R : Value → AHeap → Prop) : Ending → World → Prop :=
  fun e w' => ∃ v H', R v H' ∧ Gives φ H w v H' e w'

def CalleesOk (P : Program) (G : Nat) (C : Callees) : Prop :=
  ∀ f args H R, C.run f args H R → ∀ φ args' w, GOk G φ → VRs φ args args' → Sim φ H w → FidOk P (GivesR φ H w R) φ args'.toArray w f

/-! ### the marks of the ranges over functions among a function's deferred calls -/
def mark (D : Nat) : Deferred := { target := .collected D, args := #[] }
structure MOk (φ : Phi) (H : AHeap) (w₀ w : World) (ms : List Nat) : Prop where
  nodup : ms.Nodup
  lo : ∀ D ∈ ms, w₀.heap.size ≤ D
  at_ : ∀ D ∈ ms, w.heap[D]? = some (.deferred (some []))
  free : ∀ D ∈ ms, ¬ Wr φ H D
theorem MOk.nil {φ : Phi} {H : AHeap} {w₀ w : World} : MOk φ H w₀ w [] := ⟨List.nodup_nil, by simp, by simp, by simp⟩

theorem MOk.app {φ₁ φ₂ : Phi} {H₁ H₂ : AHeap} {w₀ w₁ w₂ : World} {ms ms' : List Nat} (h : MOk φ₁ H₁ w₀ w₁ ms) (hs : w₀.heap.size ≤ w₁.heap.size) (st : Stp φ₁ H₁ w₁ φ₂ H₂ w₂) (h' : MOk φ₂ H₂ w₁ w₂ ms') : MOk φ₂ H₂ w₀ w₂ (ms' ++ ms) := by
  have hlt : ∀ D ∈ ms, D < w₁.heap.size := fun D hD => (Array.getElem?_eq_some_iff.1 (h.at_ D hD)).1
  refine ⟨List.nodup_append.2 ⟨h'.nodup, h.nodup, ?_⟩, ?_, ?_, ?_⟩
  · intro a ha b hb e
    have := h'.lo a ha
    have := hlt b hb
    omega
  · intro D hD
    rcases List.mem_append.1 hD with h1 | h1
    · exact Nat.le_trans hs (h'.lo D h1)
    · exact h.lo D h1
  · intro D hD
    rcases List.mem_append.1 hD with h1 | h1
    · exact h'.at_ D h1
    · exact (st.keep D (hlt D h1) (h.free D h1)).trans (h.at_ D h1)
  · intro D hD
    rcases List.mem_append.1 hD with h1 | h1
    · exact h'.free D h1
    · exact fun hw => h.free D h1 (st.wr D (hlt D h1) hw)

def PostC (φ : Phi) (H : AHeap) (w : World) (ds : List Deferred) (x : NX) (T' : Env) (H' : AHeap) : Exit → Act → World → Prop :=
  fun e a' w' => e = x.out ∧ ∃ ms, a'.defers = ms.map mark ++ ds ∧ ∃ φ', VRs φ' T' a'.tmps.toList ∧ Stp φ H w φ' H' w' ∧ MOk φ' H' w w' ms

theorem put_rel {φ : Phi} {T : Env} {a : Act} (ht : VRs φ T a.tmps.toList) (d : Option Nat) {v v' : Value} (hv : VR φ v v') : VRs φ (put T d v) (a.put d v').tmps.toList := by
  cases d with
  | none => exact ht
  | some d => simpa [put, Act.put] using ht.set d hv

theorem put_defers (a : Act) (d : Option Nat) (v : Value) : (a.put d v).defers = a.defers := by cases d <;> rfl

theorem wanted_rel {φ : Phi} {T : Env} {a : Act} (ht : VRs φ T a.tmps.toList) {ops : Array Oper} {o : Oper} {n : NOper} (hc : cOper P G ops o = some n) : Region.wanted o (yielded ops a.tmps) = wantedN n.guard T ∧ n.dst = o.dst ∧ cOp P G o = some n.op := by
  unfold cOper at hc
  split at hc
  · rename_i hg
    simp only [Option.map_eq_some_iff] at hc
    obtain ⟨m, h1, rfl⟩ := hc
    exact ⟨by simp [Region.wanted, hg, wantedN], rfl, h1⟩
  · rename_i j want hg
    split at hc
    case h_2 => cases hc
    rename_i d hd
    simp only [Option.map_eq_some_iff] at hc
    obtain ⟨m, h1, rfl⟩ := hc
    refine ⟨?_, rfl, h1⟩
    simp only [Region.wanted, hg, wantedN, yielded, hd, Option.bind_some]
    cases hT : T[d]? with
    | none =>
      have : a.tmps[d]? = none := by
        have := ht.length
        simp only [Array.length_toList] at this
        simp at hT ⊢; omega
      simp [this]
    | some v =>
      obtain ⟨v', h2, h3⟩ := ht.get d v hT
      have h2' : a.tmps[d]? = some v' := by simpa using h2
      rw [h2']
      cases h3
      case junk h hb => cases v' <;> first | exact absurd rfl (hb _) | simp
      all_goals simp

theorem cOp_nodefer {o : Oper} {n : NOp} (h : cOp P G o = some n) : ∀ c, o.op ≠ .defer c := by
  intro c hc
  simp [cOp, hc] at h

theorem wpIn_of_run {ro : Option Nat} {o : Oper} {a : Act} {w : World} {next : Act → World → Prop} {Q : Exit → Act → World → Prop} (hd : ∀ c, o.op ≠ .defer c) (h : o.uponIn (Fr ro) 0 P a next Q ((execOp a.eval o).run P w)) : o.wpIn (Fr ro) 0 P a w next Q := by
  refine ⟨fun _ _ => trivial, ?_⟩
  rw [Oper.semAt_eq _ _ _ hd]
  exact h

/-! ### a step of a range over a map that has choices -/
theorem ERs.mem {φ : Phi} : ∀ {a b : List MapEntry}, ERs φ a b → ∀ e' ∈ b, ∃ e ∈ a, e'.key = e.key ∧ e'.born = e.born ∧ VR φ e.val e'.val
  | _, _, .nil, e', h => by simp at h
  | _, _, .cons (e := x) hk hb hv t, e', h => by
    rcases List.mem_cons.1 h with rfl | h
    · exact ⟨x, by simp, hk, hb, hv⟩
    · obtain ⟨e, h1, h2⟩ := t.mem e' h
      exact ⟨e, by simp [h1], h2⟩

theorem pickL_rel {φ : Phi} {es es' : List MapEntry} (h : ERs φ es es') (since : Nat) (seen : List Nat) : ∀ c' ∈ pickL es' since seen, match c' with
    | none => none ∈ pickL es since seen
    | some e' => ∃ e, some e ∈ pickL es since seen ∧ e'.key = e.key ∧ e'.born = e.born ∧ VR φ e.val e'.val := by
  have h1 := h.filter (p := fun b => !seen.contains b)
  have h2 := h1.filter (p := fun b => decide (b < since))
  have h3 := h1.filter (p := fun b => decide (b ≥ since))
  unfold pickL
  rw [h2.isEmpty]
  intro c' hc0
  rcases List.mem_append.1 hc0 with hc | hc
  · clear hc0
    split at hc
    · rename_i he
      simp only [List.mem_singleton] at hc
      subst hc
      simp only
      rw [if_pos he]
      simp
    · cases hc
  · clear hc0
    simp only [List.mem_map, List.mem_append] at hc
    obtain ⟨e', hc, rfl⟩ := hc
    simp only [List.mem_append, List.mem_map]
    rcases hc with hc | hc
    · obtain ⟨e, g1, g2⟩ := h2.mem e' hc
      exact ⟨e, .inr ⟨e, .inl g1, rfl⟩, g2⟩
    · obtain ⟨e, g1, g2⟩ := h3.mem e' hc
      exact ⟨e, .inr ⟨e, .inr g1, rfl⟩, g2⟩

theorem run_choose {w : World} {n : Nat} (hn : 0 < n) : ∃ i w0, i < n ∧ (w0 = w ∨ w0 = { w with drawn := w.drawn + 1 }) ∧ (choose (.mapNext n)).run P w = .ok i w0 := by
  by_cases h : n ≤ 1
  · refine ⟨0, w, hn, .inl rfl, ?_⟩
    simp [choose, Sem.run, Question.forced, h]
  · refine ⟨(Question.mapNext n).cut (w.tape w.drawn (.mapNext n)), { w with drawn := w.drawn + 1 }, ?_, .inr rfl, ?_⟩
    · simp only [Question.cut]
      exact Nat.mod_lt _ hn
    · simp [choose, Sem.run, Question.forced, h]

theorem next_pick {w : World} {r bm since last clock : Nat} {seen : List Nat} {l : List MapEntry} {ty : TypeId} (hr : w.heap[r]? = some (.mapIter (some bm) since seen.toArray last)) (hb : w.heap[bm]? = some (.map l.toArray clock))
    (hc : (!seen.isEmpty && !l.isEmpty && l.all (·.born ≥ last)) = false) : ∃ c ∈ pickL l since seen, ∃ w0, (w0 = w ∨ w0 = { w with drawn := w.drawn + 1 }) ∧
      match c with
      | none => (Instr.next (.pointer (some ⟨r, 0, none⟩)) false ty).run P w = .ok (.tuple #[.bool false]) w0
      | some e => (Instr.next (.pointer (some ⟨r, 0, none⟩)) false ty).run P w = .ok (.tuple #[.bool true, e.key, e.val]) { w0 with heap := w0.heap.setIfInBounds r (.mapIter (some bm) since (seen ++ [e.born]).toArray clock) } := by
  have hc' : (!seen.toArray.isEmpty && !l.toArray.isEmpty && l.toArray.all (fun e => decide (e.born ≥ last))) = false := by simpa using hc
  have hcand : ((if ((l.toArray.filter fun e => !seen.toArray.contains e.born).filter fun e => decide (e.born < since)).isEmpty then #[none] else #[]) ++
      (((l.toArray.filter fun e => !seen.toArray.contains e.born).filter fun e => decide (e.born < since)) ++ ((l.toArray.filter fun e => !seen.toArray.contains e.born).filter fun e => decide (e.born ≥ since))).map some) = (pickL l since seen).toArray := by
    unfold pickL
    simp only [List.filter_toArray', List.size_toArray, List.contains_toArray, List.isEmpty_toArray, List.append_toArray, List.map_toArray]
    split <;> simp
  obtain ⟨c0, hc0⟩ := pickL_ne l since seen
  have hpos : 0 < (pickL l since seen).toArray.size := by
    rw [List.size_toArray]
    exact List.length_pos_of_mem hc0
  unfold Instr.next
  simp only [Sem.run_bind, run_getObj_iter hr, MapKept.run_getObj_map hb, Result.andThen_ok, hc', Bool.false_eq_true, if_false]
  rw [hcand]
  obtain ⟨i, w0, hi, hw0, hrun⟩ := run_choose (P := P) (w := w) hpos
  have hi' : i < (pickL l since seen).length := by simpa using hi
  refine ⟨(pickL l since seen)[i], List.getElem_mem hi', w0, hw0, ?_⟩
  have hget : (pickL l since seen).toArray[i]? = some ((pickL l since seen)[i]) := by simp [hi']
  have hr0 : w0.heap[r]? = some (.mapIter (some bm) since seen.toArray last) := by rcases hw0 with rfl | rfl <;> exact hr
  simp only [hrun, Result.andThen_ok, hget]
  generalize (pickL l since seen)[i] = c
  cases c with
  | none => rfl
  | some e => simp [setObj, Sem.run, hr0]

def isNextM : NOp → Bool
  | .nextM _ => true
  | _ => false
theorem builtin_nextM {b : Builtin} {ts : List TypeId} {as : List Operand} {n : NOp} (h : cBuiltin P G b ts as = some n) : isNextM n = false := by
  unfold cBuiltin at h
  repeat' split at h
  all_goals first
    | (cases h; done)
    | (cases h; rfl)
    | (simp only [Option.map_eq_some_iff] at h; obtain ⟨_, _, rfl⟩ := h; rfl)
    | (simp only [Option.bind_eq_some_iff, Option.some.injEq] at h; obtain ⟨_, _, _, _, _, _, rfl⟩ := h; rfl)
    | (simp only [Option.bind_eq_some_iff, Option.some.injEq] at h; obtain ⟨_, _, _, _, rfl⟩ := h; rfl)
    | (simp only [Option.bind_eq_some_iff, Option.some.injEq] at h; obtain ⟨_, _, rfl⟩ := h; rfl)
    | (simp only [Option.bind_eq_some_iff, Option.map_eq_some_iff] at h; obtain ⟨_, _, _, _, rfl⟩ := h; rfl)
    | (simp only [Option.bind_eq_some_iff, Option.map_eq_some_iff] at h; obtain ⟨_, _, _, _, _, _, rfl⟩ := h; rfl)
    | skip

theorem nextM_of {o : Oper} {x : NOpd} (hc : cOp P G o = some (.nextM x)) : ∃ x0, o.op = .next x0 false ∧ cOpd G x0 = some x := by
  obtain ⟨dst, op, type, pos, after, guard⟩ := o
  cases op with
  | next x0 s =>
    simp only [cOp, Option.map_eq_some_iff] at hc
    obtain ⟨x', h1, h2⟩ := hc
    cases s with
    | true => simp at h2
    | false =>
      simp at h2
      subst h2
      exact ⟨x0, rfl, h1⟩
  | call c =>
    exfalso
    simp only [cOp] at hc
    split at hc
    · split at hc
      · split at hc
        · simp only [Option.bind_eq_some_iff, Option.some.injEq] at hc
          obtain ⟨_, _, _, _, h⟩ := hc
          cases h
        · cases hc
      · split at hc
        · split at hc
          · simp only [Option.bind_eq_some_iff, Option.some.injEq] at hc
            obtain ⟨_, _, _, _, h⟩ := hc
            cases h
          · cases hc
        · simp only [Option.bind_eq_some_iff, Option.map_eq_some_iff] at hc
          obtain ⟨_, _, _, _, h⟩ := hc
          cases h
    · have := builtin_nextM hc
      cases this
    · cases hc
  | slice t x lo hi mx =>
    exfalso
    simp only [cOp] at hc
    split at hc
    · cases hc
    simp only [Option.bind_eq_some_iff] at hc
    obtain ⟨_, _, _, _, _, _, _, _, hc⟩ := hc
    split at hc
    · simp only [Option.bind_eq_some_iff] at hc
      obtain ⟨_, _, hc⟩ := hc
      split at hc <;> cases hc
    · split at hc <;> cases hc
    · simp only [Option.bind_eq_some_iff] at hc
      obtain ⟨_, _, hc⟩ := hc
      split at hc <;> cases hc
    · cases hc
  | makeMap t r =>
    exfalso
    cases r <;> simp [cOp] at hc
  | makeFunc f x y =>
    exfalso
    cases f <;> simp only [cOp] at hc
    · simp only [Option.bind_eq_some_iff, Option.map_eq_some_iff] at hc
      obtain ⟨_, _, _, _, h⟩ := hc
      cases h
    all_goals cases hc
  | _ =>
    exfalso
    simp only [cOp] at hc
    repeat' split at hc
    all_goals first
      | contradiction
      | (cases hc; done)
      | (simp only [Option.map_eq_some_iff] at hc; obtain ⟨_, _, h⟩ := hc; cases h; done)
      | (simp only [Option.bind_eq_some_iff, Option.map_eq_some_iff] at hc; obtain ⟨_, _, _, _, h⟩ := hc; cases h; done)
      | (simp only [Option.bind_eq_some_iff, Option.map_eq_some_iff] at hc; obtain ⟨_, _, _, _, _, _, h⟩ := hc; cases h; done)
      | (simp only [Option.bind_eq_some_iff, Option.some.injEq] at hc; obtain ⟨_, _, _, _, _, _, h⟩ := hc; cases h; done)
      | (simp only [Option.bind_eq_some_iff] at hc; obtain ⟨_, _, _, _, hc⟩ := hc; repeat' split at hc
         all_goals first
          | (cases hc; done)
          | (simp only [Option.map_eq_some_iff] at hc; obtain ⟨_, _, h⟩ := hc; cases h; done)
          | (simp only [Option.some.injEq] at hc; cases hc; done))
      | (simp only [Option.bind_eq_some_iff] at hc; obtain ⟨_, _, hc⟩ := hc; repeat' split at hc
         all_goals first
          | (cases hc; done)
          | (simp only [Option.map_eq_some_iff] at hc; obtain ⟨_, _, h⟩ := hc; cases h; done))
      | (simp only [Option.bind_eq_some_iff] at hc; obtain ⟨_, _, _, _, _, _, hc⟩ := hc; repeat' split at hc
         all_goals first
          | (cases hc; done)
          | (simp only [Option.some.injEq] at hc; cases hc; done))

theorem oper_sound {C : Callees} (hC : CalleesOk P G C) {ro : Option Nat} {o : Oper} {nop : NOp} (hop : cOp P G o = some nop) {T : Env} {H : AHeap} {K : Value → AHeap → Prop}
    (h : resW C (nop.sub (ofL T)) H K)
    {φ : Phi} {a : Act} {w : World} (hg : GOk G φ) (ht : VRs φ T a.tmps.toList) (hs : Sim φ H w) {next : Act → World → Prop} {Q : Exit → Act → World → Prop}
    (hk : ∀ φ' v v' H' w', K v H' → VR φ' v v' → Stp φ H w φ' H' w' → next (a.put o.dst v') w') : o.wpIn (Fr ro) 0 P a w next Q := by
  refine wpIn_of_run (cOp_nodefer hop) ?_
  unfold resW at h
  rw [eop_sub] at h
  split at h
  · rename_i v0 H1 he
    obtain ⟨nx, w', φ', v', h1, h2, h3, h4⟩ := cOp_sound (P := P) hg ht hs hop he
    rw [h1]
    rcases h2 with rfl | ⟨rfl, rfl⟩
    · exact hk φ' _ v' _ w' h h3 h4
    · exact hk φ' _ _ _ w' h h3 h4
  · rename_i f args H1 he
    have hout := cOp_sound (P := P) hg ht hs hop he
    cases f with
    | fn f =>
      obtain ⟨rfl, args', h1, h2⟩ := hout
      obtain ⟨⟨fn, f1, f2, f3⟩, hcalls⟩ := hC (.fn f) args _ _ h φ args' w hg h1 hs
      rw [h2 fn f1 f2 f3]
      refine ⟨Fr_depth, callsIn_Fr (Calls.mono hcalls ?_)⟩
      rintro e w' ⟨v, H', hK, φ', v', rfl, h3, h4⟩
      exact hk φ' v v' H' w' hK h3 h4
    | yield b =>
      obtain ⟨rfl, args', m, h1, hb, h2⟩ := hout
      obtain ⟨fn, tmps, asg, body, h3, h4⟩ := hC (.yield b) args _ _ h φ args' w hg h1 hs m hb
      rw [h2, h3]
      refine ⟨Fr_depth, RoundIn.mono (F := Fr ro) h4 ?_⟩
      rintro e w' ⟨v, H', hK, φ', v', rfl, h5, h6⟩
      exact hk φ' v v' H' w' hK h5 h6
  · -- a choice
    cases nop with
    | nextM x =>
      obtain ⟨dst, op, type, pos, after, guard⟩ := o
      have hopx : ∃ x0, op = .next x0 false ∧ cOpd G x0 = some x := by
        have := nextM_of hop
        exact this
      obtain ⟨x0, rfl, hx⟩ := hopx
      have rx := ev_rel hg ht hx
      have hev : x.sub (ofL T) = .c (x.ev T) ∨ ∃ i, x = .g i := by
        cases x with
        | t i => exact .inl rfl
        | c v => exact .inl rfl
        | g i => exact .inr ⟨i, rfl⟩
      simp only [NOp.sub, pickW] at h
      rcases hev with hev | ⟨i, rfl⟩
      rotate_left
      · simp [NOpd.sub] at h
      rw [hev] at h
      simp only [pickV] at h
      generalize x.ev T = v at h rx
      split at h
      case h_2 => exact h.elim
      rename_i p
      obtain ⟨hoff, h⟩ := h
      generalize hax : a.eval x0 = ax at rx
      obtain ⟨bp, op, sp⟩ := p
      simp only at hoff
      subst hoff
      cases rx
      rename_i m hb
      have ho := hs.obj _ _ hb
      simp only at h
      split at h
      case h_2 => exact h.elim
      rename_i mm since seen last hgt
      rw [hgt] at ho
      obtain ⟨hsh, mp', h1, h2⟩ := ho
      cases h2
      rename_i mb hmb
      split at h
      case h_2 => exact h.elim
      rename_i es clock hgm
      have hom := hs.obj _ _ hmb
      rw [hgm] at hom
      obtain ⟨es', h3, h4⟩ := hom
      obtain ⟨es'⟩ := es'
      obtain ⟨hbad, h⟩ := h
      have hbad' : (!seen.isEmpty && !es'.isEmpty && es'.all (·.born ≥ last)) = false := by
        rw [h4.isEmpty, h4.all (p := fun b => decide (b ≥ last))]
        exact hbad
      obtain ⟨c, hc, w0, hw0, hrun⟩ := next_pick (P := P) (ty := type) (since := since) h1 h3 hbad'
      have hrel := pickL_rel h4 since seen c hc
      have hst0 : Stp φ H w φ H w0 := by
        rcases hw0 with rfl | rfl
        · exact .refl hs
        · exact Stp.drew hs _
      have hexec : ∀ z, (Instr.next (.pointer (some ⟨m.blk, 0, none⟩)) false type).run P w = z → (execOp a.eval ⟨dst, .next x0 false, type, pos, after, guard⟩).run P w = (match z with | .ok v w => .ok (.value v) w | .halt k w => .halt k w) := by
        intro z hz
        simp only [execOp, hax, hsh, Nat.zero_add, Sem.run_bind, hz]
        cases z <;> rfl
      cases c with
      | none =>
        rw [hexec _ hrun]
        exact hk φ _ _ H w0 (h none hrel) (.tuple (.cons (.bool _) .nil)) hst0
      | some e' =>
        obtain ⟨e, g0, g2, g3, g4⟩ := hrel
        obtain ⟨hclk, hK⟩ := h (some e) g0
        rw [hexec _ hrun]
        have hh0 : w0.heap = w.heap := by rcases hw0 with rfl | rfl <;> rfl
        have hlt : m.blk < w0.heap.size := by rw [hh0]; exact (Array.getElem?_eq_some_iff.1 h1).1
        refine hk φ _ _ _ _ hK (.tuple (.cons (.bool _) (.cons ?_ (.cons g4 .nil)))) (hst0.trans (Stp.put (m := m) hst0.sim hb (by rw [hgt]; rfl) rfl ?_ rfl rfl rfl (by simp) (fun k hk => Array.getElem?_setIfInBounds_ne (Ne.symm hk))))
        · rw [g2]; exact closedV_rel φ _ hclk
        · exact ⟨hsh, some mb.blk, by rw [g3]; simp [Array.getElem?_setIfInBounds, hlt], .map hmb⟩
    | _ => exact h.elim

theorem step_sound {C : Callees} (hC : CalleesOk P G C) {ro : Option Nat} {φ₀ : Phi} {H₀ : AHeap} {w₀ : World} {ops : Array Oper} {o : Oper} {n : NOper} (hc : cOper P G ops o = some n) {T : Env} {H : AHeap} {K : Value → AHeap → Prop}
    (h : (wantedF n.guard (ofL T) = false ∧ K undef H) ∨ (wantedF n.guard (ofL T) = true ∧ resW C (n.op.sub (ofL T)) H K))
    {φ : Phi} {a : Act} {w : World} (hg : GOk G φ) (ht : VRs φ T a.tmps.toList) (hst : Stp φ₀ H₀ w₀ φ H w) {next : Act → World → Prop} {Q : Exit → Act → World → Prop}
    (hk : ∀ φ' a' w' v H', K v H' → GOk G φ' → VRs φ' (put T n.dst v) a'.tmps.toList → Stp φ₀ H₀ w₀ φ' H' w' → Stp φ H w φ' H' w' → a'.defers = a.defers → next a' w') :
    if Region.wanted o (yielded ops a.tmps) then o.wpIn (Fr ro) 0 P a w next Q else (∀ f, o.about P w a.eval = some f → (Fr ro).fn f) ∧ next (a.put o.dst undef) w := by
  obtain ⟨hw, hd, hop⟩ := wanted_rel ht hc
  rw [hw, wanted_ofL'']
  rcases h with ⟨hwt, h⟩ | ⟨hwt, h⟩
  · rw [hwt, if_neg (by simp)]
    exact ⟨fun _ _ => trivial, hk φ _ w undef H h hg (by rw [hd]; exact put_rel ht _ (undefR φ)) hst (.refl hst.sim) (put_defers _ _ _)⟩
  · rw [hwt, if_pos rfl]
    refine oper_sound hC hop h hg ht hst.sim fun φ' v v' H' w' hK h3 h4 => ?_
    exact hk φ' _ w' v H' hK (hg.mono h4.le) (by rw [hd]; exact put_rel (ht.mono h4.le) _ h3) (hst.trans h4) h4 (put_defers _ _ _)

def PostQ (φ : Phi) (H : AHeap) (w : World) (ds : List Deferred) (l : Env) (A : List Nat) (Q : Post) : Exit → Act → World → Prop :=
  fun e a' w' => ∃ x l' H', Q x (ofL l') H' ∧ l'.length = l.length ∧ (∀ i, i ∉ A → ofL l' i = ofL l i) ∧ PostC φ H w ds x l' H' e a' w'

theorem ops_sound {C : Callees} (hC : CalleesOk P G C) {ro : Option Nat} {φ₀ : Phi} {H₀ : AHeap} {w₀ : World} {ops : Array Oper} {ds : List Deferred} {l0 : Env} {A : List Nat} {Q : FEnv → AHeap → Prop} {Q' : Post} (hQ : ∀ T H, Q T H → Q' .normal T H) : ∀ (l : List Oper) (ns : List NOper), cOpers P G ops l = some ns → (∀ i, i ∈ asgO ns → i ∈ A) → ∀ (T : Env) (H : AHeap), dstOkO T.length ns = true → T.length = l0.length → (∀ i, i ∉ A → ofL T i = ofL l0 i) → wpO C ns (ofL T) H Q →
    ∀ (φ : Phi) (a : Act) (w : World), GOk G φ → VRs φ T a.tmps.toList → Stp φ₀ H₀ w₀ φ H w → a.defers = ds → wpListIn (Fr ro) 0 P ops (PostQ φ₀ H₀ w₀ ds l0 A Q') l a w
  | [], ns, hc, hA, T, H, hd, hl, hag, h, φ, a, w, hg, ht, hst, hds => by
    simp [cOpers] at hc; subst hc
    exact ⟨_, T, H, hQ _ _ h, hl, hag, rfl, [], hds, φ, ht, hst, .nil⟩
  | o :: l, ns, hc, hA, T, H, hd, hl, hag, h, φ, a, w, hg, ht, hst, hds => by
    simp only [cOpers, Option.bind_eq_some_iff, Option.map_eq_some_iff] at hc
    obtain ⟨n, h1, ns', h2, rfl⟩ := hc
    simp only [dstOkO, Bool.and_eq_true] at hd
    obtain ⟨hd1, hd2⟩ := hd
    have hstep : (wantedF n.guard (ofL T) = false ∧ wpO C ns' (putF (ofL T) n.dst undef) H Q) ∨ (wantedF n.guard (ofL T) = true ∧ resW C (n.op.sub (ofL T)) H fun v H2 => wpO C ns' (putF (ofL T) n.dst v) H2 Q) := by
      simp only [wpO] at h
      split at h
      · rename_i hw; exact .inl ⟨hw, h⟩
      · rename_i hw; exact .inr ⟨hw, h⟩
    refine step_sound hC (ro := ro) (K := fun v H2 => wpO C ns' (putF (ofL T) n.dst v) H2 Q) h1 hstep hg ht hst (fun φ' a' w' v H' hK hg' ht' hst' _ hds' => ?_)
    rw [← ofL_put hd1] at hK
    refine ops_sound hC hQ l ns' h2 (fun i hi => hA i (by simp only [asgO, List.mem_append]; exact .inr hi)) (put T n.dst v) H' (by rw [put_length]; exact hd2) (by rw [put_length]; exact hl) (fun i hi => ?_) hK φ' a' w' hg' ht' hst' (hds'.trans hds)
    rw [ofL_put_other, hag i hi]
    intro e
    exact hi (hA i (by simp only [asgO, e, List.mem_append, List.mem_singleton]; exact .inl trivial))

theorem PostC.of_stp {φ₁ φ₂ : Phi} {H₁ H₂ : AHeap} {w₁ w₂ : World} (h : Stp φ₁ H₁ w₁ φ₂ H₂ w₂) {ds ds₂ : List Deferred} {ms : List Nat} (hm : MOk φ₂ H₂ w₁ w₂ ms) (hd : ds₂ = ms.map mark ++ ds) {x : NX} {T' : Env} {H' : AHeap} {e : Exit} {a : Act} {w : World} (k : PostC φ₂ H₂ w₂ ds₂ x T' H' e a w) : PostC φ₁ H₁ w₁ ds x T' H' e a w := by
  obtain ⟨h1, ms', h2, φ', h3, h4, h5⟩ := k
  refine ⟨h1, ms' ++ ms, ?_, φ', h3, h.trans h4, hm.app h.size h4 h5⟩
  rw [h2, hd, List.map_append, List.append_assoc]

theorem rounds_mono {F : Fence} {c : Code} {Q Q' : Exit → Act → World → Prop} (hq : ∀ e a w, Q e a w → Q' e a w) : ∀ (k : Nat) (a : Act) (w : World), Code.roundsIn F 0 P c Q k a w → Code.roundsIn F 0 P c Q' k a w
  | 0, _, _, h => h
  | k + 1, a, w, h => by
    rw [roundsIn_succ] at h ⊢
    refine wpIn_mono h ?_
    intro e a1 w1 h1
    cases e with
    | normal => exact rounds_mono hq k a1 w1 h1
    | _ => exact hq _ _ _ h1

theorem wpIn_scope_straight {F : Fence} {n : Nat} {Q : Exit → Act → World → Prop} {a : Act} {w : World} {c : Code} (h : c.wpIn F n P (Exit.noGoto Q) a w) : (Code.scope c).wpIn F n P Q a w := by
  intro b k cs hro hb hr
  have s1 : step P (lone (b.atR a (.code (.scope c) :: k)) cs w) = .next (lone (b.atR a (.code c :: .inScope c :: k)) cs w) := step_lone_go (by simp [stepG, stepG.exec, Frame.atR])
  have s2 : ∀ {a : Act} {w : World}, step P (lone (b.atR a (.inScope c :: k)) cs w) = .next (lone (b.atR a k) cs w) := step_lone_go (by simp [stepG, stepG.exec, Frame.atR])
  have h0 : (lone (b.atR a (.code (.scope c) :: k)) cs w).fenced P F := fenced_calm hb hr rfl
  obtain ⟨e, a₁, w₁, hq, harr⟩ := h b (.inScope c :: k) cs hro hb hr
  cases e with
  | normal => exact ⟨.normal, a₁, w₁, hq, .head h0 s1 (StepsIn.trans harr (.one (fenced_calm hb hr rfl) s2))⟩
  | exit id =>
    refine ⟨.exit id, a₁, w₁, hq, fun k' hk => .head h0 s1 (harr.1 k' (by simp [exitTo, hk])), fun hr' hk => ?_⟩
    obtain ⟨k₁, h1, h2⟩ := harr.2 hr' (by simp [exitTo, hk])
    exact ⟨k₁, h1, .head h0 s1 h2⟩
  | goto l => exact hq.elim
  | ret => exact ⟨_, a₁, w₁, hq, .of_steps (.one h0 s1) harr⟩
  | panic ch => exact ⟨_, a₁, w₁, hq, .of_steps (.one h0 s1) harr⟩
  | outgrown => exact ⟨_, a₁, w₁, hq, .of_steps (.one h0 s1) harr⟩

theorem PostQ.of_stp {φ₁ φ₂ : Phi} {H₁ H₂ : AHeap} {w₁ w₂ : World} (h : Stp φ₁ H₁ w₁ φ₂ H₂ w₂) {ds ds₂ : List Deferred} {ms : List Nat} (hm : MOk φ₂ H₂ w₁ w₂ ms) (hd : ds₂ = ms.map mark ++ ds) {l l2 : Env} {A A2 : List Nat} (hl : l2.length = l.length) (hag : ∀ i, i ∉ A → ofL l2 i = ofL l i) (hA : ∀ i, i ∈ A2 → i ∈ A)
    {Q : Post} {e : Exit} {a : Act} {w : World} (k : PostQ φ₂ H₂ w₂ ds₂ l2 A2 Q e a w) : PostQ φ₁ H₁ w₁ ds l A Q e a w := by
  obtain ⟨x, l', H', hq, hl', hag', k⟩ := k
  exact ⟨x, l', H', hq, hl'.trans hl, fun i hi => (hag' i fun h => hi (hA i h)).trans (hag i hi), k.of_stp h hm hd⟩

theorem Stp.allocM {φ : Phi} {H : AHeap} {w : World} (hs : Sim φ H w) (o : Obj) : Stp φ H w φ H (w.alloc o) := by
  have hk : ∀ k, k < w.heap.size → (w.alloc o).heap[k]? = w.heap[k]? := fun k hk => heap_alloc_old w o k hk
  refine ⟨.refl _, ⟨hs.dom, fun b m hb => ?_, hs.inj⟩, rfl, rfl, rfl, by simp, fun k h _ => hk k h, fun _ _ h => h, Nat.le_refl _, fun _ _ h => ⟨rfl, h⟩⟩
  by_cases hd : H.get b = .dead
  · rw [hd]; trivial
  · exact ObjR.mono (.refl _) (hk _ (hs.blk_lt hb hd)) (hs.obj b m hb)

theorem Stp.putM {φ : Phi} {H : AHeap} {w₀ w : World} {φ₀ : Phi} {H₀ : AHeap} (h : Stp φ₀ H₀ w₀ φ H w) {D : Nat} {o : Obj} {ds : Option (List Deferred)} (ho : w.heap[D]? = some (.deferred ds)) (hlo : w₀.heap.size ≤ D) : Stp φ₀ H₀ w₀ φ H (w.putObj D o) := by
  have hoth : ∀ k, k ≠ D → (w.putObj D o).heap[k]? = w.heap[k]? := fun k hk => World.putObj_heap_other hk
  refine ⟨h.le, ⟨h.sim.dom, fun b m hb => ?_, h.sim.inj⟩, h.os, h.tape, h.output, by rw [World.putObj_size]; exact h.size, fun k hk hn => (hoth k (by omega)).trans (h.keep k hk hn), h.wr, h.next, h.unmapped⟩
  have hobj := h.sim.obj b m hb
  by_cases e : m.blk = D
  · cases hg : H.get b with
    | dead => trivial
    | cells cs es ro => rw [hg] at hobj; obtain ⟨_, _, _, _, C, el, fr, d, _⟩ := hobj; rw [e, ho] at d; cases d
    | map es clock => rw [hg] at hobj; obtain ⟨es', d, _⟩ := hobj; rw [e, ho] at d; cases d
    | siter s pos => rw [hg] at hobj; obtain ⟨_, d⟩ := hobj; rw [e, ho] at d; cases d
    | loop st pend T ps asg body => rw [hg] at hobj; obtain ⟨_, r, d, _⟩ := hobj; rw [e, ho] at d; cases d
    | iter mp since seen last => rw [hg] at hobj; obtain ⟨_, mp', d, _⟩ := hobj; rw [e, ho] at d; cases d
    | table es => rw [hg] at hobj; obtain ⟨es', clock, d, _⟩ := hobj; rw [e, ho] at d; cases d
  · exact ObjR.mono (.refl _) (hoth _ e) hobj

theorem endX_wp {x : Option Jmp} {Q : Exit → Act → World → Prop} {a : Act} {w : World} {ro : Option Nat} (h : Q (jmpX x).out a w) :
    (match x.map Jmp.code with | none => Q .normal a w | some c => c.wpIn (Fr ro) 0 P Q a w) := by
  cases x with
  | none => exact h
  | some j => cases j with
    | exit i => exact wpIn_exit h
    | ret => exact wpIn_ret h


end Go.E
