/-
  THE EVALUATOR, PART M: what the evaluator says of compiled code holds of the machine's (the regions that draw their order aside).
-/
import Derived.Test.YtgmmkajjigmjoaaEngL
set_option linter.unusedSimpArgs false
set_option linter.unusedVariables false
namespace Go.E
open Go
variable {P : Program} {G : Nat}
def NX.out : NX → Exit
  | .normal => .normal
  | .exit i => .exit i
  | .ret => .ret

def CalleeOk (P : Program) (G : Nat) (C : Callee) : Prop :=
  ∀ f args H v H', C f args H = some (v, H') → ∀ φ args' w, GOk G φ → VRs φ args args' → Sim φ H w →
    (∃ fn, P.funcs[f]? = some fn ∧ fn.body.isSome = true ∧ fn.name ≠ "runtime.NumGoroutine") ∧
    Calls P f args'.toArray w fun e w' => ∃ φ' v', e = .returned v' ∧ VR φ' v v' ∧ Stp φ H w φ' H' w'

/-- what holds where the code has come, begun at φ, H, w -/
def PostC (φ : Phi) (H : AHeap) (w : World) (ds : List Deferred) (x : NX) (T' : Env) (H' : AHeap) : Exit → Act → World → Prop :=
  fun e a' w' => e = x.out ∧ a'.defers = ds ∧ ∃ φ', VRs φ' T' a'.tmps.toList ∧ Stp φ H w φ' H' w'

theorem put_rel {φ : Phi} {T : Env} {a : Act} (ht : VRs φ T a.tmps.toList) (d : Option Nat) {v v' : Value} (hv : VR φ v v') : VRs φ (put T d v) (a.put d v').tmps.toList := by
  cases d with
  | none => exact ht
  | some d => simpa [put, Act.put] using ht.set d hv

theorem put_defers (a : Act) (d : Option Nat) (v : Value) : (a.put d v).defers = a.defers := by cases d <;> rfl

theorem wanted_rel {φ : Phi} {T : Env} {a : Act} (ht : VRs φ T a.tmps.toList) {ops : Array Oper} {o : Oper} {n : NOper} (hc : cOper P G ops o = some n) : Region.wanted o (yielded ops a.tmps) = wantedN n.guard T ∧ n.dst = o.dst ∧ cOp P G o = some n.op := by
  unfold cOper at hc
  split at hc
  · rename_i hg
    simp only [Option.map_eq_some_iff] at hc
    obtain ⟨m, h1, rfl⟩ := hc
    exact ⟨by simp [Region.wanted, hg, wantedN], rfl, h1⟩
  · rename_i j want hg
    split at hc
    case h_2 => cases hc
    rename_i d hd
    simp only [Option.map_eq_some_iff] at hc
    obtain ⟨m, h1, rfl⟩ := hc
    refine ⟨?_, rfl, h1⟩
    simp only [Region.wanted, hg, wantedN, yielded, hd, Option.bind_some]
    cases hT : T[d]? with
    | none =>
      have : a.tmps[d]? = none := by
        have := ht.length
        simp only [Array.length_toList] at this
        simp at hT ⊢; omega
      simp [this]
    | some v =>
      obtain ⟨v', h2, h3⟩ := ht.get d v hT
      have h2' : a.tmps[d]? = some v' := by simpa using h2
      rw [h2']
      cases h3
      case junk h hb => cases v' <;> first | exact absurd rfl (hb _) | simp
      all_goals simp

theorem stepN_sound {C : Callee} (hC : CalleeOk P G C) {φ₀ : Phi} {H₀ : AHeap} {w₀ : World} {ops : Array Oper} {o : Oper} {n : NOper} (hc : cOper P G ops o = some n) {T T' : Env} {H H' : AHeap} (h : stepN C n T H = some (T', H'))
    {φ : Phi} {a : Act} {w : World} (hg : GOk G φ) (ht : VRs φ T a.tmps.toList) (hst : Stp φ₀ H₀ w₀ φ H w) {next : Act → World → Prop} {Q : Exit → Act → World → Prop}
    (hk : ∀ φ' a' w', GOk G φ' → VRs φ' T' a'.tmps.toList → Stp φ₀ H₀ w₀ φ' H' w' → a'.defers = a.defers → next a' w') :
    if Region.wanted o (yielded ops a.tmps) then o.wp P a w next Q else next (a.put o.dst undef) w := by
  obtain ⟨hw, hd, hop⟩ := wanted_rel ht hc
  rw [hw]
  unfold stepN at h
  split at h
  · rename_i hwt
    rw [if_pos hwt]
    split at h
    · rename_i v H1 he
      cases h
      obtain ⟨nx, w', φ', v', h1, h2, h3, h4⟩ := cOp_sound (P := P) hg ht hst.sim hop he
      unfold Oper.wp
      rw [h1]
      rcases h2 with rfl | ⟨rfl, rfl⟩
      · exact hk φ' _ w' (hg.mono h4.le) (by rw [hd]; exact put_rel (ht.mono h4.le) _ h3) (hst.trans h4) (put_defers _ _ _)
      · exact hk φ' _ w' (hg.mono h4.le) (by rw [hd]; exact put_rel (ht.mono h4.le) _ h3) (hst.trans h4) (put_defers _ _ _)
    · rename_i f args H1 he
      simp only [Option.map_eq_some_iff] at h
      obtain ⟨⟨v, H2⟩, hcall, heq⟩ := h
      cases heq
      obtain ⟨rfl, args', h1, h2⟩ := cOp_sound (P := P) hg ht hst.sim hop he
      obtain ⟨⟨fn, f1, f2, f3⟩, hcalls⟩ := hC f args _ v _ hcall φ args' w hg h1 hst.sim
      unfold Oper.wp
      rw [h2 fn f1 f2 f3]
      refine Calls.mono hcalls ?_
      rintro e w' ⟨φ', v', rfl, h3, h4⟩
      exact hk φ' _ w' (hg.mono h4.le) (by rw [hd]; exact put_rel (ht.mono h4.le) _ h3) (hst.trans h4) (put_defers _ _ _)
    · cases h
  · rename_i hwt
    rw [if_neg hwt]
    cases h
    exact hk φ _ w hg (by rw [hd]; exact put_rel ht _ (undefR φ)) hst (put_defers _ _ _)

theorem runOps_sound {C : Callee} (hC : CalleeOk P G C) {φ₀ : Phi} {H₀ : AHeap} {w₀ : World} {ops : Array Oper} {ds : List Deferred} {T' : Env} {H' : AHeap} : ∀ (l : List Oper) (ns : List NOper), cOpers P G ops l = some ns → ∀ (T : Env) (H : AHeap), runOps C ns T H = some (T', H') →
    ∀ (φ : Phi) (a : Act) (w : World), GOk G φ → VRs φ T a.tmps.toList → Stp φ₀ H₀ w₀ φ H w → a.defers = ds → wpList P ops (PostC φ₀ H₀ w₀ ds .normal T' H') l a w
  | [], ns, hc, T, H, h, φ, a, w, hg, ht, hst, hds => by
    simp [cOpers] at hc; subst hc
    simp [runOps] at h
    obtain ⟨rfl, rfl⟩ := h
    exact ⟨rfl, hds, φ, ht, hst⟩
  | o :: l, ns, hc, T, H, h, φ, a, w, hg, ht, hst, hds => by
    simp only [cOpers, Option.bind_eq_some_iff, Option.map_eq_some_iff] at hc
    obtain ⟨n, h1, ns', h2, rfl⟩ := hc
    simp only [runOps] at h
    split at h
    case h_2 => cases h
    rename_i T1 H1 h3
    have h4 := h
    have := stepN_sound hC (Q := PostC φ₀ H₀ w₀ ds .normal T' H') h1 h3 hg ht hst (next := wpList P ops (PostC φ₀ H₀ w₀ ds .normal T' H') l)
      (fun φ' a' w' hg' ht' hst' hds' => runOps_sound hC l ns' h2 T1 H1 h4 φ' a' w' hg' ht' hst' (hds'.trans hds))
    unfold wpList
    split
    · rename_i hw; rw [if_pos hw] at this; exact .inl this
    · rename_i hw; rw [if_neg hw] at this; exact this

theorem PostC.of_stp {φ₁ φ₂ : Phi} {H₁ H₂ : AHeap} {w₁ w₂ : World} (h : Stp φ₁ H₁ w₁ φ₂ H₂ w₂) {ds : List Deferred} {x : NX} {T' : Env} {H' : AHeap} {e : Exit} {a : Act} {w : World} (k : PostC φ₂ H₂ w₂ ds x T' H' e a w) : PostC φ₁ H₁ w₁ ds x T' H' e a w := by
  obtain ⟨h1, h2, φ', h3, h4⟩ := k
  exact ⟨h1, h2, φ', h3, h.trans h4⟩

theorem rounds_mono {c : Code} {Q Q' : Exit → Act → World → Prop} (hq : ∀ e a w, Q e a w → Q' e a w) : ∀ (k : Nat) (a : Act) (w : World), Code.rounds P c Q k a w → Code.rounds P c Q' k a w
  | 0, _, _, h => h
  | k + 1, a, w, h => by
    rw [rounds_succ] at h ⊢
    refine Code.wp_mono ?_ h
    intro e a1 w1 h1
    cases e with
    | normal => exact rounds_mono hq k a1 w1 h1
    | _ => exact hq _ _ _ h1

/-- THE REGIONS THAT DRAW THEIR ORDER: what EngN proves -/
def DrawSound (P : Program) (G : Nat) : Prop :=
  ∀ (C : Callee), CalleeOk P G C → ∀ (id : Nat) (ops : Array Oper) (ns : List NOper) (chk : List (List Nat)), cDraw P G ops = some (ns, chk) →
    ∀ (T : Env) (H : AHeap) (sts : List (Env × AHeap)) (T' : Env) (H' : AHeap), runD C ns T H [] = some (sts, T', H') → chkAll sts T' ns chk 0 = true →
    ∀ (φ : Phi) (a : Act) (w : World), GOk G φ → VRs φ T a.tmps.toList → Sim φ H w → (Code.region id ops true).wp P (PostC φ H w a.defers .normal T' H') a w

theorem exec_sound (hD : DrawSound P G) {C : Callee} (hC : CalleeOk P G C) {n : Nat} : ∀ (c : Code) (nc : NCode), cCode P G c = some nc → ∀ (T : Env) (H : AHeap) (x : NX) (T' : Env) (H' : AHeap), execN C n nc T H = some (x, T', H') →
    ∀ (φ : Phi) (a : Act) (w : World), GOk G φ → VRs φ T a.tmps.toList → Sim φ H w → c.wp P (PostC φ H w a.defers x T' H') a w
  | .skip, nc, hc, T, H, x, T', H', h, φ, a, w, hg, ht, hs => by
    simp [cCode] at hc; subst hc
    simp [execN] at h; obtain ⟨rfl, rfl, rfl⟩ := h
    exact wp_skip ⟨rfl, rfl, φ, ht, .refl hs⟩
  | .label l, nc, hc, T, H, x, T', H', h, φ, a, w, hg, ht, hs => by
    simp [cCode] at hc; subst hc
    simp [execN] at h; obtain ⟨rfl, rfl, rfl⟩ := h
    exact wp_label ⟨rfl, rfl, φ, ht, .refl hs⟩
  | .region id ops draw, nc, hc, T, H, x, T', H', h, φ, a, w, hg, ht, hs => by
    simp only [cCode] at hc
    cases draw with
    | false =>
      simp only [Bool.false_eq_true, if_false] at hc
      split at hc
      case h_2 => cases hc; simp [execN] at h
      rename_i ns h1
      cases hc
      simp only [execN] at h
      split at h
      case h_2 => cases h
      rename_i T1 H1 h2
      cases h
      exact wp_region_list (runOps_sound hC _ _ h1 T H h2 φ a w hg ht (.refl hs) rfl)
    | true =>
      simp only [if_true] at hc
      split at hc
      case h_2 => cases hc; simp [execN] at h
      rename_i ns chk h1
      cases hc
      simp only [execN] at h
      split at h
      case h_2 => cases h
      rename_i sts T1 H1 h2
      split at h
      case isFalse => cases h
      rename_i hchk
      cases h
      exact hD C hC id ops ns chk h1 T H _ _ _ h2 hchk φ a w hg ht hs
  | .seq c d, nc, hc, T, H, x, T', H', h, φ, a, w, hg, ht, hs => by
    simp only [cCode, Option.bind_eq_some_iff, Option.map_eq_some_iff] at hc
    obtain ⟨c', h1, d', h2, rfl⟩ := hc
    simp only [execN] at h
    split at h
    · rename_i T1 H1 he
      refine wp_seq (Code.wp_mono ?_ (exec_sound hD hC c c' h1 T H _ _ _ he φ a w hg ht hs))
      rintro e a1 w1 ⟨rfl, hds, φ1, ht1, hst1⟩
      refine Code.wp_mono ?_ (exec_sound hD hC d d' h2 T1 H1 x T' H' h φ1 a1 w1 (hg.mono hst1.le) ht1 hst1.sim)
      intro e2 a2 w2 k
      rw [← hds]
      exact k.of_stp hst1
    · rename_i he
      refine wp_seq (Code.wp_mono ?_ (exec_sound hD hC c c' h1 T H _ _ _ h φ a w hg ht hs))
      rintro e a1 w1 k
      have hx := k.1
      subst hx
      cases x with
      | normal => exact absurd h (he _ _)
      | exit i => exact k
      | ret => exact k
  | .cond g c d, nc, hc, T, H, x, T', H', h, φ, a, w, hg, ht, hs => by
    simp only [cCode] at hc
    split at hc
    case h_2 => cases hc; simp [execN] at h
    rename_i g' h0
    simp only [Option.bind_eq_some_iff, Option.map_eq_some_iff] at hc
    obtain ⟨c', h1, d', h2, rfl⟩ := hc
    have rg := ev_rel hg ht h0
    simp only [execN] at h
    split at h
    · rename_i hb
      rw [hb] at rg
      have : a.eval g = .bool true := by generalize a.eval g = y at rg; cases rg; rfl
      exact wp_cond_true this (exec_sound hD hC c c' h1 T H x T' H' h φ a w hg ht hs)
    · rename_i hb
      rw [hb] at rg
      have : a.eval g = .bool false := by generalize a.eval g = y at rg; cases rg; rfl
      exact wp_cond_false this (exec_sound hD hC d d' h2 T H x T' H' h φ a w hg ht hs)
    · cases h
  | .block id c, nc, hc, T, H, x, T', H', h, φ, a, w, hg, ht, hs => by
    simp only [cCode, Option.map_eq_some_iff] at hc
    obtain ⟨c', h1, rfl⟩ := hc
    simp only [execN] at h
    split at h
    · rename_i i T1 H1 he
      refine wp_block (Code.wp_mono ?_ (exec_sound hD hC c c' h1 T H _ _ _ he φ a w hg ht hs))
      rintro e a1 w1 ⟨rfl, hds, rest⟩
      split at h
      · rename_i hi
        cases h
        show (if i = id then _ else _)
        rw [if_pos hi]
        exact ⟨rfl, hds, rest⟩
      · rename_i hi
        cases h
        show (if i = id then _ else _)
        rw [if_neg hi]
        exact ⟨rfl, hds, rest⟩
    · rename_i he
      refine wp_block (Code.wp_mono ?_ (exec_sound hD hC c c' h1 T H _ _ _ h φ a w hg ht hs))
      rintro e a1 w1 k
      have hx := k.1
      subst hx
      cases x with
      | normal => exact k
      | exit i => exact absurd h (he _ _ _)
      | ret => exact k
  | .loop c, nc, hc, T, H, x, T', H', h, φ, a, w, hg, ht, hs => by
    simp only [cCode, Option.map_eq_some_iff] at hc
    obtain ⟨c', h1, rfl⟩ := hc
    simp only [execN] at h
    have key : ∀ (k : Nat) (T : Env) (H : AHeap), loopN (execN C n c') k T H = some (x, T', H') → ∀ (φ : Phi) (a : Act) (w : World), GOk G φ → VRs φ T a.tmps.toList → Sim φ H w →
        Code.rounds P c (PostC φ H w a.defers x T' H') k a w := by
      intro k
      induction k with
      | zero => intro T H h; simp [loopN] at h
      | succ k ih =>
        intro T H h φ a w hg ht hs
        simp only [loopN] at h
        rw [rounds_succ]
        split at h
        · rename_i T1 H1 he
          refine Code.wp_mono ?_ (exec_sound hD hC c c' h1 T H _ _ _ he φ a w hg ht hs)
          rintro e a1 w1 ⟨rfl, hds, φ1, ht1, hst1⟩
          have := ih T1 H1 h φ1 a1 w1 (hg.mono hst1.le) ht1 hst1.sim
          refine rounds_mono ?_ k a1 w1 this
          intro e2 a2 w2 k2
          rw [← hds]
          exact k2.of_stp hst1
        · rename_i he
          refine Code.wp_mono ?_ (exec_sound hD hC c c' h1 T H _ _ _ h φ a w hg ht hs)
          rintro e a1 w1 k2
          have hx := k2.1
          subst hx
          cases x with
          | normal => exact absurd h (he _ _)
          | exit i => exact k2
          | ret => exact k2
    exact wp_loop_rounds n (key n T H h φ a w hg ht hs)
  | .scope c, nc, hc, T, H, x, T', H', h, φ, a, w, hg, ht, hs => by
    simp only [cCode] at hc
    refine wp_scope_straight (Code.wp_mono ?_ (exec_sound hD hC c nc hc T H x T' H' h φ a w hg ht hs))
    rintro e a1 w1 k
    have hx := k.1
    subst hx
    cases x <;> exact k
  | .exit id, nc, hc, T, H, x, T', H', h, φ, a, w, hg, ht, hs => by
    simp [cCode] at hc; subst hc
    simp [execN] at h; obtain ⟨rfl, rfl, rfl⟩ := h
    exact wp_exit ⟨rfl, rfl, φ, ht, .refl hs⟩
  | .ret, nc, hc, T, H, x, T', H', h, φ, a, w, hg, ht, hs => by
    simp [cCode] at hc; subst hc
    simp [execN] at h; obtain ⟨rfl, rfl, rfl⟩ := h
    exact wp_ret ⟨rfl, rfl, φ, ht, .refl hs⟩
  | .rangeFunc .., nc, hc, T, H, x, T', H', h, φ, a, w, hg, ht, hs => by simp [cCode] at hc; subst hc; simp [execN] at h
  | .goto l, nc, hc, T, H, x, T', H', h, φ, a, w, hg, ht, hs => by simp [cCode] at hc; subst hc; simp [execN] at h
  | .refuse y, nc, hc, T, H, x, T', H', h, φ, a, w, hg, ht, hs => by simp [cCode] at hc; subst hc; simp [execN] at h

def resOne (tmps : Array Value) : ResultVar → Sem Value
  | .tmp t => pure (tmps.getD t undef)
  | .cell b t => do loadVar t (← asAddr (tmps.getD b undef))

theorem results_eq (fn : Func) (tmps : Array Value) : results fn tmps = (do
    let vs ← fn.results.mapM (resOne tmps)
    pure (if h : vs.size = 1 then vs[0] else .tuple vs)) := by
  unfold results
  congr 1

theorem resN_sound {φ : Phi} {H : AHeap} {w : World} {T : Env} {a : Act} (ht : VRs φ T a.tmps.toList) (hs : Sim φ H w) : ∀ {rs : List ResultVar} {ns : List NRes} {vs : List Value}, cRes P rs = some ns → resultsN T H ns = some vs →
    ∃ vs', VRs φ vs vs' ∧ (rs.mapM (resOne a.tmps)).run P w = .ok vs' w
  | [], ns, vs, hc, h => by
    simp [cRes] at hc; subst hc
    simp [resultsN] at h; subst h
    exact ⟨[], .nil, rfl⟩
  | .tmp t :: rs, ns, vs, hc, h => by
    simp only [cRes, Option.map_eq_some_iff] at hc
    obtain ⟨ns', h1, rfl⟩ := hc
    simp only [resultsN, resN, Option.bind_some, Option.map_eq_some_iff] at h
    obtain ⟨vs1, h2, rfl⟩ := h
    obtain ⟨vs', h3, h4⟩ := resN_sound ht hs h1 h2
    have hv := ht.getD t (undefR φ)
    refine ⟨a.tmps.getD t undef :: vs', .cons (by simpa [Array.getD_eq_getD_getElem?, List.getD_eq_getElem?_getD] using hv) h3, ?_⟩
    simp only [List.mapM_cons, resOne, Sem.run_bind, Sem.run_pure, Result.andThen_ok, h4]
  | .cell t ty :: rs, ns, vs, hc, h => by
    simp only [cRes] at hc
    split at hc
    case h_2 => cases hc
    rename_i d k hd hk
    simp only [Option.map_eq_some_iff] at hc
    obtain ⟨ns', h1, rfl⟩ := hc
    simp only [resultsN, Option.bind_eq_some_iff, Option.map_eq_some_iff] at h
    obtain ⟨v, hv, vs1, h2, rfl⟩ := h
    obtain ⟨vs', h3, h4⟩ := resN_sound ht hs h1 h2
    have ht' := ht.getD t (undefR φ)
    have ht2 : VR φ (T.getD t undef) (a.tmps.getD t undef) := by simpa [Array.getD_eq_getD_getElem?, List.getD_eq_getElem?_getD] using ht'
    simp only [resN] at hv
    split at hv
    case h_2 => cases hv
    rename_i p hp
    rw [hp] at ht2
    obtain ⟨b, m, o, rfl, hax, hb⟩ : ∃ b m o, p = ⟨b, o, none⟩ ∧ a.tmps.getD t undef = .pointer (some ⟨Emb.blk m, m.sh + o, none⟩) ∧ φ b = some m := by
      generalize a.tmps.getD t undef = y at ht2
      cases ht2 with
      | ptr o hb => exact ⟨_, _, o, rfl, rfl, hb⟩
    have hasA : (asAddr (a.tmps.getD t undef)).run P w = .ok ⟨m.blk, m.sh + o, none⟩ w := by rw [hax]; rfl
    by_cases ha : isAggD d = true
    · rw [if_pos ha] at hv
      simp only [Option.map_eq_some_iff] at hv
      obtain ⟨cs, hrow, rfl⟩ := hv
      obtain ⟨cs', g1, g2, g3⟩ := run_loadVar_rel (P := P) hs hd hk hb (cs := cs) (by rw [if_pos ha]; exact hrow)
      rw [if_pos ha] at g3
      refine ⟨.agg cs'.toArray :: vs', .cons (.agg g1) h3, ?_⟩
      simp only [List.mapM_cons, resOne, Sem.run_bind, hasA, Sem.run_pure, Result.andThen_ok, g3, h4]
    · rw [if_neg ha] at hv
      simp only [Option.bind_eq_some_iff] at hv
      obtain ⟨cs, hrow, h0⟩ := hv
      obtain ⟨cs', g1, g2, g3⟩ := run_loadVar_rel (P := P) hs hd hk hb (cs := cs) (by rw [if_neg ha]; exact hrow)
      rw [if_neg ha] at g3
      obtain ⟨v', g4, g5⟩ := g1.get 0 v h0
      have : cs'.getD 0 undef = v' := by simp [g4]
      rw [this] at g3
      refine ⟨v' :: vs', .cons g5 h3, ?_⟩
      simp only [List.mapM_cons, resOne, Sem.run_bind, hasA, Sem.run_pure, Result.andThen_ok, g3, h4]

theorem resultV_rel {φ : Phi} : ∀ {vs vs' : List Value}, VRs φ vs vs' → VR φ (resultV vs) (if h : vs'.toArray.size = 1 then vs'.toArray[0] else .tuple vs'.toArray)
  | _, _, .nil => .tuple .nil
  | _, _, .cons h .nil => h
  | _, _, .cons h (.cons h2 h3) => .tuple (.cons h (.cons h2 h3))

theorem callN_sound (hD : DrawSound P G) : ∀ n, CalleeOk P G (callN (cProg P G) n)
  | 0 => fun f args H v H' h => by simp [callN] at h
  | n + 1 => fun f args H v H' h φ args' w hg hargs hs => by
    simp only [callN] at h
    split at h
    · cases h
    rename_i g hN
    simp only [cProg, Option.bind_eq_some_iff] at hN
    obtain ⟨fn, hfn, hcf⟩ := hN
    unfold cFunc at hcf
    split at hcf
    · cases hcf
    rename_i c hbody
    split at hcf
    · cases hcf
    rename_i hname
    simp only [Option.bind_eq_some_iff, Option.map_eq_some_iff] at hcf
    obtain ⟨b, hb, rs, hrs, rfl⟩ := hcf
    refine ⟨⟨fn, hfn, by rw [hbody]; rfl, hname⟩, ?_⟩
    refine calls_of_wp hfn hbody ?_
    have hlen := hargs.length
    have ht0 : VRs φ (args ++ List.replicate (fn.ntmps - args.length) undef) (args'.toArray ++ Array.replicate (fn.ntmps - args'.toArray.size) undef).toList := by
      simp only [Array.toList_append, Array.toList_replicate, List.size_toArray, ← hlen]
      exact hargs.append (VRs.replicate (undefR φ) _)
    have key : ∀ (x : NX) (T : Env) (H1 : AHeap) (vs : List Value), x = .normal ∨ x = .ret → execN (callN (cProg P G) n) n b (args ++ List.replicate (fn.ntmps - args.length) undef) H = some (x, T, H1) → resultsN T H1 rs = some vs →
        c.wp P (bodyPost P fn fun e w' => ∃ φ' v', e = .returned v' ∧ VR φ' (resultV vs) v' ∧ Stp φ H w φ' H1 w') { tmps := args'.toArray ++ Array.replicate (fn.ntmps - args'.toArray.size) undef, defers := [] } w := by
      intro x T H1 vs hx he hv
      refine Code.wp_mono ?_ (exec_sound hD (callN_sound hD n) c b hb _ H x T H1 he φ _ w hg ht0 hs)
      rintro e a' w' ⟨rfl, hds, φ', ht', hst⟩
      obtain ⟨vs', h1, h2⟩ := resN_sound ht' hst.sim hrs hv
      have hr : (results fn a'.tmps).run P w' = .ok (if h : vs'.toArray.size = 1 then vs'.toArray[0] else .tuple vs'.toArray) w' := by
        rw [results_eq, Array.mapM_eq_mapM_toList]
        simp only [Sem.run_bind, Sem.run_map]
        rw [h2]
        rfl
      rcases hx with rfl | rfl
      · exact ⟨hds, _, hr, φ', _, rfl, resultV_rel h1, hst⟩
      · exact ⟨hds, _, hr, φ', _, rfl, resultV_rel h1, hst⟩
    split at h
    · cases h
    · rename_i x T H1 hx he
      simp only [Option.map_eq_some_iff] at h
      obtain ⟨vs, hv, heq⟩ := h
      cases heq
      refine key x T H' vs ?_ he hv
      cases x with
      | normal => exact .inl rfl
      | ret => exact .inr rfl
      | exit i => exact absurd rfl (hx i)
    · cases h

end Go.E
