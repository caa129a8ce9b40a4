/-
  THE EVALUATOR WITH CHOICES, PART S: what the preconditions say of compiled code holds of the machine's.
-/
import Derived.Test.YtlkgacbholklkaaEwR
set_option linter.unusedSimpArgs false
set_option linter.unusedVariables false
namespace Go.E
open Go
variable {P : Program} {G : Nat}
theorem range_sound {C : Callees} (hC : CalleesOk P G C) {g : Operand} {g' : NOpd} (h0 : cOpd G g = some g') {ps : Array Tmp} {asg body : Code} {T : Env} {H : AHeap} {Q : NX → AHeap → Prop}
    (hr : rangeK C (g'.ev T) ps.toList asg body T H Q)
    {φ : Phi} {a : Act} {w : World} (hg : GOk G φ) (ht : VRs φ T a.tmps.toList) (hs : Sim φ H w) : (Code.rangeFunc g ps asg body).wpIn (Fr none) 0 P (fun e a' w' => ∃ x H', Q x H' ∧ PostC φ H w a.defers x T H' e a' w') a w := by
  unfold rangeK at hr
  split at hr
  case h_2 => exact hr.elim
  rename_i f fs cs hev
  have hcall := hr
  clear hr
  have rg := ev_rel hg ht h0
  rw [hev] at rg
  obtain ⟨fs', cs', hax, rfs, rcs⟩ : ∃ fs' cs', a.eval g = .func (.func f) ⟨fs'⟩ ⟨cs'⟩ ∧ VRs φ fs fs' ∧ VRs φ cs cs' := by
    generalize a.eval g = y at rg
    cases rg with
    | func _ h1 h2 => exact ⟨_, _, rfl, h1, h2⟩
  refine wpIn_rangeFunc fun fn _ => ?_
  obtain ⟨r, hr⟩ : ∃ r : Loop, r = { state := .ready, pending := none, fn := fn, tmps := a.tmps, params := ps, assign := asg, body := body, defers := w.heap.size } := ⟨_, rfl⟩
  obtain ⟨W1, hW1⟩ : ∃ W1, (w.alloc (.deferred (some []))).alloc (.loop r) = W1 := ⟨_, rfl⟩
  obtain ⟨m, hm⟩ : ∃ m : Emb, m = ⟨w.heap.size + 1, 0, 0, 0, 0⟩ := ⟨_, rfl⟩
  have hL1 : W1.heap[w.heap.size + 1]? = some (.loop r) := by
    rw [← hW1]; have := World.alloc_heap_new (w.alloc (.deferred (some []))) (.loop r); rwa [World.size_alloc] at this
  have hD1 : W1.heap[w.heap.size]? = some (.deferred (some [])) := by
    rw [← hW1]; exact (heap_alloc_old _ _ _ (by simp)).trans (World.alloc_heap_new w _)
  have hsz : W1.heap.size = w.heap.size + 2 := by rw [← hW1]; simp
  have st0 := Stp.allocM hs (.deferred (some []))
  have hle : φ.le (φ.add H.next m) := Phi.add_le hs.fresh
  have st1 : Stp φ H (w.alloc (.deferred (some []))) (φ.add H.next m) (H.add (.loop .ready none T ps.toList asg body)) W1 := by
    rw [← hW1]
    refine Stp.alloc st0.sim (m := m) (by rw [hm]; simp) ?_
    refine ⟨by rw [hm], r, ?_, by rw [hr], by rw [hr]; rfl, by rw [hr]; exact ht.mono hle, by rw [hr], by rw [hr], by rw [hr]⟩
    rw [hm, hW1]; exact hL1
  have st01 := st0.trans st1
  have hgm : m.blk = w.heap.size + 1 := by rw [hm]
  have hadd : (φ.add H.next m) H.next = some m := Phi.add_self _ _ _
  have hargs : VRs (φ.add H.next m) (fs ++ [.func (.yield H.next) ⟨[]⟩ ⟨[]⟩] ++ cs) (fs' ++ [.func (.yield (w.heap.size + 1)) ⟨[]⟩ ⟨[]⟩] ++ cs') := by
    refine ((rfs.mono hle).append (.cons ?_ .nil)).append (rcs.mono hle)
    have := VR.yield hadd
    rwa [hgm] at this
  obtain ⟨⟨fn2, f1, f2, f3⟩, hcalls⟩ := hC (.fn f) _ _ _ hcall (φ.add H.next m) _ W1 (hg.mono hle) hargs st01.sim
  have hwD : ¬ Wr (φ.add H.next m) (H.add (.loop .ready none T ps.toList asg body)) w.heap.size := by
    rintro ⟨c, mc, hc, he, hw⟩
    unfold Phi.add at hc
    split at hc
    · cases hc; omega
    · rename_i hne
      rw [AHeap.get_add, if_neg hne] at hw
      have := hs.blk_lt hc (by intro e; rw [e] at hw; cases hw)
      omega
  refine ⟨w.heap.size + 1, [mark w.heap.size], W1, { target := .fn (.func f) ⟨cs'⟩, args := (fs' ++ [Value.func (.yield (w.heap.size + 1)) ⟨[]⟩ ⟨[]⟩]).toArray }, W1, f,
    (fs' ++ [Value.func (.yield (w.heap.size + 1)) ⟨[]⟩ ⟨[]⟩] ++ cs').toArray, W1, ?_, ?_, fun _ _ => trivial, ?_, Fr_depth, ?_⟩
  · rw [← hW1, hr]; exact run_enterLoop_outer _ _ _ _ _
  · have hax' : a.eval g = .func (.func f) ⟨fs'⟩ ⟨cs'⟩ := hax
    have hy : a.eval (.const (.func (.yield (w.heap.size + 1)) #[] #[])) = .func (.yield (w.heap.size + 1)) #[] #[] := rfl
    simp only [resolve, hax', Deferred.ofValue, Array.map, List.push_toArray]
    simp [hy]
  · cases hbd : fn2.body with
    | none => rw [hbd] at f2; cases f2
    | some c => simp [invoke, callFunc, f1, f3, hbd, List.append_toArray]
  · refine callsIn_Fr (Calls.mono hcalls ?_)
    rintro e w3 ⟨v, H2, hR, φ2, v2, rfl, hv2, st2⟩
    split at hR
    case h_2 => exact hR.elim
    rename_i st pend _ _ _ _ hget
    obtain ⟨hbusy, hR⟩ := hR
    have hb2 := st2.le _ _ hadd
    have hob := st2.sim.obj _ _ hb2
    rw [hget] at hob
    obtain ⟨_, r3, hl3, hst3, hpe3, _⟩ := hob
    rw [hgm] at hl3
    have hnb : r3.state ≠ .busy := by rw [hst3]; intro e; rw [e] at hbusy; cases hbusy
    refine ⟨r3.pending, _, run_endLoop hl3 hnb, ?_⟩
    have st3 : Stp φ2 H2 w3 φ2 (H2.set H.next .dead) (w3.putObj (w.heap.size + 1) (.loop { r3 with state := .exhausted })) :=
      Stp.put' st2.sim hb2 (by rw [hget]; rfl) trivial rfl rfl rfl (by simp) (fun k hk => World.putObj_heap_other (by rw [← hgm]; exact hk))
    have st23 := st2.trans st3
    have hmok : MOk φ2 (H2.set H.next .dead) w (w3.putObj (w.heap.size + 1) (.loop { r3 with state := .exhausted })) [w.heap.size] := by
      refine ⟨by simp, by simp, ?_, ?_⟩
      · intro D hD
        rw [List.mem_singleton] at hD
        subst hD
        rw [World.putObj_heap_other (by omega)]
        exact (st2.keep _ (by omega) hwD).trans hD1
      · intro D hD
        rw [List.mem_singleton] at hD
        subst hD
        exact fun hw => hwD (st23.wr _ (by omega) hw)
    have hwp := endX_wp (P := P) (x := pend) (Q := fun e a' w' => ∃ x H', Q x H' ∧ PostC φ H w a.defers x T H' e a' w') (a := { a with defers := [mark w.heap.size] ++ a.defers }) (w := w3.putObj (w.heap.size + 1) (.loop { r3 with state := .exhausted })) (ro := none)
      ⟨_, _, hR, rfl, [w.heap.size], rfl, φ2, ht.mono (st01.trans st23).le, st01.trans st23, hmok⟩
    revert hwp
    generalize w3.putObj (w.heap.size + 1) (.loop { r3 with state := .exhausted }) = w4
    rw [← hpe3]
    exact id

theorem PostQ.mono {φ : Phi} {H : AHeap} {w : World} {ds : List Deferred} {l : Env} {A A' : List Nat} {Q : Post} {e : Exit} {a : Act} {w' : World} (hA : ∀ i, i ∈ A → i ∈ A') (k : PostQ φ H w ds l A Q e a w') : PostQ φ H w ds l A' Q e a w' := by
  obtain ⟨x, l', H', hq, hl', hag', k⟩ := k
  exact ⟨x, l', H', hq, hl', fun i hi => hag' i fun h => hi (hA i h), k⟩

theorem exec_sound (hmx : P.follows .mixedOrders = true) {C : Callees} (hC : CalleesOk P G C) {ro : Option Nat} : ∀ (N : Nat) (c : Code) (nc : NCode), cCode P G N c = some nc → ro = none ∨ noRange c = true → ∀ (T : Env) (H : AHeap) (Q : Post), dstOk T.length nc = true → wp C nc (ofL T) H Q →
    ∀ (φ : Phi) (a : Act) (w : World), GOk G φ → VRs φ T a.tmps.toList → Sim φ H w → c.wpIn (Fr ro) 0 P (PostQ φ H w a.defers T (asg nc) Q) a w
  | N, .skip, nc, hc, hro, T, H, Q, hd, h, φ, a, w, hg, ht, hs => by
    simp [cCode] at hc; subst hc
    exact wpIn_skip ⟨_, T, H, h, rfl, fun _ _ => rfl, rfl, [], rfl, φ, ht, .refl hs, .nil⟩
  | N, .label l, nc, hc, hro, T, H, Q, hd, h, φ, a, w, hg, ht, hs => by
    simp [cCode] at hc; subst hc
    exact wpIn_label ⟨_, T, H, h, rfl, fun _ _ => rfl, rfl, [], rfl, φ, ht, .refl hs, .nil⟩
  | N, .region id ops draw, nc, hc, hro, T, H, Q, hd, h, φ, a, w, hg, ht, hs => by
    simp only [cCode] at hc
    cases draw with
    | false =>
      simp only [Bool.false_eq_true, if_false] at hc
      split at hc
      case h_2 => cases hc; exact h.elim
      rename_i ns h1
      cases hc
      exact wpIn_region_list (ops_sound hC (Q := Q .normal) (Q' := Q) (fun _ _ h => h) _ _ h1 (fun i hi => hi) T H hd rfl (fun _ _ => rfl) h φ a w hg ht (.refl hs) rfl)
    | true =>
      simp only [if_true] at hc
      split at hc
      case h_2 => cases hc; exact h.elim
      rename_i ns chk h1
      cases hc
      exact drawSound hmx hC h1 hd h hg ht hs
  | N, .seq c d, nc, hc, hro, T, H, Q, hd, h, φ, a, w, hg, ht, hs => by
    simp only [cCode, Option.bind_eq_some_iff, Option.map_eq_some_iff] at hc
    obtain ⟨c', h1, d', h2, rfl⟩ := hc
    simp only [dstOk, Bool.and_eq_true] at hd
    have hro1 : ro = none ∨ noRange c = true := hro.imp id fun h => by simp only [noRange, Bool.and_eq_true] at h; exact h.1
    have hro2 : ro = none ∨ noRange d = true := hro.imp id fun h => by simp only [noRange, Bool.and_eq_true] at h; exact h.2
    refine wpIn_seq (wpIn_mono (exec_sound hmx hC N c c' h1 hro1 T H _ hd.1 h φ a w hg ht hs) ?_)
    rintro e a1 w1 ⟨x, T1, H1, hq, hl1, hag1, rfl, ms, hds, φ1, ht1, hst1, hm1⟩
    have hag1' : ∀ i, i ∉ asg (.seq c' d') → ofL T1 i = ofL T i := fun i hi => hag1 i (by simp only [asg, List.mem_append, not_or] at hi; exact hi.1)
    cases x with
    | normal =>
      refine wpIn_mono (exec_sound hmx hC N d d' h2 hro2 T1 H1 Q (by rw [hl1]; exact hd.2) hq φ1 a1 w1 (hg.mono hst1.le) ht1 hst1.sim) ?_
      intro e2 a2 w2 k
      exact k.of_stp hst1 hm1 hds hl1 hag1' (fun i hi => by simp only [asg, List.mem_append]; exact .inr hi)
    | exit i => exact ⟨_, T1, H1, hq, hl1, hag1', rfl, ms, hds, φ1, ht1, hst1, hm1⟩
    | ret => exact ⟨_, T1, H1, hq, hl1, hag1', rfl, ms, hds, φ1, ht1, hst1, hm1⟩
  | N, .cond g c d, nc, hc, hro, T, H, Q, hd, h, φ, a, w, hg, ht, hs => by
    simp only [cCode] at hc
    split at hc
    case h_2 => cases hc; exact h.elim
    rename_i g' h0
    simp only [Option.bind_eq_some_iff, Option.map_eq_some_iff] at hc
    obtain ⟨c', h1, d', h2, rfl⟩ := hc
    simp only [dstOk, Bool.and_eq_true] at hd
    have hro1 : ro = none ∨ noRange c = true := hro.imp id fun h => by simp only [noRange, Bool.and_eq_true] at h; exact h.1
    have hro2 : ro = none ∨ noRange d = true := hro.imp id fun h => by simp only [noRange, Bool.and_eq_true] at h; exact h.2
    have rg := ev_rel hg ht h0
    simp only [wp, evF_ofL, condK] at h
    split at h
    · rename_i hb
      rw [hb] at rg
      have : a.eval g = .bool true := by generalize a.eval g = y at rg; cases rg; rfl
      exact wpIn_cond_true this (wpIn_mono (exec_sound hmx hC N c c' h1 hro1 T H Q hd.1 h φ a w hg ht hs) fun e a w k => k.mono fun i hi => by simp only [asg, List.mem_append]; exact .inl hi)
    · rename_i hb
      rw [hb] at rg
      have : a.eval g = .bool false := by generalize a.eval g = y at rg; cases rg; rfl
      exact wpIn_cond_false this (wpIn_mono (exec_sound hmx hC N d d' h2 hro2 T H Q hd.2 h φ a w hg ht hs) fun e a w k => k.mono fun i hi => by simp only [asg, List.mem_append]; exact .inr hi)
    · exact h.elim
  | N, .block id c, nc, hc, hro, T, H, Q, hd, h, φ, a, w, hg, ht, hs => by
    simp only [cCode, Option.map_eq_some_iff] at hc
    obtain ⟨c', h1, rfl⟩ := hc
    refine wpIn_block (wpIn_mono (exec_sound hmx hC N c c' h1 hro T H _ hd h φ a w hg ht hs) ?_)
    rintro e a1 w1 ⟨x, T1, H1, hq, hl1, hag1, rfl, rest⟩
    cases x with
    | normal => exact ⟨_, T1, H1, hq, hl1, hag1, rfl, rest⟩
    | ret => exact ⟨_, T1, H1, hq, hl1, hag1, rfl, rest⟩
    | exit i =>
      simp only [blockK] at hq
      show (if i = id then _ else _)
      by_cases hi : i = id
      · rw [if_pos hi] at hq ⊢
        exact ⟨_, T1, H1, hq, hl1, hag1, rfl, rest⟩
      · rw [if_neg hi] at hq ⊢
        exact ⟨_, T1, H1, hq, hl1, hag1, rfl, rest⟩
  | N, .loop c, nc, hc, hro, T, H, Q, hd, h, φ, a, w, hg, ht, hs => by
    simp only [cCode, Option.map_eq_some_iff] at hc
    obtain ⟨c', h1, rfl⟩ := hc
    obtain ⟨I, ⟨k0, h0⟩, hst⟩ := h
    have hd' : dstOk T.length c' = true := hd
    have key : ∀ (k n : Nat) (T1 : Env) (H1 : AHeap), k < n → T1.length = T.length → (∀ i, i ∉ asg c' → ofL T1 i = ofL T i) → I k (ofL T1) H1 → ∀ (φ : Phi) (a : Act) (w : World), GOk G φ → VRs φ T1 a.tmps.toList → Sim φ H1 w →
        Code.roundsIn (Fr ro) 0 P c (PostQ φ H1 w a.defers T1 (asg c') Q) n a w := by
      intro k n
      induction n generalizing k with
      | zero => intro T1 H1 hk; omega
      | succ n ih =>
        intro T1 H1 hk hl1 hag1 hI φ a w hg ht hs
        rw [roundsIn_succ]
        refine wpIn_mono (exec_sound hmx hC N c c' h1 hro T1 H1 _ (by rw [hl1]; exact hd') (hst k _ _ hag1 hI) φ a w hg ht hs) ?_
        rintro e a1 w1 ⟨x, T2, H2, hq, hl2, hag2, rfl, ms, hds, φ1, ht1, hst1, hm1⟩
        cases x with
        | normal =>
          obtain ⟨k', hk', hI'⟩ := hq
          have := ih k' T2 H2 (by omega) (hl2.trans hl1) (fun i hi => (hag2 i hi).trans (hag1 i hi)) hI' φ1 a1 w1 (hg.mono hst1.le) ht1 hst1.sim
          refine rounds_mono ?_ n a1 w1 this
          intro e2 a2 w2 k2
          exact k2.of_stp hst1 hm1 hds hl2 hag2 fun i hi => hi
        | exit i => exact ⟨_, T2, H2, hq, hl2, hag2, rfl, ms, hds, φ1, ht1, hst1, hm1⟩
        | ret => exact ⟨_, T2, H2, hq, hl2, hag2, rfl, ms, hds, φ1, ht1, hst1, hm1⟩
    exact wpIn_loop_rounds (k0 + 1) (key k0 (k0 + 1) T H (by omega) rfl (fun _ _ => rfl) h0 φ a w hg ht hs)
  | N, .scope c, nc, hc, hro, T, H, Q, hd, h, φ, a, w, hg, ht, hs => by
    simp only [cCode] at hc
    refine wpIn_scope_straight (wpIn_mono (exec_sound hmx hC N c nc hc hro T H Q hd h φ a w hg ht hs) ?_)
    rintro e a1 w1 ⟨x, T1, H1, hq, hl1, hag1, rfl, rest⟩
    cases x <;> exact ⟨_, T1, H1, hq, hl1, hag1, rfl, rest⟩
  | N, .exit id, nc, hc, hro, T, H, Q, hd, h, φ, a, w, hg, ht, hs => by
    simp [cCode] at hc; subst hc
    exact wpIn_exit ⟨_, T, H, h, rfl, fun _ _ => rfl, rfl, [], rfl, φ, ht, .refl hs, .nil⟩
  | N, .ret, nc, hc, hro, T, H, Q, hd, h, φ, a, w, hg, ht, hs => by
    simp [cCode] at hc; subst hc
    exact wpIn_ret ⟨_, T, H, h, rfl, fun _ _ => rfl, rfl, [], rfl, φ, ht, .refl hs, .nil⟩
  | N, .rangeFunc g ps asg body, nc, hc, hro, T, H, Q, hd, h, φ, a, w, hg, ht, hs => by
    have hro : ro = none := hro.resolve_right (by simp [noRange])
    subst hro
    simp only [cCode] at hc
    split at hc
    case h_2 => cases hc; exact h.elim
    rename_i g' h0
    simp only [Option.bind_eq_some_iff, Option.map_eq_some_iff] at hc
    obtain ⟨a', h1, b', h2, rfl⟩ := hc
    have h := h T rfl (of_decide_eq_true hd)
    rw [evF_ofL] at h
    refine wpIn_mono (range_sound hC h0 h hg ht hs) ?_
    rintro e a1 w1 ⟨x, H', hq, k⟩
    exact ⟨x, T, H', hq, rfl, fun _ _ => rfl, k⟩
  | N, .goto l, nc, hc, hro, T, H, Q, hd, h, φ, a, w, hg, ht, hs => by simp [cCode] at hc; subst hc; exact h.elim
  | N, .refuse y, nc, hc, hro, T, H, Q, hd, h, φ, a, w, hg, ht, hs => by simp [cCode] at hc; subst hc; exact h.elim

def resOne (tmps : Array Value) : ResultVar → Sem Value
  | .tmp t => pure (tmps.getD t undef)
  | .cell b t => do loadVar t (← asAddr (tmps.getD b undef))

theorem results_eq (fn : Func) (tmps : Array Value) : results fn tmps = (do
    let vs ← fn.results.mapM (resOne tmps)
    pure (if h : vs.size = 1 then vs[0] else .tuple vs)) := by
  unfold results
  congr 1

theorem resN_sound {φ : Phi} {H : AHeap} {w : World} {T : Env} {a : Act} (ht : VRs φ T a.tmps.toList) (hs : Sim φ H w) : ∀ {rs : List ResultVar} {ns : List NRes} {vs : List Value}, cRes P rs = some ns → resultsN T H ns = some vs →
    ∃ vs', VRs φ vs vs' ∧ (rs.mapM (resOne a.tmps)).run P w = .ok vs' w
  | [], ns, vs, hc, h => by
    simp [cRes] at hc; subst hc
    simp [resultsN] at h; subst h
    exact ⟨[], .nil, rfl⟩
  | .tmp t :: rs, ns, vs, hc, h => by
    simp only [cRes, Option.map_eq_some_iff] at hc
    obtain ⟨ns', h1, rfl⟩ := hc
    simp only [resultsN, resN, Option.bind_some, Option.map_eq_some_iff] at h
    obtain ⟨vs1, h2, rfl⟩ := h
    obtain ⟨vs', h3, h4⟩ := resN_sound ht hs h1 h2
    have hv := ht.getD t (undefR φ)
    refine ⟨a.tmps.getD t undef :: vs', .cons (by simpa [Array.getD_eq_getD_getElem?, List.getD_eq_getElem?_getD] using hv) h3, ?_⟩
    simp only [List.mapM_cons, resOne, Sem.run_bind, Sem.run_pure, Result.andThen_ok, h4]
  | .cell t ty :: rs, ns, vs, hc, h => by
    simp only [cRes] at hc
    split at hc
    case h_2 => cases hc
    rename_i d k hd hk
    simp only [Option.map_eq_some_iff] at hc
    obtain ⟨ns', h1, rfl⟩ := hc
    simp only [resultsN, Option.bind_eq_some_iff, Option.map_eq_some_iff] at h
    obtain ⟨v, hv, vs1, h2, rfl⟩ := h
    obtain ⟨vs', h3, h4⟩ := resN_sound ht hs h1 h2
    have ht' := ht.getD t (undefR φ)
    have ht2 : VR φ (T.getD t undef) (a.tmps.getD t undef) := by simpa [Array.getD_eq_getD_getElem?, List.getD_eq_getElem?_getD] using ht'
    simp only [resN] at hv
    split at hv
    case h_2 => cases hv
    rename_i p hp
    rw [hp] at ht2
    obtain ⟨b, m, o, rfl, hax, hb⟩ : ∃ b m o, p = ⟨b, o, none⟩ ∧ a.tmps.getD t undef = .pointer (some ⟨Emb.blk m, m.sh + o, none⟩) ∧ φ b = some m := by
      generalize a.tmps.getD t undef = y at ht2
      cases ht2 with
      | ptr o hb => exact ⟨_, _, o, rfl, rfl, hb⟩
    have hasA : (asAddr (a.tmps.getD t undef)).run P w = .ok ⟨m.blk, m.sh + o, none⟩ w := by rw [hax]; rfl
    by_cases ha : isAggD d = true
    · rw [if_pos ha] at hv
      simp only [Option.map_eq_some_iff] at hv
      obtain ⟨cs, hrow, rfl⟩ := hv
      obtain ⟨cs', g1, g2, g3⟩ := run_loadVar_rel (P := P) hs hd hk hb (cs := cs) (by rw [if_pos ha]; exact hrow)
      rw [if_pos ha] at g3
      refine ⟨.agg cs'.toArray :: vs', .cons (.agg g1) h3, ?_⟩
      simp only [List.mapM_cons, resOne, Sem.run_bind, hasA, Sem.run_pure, Result.andThen_ok, g3, h4]
    · rw [if_neg ha] at hv
      simp only [Option.bind_eq_some_iff] at hv
      obtain ⟨cs, hrow, h0⟩ := hv
      obtain ⟨cs', g1, g2, g3⟩ := run_loadVar_rel (P := P) hs hd hk hb (cs := cs) (by rw [if_neg ha]; exact hrow)
      rw [if_neg ha] at g3
      obtain ⟨v', g4, g5⟩ := g1.get 0 v h0
      have : cs'.getD 0 undef = v' := by simp [g4]
      rw [this] at g3
      refine ⟨v' :: vs', .cons g5 h3, ?_⟩
      simp only [List.mapM_cons, resOne, Sem.run_bind, hasA, Sem.run_pure, Result.andThen_ok, g3, h4]

theorem resultV_rel {φ : Phi} : ∀ {vs vs' : List Value}, VRs φ vs vs' → VR φ (resultV vs) (if h : vs'.toArray.size = 1 then vs'.toArray[0] else .tuple vs'.toArray)
  | _, _, .nil => .tuple .nil
  | _, _, .cons h .nil => h
  | _, _, .cons h (.cons h2 h3) => .tuple (.cons h (.cons h2 h3))

theorem leaves_marks {fn : Func} {tmps : Array Value} {φ₀ φ : Phi} {H₀ H : AHeap} {w₀ : World} {R : Ending → World → Prop}
    (hres : ∀ w', Stp φ₀ H₀ w₀ φ H w' → ∃ v, (results fn tmps).run P w' = .ok v w' ∧ R (.returned v) w') : ∀ (ms : List Nat) (w : World), Stp φ₀ H₀ w₀ φ H w → MOk φ H w₀ w ms → LeavesInM (Fr none) 0 P fn tmps R (ms.map mark) .returning w
  | [], w, st, _ => hres w st
  | D :: ms, w, st, hm => by
    have hD := hm.at_ D (by simp)
    refine ⟨by simp, .inl ⟨D, _, rfl, run_takeDeferred hD, ?_⟩⟩
    have hnd := List.nodup_cons.1 hm.nodup
    refine leaves_marks hres ms _ (st.putM hD (hm.lo D (by simp))) ⟨hnd.2, fun E hE => hm.lo E (by simp [hE]), fun E hE => ?_, fun E hE => hm.free E (by simp [hE])⟩
    rw [World.putObj_heap_other (by rintro rfl; exact hnd.1 hE)]
    exact hm.at_ E (by simp [hE])

/-! ### functions -/
def resF (T : FEnv) (H : AHeap) : NRes → Option Value
  | .tmp t => some (T t)
  | .cell t n => match T t with
    | .pointer (some p) => match n with
      | none => (H.row p.block p.off 1).bind fun cs => cs[0]?
      | some k => (H.row p.block p.off k).map fun cs => .agg ⟨cs⟩
    | _ => none
def resultsF (T : FEnv) (H : AHeap) : List NRes → Option (List Value)
  | [] => some []
  | r :: rs => (resF T H r).bind fun v => (resultsF T H rs).map (v :: ·)

theorem resultsF_ofL (l : Env) (H : AHeap) : ∀ rs, resultsF (ofL l) H rs = resultsN l H rs
  | [] => rfl
  | r :: rs => by
    simp only [resultsF, resultsN, resultsF_ofL l H rs]
    have : resF (ofL l) H r = resN l H r := by cases r <;> rfl
    rw [this]

def retK (rs : List NRes) (R : Value → AHeap → Prop) : Post := fun x T H => match x with
  | .exit _ => False
  | _ => ∃ vs, resultsF T H rs = some vs ∧ R (resultV vs) H

def enterN (g : NFunc) (args : List Value) : Env := args ++ List.replicate (g.ntmps - args.length) undef
def entF (args : List Value) : FEnv := fun i => args.getD i undef
theorem ofL_enter (g : NFunc) (args : List Value) : ofL (enterN g args) = entF args := by
  funext i
  simp only [ofL, enterN, entF, List.getD_eq_getElem?_getD]
  by_cases h : i < args.length
  · rw [List.getElem?_append_left h]
  · rw [List.getElem?_append_right (by omega), List.getElem?_eq_none (l := args) (by omega)]
    simp only [List.getElem?_replicate]
    split <;> rfl

theorem body_sound (hmx : P.follows .mixedOrders = true) {C : Callees} (hC : CalleesOk P G C) {f : Nat} {g : NFunc} (hN : (cProg P G).fn f = some g) {args : List Value} {H : AHeap} {R : Value → AHeap → Prop} (ha : args.length ≤ g.ntmps) (hd : dstOk g.ntmps g.body = true)
    (h : wp C g.body (entF args) H (retK g.results R)) {φ : Phi} {args' : List Value} {w : World} (hg : GOk G φ) (hargs : VRs φ args args') (hs : Sim φ H w) :
    FidOk P (GivesR φ H w R) φ args'.toArray w (.fn f) := by
  rw [← ofL_enter g] at h
  have hlenE : (enterN g args).length = g.ntmps := by simp only [enterN, List.length_append, List.length_replicate]; omega
  rw [← hlenE] at hd
  simp only [cProg, Option.bind_eq_some_iff] at hN
  obtain ⟨fn, hfn, hcf⟩ := hN
  unfold cFunc at hcf
  split at hcf
  · cases hcf
  rename_i c hbody
  split at hcf
  · cases hcf
  rename_i hname
  simp only [Option.bind_eq_some_iff, Option.map_eq_some_iff] at hcf
  obtain ⟨b, hb, rs, hrs, rfl⟩ := hcf
  refine ⟨⟨fn, hfn, by rw [hbody]; rfl, hname⟩, ?_⟩
  have hlen := hargs.length
  have ht0 : VRs φ (enterN ⟨fn.ntmps, rs, b⟩ args) (args'.toArray ++ Array.replicate (fn.ntmps - args'.toArray.size) undef).toList := by
    simp only [enterN, Array.toList_append, Array.toList_replicate, List.size_toArray, ← hlen]
    exact hargs.append (VRs.replicate (undefR φ) _)
  refine (callsIn_wide (n := 0)).1 (callsIn_of_wp_marks (F := Fr none) hfn hbody trivial ?_)
  refine wpIn_mono (exec_sound hmx hC (ro := none) fn.ntmps c b hb (.inl rfl) _ H _ hd h φ _ w hg ht0 hs) ?_
  rintro e a' w' ⟨x, T, H1, hq, _, _, rfl, ms, hds, φ', ht', hst, hm⟩
  have hret : ∃ vs, resultsN T H1 rs = some vs ∧ R (resultV vs) H1 ∧ (x = .normal ∨ x = .ret) := by
    cases x with
    | exit i => exact hq.elim
    | normal => obtain ⟨vs, h1, h2⟩ := hq; rw [resultsF_ofL] at h1; exact ⟨vs, h1, h2, .inl rfl⟩
    | ret => obtain ⟨vs, h1, h2⟩ := hq; rw [resultsF_ofL] at h1; exact ⟨vs, h1, h2, .inr rfl⟩
  obtain ⟨vs, hv, hR, hx⟩ := hret
  have hl := leaves_marks (P := P) (fn := fn) (tmps := a'.tmps) (R := GivesR φ H w R) (fun w2 st2 => by
    obtain ⟨vs', h1, h2⟩ := resN_sound ht' st2.sim hrs hv
    refine ⟨if h : vs'.toArray.size = 1 then vs'.toArray[0] else .tuple vs'.toArray, ?_, _, _, hR, φ', _, rfl, resultV_rel h1, st2⟩
    rw [results_eq, Array.mapM_eq_mapM_toList]
    simp only [Sem.run_bind, Sem.run_map]
    rw [h2]
    rfl) ms w' hst hm
  have hds' : a'.defers = ms.map mark := by rw [hds]; simp
  rcases hx with rfl | rfl
  · show LeavesInM _ _ _ _ _ _ a'.defers _ _
    rw [hds']; exact hl
  · show LeavesInM _ _ _ _ _ _ a'.defers _ _
    rw [hds']; exact hl

def overF (T : FEnv) : List Nat → List Value → FEnv
  | p :: ps, v :: vs => overF (upd T p v) ps vs
  | _, _ => T

theorem ofL_over : ∀ (ps : List Nat) (vs : List Value) (l : Env), (ps.all fun p => decide (p < l.length)) = true → ofL (overL l ps vs) = overF (ofL l) ps vs ∧ (overL l ps vs).length = l.length
  | [], _, _, _ => by simp [overL, overF]
  | p :: ps, [], _, _ => by simp [overL, overF]
  | p :: ps, v :: vs, l, h => by
    simp only [List.all_cons, Bool.and_eq_true, decide_eq_true_eq] at h
    simp only [overL, overF]
    obtain ⟨h1, h2⟩ := ofL_over ps vs (l.set p v) (by simpa using h.2)
    exact ⟨by rw [h1, ofL_set h.1], by rw [h2, List.length_set]⟩

def BodyG (b : Nat) (R : Value → AHeap → Prop) : Post := fun x _ H3 => ∃ pend l ps asg body, H3.get b = .loop .busy pend l ps asg body ∧ R (.bool x.fin) (H3.set b (.loop (endSt x) x.jmp l ps asg body))
def AssignG (C : Callees) (b : Nat) (cb : NCode) (R : Value → AHeap → Prop) : Post := fun x T1 H1 =>
  x = .normal ∧ ∃ pend l ps asg body, H1.get b = .loop .ready pend l ps asg body ∧ wp C cb T1 (H1.set b (.loop .busy pend l ps asg body)) (BodyG b R)

theorem overL_rel {φ : Phi} : ∀ (ps : List Nat) (vs vs' : List Value) (T : Env) (T' : Array Value), VRs φ vs vs' → VRs φ T T'.toList → VRs φ (overL T ps vs) ((ps.toArray.zip vs'.toArray).foldl (fun t (p, v) => t.setIfInBounds p v) T').toList
  | [], _, _, T, T', _, h => by
    rw [List.zip_toArray, List.foldl_toArray]
    simpa [overL] using h
  | p :: ps, _, _, T, T', .nil, h => by
    rw [List.zip_toArray, List.foldl_toArray]
    simpa [overL] using h
  | p :: ps, _, _, T, T', .cons hv hvs, h => by
    rw [List.zip_toArray, List.foldl_toArray]
    simp only [overL, List.zip_cons_cons, List.foldl_cons]
    have := overL_rel ps _ _ _ (T'.setIfInBounds p _) hvs (by simpa using h.set p hv)
    rw [List.zip_toArray, List.foldl_toArray] at this
    exact this

theorem round_sound (hmx : P.follows .mixedOrders = true) {C : Callees} (hC : CalleesOk P G C) {b : Nat} {args : List Value} {H : AHeap} {l : Env} {ps : List Nat} {asg0 body0 : Code} {pend0 : Option Jmp} {ca cb : NCode} {R : Value → AHeap → Prop}
    (hget : H.get b = .loop .ready pend0 l ps asg0 body0) (hca : (cProg P G).code asg0 = some ca) (hcb : (cProg P G).code body0 = some cb) (hlen : args.length = ps.length) (hd : (dstOk l.length ca && dstOk l.length cb && ps.all fun p => decide (p < l.length)) = true)
    (h : wp C ca (overF (ofL l) ps args) H (AssignG C b cb R)) {φ : Phi} {args' : List Value} {w : World} (hg : GOk G φ) (hargs : VRs φ args args') (hs : Sim φ H w) :
    FidOk P (GivesR φ H w R) φ args'.toArray w (.yield b) := by
  intro m hb
  simp only [Bool.and_eq_true, List.all_eq_true, decide_eq_true_eq] at hd
  obtain ⟨⟨hd1, hd2⟩, hd3⟩ := hd
  obtain ⟨ho1, ho2⟩ := ofL_over ps args l (by simp only [List.all_eq_true, decide_eq_true_eq]; exact hd3)
  rw [← ho1] at h
  simp only [cProg] at hca hcb
  split at hca
  case isFalse => cases hca
  rename_i hna
  split at hcb
  case isFalse => cases hcb
  rename_i hnb
  have hob := hs.obj b m hb
  rw [hget] at hob
  obtain ⟨hsh, r, hl, hst, hpe, hT, hps, hasg, hbody⟩ := hob
  have hsz : args'.toArray.size = r.params.size := by
    have := hargs.length
    rw [List.size_toArray, ← this, hlen, ← hps, Array.length_toList]
  refine ⟨r.fn, _, r.assign, r.body, run_yield hl hsz, ?_⟩
  have ht0 : VRs φ (overL l ps args) ((r.params.zip args'.toArray).foldl (fun t (p, v) => t.setIfInBounds p v) r.tmps).toList := by
    have := overL_rel ps args args' l r.tmps hargs hT
    rw [← hps] at this ⊢
    simpa using this
  rw [hasg, hbody]
  refine roundIn_of_wpIn (F := Fence.wide) trivial ?_
  refine wpIn_mono (exec_sound hmx hC (ro := some m.blk) 0 asg0 ca hca (.inr hna) _ H _ (by rw [ho2]; exact hd1) h φ { tmps := _, defers := [] } w hg ht0 hs) ?_
  rintro e a1 w1 ⟨x1, T1, H1, ⟨rfl, pend1, l1, ps1, asg1, body1, hget1, h1⟩, hlT1, _, rfl, ms1, hds1, φ1, ht1, st1, _⟩
  have hb1 := st1.le _ _ hb
  have hob1 := st1.sim.obj b m hb1
  rw [hget1] at hob1
  obtain ⟨_, r1, hl1, hst1, hpe1, hT1, hps1, hasg1, hbody1⟩ := hob1
  refine ⟨_, run_beginRound hl1 hst1, ?_⟩
  have hlt1 := (Array.getElem?_eq_some_iff.1 hl1).1
  have st2 : Stp φ1 H1 w1 φ1 (H1.set b (.loop .busy pend1 l1 ps1 asg1 body1)) (w1.putObj m.blk (.loop { r1 with state := .busy })) :=
    Stp.put' st1.sim hb1 (by rw [hget1]; rfl) ⟨hsh, _, World.putObj_heap_same hlt1, rfl, hpe1, hT1, hps1, hasg1, hbody1⟩ rfl rfl rfl (by simp) (fun k hk => World.putObj_heap_other hk)
  have st12 := st1.trans st2
  refine wpIn_mono (exec_sound hmx hC (ro := some m.blk) 0 body0 cb hcb (.inr hnb) _ _ _ (by rw [hlT1, ho2]; exact hd2) h1 φ1 a1 _ (hg.mono st1.le) ht1 st2.sim) ?_
  rintro e a3 w3 ⟨x, T3, H3, ⟨pend3, l3, ps3, asg3, body3, hget3, hR⟩, _, _, rfl, ms3, _, φ3, ht3, st3, _⟩
  have hb3 := st3.le _ _ hb1
  have hob3 := st3.sim.obj b m hb3
  rw [hget3] at hob3
  obtain ⟨_, r3, hl3, hst3, hpe3, hT3, hps3, hasg3, hbody3⟩ := hob3
  have hlt3 := (Array.getElem?_eq_some_iff.1 hl3).1
  have fin : (Instr.endRound m.blk (x.jmp.map Jmp.code)).run P w3 = .ok (.bool x.fin) (w3.putObj m.blk (.loop { r3 with state := endSt x, pending := x.jmp.map Jmp.code })) := by
    rw [run_endRound _ hl3]
    cases x <;> rfl
  have st4 : Stp φ3 H3 w3 φ3 (H3.set b (.loop (endSt x) x.jmp l3 ps3 asg3 body3)) (w3.putObj m.blk (.loop { r3 with state := endSt x, pending := x.jmp.map Jmp.code })) :=
    Stp.put' st3.sim hb3 (by rw [hget3]; rfl) ⟨hsh, _, World.putObj_heap_same hlt3, rfl, rfl, hT3, hps3, hasg3, hbody3⟩ rfl rfl rfl (by simp) (fun k hk => World.putObj_heap_other hk)
  have hall := (st12.trans st3).trans st4
  cases x with
  | normal => exact ⟨_, _, fin, _, _, hR, φ3, _, rfl, .bool _, hall⟩
  | ret => exact ⟨_, _, fin, _, _, hR, φ3, _, rfl, .bool _, hall⟩
  | exit i => exact ⟨_, _, fin, _, _, hR, φ3, _, rfl, .bool _, hall⟩


end Go.E
