/-
  THE EVALUATOR, PART R: regions that draw their order: the theorem.
-/
import Derived.Test.YtamcfhhcmjagnaaEhQ
set_option linter.unusedSimpArgs false
set_option linter.unusedVariables false
namespace Go.E
open Go
variable {P : Program} {G : Nat}
section draw
variable {C : Callee} {ops : Array Oper} {pi : List Nat} {dirs : List (List Nat)} {ns : List NOper} {S : Nat → Env × AHeap}
variable (hS : ∀ (i : Nat) o, ns[i]? = some o → stepN C o (S i).1 (S i).2 = some (S (i + 1)))
theorem wanted_congr {T T' : Env} {o : NOper} (h : ∀ t ∈ o.looks, T[t]? = T'[t]?) : wantedN o.guard T = wantedN o.guard T' := by
  cases hg : o.guard with
  | none => rfl
  | some g =>
    obtain ⟨d, b⟩ := g
    have := h d (by simp [NOper.looks, hg])
    simp only [wantedN, this]

theorem eop_looks {T T' : Env} {o : NOper} (H : AHeap) (h : ∀ t ∈ o.looks, T[t]? = T'[t]?) : eop o.op T H = eop o.op T' H :=
  eop_congr H fun t ht => by
    have := h t (by simp [NOper.looks, ht])
    simp [List.getD_eq_getElem?_getD, this]

theorem stepN_congr {C : Callee} {T T' T'' : Env} {o : NOper} {H H' : AHeap} (h : ∀ t ∈ o.looks, T[t]? = T'[t]?) (hs : stepN C o T' H = some (T'', H')) : ∃ v, T'' = put T' o.dst v ∧ stepN C o T H = some (put T o.dst v, H') := by
  unfold stepN at hs ⊢
  rw [wanted_congr h, eop_looks H h]
  split at hs
  · rename_i hw
    rw [if_pos hw]
    split at hs
    · cases hs; exact ⟨_, rfl, rfl⟩
    · simp only [Option.map_eq_some_iff] at hs
      obtain ⟨⟨v, H2⟩, h1, heq⟩ := hs
      cases heq
      exact ⟨v, rfl, by simp [h1]⟩
    · cases hs
  · rename_i hw
    rw [if_neg hw]
    cases hs; exact ⟨_, rfl, rfl⟩

theorem acts_lt {ns : List NOper} {i j q r : Nat} (hi : (actives 0 ns)[i]? = some q) (hj : (actives 0 ns)[j]? = some r) (h : i < j) : q < r := by
  have hs := List.pairwise_iff_getElem.1 (actives_sorted ns 0)
  obtain ⟨h1, rfl⟩ := List.getElem?_eq_some_iff.1 hi
  obtain ⟨h2, rfl⟩ := List.getElem?_eq_some_iff.1 hj
  exact hs i j h1 h2 h

theorem act_at {ns : List NOper} {q : Nat} (h : q ∈ actives 0 ns) : ∃ o, ns[q]? = some o ∧ o.op.kind = .active := by
  obtain ⟨j, o, rfl, h2, h3⟩ := (actives_mem ns 0 q).1 h
  exact ⟨o, by simpa using h2, h3⟩

theorem mem_act {ns : List NOper} {q : Nat} {o : NOper} (h : ns[q]? = some o) (hk : o.op.kind = .active) : q ∈ actives 0 ns :=
  (actives_mem ns 0 q).2 ⟨q, o, by simp, h, hk⟩

theorem between {ns : List NOper} {k i : Nat} {o : NOper} (hlo : ∀ j q, (actives 0 ns)[j]? = some q → j < k → q < i) (hhi : i < nextA ns k) (ho : ns[i]? = some o) : o.op.kind ≠ .active := by
  intro hk
  obtain ⟨j, hj⟩ := List.getElem?_of_mem (mem_act ho hk)
  by_cases h : j < k
  · have := hlo j i hj h; omega
  · have hk2 : nextA ns k ≤ i := by
      unfold nextA
      rw [List.getD_eq_getElem?_getD]
      have hjl : j < (actives 0 ns).length := (List.getElem?_eq_some_iff.1 hj).1
      obtain ⟨q, hq⟩ : ∃ q, (actives 0 ns)[k]? = some q := ⟨(actives 0 ns)[k]'(by omega), by simp⟩
      rw [hq]
      by_cases e : j = k
      · subst e; rw [hq] at hj; cases hj; simp
      · have := acts_lt hq hj (by omega); simp; omega
    omega

include hS
theorem inv_step (F : Facts P G ops pi dirs ns) (hC : CalleeOk P G C) {ro : Option Nat}
    (hread : ∀ r o k, ns[r]? = some o → o.op.kind = .read → wantedN o.guard (S r).1 = true → k ≤ (actives 0 ns).length → (∀ j q, (actives 0 ns)[j]? = some q → k ≤ j → q ∉ (closeDeps [] dirs).getD r []) → (∀ j q, (actives 0 ns)[j]? = some q → j < k → r ∉ (closeDeps [] dirs).getD q []) →
      ∃ d v H1, o.dst = some d ∧ eop o.op (S r).1 (S (nextA ns k)).2 = some (.val v H1) ∧ v = (S ns.length).1.getD d undef)
    {φ₀ : Phi} {w₀ : World} {ds : List Deferred} {D D' : Nat → Bool} {k : Nat} {φ : Phi} {a : Act} {w : World} (I : Inv P G ops pi dirs ns S φ₀ w₀ ds D k φ a w)
    {r : Nat} {oper : Oper} {o : NOper} (hop : ops[pi.getD r ops.size]? = some oper) (ho : ns[r]? = some o) (hco : cOper P G ops oper = some o) (hD : D r = false) (hdir : ∀ s ∈ dirs.getD r [], D s = true)
    (hD' : ∀ s, D' s = (D s || decide (s = r))) {next : Act → World → Prop} {Q : Exit → Act → World → Prop}
    (hk : ∀ k' φ' a' w', Inv P G ops pi dirs ns S φ₀ w₀ ds D' k' φ' a' w' → next a' w') :
    if Region.wanted oper (yielded ops a.tmps) then oper.wpIn (Fr ro) 0 P a w next Q else (∀ f, oper.about P w a.eval = some f → (Fr ro).fn f) ∧ next (a.put oper.dst undef) w := by
  have hr : r < ns.length := (List.getElem?_eq_some_iff.1 ho).1
  have hro : r < ops.size := by rw [← F.hns]; exact hr
  have hgo : ns.getD r default = o := by simp [List.getD_eq_getElem?_getD, ho]
  have hcl := deps_closed F I.clo I.out
  have hclo' : ∀ x, x < ns.length → D' x = true → ∀ s ∈ dirs.getD x [], D' s = true := by
    intro x hx hDx s hs
    rw [hD'] at hDx ⊢
    simp only [Bool.or_eq_true, decide_eq_true_eq] at hDx ⊢
    rcases hDx with h | h
    · exact .inl (I.clo x hx h s hs)
    · subst h; exact .inl (hdir s hs)
  have hout' : ∀ x, ns.length ≤ x → D' x = false := by
    intro x hx
    rw [hD', I.out x hx]; simp; omega
  have hcl' := deps_closed F hclo' hout'
  have hdeps : ∀ s ∈ (closeDeps [] dirs).getD r [], D s = true := by
    intro s hs
    have h1 := hcl' r (by rw [hD']; simp) s hs
    have h2 := deps_lt F r s hs
    rw [hD'] at h1
    simp only [Bool.or_eq_true, decide_eq_true_eq] at h1
    rcases h1 with h1 | h1
    · exact h1
    · omega
  have hag := looks_agree hS F hcl I.out ho hD hdeps
  obtain ⟨T, hT⟩ : ∃ T, T = TD ns (S 0).1 (S ns.length).1 D := ⟨_, rfl⟩
  rw [← hT] at hag
  have hTl : T.length = (S 0).1.length := by rw [hT, TD_length]
  have hTD' : TD ns (S 0).1 (S ns.length).1 D' = put T o.dst (tfv (S ns.length).1 o.dst) := by
    rw [hT]; exact TD_step ho (fun s _ => hD' s)
  obtain ⟨v, hv1', hstep'⟩ := stepN_congr hag (show stepN C o (S r).1 (S r).2 = some ((S (r + 1)).1, (S (r + 1)).2) from hS r o ho)
  have hput := tf_val hS F ho hv1' hTl
  rw [hput] at hTD'
  have henv : VRs φ T a.tmps.toList := by rw [hT]; exact I.env
  by_cases hka : o.op.kind = .active
  · -- an active operation: the next one
    obtain ⟨j, hj⟩ := List.getElem?_of_mem (mem_act ho hka)
    have hjk : j = k := by
      have h1 : ¬ j < k := fun h => by have := (I.act j r hj).2 h; rw [hD] at this; cases this
      rcases Nat.lt_or_ge k j with h | h
      · obtain ⟨q, hq⟩ : ∃ q, (actives 0 ns)[k]? = some q := ⟨(actives 0 ns)[k]'(by have := (List.getElem?_eq_some_iff.1 hj).1; omega), by simp⟩
        have hlt := acts_lt hq hj h
        have := F.chain q (List.mem_of_getElem? hq) r (List.mem_of_getElem? hj) hlt
        have := (I.act k q hq).1 (hdeps q this)
        omega
      · omega
    subst hjk
    have hnext : nextA ns j = r := by simp [nextA, List.getD_eq_getElem?_getD, hj]
    have hst := I.stp
    rw [hnext] at hst
    refine stepN_sound hC (φ₀ := φ) (H₀ := (S r).2) (w₀ := w) hco hstep' I.gok henv (.refl hst.sim) (fun φ' a' w' hg' he' hs' hd' => ?_)
    have hst' := hst.trans hs'
    have hjl : j < (actives 0 ns).length := (List.getElem?_eq_some_iff.1 hj).1
    -- the evaluator's own blocks up to the next active operation
    obtain ⟨m, hm⟩ : ∃ m, nextA ns (j + 1) = r + 1 + m := by
      have : r + 1 ≤ nextA ns (j + 1) := by
        unfold nextA
        rw [List.getD_eq_getElem?_getD]
        cases hq : (actives 0 ns)[j + 1]? with
        | none => simp; omega
        | some q => have := acts_lt hj hq (by omega); simp; omega
      exact ⟨nextA ns (j + 1) - (r + 1), by omega⟩
    have hmono0 : ∀ i i', i ≤ i' → i' ≤ r + 1 → (S i).2.next ≤ (S i').2.next := by
      intro i i' h1 h2
      by_cases e : i' = r + 1
      · subst e
        by_cases e2 : i = r + 1
        · subst e2; exact Nat.le_refl _
        · exact Nat.le_trans (I.mono i r (by omega) (by rw [hnext]; exact Nat.le_refl _)) hs'.next
      · exact I.mono i i' h1 (by rw [hnext]; omega)
    have hpend0 : ∀ x o', ns[x]? = some o' → x < r + 1 → D' x = false → o'.op.kind = .alloc → wantedN o'.guard (S x).1 = true → ∀ obj, (S (x + 1)).2 = (S x).2.add obj → φ' (S x).2.next = none ∧ (S (r + 1)).2.get (S x).2.next = obj := by
      intro x o' hx hxr hDx hka' hw' obj hobj
      have hxne : x ≠ r := by intro e; subst e; rw [ho] at hx; cases hx; rw [hka] at hka'; cases hka'
      have hDx' : D x = false := by
        rw [hD'] at hDx; simp only [Bool.or_eq_false_iff] at hDx; exact hDx.1
      obtain ⟨g1, g2⟩ := I.pend x o' hx (by rw [hnext]; omega) hDx' hka' hw' obj hobj
      rw [hnext] at g2
      have hb : (S x).2.next < (S r).2.next := by
        have := I.mono (x + 1) r (by omega) (by rw [hnext]; exact Nat.le_refl _)
        rw [hobj] at this
        simp only [AHeap.next_add] at this
        omega
      obtain ⟨g3, g4⟩ := hs'.unmapped _ hb g1
      exact ⟨g4, g3.trans g2⟩
    obtain ⟨q1, q2, q3⟩ := grow hS hst' hmono0 hpend0 m (by have := nextA_le ns (j + 1); omega) (fun i o' h1 h2 h3 =>
      between (k := j + 1) (fun j' q' hq' hj' => by
        by_cases e : j' = j
        · subst e; rw [hj] at hq'; cases hq'; omega
        · have := acts_lt hq' hj (by omega); omega) (by omega) h3)
    rw [← hm] at q1 q2 q3
    refine hk (j + 1) φ' a' w' ⟨hg', by rw [hTD']; exact he', q1, hd'.trans I.defs, ?_, hjl, hclo', hout', q2, q3⟩
    intro j' q' hq'
    rw [hD']
    simp only [Bool.or_eq_true, decide_eq_true_eq]
    constructor
    · rintro (h | h)
      · have := (I.act j' q' hq').1 h; omega
      · subst h
        have : j' = j := by
          rcases Nat.lt_trichotomy j' j with h | h | h
          · have := acts_lt hq' hj h; omega
          · exact h
          · have := acts_lt hj hq' h; omega
        omega
    · intro h
      by_cases e : j' = j
      · subst e; rw [hj] at hq'; cases hq'; exact .inr rfl
      · exact .inl ((I.act j' q' hq').2 (by omega))
  · -- any other one
    have hrn : r < nextA ns k := by
      unfold nextA
      rw [List.getD_eq_getElem?_getD]
      cases hq : (actives 0 ns)[k]? with
      | none => simp; omega
      | some q =>
        simp only [Option.getD_some]
        rcases Nat.lt_or_ge q r with h | h
        · have := F.early r hro (by rw [hgo]; exact hka) q (List.mem_of_getElem? hq) h
          have := (I.act k q hq).1 (hdeps q this)
          omega
        · rcases Nat.lt_or_eq_of_le h with h | h
          · exact h
          · subst h
            obtain ⟨o', h1, h2⟩ := act_at (List.mem_of_getElem? hq)
            rw [ho] at h1; cases h1; exact absurd h2 hka
    have hact' : ∀ (j q : Nat), (actives 0 ns)[j]? = some q → (D' q = true ↔ j < k) := by
      intro j q hq
      rw [hD']
      have hne : q ≠ r := by
        intro e; subst e
        obtain ⟨o', h1, h2⟩ := act_at (List.mem_of_getElem? hq)
        rw [ho] at h1; cases h1; exact hka h2
      simp only [Bool.or_eq_true, decide_eq_true_eq, hne, or_false]
      exact I.act j q hq
    have hpendD : ∀ {φ' : Phi}, (∀ b, b < (S (nextA ns k)).2.next → φ b = none → (∀ x o', ns[x]? = some o' → x ≠ r → x < nextA ns k → o'.op.kind = .alloc → wantedN o'.guard (S x).1 = true → ∀ obj, (S (x + 1)).2 = (S x).2.add obj → b = (S x).2.next → φ' b = none)) →
        ∀ x o', ns[x]? = some o' → x < nextA ns k → D' x = false → o'.op.kind = .alloc → wantedN o'.guard (S x).1 = true → ∀ obj, (S (x + 1)).2 = (S x).2.add obj → φ' (S x).2.next = none ∧ (S (nextA ns k)).2.get (S x).2.next = obj := by
      intro φ' hφ x o' hx hxr hDx hka' hw' obj hobj
      rw [hD'] at hDx
      simp only [Bool.or_eq_false_iff, decide_eq_false_iff_not] at hDx
      obtain ⟨g1, g2⟩ := I.pend x o' hx hxr hDx.1 hka' hw' obj hobj
      have hb : (S x).2.next < (S (nextA ns k)).2.next := by
        have := I.mono (x + 1) (nextA ns k) (by omega) (Nat.le_refl _)
        rw [hobj] at this
        simp only [AHeap.next_add] at this
        omega
      exact ⟨hφ _ hb g1 x o' hx hDx.2 hxr hka' hw' obj hobj rfl, g2⟩
    obtain ⟨hw, hd, hcop⟩ := wanted_rel (P := P) henv hco
    have hwS : wantedN o.guard T = wantedN o.guard (S r).1 := wanted_congr hag
    rw [hw]
    split
    · rename_i hwt
      have hstep2 := hstep'
      unfold stepN at hstep2
      rw [if_pos hwt] at hstep2
      -- the operation's result, at the heap as it is now
      have fin : ∀ (u : Value) (H1 : AHeap), eop o.op T (S (nextA ns k)).2 = some (.val u H1) → H1 = (S (nextA ns k)).2 → put T o.dst u = put T o.dst v → oper.wpIn (Fr ro) 0 P a w next Q := by
        intro u H1 he hH hu
        subst hH
        obtain ⟨nx, w', φ', v', h1, h2, h3, h4⟩ := cOp_sound (P := P) I.gok henv I.stp.sim hcop he
        have hres : Inv P G ops pi dirs ns S φ₀ w₀ ds D' k φ' (a.put oper.dst v') w' := by
          refine ⟨I.gok.mono h4.le, ?_, I.stp.trans h4, (put_defers _ _ _).trans I.defs, hact', I.kle, hclo', hout', I.mono, hpendD (fun b hb hn x o' _ _ _ _ _ obj _ _ => (h4.unmapped b hb hn).2)⟩
          rw [hTD', ← hu]
          have := put_rel (henv.mono h4.le) o.dst h3
          rw [hd] at this ⊢
          exact this
        refine wpIn_of_run (cOp_nodefer hcop) ?_
        rw [h1]
        rcases h2 with rfl | ⟨rfl, rfl⟩
        · exact hk k φ' _ w' hres
        · exact hk k φ' _ w' hres
      cases hkd : o.op.kind with
      | active => exact absurd hkd hka
      | pure =>
        split at hstep2
        · rename_i u H1 he
          obtain ⟨u', h1, h2⟩ := eop_pure hkd he
          cases h1
          have hpt : put T o.dst u = put T o.dst v := by
            have := congrArg (fun x => Option.map Prod.fst x) hstep2
            simpa using this
          exact fin u _ (h2 _) rfl hpt
        · rename_i f args H1 he
          obtain ⟨u', h1, h2⟩ := eop_pure hkd he
          cases h1
        · cases hstep2
      | read =>
        have hkeep : ∀ j q, (actives 0 ns)[j]? = some q → k ≤ j → q ∉ (closeDeps [] dirs).getD r [] := by
          intro j q hq hj hmem
          have := (I.act j q hq).1 (hdeps q hmem)
          omega
        have hkeep2 : ∀ j q, (actives 0 ns)[j]? = some q → j < k → r ∉ (closeDeps [] dirs).getD q [] := by
          intro j q hq hj hmem
          have := hcl q ((I.act j q hq).2 hj) r hmem
          rw [hD] at this; cases this
        obtain ⟨d, u, H1, h1, h2, h3⟩ := hread r o k ho hkd (by rw [← hwS]; exact hwt) I.kle hkeep hkeep2
        rw [← eop_looks _ hag] at h2
        obtain ⟨u', h4⟩ := eop_read hkd h2
        cases h4
        refine fin u _ h2 rfl ?_
        rw [← hput, h1, h3]; rfl
      | alloc =>
        split at hstep2
        · rename_i u H1 he
          have hal := eop_alloc (P := P) I.gok henv hcop hkd he w
          obtain ⟨vf, obj, h1, m, ob, v', hm, hrun, hall⟩ := hal
          cases h1
          have hH : (S (r + 1)).2 = (S r).2.add obj := by
            have := congrArg (fun x => Option.map Prod.snd x) hstep2
            simp at this
            exact this.symm
          have hpt : put T o.dst (vf (S r).2.next) = put T o.dst v := by
            have := congrArg (fun x => Option.map Prod.fst x) hstep2
            simpa using this
          obtain ⟨g1, g2⟩ := I.pend r o ho hrn hD hkd (by rw [← hwS]; exact hwt) obj hH
          have hbn : (S r).2.next < (S (nextA ns k)).2.next := by
            have := I.mono (r + 1) (nextA ns k) (by omega) (Nat.le_refl _)
            rw [hH] at this
            simp only [AHeap.next_add] at this
            omega
          have hb0 : (S 0).2.next ≤ (S r).2.next := I.mono 0 r (Nat.zero_le _) (by omega)
          obtain ⟨k1, k2⟩ := hall (S r).2.next (φ.add (S r).2.next m) (Phi.add_le g1) (Phi.add_self _ _ _)
          have hbd := Stp.bind I.stp hb0 hbn g1 g2 hm k1
          refine wpIn_of_run (cOp_nodefer hcop) ?_
          rw [hrun]
          refine hk k (φ.add (S r).2.next m) _ _ ⟨I.gok.mono (Phi.add_le g1), ?_, hbd, (put_defers _ _ _).trans I.defs, hact', I.kle, hclo', hout', I.mono, hpendD ?_⟩
          · rw [hTD', ← hpt]
            have := put_rel (henv.mono (Phi.add_le g1)) o.dst k2
            rw [hd] at this ⊢
            exact this
          · intro b hb hn x o' hx hxr hxn hkx hwx obj' hobj' hbx
            subst hbx
            unfold Phi.add
            rw [if_neg, hn]
            -- two new blocks of the evaluator's are two numbers
            intro e
            rcases Nat.lt_trichotomy x r with h | h | h
            · have := I.mono (x + 1) r (by omega) (by omega)
              rw [hobj'] at this
              simp only [AHeap.next_add] at this
              omega
            · exact hxr h
            · have := I.mono (r + 1) x (by omega) (by omega)
              rw [hH] at this
              simp only [AHeap.next_add] at this
              omega
        · rename_i f args H1 he
          obtain ⟨u', obj, h1⟩ := eop_alloc_heap hkd he
          cases h1
        · cases hstep2
    · rename_i hwt
      have hstep2 := hstep'
      unfold stepN at hstep2
      rw [if_neg hwt] at hstep2
      have hpt : put T o.dst undef = put T o.dst v := by
        have := congrArg (fun x => Option.map Prod.fst x) hstep2
        simpa using this
      refine ⟨fun _ _ => trivial, hk k φ _ w ⟨I.gok, ?_, I.stp, (put_defers _ _ _).trans I.defs, hact', I.kle, hclo', hout', I.mono, hpendD (fun b hb hn x o' _ _ _ _ _ obj _ _ => hn)⟩⟩
      rw [hTD', ← hpt]
      have := put_rel henv o.dst (undefR φ)
      rw [hd] at this ⊢
      exact this

def undone (n : Nat) (D : Nat → Bool) : Nat := ((List.range n).filter fun r => !D r).length

omit hS in
theorem undone_zero {n : Nat} {D : Nat → Bool} (h : undone n D = 0) : ∀ r, r < n → D r = true := by
  intro r hr
  unfold undone at h
  have := List.eq_nil_of_length_eq_zero h
  cases hD : D r with
  | true => rfl
  | false =>
    have : r ∈ (List.range n).filter fun r => !D r := List.mem_filter.2 ⟨List.mem_range.2 hr, by simp [hD]⟩
    rw [List.eq_nil_of_length_eq_zero h] at this
    cases this

omit hS in
theorem undone_step {n r : Nat} {D D' : Nat → Bool} (hr : r < n) (hD : D r = false) (hD' : ∀ s, D' s = (D s || decide (s = r))) : undone n D = undone n D' + 1 := by
  unfold undone
  rw [← List.countP_eq_length_filter, ← List.countP_eq_length_filter]
  induction n with
  | zero => omega
  | succ n ih =>
    simp only [List.range_succ, List.countP_append, List.countP_singleton]
    by_cases e : r = n
    · subst e
      have : List.countP (fun r => !D' r) (List.range r) = List.countP (fun r => !D r) (List.range r) := by
        apply List.countP_congr
        intro s hs
        have := List.mem_range.1 hs
        rw [hD']
        have : s ≠ r := by omega
        simp [this]
      rw [this, hD', hD]
      simp
    · have := ih (by omega)
      rw [this, hD' n]
      have : n ≠ r := fun h => e h.symm
      simp [this]
      omega

theorem draw_any (F : Facts P G ops pi dirs ns) (hC : CalleeOk P G C) {ro : Option Nat}
    (hread : ∀ r o k, ns[r]? = some o → o.op.kind = .read → wantedN o.guard (S r).1 = true → k ≤ (actives 0 ns).length → (∀ j q, (actives 0 ns)[j]? = some q → k ≤ j → q ∉ (closeDeps [] dirs).getD r []) → (∀ j q, (actives 0 ns)[j]? = some q → j < k → r ∉ (closeDeps [] dirs).getD q []) →
      ∃ d v H1, o.dst = some d ∧ eop o.op (S r).1 (S (nextA ns k)).2 = some (.val v H1) ∧ v = (S ns.length).1.getD d undef)
    {φ₀ : Phi} {w₀ : World} {ds : List Deferred} : ∀ (fuel : Nat) (listed : Array Bool) (D : Nat → Bool) (k : Nat) (φ : Phi) (a : Act) (w : World), listed.size = ops.size → (∀ r, r < ops.size → listed.getD (pi.getD r ops.size) true = D r) →
      Inv P G ops pi dirs ns S φ₀ w₀ ds D k φ a w → undone ops.size D = fuel → wpAnyIn (Fr ro) 0 P .any ops (PostC φ₀ (S 0).2 w₀ ds .normal (S ns.length).1 (S ns.length).2) fuel listed a w := by
  have hfin : ∀ (D : Nat → Bool) (k : Nat) (φ : Phi) (a : Act) (w : World), Inv P G ops pi dirs ns S φ₀ w₀ ds D k φ a w → (∀ r, r < ops.size → D r = true) → PostC φ₀ (S 0).2 w₀ ds .normal (S ns.length).1 (S ns.length).2 .normal a w := by
    intro D k φ a w I hall
    have hkk : k = (actives 0 ns).length := by
      rcases Nat.lt_or_eq_of_le I.kle with h | h
      · obtain ⟨q, hq⟩ : ∃ q, (actives 0 ns)[k]? = some q := ⟨(actives 0 ns)[k], by simp⟩
        obtain ⟨o, ho, _⟩ := act_at (List.mem_of_getElem? hq)
        have hql : q < ops.size := by rw [← F.hns]; exact (List.getElem?_eq_some_iff.1 ho).1
        have := (I.act k q hq).1 (hall q hql)
        omega
      · exact h
    have hn : nextA ns k = ns.length := by rw [hkk]; simp [nextA, List.getD_eq_getElem?_getD]
    have hst := I.stp
    rw [hn] at hst
    refine ⟨rfl, [], I.defs, φ, ?_, hst, .nil⟩
    have hTD : TD ns (S 0).1 (S ns.length).1 D = (S ns.length).1 := by
      have hlf := st_length hS ns.length (Nat.le_refl _)
      apply List.ext_getElem?
      intro t
      by_cases ht : t < (S 0).1.length
      · rw [TD_get ht]
        have htf : t < (S ns.length).1.length := by omega
        by_cases hw : ∃ s, s < ns.length ∧ (ns.getD s default).dst = some t
        · obtain ⟨s, hs, hd⟩ := hw
          rw [if_pos]
          · simp [List.getD_eq_getElem?_getD, htf]
          · simp only [List.any_eq_true, List.mem_range, Bool.and_eq_true, decide_eq_true_eq]
            exact ⟨s, hs, hall s (by rw [← F.hns]; exact hs), hd⟩
        · rw [if_neg]
          · rw [st_before hS ns.length (Nat.le_refl _) (fun j o' hj hjo hd' => hw ⟨j, hj, by simp [List.getD_eq_getElem?_getD, hjo, hd']⟩)]
            simp [List.getD_eq_getElem?_getD, ht]
          · simp only [List.any_eq_true, List.mem_range, Bool.and_eq_true, decide_eq_true_eq, not_exists, not_and]
            intro j hj hDj hdj
            exact hw ⟨j, hj, hdj⟩
      · rw [List.getElem?_eq_none (by rw [TD_length]; omega), List.getElem?_eq_none (by omega)]
    rw [← hTD]; exact I.env
  intro fuel
  induction fuel with
  | zero =>
    intro listed D k φ a w hsz hl I hu
    have hall := undone_zero hu
    refine ⟨?_, hfin D k φ a w I hall⟩
    cases hr : Region.ready .any ops listed with
    | nil => rfl
    | cons i rest =>
      have hi : i ∈ Region.ready .any ops listed := by rw [hr]; simp
      obtain ⟨h1, o, ho, _⟩ := mem_ready.1 hi
      have hio := (Array.getElem?_eq_some_iff.1 ho).1
      obtain ⟨r, hr1, hr2⟩ := F.cov i hio
      have := hl r hr1
      rw [hr2, h1, hall r hr1] at this
      cases this
  | succ fuel ih =>
    intro listed D k φ a w hsz hl I hu
    refine ⟨fun hnil => ?_, fun i hi => ?_⟩
    · -- the first that has not been carried out could be
      exfalso
      have hex : ∃ r, r < ops.size ∧ D r = false ∧ ∀ s, s < r → D s = true := by
        have : ∃ r, r < ops.size ∧ D r = false := by
          refine Classical.byContradiction fun h => ?_
          have : undone ops.size D = 0 := by
            unfold undone
            rw [List.length_eq_zero_iff, List.filter_eq_nil_iff]
            intro r hr
            cases hD : D r with
            | true => simp
            | false => exact absurd ⟨r, List.mem_range.1 hr, hD⟩ h
          omega
        obtain ⟨r, hr⟩ := this
        induction r using Nat.strongRecOn with
        | _ r ihr =>
          by_cases h : ∃ s, s < r ∧ D s = false
          · obtain ⟨s, hs, hDs⟩ := h
            exact ihr s hs ⟨by omega, hDs⟩
          · refine ⟨r, hr.1, hr.2, fun s hs => ?_⟩
            cases hD : D s with
            | true => rfl
            | false => exact absurd ⟨s, hs, hD⟩ h
      obtain ⟨r, hr, hDr, hbef⟩ := hex
      obtain ⟨o, n, ho, _, _⟩ := F.comp r hr
      have : pi.getD r ops.size ∈ Region.ready .any ops listed := by
        refine mem_ready.2 ⟨by rw [hl r hr]; exact hDr, o, ho, fun e he hb => ?_⟩
        obtain ⟨s, hs, hse⟩ := F.edge r hr o ho e he hb
        have hlt := F.low r hr s hs
        have h1 := hl s (by omega)
        rw [hse, hbef s hlt] at h1
        have hlt2 : e.on < listed.size := by
          rw [hsz]
          refine Classical.byContradiction fun h => ?_
          have h3 : pi.getD s ops.size = e.on := hse
          obtain ⟨o', n', ho', _, _⟩ := F.comp s (by omega)
          rw [h3] at ho'
          exact h (Array.getElem?_eq_some_iff.1 ho').1
        simpa [Array.getD_eq_getD_getElem?, hlt2] using h1
      rw [hnil] at this
      cases this
    · obtain ⟨h1, o, ho, hall⟩ := mem_ready.1 hi
      have hio := (Array.getElem?_eq_some_iff.1 ho).1
      obtain ⟨r, hr, rfl⟩ := F.cov i hio
      obtain ⟨o', n, ho', hn, hco⟩ := F.comp r hr
      rw [ho] at ho'; cases ho'
      have hDr : D r = false := by rw [← hl r hr]; exact h1
      have hdir : ∀ s ∈ dirs.getD r [], D s = true := by
        intro s hs
        obtain ⟨e, he, hb, hse⟩ := F.back r hr o ho s hs
        have hlt := F.low r hr s hs
        have h3 := hall e he hb
        rw [← hl s (by omega), hse]
        have hlt2 : e.on < listed.size := by
          refine Classical.byContradiction fun h => ?_
          simp [Array.getD_eq_getD_getElem?, Array.getElem?_eq_none (Nat.le_of_not_lt h)] at h3
        simpa [Array.getD_eq_getD_getElem?, hlt2] using h3
      obtain ⟨D', hD'⟩ : ∃ D' : Nat → Bool, ∀ s, D' s = (D s || decide (s = r)) := ⟨fun s => D s || decide (s = r), fun s => rfl⟩
      have hl' : ∀ x, x < ops.size → (listed.setIfInBounds (pi.getD r ops.size) true).getD (pi.getD x ops.size) true = D' x := by
        intro x hx
        rw [hD']
        by_cases e : x = r
        · subst e
          simp [Array.getD_eq_getD_getElem?, hsz, hio]
        · have hne : pi.getD r ops.size ≠ pi.getD x ops.size := fun h => e (F.inj x r hx hr h.symm)
          rw [getD_set_ne true hne, hl x hx]
          simp [e]
      have := inv_step hS F hC (ro := ro) hread I ho hn hco hDr hdir hD' (Q := PostC φ₀ (S 0).2 w₀ ds .normal (S ns.length).1 (S ns.length).2)
        (next := wpAnyIn (Fr ro) 0 P .any ops (PostC φ₀ (S 0).2 w₀ ds .normal (S ns.length).1 (S ns.length).2) fuel (listed.setIfInBounds (pi.getD r ops.size) true))
        (fun k' φ' a' w' I' => ih _ D' k' φ' a' w' (by simpa using hsz) hl' I' (by have := undone_step hr hDr hD'; omega))
      unfold wpOpIn
      rw [ho]
      simp only
      split
      · rename_i hw; rw [if_pos hw] at this; exact this
      · rename_i hw; rw [if_neg hw] at this; exact this

end draw
theorem chkAll_get : ∀ {sts : List (Env × AHeap)} {Tf : Env} {os : List NOper} {cs : List (List Nat)} {r : Nat}, chkAll sts Tf os cs r = true → ∀ (i : Nat) o c, os[i]? = some o → cs[i]? = some c → c ≠ [] → chkOne sts Tf o (r + i) c = true
  | sts, Tf, [], cs, r, h, i, o, c, ho, hc, hne => by simp at ho
  | sts, Tf, o' :: os, [], r, h, i, o, c, ho, hc, hne => by simp at hc
  | sts, Tf, o' :: os, c' :: cs, r, h, i, o, c, ho, hc, hne => by
    simp only [chkAll, Bool.and_eq_true, Bool.or_eq_true] at h
    cases i with
    | zero =>
      simp at ho hc; subst ho; subst hc
      rcases h.1 with h1 | h1
      · simp at h1; exact absurd h1 hne
      · exact h1
    | succ i =>
      have := chkAll_get h.2 i o c (by simpa using ho) (by simpa using hc) hne
      rwa [show r + (i + 1) = r + 1 + i by omega]

theorem drawSound (hm : P.follows .mixedOrders = true) : DrawSound P G := by
  intro C hC ro id ops ns chk hc T H sts T' H' hrun hchk φ a w hg ht hs
  simp only [cDraw, Option.bind_eq_some_iff] at hc
  obtain ⟨ns0, hns0, hc⟩ := hc
  obtain ⟨pi, hpi⟩ : ∃ pi, pi = asap (ops.toList.map binding) (ns0.map fun o => decide (o.op.kind = .active)) ops.size [] := ⟨_, rfl⟩
  rw [← hpi] at hc
  obtain ⟨dirs, hdirs⟩ : ∃ dirs, dirs = pi.map fun i => ((ops.toList.map binding).getD i []).map fun e => pi.idxOf e := ⟨_, rfl⟩
  rw [← hdirs] at hc
  obtain ⟨ns', hns, hc⟩ := hc
  split at hc
  case isFalse => cases hc
  rename_i hok
  cases hc
  have F := facts_of hns hok
  obtain ⟨S, hS0, hSn, hS, hst⟩ := runD_spec hrun
  refine wpIn_region_any hm ?_
  have hread : ∀ r o k, ns[r]? = some o → o.op.kind = .read → wantedN o.guard (S r).1 = true → k ≤ (actives 0 ns).length → (∀ j q, (actives 0 ns)[j]? = some q → k ≤ j → q ∉ (closeDeps [] dirs).getD r []) → (∀ j q, (actives 0 ns)[j]? = some q → j < k → r ∉ (closeDeps [] dirs).getD q []) →
      ∃ d v H1, o.dst = some d ∧ eop o.op (S r).1 (S (nextA ns k)).2 = some (.val v H1) ∧ v = (S ns.length).1.getD d undef := by
    intro r o k ho hk hw hkl hA hB
    have hr : r < ns.length := (List.getElem?_eq_some_iff.1 ho).1
    have hro : r < ops.size := by rw [← F.hns]; exact hr
    have hgo : ns.getD r default = o := by simp [List.getD_eq_getElem?_getD, ho]
    have hcr : (chkOf ops.size dirs ns)[r]? = some (places ops.size (actives 0 ns) (closeDeps [] dirs) r) := by
      simp only [chkOf, List.getElem?_map, List.getElem?_range hro, Option.map_some]
      rw [hgo, if_pos hk]
    have hmem : nextA ns k ∈ places ops.size (actives 0 ns) (closeDeps [] dirs) r := by
      simp only [places, List.mem_filterMap, List.mem_range]
      refine ⟨k, by omega, ?_⟩
      rw [if_pos]
      · simp [nextA, F.hns]
      · simp only [Bool.and_eq_true, List.all_eq_true, Bool.not_eq_true', List.contains_eq_mem, decide_eq_false_iff_not]
        refine ⟨fun q hq => ?_, fun q hq => ?_⟩
        · obtain ⟨j, hj⟩ := List.getElem?_of_mem hq
          rw [List.getElem?_drop] at hj
          exact hA (k + j) q hj (by omega)
        · obtain ⟨j, hj⟩ := List.getElem?_of_mem hq
          have hjl : j < k := by
            have := (List.getElem?_eq_some_iff.1 hj).1
            simp at this; omega
          rw [List.getElem?_take, if_pos hjl] at hj
          exact hB j q hj hjl
    have h1 := chkAll_get hchk r o _ ho hcr (by intro e; rw [e] at hmem; cases hmem)
    simp only [Nat.zero_add, chkOne, hst r (Nat.le_of_lt hr), hw, Bool.not_true, Bool.false_or, List.all_eq_true] at h1
    have h2 := h1 _ hmem
    rw [hst _ (nextA_le ns k)] at h2
    simp only [chkAt] at h2
    split at h2
    case h_2 => cases h2
    rename_i d hd
    split at h2
    · rename_i v H1 he
      exact ⟨d, v, H1, hd, he, by rw [hSn]; exact valEq_eq _ _ h2⟩
    · cases h2
  have hA0 : (fun _ : Nat => false) = fun _ => false := rfl
  have hS1 : (S 0).2 = H := by rw [hS0]
  have hSn' : S ns.length = (T', H') := hSn
  have hdrew := Stp.drew hs (w.drawn + 1)
  -- at the begin: nothing has been carried out
  have hg0 := grow hS (φ₀ := φ) (w₀ := w) (w := { w with drawn := w.drawn + 1 }) (φ := φ) (D := fun _ => false) (lo := 0) (by rw [hS1]; exact hdrew) (fun i j h1 h2 => by
      have : i = j := by omega
      subst this; exact Nat.le_refl _) (fun r o _ h => by omega) (nextA ns 0) (by have := nextA_le ns 0; omega) (fun i o h1 h2 h3 => between (k := 0) (fun j q _ h => by omega) (by omega) h3)
  rw [Nat.zero_add] at hg0
  have I : Inv P G ops pi dirs ns S φ w a.defers (fun _ => false) 0 φ a { w with drawn := w.drawn + 1 } := by
    refine ⟨hg, ?_, hg0.1, rfl, ?_, Nat.zero_le _, ?_, fun _ _ => rfl, hg0.2.1, hg0.2.2⟩
    · rw [TD_none (fun _ _ => rfl), hS0]; exact ht
    · intro j q _; simp
    · intro r _ h; cases h
  have := draw_any hS F hC (ro := ro) hread ops.size (Array.replicate ops.size false) (fun _ => false) 0 φ a { w with drawn := w.drawn + 1 } (by simp) (fun r hr => by
      obtain ⟨o, n, ho, _, _⟩ := F.comp r hr
      have := (Array.getElem?_eq_some_iff.1 ho).1
      clear ho
      generalize pi.getD r ops.size = i at *
      simp [Array.getD_eq_getD_getElem?, this]) I (by
      have e : ((List.range ops.size).filter fun r => !(fun _ : Nat => false) r) = List.range ops.size := List.filter_eq_self.2 (fun _ _ => rfl)
      unfold undone
      rw [e, List.length_range])
  rw [hSn', hS1] at this
  exact this

theorem call_sound (hm : P.follows .mixedOrders = true) (n : Nat) : CalleeOk P G (callN (cProg P G) n) := callN_sound (drawSound hm) n

end Go.E
