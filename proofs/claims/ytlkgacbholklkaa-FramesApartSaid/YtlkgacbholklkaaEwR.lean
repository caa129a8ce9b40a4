/-
  THE EVALUATOR WITH CHOICES, PART R: regions that draw their order: the theorem.
-/
import Derived.Test.YtlkgacbholklkaaEwQ
set_option linter.unusedSimpArgs false
set_option linter.unusedVariables false
namespace Go.E
open Go
variable {P : Program} {G : Nat}
section draw
variable {C : Callees} {ops : Array Oper} {pi : List Nat} {dirs : List (List Nat)} {ns : List NOper} {S : Nat → Env × AHeap}
def nextA (ns : List NOper) (k : Nat) : Nat := (actives 0 ns).getD k ns.length

theorem nextA_le (ns : List NOper) (k : Nat) : nextA ns k ≤ ns.length := by
  unfold nextA
  rw [List.getD_eq_getElem?_getD]
  cases h : (actives 0 ns)[k]? with
  | none => simp
  | some q =>
    obtain ⟨j, o, h1, h2, _⟩ := (actives_mem ns 0 q).1 (List.mem_of_getElem? h)
    have := (List.getElem?_eq_some_iff.1 h2).1
    simp; omega

def stsOf (S : Nat → Env × AHeap) (m : Nat) : List (FEnv × AHeap) := (List.range m).map fun i => (ofL (S i).1, (S i).2)
theorem stsOf_get (S : Nat → Env × AHeap) {m i : Nat} (h : i < m) : (stsOf S m)[i]? = some (ofL (S i).1, (S i).2) := by simp [stsOf, h]
theorem stsOf_len (S : Nat → Env × AHeap) (m : Nat) : (stsOf S m).length = m := by simp [stsOf]
theorem stsOf_succ (S : Nat → Env × AHeap) (m : Nat) : stsOf S (m + 1) = stsOf S m ++ [(ofL (S m).1, (S m).2)] := by simp [stsOf, List.range_succ]
theorem stsOf_congr {S S' : Nat → Env × AHeap} {m : Nat} (h : ∀ i, i < m → S' i = S i) : stsOf S' m = stsOf S m := by
  unfold stsOf
  apply List.map_congr_left
  intro i hi
  rw [h i (List.mem_range.1 hi)]

structure Inv (P : Program) (G : Nat) (ops : Array Oper) (pi : List Nat) (dirs : List (List Nat)) (ns : List NOper) (C : Callees) (QD : List (FEnv × AHeap) → FEnv → AHeap → Prop) (T0 : Env) (H0 : AHeap) (S : Nat → Env × AHeap) (φ₀ : Phi) (w₀ : World) (ds : List Deferred) (D : Nat → Bool) (k : Nat) (φ : Phi) (a : Act) (w : World) : Prop where
  gok : GOk G φ
  s0 : S 0 = (T0, H0)
  path : ∀ (i : Nat) o, i < nextA ns k → ns[i]? = some o → StepP o (S i) (S (i + 1))
  rem : wpD C (ns.drop (nextA ns k)) (ofL (S (nextA ns k)).1) (S (nextA ns k)).2 (stsOf S (nextA ns k)) QD
  low : ∀ r, D r = true → r < nextA ns k
  env : VRs φ (TD ns (S 0).1 (S (nextA ns k)).1 D) a.tmps.toList
  stp : Stp φ₀ (S 0).2 w₀ φ (S (nextA ns k)).2 w
  defs : a.defers = ds
  act : ∀ (j q : Nat), (actives 0 ns)[j]? = some q → (D q = true ↔ j < k)
  kle : k ≤ (actives 0 ns).length
  clo : ∀ r, r < ns.length → D r = true → ∀ s ∈ dirs.getD r [], D s = true
  out : ∀ r, ns.length ≤ r → D r = false
  mono : ∀ i j, i ≤ j → j ≤ nextA ns k → (S i).2.next ≤ (S j).2.next
  pend : ∀ r o, ns[r]? = some o → r < nextA ns k → D r = false → o.op.kind = .alloc → wantedN o.guard (S r).1 = true → ∀ obj, (S (r + 1)).2 = (S r).2.add obj → φ (S r).2.next = none ∧ (S (nextA ns k)).2.get (S r).2.next = obj

theorem step_heap {i : Nat} {o : NOper} (hk : o.op.kind ≠ .active) (h : stepN noCall o (S i).1 (S i).2 = some (S (i + 1))) :
    (S (i + 1)).2 = (S i).2 ∧ (o.op.kind = .alloc → wantedN o.guard (S i).1 = true → False) ∨ ∃ obj, o.op.kind = .alloc ∧ wantedN o.guard (S i).1 = true ∧ (S (i + 1)).2 = (S i).2.add obj := by
  unfold stepN at h
  split at h
  case isFalse hw =>
    have := congrArg (fun x => (Option.map Prod.snd x)) h
    simp at this
    exact .inl ⟨this.symm, fun _ hw' => hw hw'⟩
  rename_i hw
  cases hkd : o.op.kind with
  | active => exact absurd hkd hk
  | pure =>
    split at h
    · rename_i v H' he
      obtain ⟨v', h1, _⟩ := eop_pure hkd he
      cases h1
      cases hq : S (i + 1); rw [hq] at h; cases h
      exact .inl ⟨rfl, fun e => (by cases e)⟩
    · rename_i f args H' he
      obtain ⟨v', h1, _⟩ := eop_pure hkd he
      cases h1
    · cases h
  | read =>
    split at h
    · rename_i v H' he
      obtain ⟨v', h1⟩ := eop_read hkd he
      cases h1
      cases hq : S (i + 1); rw [hq] at h; cases h
      exact .inl ⟨rfl, fun e => (by cases e)⟩
    · rename_i f args H' he
      obtain ⟨v', h1⟩ := eop_read hkd he
      cases h1
    · cases h
  | alloc =>
    split at h
    · rename_i v H' he
      obtain ⟨v', obj, h1⟩ := eop_alloc_heap hkd he
      cases h1
      cases hq : S (i + 1); rw [hq] at h; cases h
      exact .inr ⟨obj, rfl, hw, rfl⟩
    · rename_i f args H' he
      obtain ⟨v', obj, h1⟩ := eop_alloc_heap hkd he
      cases h1
    · cases h

omit ns in
theorem dst_mem {N : Nat} {o : NOper} : ∀ {ns : List NOper}, dstOkO N ns = true → o ∈ ns → (match o.dst with | some d => decide (d < N) | none => true) = true
  | [], _, h => by cases h
  | x :: r, hd, h => by
    simp only [dstOkO, Bool.and_eq_true] at hd
    rcases List.mem_cons.1 h with rfl | h
    · exact hd.1
    · exact dst_mem hd.2 h

theorem run_on {QD : List (FEnv × AHeap) → FEnv → AHeap → Prop} {n : Nat} (hd : dstOkO n ns = true) {lo : Nat} (hl : (S lo).1.length = n) (h : wpD C (ns.drop lo) (ofL (S lo).1) (S lo).2 (stsOf S lo) QD) : ∀ (m : Nat), lo + m ≤ ns.length → (∀ (i : Nat) o, lo ≤ i → i < lo + m → ns[i]? = some o → o.op.kind ≠ .active) →
    ∃ S' : Nat → Env × AHeap, (∀ i, i ≤ lo → S' i = S i) ∧ (∀ (i : Nat) o, lo ≤ i → i < lo + m → ns[i]? = some o → StepP o (S' i) (S' (i + 1))) ∧ (S' (lo + m)).1.length = n ∧
      wpD C (ns.drop (lo + m)) (ofL (S' (lo + m)).1) (S' (lo + m)).2 (stsOf S' (lo + m)) QD
  | 0, _, _ => ⟨S, fun _ _ => rfl, fun i o h1 h2 => by omega, hl, h⟩
  | m + 1, hle, hna => by
    obtain ⟨S1, h1, h2, h3, h4⟩ := run_on hd hl h m (by omega) (fun i o hi hi' ho => hna i o hi (by omega) ho)
    obtain ⟨o, ho⟩ : ∃ o, ns[lo + m]? = some o := ⟨ns[lo + m]'(by omega), by simp⟩
    have hk := hna (lo + m) o (by omega) (by omega) ho
    have hdrop : ns.drop (lo + m) = o :: ns.drop (lo + m + 1) := by
      have hlt : lo + m < ns.length := by omega
      rw [List.drop_eq_getElem_cons hlt]
      have : ns[lo + m] = o := by
        have := List.getElem?_eq_getElem hlt
        rw [ho] at this
        exact (Option.some.inj this).symm
      rw [this]
    rw [hdrop] at h4
    have hdo : (match o.dst with | some d => decide (d < (S1 (lo + m)).1.length) | none => true) = true := by
      rw [h3]
      exact dst_mem hd (List.mem_of_getElem? ho)
    -- the step
    have hstep : ∃ y, stepN noCall o (S1 (lo + m)).1 (S1 (lo + m)).2 = some y ∧ (∃ v, y.1 = put (S1 (lo + m)).1 o.dst v) ∧ wpD C (ns.drop (lo + m + 1)) (ofL y.1) y.2 (stsOf S1 (lo + m) ++ [(ofL (S1 (lo + m)).1, (S1 (lo + m)).2)]) QD := by
      simp only [wpD] at h4
      split at h4
      · rename_i hw
        refine ⟨(put (S1 (lo + m)).1 o.dst undef, (S1 (lo + m)).2), ?_, ⟨_, rfl⟩, ?_⟩
        · unfold stepN
          rw [wanted_ofL'', hw]
          rfl
        · rw [ofL_put hdo]; exact h4
      · rename_i hw
        unfold resW at h4
        rw [eop_sub] at h4
        split at h4
        · rename_i v H1 he
          refine ⟨(put (S1 (lo + m)).1 o.dst v, H1), ?_, ⟨_, rfl⟩, ?_⟩
          · unfold stepN
            rw [wanted_ofL'', hw, if_pos rfl, he]
          · rw [ofL_put hdo]; exact h4
        · rename_i f args H1 he
          exfalso
          cases hkd : o.op.kind with
          | active => exact hk hkd
          | pure => obtain ⟨v', h1, _⟩ := eop_pure hkd he; cases h1
          | read => obtain ⟨v', h1⟩ := eop_read hkd he; cases h1
          | alloc => obtain ⟨v', obj, h1⟩ := eop_alloc_heap hkd he; cases h1
        · exfalso
          generalize o.op = op at hk h4
          cases op
          case nextM => exact hk rfl
          all_goals exact h4
    obtain ⟨y, g1, ⟨v, g2⟩, g3⟩ := hstep
    refine ⟨fun i => if i ≤ lo + m then S1 i else y, ?_, ?_, ?_, ?_⟩
    · intro i hi
      simp only
      rw [if_pos (by omega)]
      exact h1 i hi
    · intro i o' hi hi' ho'
      by_cases e : i = lo + m
      · subst e
        rw [ho] at ho'; cases ho'
        simp only [Nat.le_refl, if_true]
        rw [if_neg (by omega)]
        exact ⟨⟨v, g2⟩, fun _ => g1⟩
      · simp only
        rw [if_pos (by omega), if_pos (by omega)]
        exact h2 i o' hi (by omega) ho'
    · simp only
      rw [if_neg (by omega), g2, put_length, h3]
    · have e1 : stsOf (fun i => if i ≤ lo + m then S1 i else y) (lo + (m + 1)) = stsOf S1 (lo + m) ++ [(ofL (S1 (lo + m)).1, (S1 (lo + m)).2)] := by
        rw [show lo + (m + 1) = lo + m + 1 by omega, ← stsOf_succ]
        exact stsOf_congr fun i hi => by rw [if_pos (by omega)]
      rw [e1]
      simp only
      rw [if_neg (by omega)]
      exact g3

theorem grow {φ₀ φ : Phi} {w₀ w : World} {D : Nat → Bool} {lo : Nat} (hst : Stp φ₀ (S 0).2 w₀ φ (S lo).2 w) (hmono : ∀ i j, i ≤ j → j ≤ lo → (S i).2.next ≤ (S j).2.next)
    (hpend : ∀ r o, ns[r]? = some o → r < lo → D r = false → o.op.kind = .alloc → wantedN o.guard (S r).1 = true → ∀ obj, (S (r + 1)).2 = (S r).2.add obj → φ (S r).2.next = none ∧ (S lo).2.get (S r).2.next = obj) :
    ∀ (m : Nat), (∀ (i : Nat) o, lo ≤ i → i < lo + m → ns[i]? = some o → StepP o (S i) (S (i + 1))) → lo + m ≤ ns.length → (∀ (i : Nat) o, lo ≤ i → i < lo + m → ns[i]? = some o → o.op.kind ≠ .active) →
      Stp φ₀ (S 0).2 w₀ φ (S (lo + m)).2 w ∧ (∀ i j, i ≤ j → j ≤ lo + m → (S i).2.next ≤ (S j).2.next) ∧
      (∀ r o, ns[r]? = some o → r < lo + m → D r = false → o.op.kind = .alloc → wantedN o.guard (S r).1 = true → ∀ obj, (S (r + 1)).2 = (S r).2.add obj → φ (S r).2.next = none ∧ (S (lo + m)).2.get (S r).2.next = obj)
  | 0, _, _, _ => ⟨hst, hmono, hpend⟩
  | m + 1, hS, hle, hna => by
    obtain ⟨h1, h2, h3⟩ := grow hst hmono hpend m (fun i o hi hi' ho => hS i o hi (by omega) ho) (by omega) (fun i o hi hi' ho => hna i o hi (by omega) ho)
    obtain ⟨o, ho⟩ : ∃ o, ns[lo + m]? = some o := ⟨ns[lo + m]'(by omega), by simp⟩
    have hk := hna (lo + m) o (by omega) (by omega) ho
    rw [show lo + (m + 1) = lo + m + 1 by omega]
    rcases step_heap hk ((hS (lo + m) o (by omega) (by omega) ho).2 hk) with ⟨he, hno⟩ | ⟨obj, hka, hw, he⟩
    · rw [he]
      refine ⟨h1, ?_, ?_⟩
      · intro i j hij hj
        by_cases e : j = lo + m + 1
        · subst e
          rw [he]
          by_cases e2 : i = lo + m + 1
          · subst e2; rw [he]; exact Nat.le_refl _
          · exact h2 i _ (by omega) (Nat.le_refl _)
        · exact h2 i j hij (by omega)
      · intro r o' ho' hr hD hka' hw' obj hobj
        by_cases e : r = lo + m
        · subst e
          rw [ho] at ho'; cases ho'
          exact (hno hka' hw').elim
        · exact h3 r o' ho' (by omega) hD hka' hw' obj hobj
    · rw [he]
      refine ⟨h1.addU obj, ?_, ?_⟩
      · intro i j hij hj
        by_cases e : j = lo + m + 1
        · subst e
          rw [he]
          by_cases e2 : i = lo + m + 1
          · subst e2; rw [he]; exact Nat.le_refl _
          · have := h2 i _ (show i ≤ lo + m by omega) (Nat.le_refl _)
            simp only [AHeap.next_add]; omega
        · exact h2 i j hij (by omega)
      · intro r o' ho' hr hD hka' hw' obj' hobj
        by_cases e : r = lo + m
        · subst e
          rw [he] at hobj
          have := add_inj hobj
          subst this
          exact ⟨h1.sim.fresh, by simp⟩
        · obtain ⟨g1, g2⟩ := h3 r o' ho' (by omega) hD hka' hw' obj' hobj
          have hb : (S r).2.next < (S (lo + m)).2.next := by
            have := h2 (r + 1) (lo + m) (by omega) (Nat.le_refl _)
            rw [hobj] at this
            simp only [AHeap.next_add] at this
            omega
          exact ⟨g1, by rw [AHeap.get_add, if_neg (by omega)]; exact g2⟩

theorem deps_closed (F : Facts P G ops pi dirs ns) {D : Nat → Bool} (hclo : ∀ r, r < ns.length → D r = true → ∀ s ∈ dirs.getD r [], D s = true) (hout : ∀ r, ns.length ≤ r → D r = false) :
    ∀ r, D r = true → ∀ s ∈ (closeDeps [] dirs).getD r [], D s = true := by
  refine closeDeps_closed (fun r => D r = true) dirs [] (by simp) ?_ ?_
  · intro i hi s hs
    have := F.low i (by rw [← F.hdirs]; exact hi) s hs
    simp; omega
  · intro i hi hD s hs
    simp only [List.length_nil, Nat.zero_add] at hD
    exact hclo i (by rw [F.hns, ← F.hdirs]; exact hi) hD s hs

theorem deps_lt (F : Facts P G ops pi dirs ns) : ∀ r, ∀ s ∈ (closeDeps [] dirs).getD r [], s < r := by
  refine closeDeps_lt dirs [] (by simp) ?_
  intro i hi s hs
  have := F.low i (by rw [← F.hdirs]; exact hi) s hs
  simp; omega

theorem looks_agree {m : Nat} (hm : m ≤ ns.length) (hS : ∀ (i : Nat) o, i < m → ns[i]? = some o → StepP o (S i) (S (i + 1))) (F : Facts P G ops pi dirs ns) {D : Nat → Bool} (hcl : ∀ r, D r = true → ∀ s ∈ (closeDeps [] dirs).getD r [], D s = true) (hout : ∀ r, ns.length ≤ r → D r = false) {r : Nat} {o : NOper} (hrm : r ≤ m) (ho : ns[r]? = some o) (hD : D r = false)
    (hdeps : ∀ s ∈ (closeDeps [] dirs).getD r [], D s = true) : ∀ t ∈ o.looks, (TD ns (S 0).1 (S m).1 D)[t]? = (S r).1[t]? := by
  intro t ht
  have hr : r < ns.length := (List.getElem?_eq_some_iff.1 ho).1
  have hgo : ns.getD r default = o := by simp [List.getD_eq_getElem?_getD, ho]
  have hlen := st_length hm hS r hrm
  have hlenf := st_length hm hS m (Nat.le_refl _)
  by_cases hlt : t < (S 0).1.length
  · rw [TD_get hlt]
    -- is there an operation that writes it?
    by_cases hw : ∃ s, s < ns.length ∧ (ns.getD s default).dst = some t
    · obtain ⟨s, hs, hd⟩ := hw
      have huniq : ∀ (j : Nat) o', ns[j]? = some o' → o'.dst = some t → j = s := by
        intro j o' hj hd'
        have hjl : j < ns.length := (List.getElem?_eq_some_iff.1 hj).1
        have hgj : ns.getD j default = o' := by simp [List.getD_eq_getElem?_getD, hj]
        refine Classical.byContradiction fun hne => ?_
        exact F.dst j s (by rw [← F.hns]; exact hjl) (by rw [← F.hns]; exact hs) hne t (by rw [hgj]; exact hd') hd
      rcases F.look r (by rw [← F.hns]; exact hr) t (by rw [hgo]; exact ht) s (by rw [← F.hns]; exact hs) hd with h | h | h
      · -- itself
        subst h
        rw [if_neg]
        · rw [st_before hm hS r hrm (fun j o' hj hjo hd' => by have := huniq j o' hjo hd'; omega)]
          simp [List.getD_eq_getElem?_getD, hlt]
        · simp only [List.any_eq_true, List.mem_range, Bool.and_eq_true, decide_eq_true_eq, not_exists, not_and]
          intro j hj hDj hdj
          have := huniq j (ns.getD j default) (by simp [List.getD_eq_getElem?_getD, hj]) hdj
          subst this; rw [hD] at hDj; cases hDj
      · -- one that it hangs on
        have hDs := hdeps s h
        have hsr := deps_lt F r s h
        rw [if_pos]
        · rw [← st_after hm hS (m - r) r (by omega) (fun j o' hj _ hjo hd' => by have := huniq j o' hjo hd'; omega)]
          have : t < (S m).1.length := by omega
          simp [List.getD_eq_getElem?_getD, this]
        · simp only [List.any_eq_true, List.mem_range, Bool.and_eq_true, decide_eq_true_eq]
          exact ⟨s, hs, hDs, hd⟩
      · -- one that hangs on it
        have hrs := deps_lt F s r h
        rw [if_neg]
        · rw [st_before hm hS r hrm (fun j o' hj hjo hd' => by have := huniq j o' hjo hd'; omega)]
          simp [List.getD_eq_getElem?_getD, hlt]
        · simp only [List.any_eq_true, List.mem_range, Bool.and_eq_true, decide_eq_true_eq, not_exists, not_and]
          intro j hj hDj hdj
          have := huniq j (ns.getD j default) (by simp [List.getD_eq_getElem?_getD, hj]) hdj
          subst this
          have := hcl j hDj r h
          rw [hD] at this; cases this
    · rw [if_neg]
      · rw [st_before hm hS r hrm (fun j o' hj hjo hd' => hw ⟨j, (List.getElem?_eq_some_iff.1 hjo).1, by simp [List.getD_eq_getElem?_getD, hjo, hd']⟩)]
        simp [List.getD_eq_getElem?_getD, hlt]
      · simp only [List.any_eq_true, List.mem_range, Bool.and_eq_true, decide_eq_true_eq, not_exists, not_and]
        intro j hj hDj hdj
        exact hw ⟨j, hj, hdj⟩
  · have h1 : (TD ns (S 0).1 (S m).1 D).length ≤ t := by rw [TD_length]; omega
    have h2 : (S r).1.length ≤ t := by omega
    rw [List.getElem?_eq_none h1, List.getElem?_eq_none h2]

theorem tf_val {m : Nat} (hm : m ≤ ns.length) (hS : ∀ (i : Nat) o, i < m → ns[i]? = some o → StepP o (S i) (S (i + 1))) (F : Facts P G ops pi dirs ns) {r : Nat} {o : NOper} (hrm : r < m) (ho : ns[r]? = some o) {v : Value} (hv : (S (r + 1)).1 = put (S r).1 o.dst v) {X : Env} (hX : X.length = (S 0).1.length) :
    put X o.dst (tfv (S m).1 o.dst) = put X o.dst v := by
  have hr : r < ns.length := (List.getElem?_eq_some_iff.1 ho).1
  have hgo : ns.getD r default = o := by simp [List.getD_eq_getElem?_getD, ho]
  cases hd : o.dst with
  | none => rfl
  | some d =>
    simp only [put, tfv]
    by_cases hlt : d < X.length
    · congr 1
      have h1 : (S m).1[d]? = (S (r + 1)).1[d]? := st_after hm hS (m - (r + 1)) (r + 1) (by omega) (fun j o' hj _ hjo hd' => by
        have hjl : j < ns.length := (List.getElem?_eq_some_iff.1 hjo).1
        exact F.dst r j (by rw [← F.hns]; exact hr) (by rw [← F.hns]; exact hjl) (by omega) d (by rw [hgo]; exact hd) (by simp [List.getD_eq_getElem?_getD, hjo, hd']))
      have hl := st_length hm hS r (by omega)
      have hdl : d < (S r).1.length := by omega
      rw [hv, hd] at h1
      simp only [put, List.getElem?_set, if_true, hdl] at h1
      simp [List.getD_eq_getElem?_getD, h1]
    · rw [List.set_eq_of_length_le (by omega), List.set_eq_of_length_le (by omega)]

theorem mem_asgO {o : NOper} {t : Nat} : ∀ {ns : List NOper}, o ∈ ns → o.dst = some t → t ∈ asgO ns
  | [], h, _ => by cases h
  | x :: r, h, hd => by
    simp only [asgO, List.mem_append]
    rcases List.mem_cons.1 h with rfl | h
    · left; rw [hd]; simp
    · exact .inr (mem_asgO h hd)
theorem of_mem_asgO {t : Nat} : ∀ {ns : List NOper}, t ∈ asgO ns → ∃ o ∈ ns, o.dst = some t
  | [], h => by cases h
  | x :: r, h => by
    simp only [asgO, List.mem_append] at h
    rcases h with h | h
    · split at h
      · rename_i d hd
        simp only [List.mem_singleton] at h
        subst h
        exact ⟨x, by simp, hd⟩
      · cases h
    · obtain ⟨o, h1, h2⟩ := of_mem_asgO h
      exact ⟨o, by simp [h1], h2⟩
theorem dstOkO_drop {N : Nat} : ∀ (m : Nat) {ns : List NOper}, dstOkO N ns = true → dstOkO N (ns.drop m) = true
  | 0, _, h => h
  | m + 1, [], h => h
  | m + 1, x :: r, h => by
    simp only [dstOkO, Bool.and_eq_true] at h
    exact dstOkO_drop m h.2

theorem TD_ext {T Tf Tf' : Env} {D : Nat → Bool} (h : ∀ r, r < ns.length → D r = true → ∀ t, (ns.getD r default).dst = some t → Tf'[t]? = Tf[t]?) : TD ns T Tf' D = TD ns T Tf D := by
  apply List.ext_getElem?
  intro t
  by_cases ht : t < T.length
  · rw [TD_get ht, TD_get ht]
    split
    · rename_i hw
      simp only [List.any_eq_true, List.mem_range, Bool.and_eq_true, decide_eq_true_eq] at hw
      obtain ⟨r, hr, hD, hd⟩ := hw
      simp only [List.getD_eq_getElem?_getD, h r hr hD t hd]
    · rfl
  · rw [List.getElem?_eq_none (by rw [TD_length]; omega), List.getElem?_eq_none (by rw [TD_length]; omega)]

theorem wanted_congr {T T' : Env} {o : NOper} (h : ∀ t ∈ o.looks, T[t]? = T'[t]?) : wantedN o.guard T = wantedN o.guard T' := by
  cases hg : o.guard with
  | none => rfl
  | some g =>
    obtain ⟨d, b⟩ := g
    have := h d (by simp [NOper.looks, hg])
    simp only [wantedN, this]

theorem eop_looks {T T' : Env} {o : NOper} (H : AHeap) (h : ∀ t ∈ o.looks, T[t]? = T'[t]?) : eop o.op T H = eop o.op T' H :=
  eop_congr H fun t ht => by
    have := h t (by simp [NOper.looks, ht])
    simp [List.getD_eq_getElem?_getD, this]

theorem stepN_congr {C : Callee} {T T' T'' : Env} {o : NOper} {H H' : AHeap} (h : ∀ t ∈ o.looks, T[t]? = T'[t]?) (hs : stepN C o T' H = some (T'', H')) : ∃ v, T'' = put T' o.dst v ∧ stepN C o T H = some (put T o.dst v, H') := by
  unfold stepN at hs ⊢
  rw [wanted_congr h, eop_looks H h]
  split at hs
  · rename_i hw
    rw [if_pos hw]
    split at hs
    · cases hs; exact ⟨_, rfl, rfl⟩
    · simp only [Option.map_eq_some_iff] at hs
      obtain ⟨⟨v, H2⟩, h1, heq⟩ := hs
      cases heq
      exact ⟨v, rfl, by simp [h1]⟩
    · cases hs
  · rename_i hw
    rw [if_neg hw]
    cases hs; exact ⟨_, rfl, rfl⟩

theorem resW_looks {T T' : Env} {o : NOper} {H : AHeap} {K : Value → AHeap → Prop} (h : ∀ t ∈ o.looks, T[t]? = T'[t]?) (k : resW C (o.op.sub (ofL T')) H K) : resW C (o.op.sub (ofL T)) H K := by
  have hh : ∀ t ∈ o.op.tmps, T.getD t undef = T'.getD t undef := fun t ht => by
    have := h t (by simp [NOper.looks, ht])
    simp [List.getD_eq_getElem?_getD, this]
  unfold resW at k ⊢
  rw [eop_sub] at k ⊢
  rw [eop_congr H hh]
  split at k
  · exact k
  · exact k
  · generalize o.op = op at hh k
    cases op
    case nextM x =>
      cases x with
      | t i =>
        have := hh i (by simp [NOp.tmps, NOpd.tmps])
        simp only [NOp.sub, NOpd.sub, ofL] at k ⊢
        rw [this]; exact k
      | c v => exact k
      | g i => exact k
    all_goals exact k.elim

theorem acts_lt {ns : List NOper} {i j q r : Nat} (hi : (actives 0 ns)[i]? = some q) (hj : (actives 0 ns)[j]? = some r) (h : i < j) : q < r := by
  have hs := List.pairwise_iff_getElem.1 (actives_sorted ns 0)
  obtain ⟨h1, rfl⟩ := List.getElem?_eq_some_iff.1 hi
  obtain ⟨h2, rfl⟩ := List.getElem?_eq_some_iff.1 hj
  exact hs i j h1 h2 h

theorem act_at {ns : List NOper} {q : Nat} (h : q ∈ actives 0 ns) : ∃ o, ns[q]? = some o ∧ o.op.kind = .active := by
  obtain ⟨j, o, rfl, h2, h3⟩ := (actives_mem ns 0 q).1 h
  exact ⟨o, by simpa using h2, h3⟩

theorem mem_act {ns : List NOper} {q : Nat} {o : NOper} (h : ns[q]? = some o) (hk : o.op.kind = .active) : q ∈ actives 0 ns :=
  (actives_mem ns 0 q).2 ⟨q, o, by simp, h, hk⟩

theorem between {ns : List NOper} {k i : Nat} {o : NOper} (hlo : ∀ j q, (actives 0 ns)[j]? = some q → j < k → q < i) (hhi : i < nextA ns k) (ho : ns[i]? = some o) : o.op.kind ≠ .active := by
  intro hk
  obtain ⟨j, hj⟩ := List.getElem?_of_mem (mem_act ho hk)
  by_cases h : j < k
  · have := hlo j i hj h; omega
  · have hk2 : nextA ns k ≤ i := by
      unfold nextA
      rw [List.getD_eq_getElem?_getD]
      have hjl : j < (actives 0 ns).length := (List.getElem?_eq_some_iff.1 hj).1
      obtain ⟨q, hq⟩ : ∃ q, (actives 0 ns)[k]? = some q := ⟨(actives 0 ns)[k]'(by omega), by simp⟩
      rw [hq]
      by_cases e : j = k
      · subst e; rw [hq] at hj; cases hj; simp
      · have := acts_lt hq hj (by omega); simp; omega
    omega

theorem inv_step (F : Facts P G ops pi dirs ns) (hC : CalleesOk P G C) {ro : Option Nat} {QD : List (FEnv × AHeap) → FEnv → AHeap → Prop} {T0 : Env} {H0 : AHeap} (hdst : dstOkO T0.length ns = true)
    (hread : ∀ (S : Nat → Env × AHeap) (r : Nat) (o : NOper) (k : Nat), (S 0).1.length = T0.length → (∀ (i : Nat) o, i < nextA ns k → ns[i]? = some o → StepP o (S i) (S (i + 1))) → wpD C (ns.drop (nextA ns k)) (ofL (S (nextA ns k)).1) (S (nextA ns k)).2 (stsOf S (nextA ns k)) QD → r < nextA ns k → ns[r]? = some o → o.op.kind = .read → wantedN o.guard (S r).1 = true → k ≤ (actives 0 ns).length → (∀ j q, (actives 0 ns)[j]? = some q → k ≤ j → q ∉ (closeDeps [] dirs).getD r []) → (∀ j q, (actives 0 ns)[j]? = some q → j < k → r ∉ (closeDeps [] dirs).getD q []) →
      ∃ d v H1, o.dst = some d ∧ eop o.op (S r).1 (S (nextA ns k)).2 = some (.val v H1) ∧ v = (S (nextA ns k)).1.getD d undef)
    {φ₀ : Phi} {w₀ : World} {ds : List Deferred} {D D' : Nat → Bool} {S : Nat → Env × AHeap} {k : Nat} {φ : Phi} {a : Act} {w : World} (I : Inv P G ops pi dirs ns C QD T0 H0 S φ₀ w₀ ds D k φ a w)
    {r : Nat} {oper : Oper} {o : NOper} (hop : ops[pi.getD r ops.size]? = some oper) (ho : ns[r]? = some o) (hco : cOper P G ops oper = some o) (hD : D r = false) (hdir : ∀ s ∈ dirs.getD r [], D s = true)
    (hD' : ∀ s, D' s = (D s || decide (s = r))) {next : Act → World → Prop} {Q : Exit → Act → World → Prop}
    (hk : ∀ S' k' φ' a' w', Inv P G ops pi dirs ns C QD T0 H0 S' φ₀ w₀ ds D' k' φ' a' w' → next a' w') :
    if Region.wanted oper (yielded ops a.tmps) then oper.wpIn (Fr ro) 0 P a w next Q else (∀ f, oper.about P w a.eval = some f → (Fr ro).fn f) ∧ next (a.put oper.dst undef) w := by
  have hr : r < ns.length := (List.getElem?_eq_some_iff.1 ho).1
  have hro : r < ops.size := by rw [← F.hns]; exact hr
  have hgo : ns.getD r default = o := by simp [List.getD_eq_getElem?_getD, ho]
  have hcl := deps_closed F I.clo I.out
  have hclo' : ∀ x, x < ns.length → D' x = true → ∀ s ∈ dirs.getD x [], D' s = true := by
    intro x hx hDx s hs
    rw [hD'] at hDx ⊢
    simp only [Bool.or_eq_true, decide_eq_true_eq] at hDx ⊢
    rcases hDx with h | h
    · exact .inl (I.clo x hx h s hs)
    · subst h; exact .inl (hdir s hs)
  have hout' : ∀ x, ns.length ≤ x → D' x = false := by
    intro x hx
    rw [hD', I.out x hx]; simp; omega
  have hcl' := deps_closed F hclo' hout'
  have hdeps : ∀ s ∈ (closeDeps [] dirs).getD r [], D s = true := by
    intro s hs
    have h1 := hcl' r (by rw [hD']; simp) s hs
    have h2 := deps_lt F r s hs
    rw [hD'] at h1
    simp only [Bool.or_eq_true, decide_eq_true_eq] at h1
    rcases h1 with h1 | h1
    · exact h1
    · omega
  obtain ⟨m, hm⟩ : ∃ m, m = nextA ns k := ⟨_, rfl⟩
  have hml : m ≤ ns.length := by rw [hm]; exact nextA_le ns k
  have hS : ∀ (i : Nat) o, i < m → ns[i]? = some o → StepP o (S i) (S (i + 1)) := by rw [hm]; exact I.path
  -- the operation stands on the path, or is the next one
  have hrm : r ≤ m ∧ (o.op.kind ≠ .active → r < m) := by
    by_cases hka : o.op.kind = .active
    · obtain ⟨j, hj⟩ := List.getElem?_of_mem (mem_act ho hka)
      have h1 : ¬ j < k := fun h => by have := (I.act j r hj).2 h; rw [hD] at this; cases this
      have h2 : ¬ k < j := fun h => by
        obtain ⟨q, hq⟩ : ∃ q, (actives 0 ns)[k]? = some q := ⟨(actives 0 ns)[k]'(by have := (List.getElem?_eq_some_iff.1 hj).1; omega), by simp⟩
        have hlt := acts_lt hq hj h
        have := F.chain q (List.mem_of_getElem? hq) r (List.mem_of_getElem? hj) hlt
        have := (I.act k q hq).1 (hdeps q this)
        omega
      have : j = k := by omega
      subst this
      have : nextA ns j = r := by simp [nextA, List.getD_eq_getElem?_getD, hj]
      exact ⟨by omega, fun h => absurd hka h⟩
    · have hrn : r < nextA ns k := by
        unfold nextA
        rw [List.getD_eq_getElem?_getD]
        cases hq : (actives 0 ns)[k]? with
        | none => simp; omega
        | some q =>
          simp only [Option.getD_some]
          rcases Nat.lt_or_ge q r with h | h
          · have := F.early r hro (by rw [hgo]; exact hka) q (List.mem_of_getElem? hq) h
            have := (I.act k q hq).1 (hdeps q this)
            omega
          · rcases Nat.lt_or_eq_of_le h with h | h
            · exact h
            · subst h
              obtain ⟨o', h1, h2⟩ := act_at (List.mem_of_getElem? hq)
              rw [ho] at h1; cases h1; exact absurd h2 hka
      rw [← hm] at hrn
      exact ⟨Nat.le_of_lt hrn, fun _ => hrn⟩
  obtain ⟨hrm1, hrm2⟩ := hrm
  have hag := looks_agree hml hS F hcl I.out hrm1 ho hD hdeps
  obtain ⟨T, hT⟩ : ∃ T, T = TD ns (S 0).1 (S m).1 D := ⟨_, rfl⟩
  rw [← hT] at hag
  have hTl : T.length = (S 0).1.length := by rw [hT, TD_length]
  have hlen0 : (S 0).1.length = T0.length := by rw [I.s0]
  have henv : VRs φ T a.tmps.toList := by rw [hT, hm]; exact I.env
  by_cases hka : o.op.kind = .active
  · -- an active operation: the next one
    obtain ⟨j, hj⟩ := List.getElem?_of_mem (mem_act ho hka)
    have hjk : j = k := by
      have h1 : ¬ j < k := fun h => by have := (I.act j r hj).2 h; rw [hD] at this; cases this
      rcases Nat.lt_or_ge k j with h | h
      · obtain ⟨q, hq⟩ : ∃ q, (actives 0 ns)[k]? = some q := ⟨(actives 0 ns)[k]'(by have := (List.getElem?_eq_some_iff.1 hj).1; omega), by simp⟩
        have hlt := acts_lt hq hj h
        have := F.chain q (List.mem_of_getElem? hq) r (List.mem_of_getElem? hj) hlt
        have := (I.act k q hq).1 (hdeps q this)
        omega
      · omega
    subst hjk
    have hnext : nextA ns j = r := by simp [nextA, List.getD_eq_getElem?_getD, hj]
    have hmr : m = r := by omega
    subst hmr
    have hst := I.stp
    rw [hnext] at hst
    have hrem := I.rem
    rw [hnext] at hrem
    have hdrop : ns.drop m = o :: ns.drop (m + 1) := by
      rw [List.drop_eq_getElem_cons hr]
      have : ns[m] = o := by
        have := List.getElem?_eq_getElem hr
        rw [ho] at this
        exact (Option.some.inj this).symm
      rw [this]
    rw [hdrop] at hrem
    have hlm : (S m).1.length = T0.length := (st_length hml hS m (Nat.le_refl _)).trans hlen0
    have hstep : (wantedF o.guard (ofL T) = false ∧ wpD C (ns.drop (m + 1)) (putF (ofL (S m).1) o.dst undef) (S m).2 (stsOf S m ++ [(ofL (S m).1, (S m).2)]) QD) ∨ (wantedF o.guard (ofL T) = true ∧ resW C (o.op.sub (ofL T)) (S m).2 fun v H2 => wpD C (ns.drop (m + 1)) (putF (ofL (S m).1) o.dst v) H2 (stsOf S m ++ [(ofL (S m).1, (S m).2)]) QD) := by
      have hwc : wantedF o.guard (ofL T) = wantedF o.guard (ofL (S m).1) := by rw [← wanted_ofL'', ← wanted_ofL'', wanted_congr hag]
      rw [hwc]
      simp only [wpD] at hrem
      split at hrem
      · rename_i hw; exact .inl ⟨hw, hrem⟩
      · rename_i hw; exact .inr ⟨hw, resW_looks hag hrem⟩
    refine step_sound hC (φ₀ := φ) (H₀ := (S m).2) (w₀ := w) (K := fun v H2 => wpD C (ns.drop (m + 1)) (putF (ofL (S m).1) o.dst v) H2 (stsOf S m ++ [(ofL (S m).1, (S m).2)]) QD) hco hstep I.gok henv (.refl hst.sim) (fun φ' a' w' v H' hK hg' he' hs' _ hd' => ?_)
    have hst' := hst.trans hs'
    have hjl : j < (actives 0 ns).length := (List.getElem?_eq_some_iff.1 hj).1
    have hdo : (match o.dst with | some d => decide (d < (S m).1.length) | none => true) = true := by
      rw [hlm]; exact dst_mem hdst (List.mem_of_getElem? ho)
    rw [← ofL_put hdo] at hK
    -- the path, one step longer
    obtain ⟨S1, hS1⟩ : ∃ S1 : Nat → Env × AHeap, S1 = fun i => if i ≤ m then S i else (put (S m).1 o.dst v, H') := ⟨_, rfl⟩
    have e1 : ∀ i, i ≤ m → S1 i = S i := fun i hi => by rw [hS1]; simp only; rw [if_pos hi]
    have e2 : S1 (m + 1) = (put (S m).1 o.dst v, H') := by rw [hS1]; simp only; rw [if_neg (by omega)]
    have hK1 : wpD C (ns.drop (m + 1)) (ofL (S1 (m + 1)).1) (S1 (m + 1)).2 (stsOf S1 (m + 1)) QD := by
      rw [stsOf_succ, stsOf_congr (fun i hi => e1 i (by omega)), e1 m (Nat.le_refl _), e2]
      exact hK
    have hl1 : (S1 (m + 1)).1.length = T0.length := by rw [e2]; simp only; rw [put_length, hlm]
    -- to the next active operation
    obtain ⟨x, hx⟩ : ∃ x, nextA ns (j + 1) = m + 1 + x := by
      have : m + 1 ≤ nextA ns (j + 1) := by
        unfold nextA
        rw [List.getD_eq_getElem?_getD]
        cases hq : (actives 0 ns)[j + 1]? with
        | none => simp; omega
        | some q => have := acts_lt hj hq (by omega); simp; omega
      exact ⟨nextA ns (j + 1) - (m + 1), by omega⟩
    have hna : ∀ (i : Nat) o', m + 1 ≤ i → i < m + 1 + x → ns[i]? = some o' → o'.op.kind ≠ .active := fun i o' h1 h2 h3 =>
      between (k := j + 1) (fun j' q' hq' hj' => by
        by_cases e : j' = j
        · subst e; rw [hj] at hq'; cases hq'; omega
        · have := acts_lt hq' hj (by omega); omega) (by omega) h3
    have hle' : m + 1 + x ≤ ns.length := by have := nextA_le ns (j + 1); omega
    obtain ⟨S2, f1, f2, f3, f4⟩ := run_on hdst hl1 hK1 x hle' hna
    have f0 : ∀ i, i ≤ m → S2 i = S i := fun i hi => (f1 i (by omega)).trans (e1 i hi)
    have fm : S2 (m + 1) = (put (S m).1 o.dst v, H') := (f1 (m + 1) (Nat.le_refl _)).trans e2
    have hpath : ∀ (i : Nat) o', i < m + 1 + x → ns[i]? = some o' → StepP o' (S2 i) (S2 (i + 1)) := by
      intro i o' hi ho'
      by_cases h : i < m
      · rw [f0 i (by omega), f0 (i + 1) (by omega)]
        exact hS i o' h ho'
      · by_cases h2 : i = m
        · subst h2
          rw [ho] at ho'; cases ho'
          rw [f0 i (Nat.le_refl _), fm]
          exact ⟨⟨v, rfl⟩, fun h => absurd hka h⟩
        · exact f2 i o' (by omega) hi ho'
    have hmono0 : ∀ i i', i ≤ i' → i' ≤ m + 1 → (S2 i).2.next ≤ (S2 i').2.next := by
      intro i i' h1 h2
      by_cases e : i' = m + 1
      · subst e
        by_cases e2 : i = m + 1
        · subst e2; exact Nat.le_refl _
        · rw [f0 i (by omega), fm]
          exact Nat.le_trans (I.mono i m (by omega) (by rw [hnext]; exact Nat.le_refl _)) hs'.next
      · rw [f0 i (by omega), f0 i' (by omega)]
        exact I.mono i i' h1 (by rw [hnext]; omega)
    have hpend0 : ∀ y o', ns[y]? = some o' → y < m + 1 → D' y = false → o'.op.kind = .alloc → wantedN o'.guard (S2 y).1 = true → ∀ obj, (S2 (y + 1)).2 = (S2 y).2.add obj → φ' (S2 y).2.next = none ∧ (S2 (m + 1)).2.get (S2 y).2.next = obj := by
      intro y o' hy hyr hDy hka' hw' obj hobj
      have hyne : y ≠ m := by intro e; subst e; rw [ho] at hy; cases hy; rw [hka] at hka'; cases hka'
      have hDy' : D y = false := by
        rw [hD'] at hDy; simp only [Bool.or_eq_false_iff] at hDy; exact hDy.1
      rw [f0 y (by omega)] at hw' hobj ⊢
      rw [f0 (y + 1) (by omega)] at hobj
      obtain ⟨g1, g2⟩ := I.pend y o' hy (by rw [hnext]; omega) hDy' hka' hw' obj hobj
      rw [hnext] at g2
      have hb : (S y).2.next < (S m).2.next := by
        have := I.mono (y + 1) m (by omega) (by rw [hnext]; exact Nat.le_refl _)
        rw [hobj] at this
        simp only [AHeap.next_add] at this
        omega
      obtain ⟨g3, g4⟩ := hs'.unmapped _ hb g1
      rw [fm]
      exact ⟨g4, g3.trans g2⟩
    have hstm : Stp φ₀ (S2 0).2 w₀ φ' (S2 (m + 1)).2 w' := by rw [f0 0 (Nat.zero_le _), fm]; exact hst'
    obtain ⟨q1, q2, q3⟩ := grow hstm hmono0 hpend0 x (fun i o' _ h2 h3 => hpath i o' h2 h3) hle' hna
    rw [← hx] at q1 q2 q3 f4 hpath
    -- the environment
    have hTD' : TD ns (S2 0).1 (S2 (nextA ns (j + 1))).1 D' = put T o.dst v := by
      have g1 : TD ns (S2 0).1 (S2 (nextA ns (j + 1))).1 D' = put (TD ns (S2 0).1 (S2 (nextA ns (j + 1))).1 D) o.dst (tfv (S2 (nextA ns (j + 1))).1 o.dst) := TD_step ho (fun s _ => hD' s)
      have hle2 : nextA ns (j + 1) ≤ ns.length := nextA_le ns (j + 1)
      have g2 := tf_val (S := S2) hle2 hpath F (r := m) (by omega) ho (v := v) (by rw [fm, f0 m (Nat.le_refl _)]) (X := TD ns (S2 0).1 (S2 (nextA ns (j + 1))).1 D) (by rw [TD_length])
      rw [g1, g2, f0 0 (Nat.zero_le _), hT]
      congr 1
      refine TD_ext fun s hs hDs t hdt => ?_
      have hsm : s < m := by have := I.low s hDs; omega
      rw [← f0 m (Nat.le_refl _)]
      refine st_after (S := S2) hle2 hpath (nextA ns (j + 1) - m) m (by omega) fun i o' hi _ hio hd' => ?_
      have hil : i < ns.length := (List.getElem?_eq_some_iff.1 hio).1
      exact F.dst s i (by rw [← F.hns]; exact hs) (by rw [← F.hns]; exact hil) (by omega) t hdt (by simp [List.getD_eq_getElem?_getD, hio, hd'])
    refine hk S2 (j + 1) φ' a' w' ⟨hg', (f0 0 (Nat.zero_le _)).trans I.s0, hpath, f4, ?_, by rw [hTD']; exact he', q1, hd'.trans I.defs, ?_, hjl, hclo', hout', q2, q3⟩
    · intro s hs
      rw [hD'] at hs
      simp only [Bool.or_eq_true, decide_eq_true_eq] at hs
      rcases hs with hs | hs
      · have := I.low s hs; omega
      · omega
    intro j' q' hq'
    rw [hD']
    simp only [Bool.or_eq_true, decide_eq_true_eq]
    constructor
    · rintro (h | h)
      · have := (I.act j' q' hq').1 h; omega
      · subst h
        have : j' = j := by
          rcases Nat.lt_trichotomy j' j with h | h | h
          · have := acts_lt hq' hj h; omega
          · exact h
          · have := acts_lt hj hq' h; omega
        omega
    · intro h
      by_cases e : j' = j
      · subst e; rw [hj] at hq'; cases hq'; exact .inr rfl
      · exact .inl ((I.act j' q' hq').2 (by omega))
  · -- any other one
    have hrn : r < nextA ns k := by rw [← hm]; exact hrm2 hka
    have hstp := hS r o (hrm2 hka) ho
    obtain ⟨v, hv1', hstep'⟩ := stepN_congr hag (show stepN noCall o (S r).1 (S r).2 = some ((S (r + 1)).1, (S (r + 1)).2) from hstp.2 hka)
    have hput := tf_val hml hS F (hrm2 hka) ho hv1' hTl
    have hTD' : TD ns (S 0).1 (S m).1 D' = put T o.dst (tfv (S m).1 o.dst) := by
      rw [hT]; exact TD_step ho (fun s _ => hD' s)
    rw [hput, hm] at hTD'
    have hlow' : ∀ s, D' s = true → s < nextA ns k := by
      intro s hs
      rw [hD'] at hs
      simp only [Bool.or_eq_true, decide_eq_true_eq] at hs
      rcases hs with hs | hs
      · exact I.low s hs
      · rw [hs]; exact hrn
    have hact' : ∀ (j q : Nat), (actives 0 ns)[j]? = some q → (D' q = true ↔ j < k) := by
      intro j q hq
      rw [hD']
      have hne : q ≠ r := by
        intro e; subst e
        obtain ⟨o', h1, h2⟩ := act_at (List.mem_of_getElem? hq)
        rw [ho] at h1; cases h1; exact hka h2
      simp only [Bool.or_eq_true, decide_eq_true_eq, hne, or_false]
      exact I.act j q hq
    have hpendD : ∀ {φ' : Phi}, (∀ b, b < (S (nextA ns k)).2.next → φ b = none → (∀ x o', ns[x]? = some o' → x ≠ r → x < nextA ns k → o'.op.kind = .alloc → wantedN o'.guard (S x).1 = true → ∀ obj, (S (x + 1)).2 = (S x).2.add obj → b = (S x).2.next → φ' b = none)) →
        ∀ x o', ns[x]? = some o' → x < nextA ns k → D' x = false → o'.op.kind = .alloc → wantedN o'.guard (S x).1 = true → ∀ obj, (S (x + 1)).2 = (S x).2.add obj → φ' (S x).2.next = none ∧ (S (nextA ns k)).2.get (S x).2.next = obj := by
      intro φ' hφ x o' hx hxr hDx hka' hw' obj hobj
      rw [hD'] at hDx
      simp only [Bool.or_eq_false_iff, decide_eq_false_iff_not] at hDx
      obtain ⟨g1, g2⟩ := I.pend x o' hx hxr hDx.1 hka' hw' obj hobj
      have hb : (S x).2.next < (S (nextA ns k)).2.next := by
        have := I.mono (x + 1) (nextA ns k) (by omega) (Nat.le_refl _)
        rw [hobj] at this
        simp only [AHeap.next_add] at this
        omega
      exact ⟨hφ _ hb g1 x o' hx hDx.2 hxr hka' hw' obj hobj rfl, g2⟩
    obtain ⟨hw, hd, hcop⟩ := wanted_rel (P := P) henv hco
    have hwS : wantedN o.guard T = wantedN o.guard (S r).1 := wanted_congr hag
    rw [hw]
    split
    · rename_i hwt
      have hstep2 := hstep'
      unfold stepN at hstep2
      rw [if_pos hwt] at hstep2
      -- the operation's result, at the heap as it is now
      have fin : ∀ (u : Value) (H1 : AHeap), eop o.op T (S (nextA ns k)).2 = some (.val u H1) → H1 = (S (nextA ns k)).2 → put T o.dst u = put T o.dst v → oper.wpIn (Fr ro) 0 P a w next Q := by
        intro u H1 he hH hu
        subst hH
        obtain ⟨nx, w', φ', v', h1, h2, h3, h4⟩ := cOp_sound (P := P) I.gok henv I.stp.sim hcop he
        have hres : Inv P G ops pi dirs ns C QD T0 H0 S φ₀ w₀ ds D' k φ' (a.put oper.dst v') w' := by
          refine ⟨I.gok.mono h4.le, I.s0, I.path, I.rem, hlow', ?_, I.stp.trans h4, (put_defers _ _ _).trans I.defs, hact', I.kle, hclo', hout', I.mono, hpendD (fun b hb hn x o' _ _ _ _ _ obj _ _ => (h4.unmapped b hb hn).2)⟩
          rw [hTD', ← hu]
          have := put_rel (henv.mono h4.le) o.dst h3
          rw [hd] at this ⊢
          exact this
        refine wpIn_of_run (cOp_nodefer hcop) ?_
        rw [h1]
        rcases h2 with rfl | ⟨rfl, rfl⟩
        · exact hk S k φ' _ w' hres
        · exact hk S k φ' _ w' hres
      cases hkd : o.op.kind with
      | active => exact absurd hkd hka
      | pure =>
        split at hstep2
        · rename_i u H1 he
          obtain ⟨u', h1, h2⟩ := eop_pure hkd he
          cases h1
          have hpt : put T o.dst u = put T o.dst v := by
            have := congrArg (fun x => Option.map Prod.fst x) hstep2
            simpa using this
          exact fin u _ (h2 _) rfl hpt
        · rename_i f args H1 he
          obtain ⟨u', h1, h2⟩ := eop_pure hkd he
          cases h1
        · cases hstep2
      | read =>
        have hkeep : ∀ j q, (actives 0 ns)[j]? = some q → k ≤ j → q ∉ (closeDeps [] dirs).getD r [] := by
          intro j q hq hj hmem
          have := (I.act j q hq).1 (hdeps q hmem)
          omega
        have hkeep2 : ∀ j q, (actives 0 ns)[j]? = some q → j < k → r ∉ (closeDeps [] dirs).getD q [] := by
          intro j q hq hj hmem
          have := hcl q ((I.act j q hq).2 hj) r hmem
          rw [hD] at this; cases this
        obtain ⟨d, u, H1, h1, h2, h3⟩ := hread S r o k hlen0 I.path I.rem hrn ho hkd (by rw [← hwS]; exact hwt) I.kle hkeep hkeep2
        rw [← eop_looks _ hag] at h2
        obtain ⟨u', h4⟩ := eop_read hkd h2
        cases h4
        refine fin u _ h2 rfl ?_
        rw [← hput, h1, h3, hm]; rfl
      | alloc =>
        split at hstep2
        · rename_i u H1 he
          have hal := eop_alloc (P := P) I.gok henv hcop hkd he w
          obtain ⟨vf, obj, h1, mm, ob, v', hmm, hrun, hall⟩ := hal
          cases h1
          have hH : (S (r + 1)).2 = (S r).2.add obj := by
            have := congrArg (fun x => Option.map Prod.snd x) hstep2
            simp at this
            exact this.symm
          have hpt : put T o.dst (vf (S r).2.next) = put T o.dst v := by
            have := congrArg (fun x => Option.map Prod.fst x) hstep2
            simpa using this
          obtain ⟨g1, g2⟩ := I.pend r o ho hrn hD hkd (by rw [← hwS]; exact hwt) obj hH
          have hbn : (S r).2.next < (S (nextA ns k)).2.next := by
            have := I.mono (r + 1) (nextA ns k) (by omega) (Nat.le_refl _)
            rw [hH] at this
            simp only [AHeap.next_add] at this
            omega
          have hb0 : (S 0).2.next ≤ (S r).2.next := I.mono 0 r (Nat.zero_le _) (by omega)
          obtain ⟨k1, k2⟩ := hall (S r).2.next (φ.add (S r).2.next mm) (Phi.add_le g1) (Phi.add_self _ _ _)
          have hbd := Stp.bind I.stp hb0 hbn g1 g2 hmm k1
          refine wpIn_of_run (cOp_nodefer hcop) ?_
          rw [hrun]
          refine hk S k (φ.add (S r).2.next mm) _ _ ⟨I.gok.mono (Phi.add_le g1), I.s0, I.path, I.rem, hlow', ?_, hbd, (put_defers _ _ _).trans I.defs, hact', I.kle, hclo', hout', I.mono, hpendD ?_⟩
          · rw [hTD', ← hpt]
            have := put_rel (henv.mono (Phi.add_le g1)) o.dst k2
            rw [hd] at this ⊢
            exact this
          · intro b hb hn x o' hx hxr hxn hkx hwx obj' hobj' hbx
            subst hbx
            unfold Phi.add
            rw [if_neg, hn]
            -- two new blocks of the evaluator's are two numbers
            intro e
            rcases Nat.lt_trichotomy x r with h | h | h
            · have := I.mono (x + 1) r (by omega) (by omega)
              rw [hobj'] at this
              simp only [AHeap.next_add] at this
              omega
            · exact hxr h
            · have := I.mono (r + 1) x (by omega) (by omega)
              rw [hH] at this
              simp only [AHeap.next_add] at this
              omega
        · rename_i f args H1 he
          obtain ⟨u', obj, h1⟩ := eop_alloc_heap hkd he
          cases h1
        · cases hstep2
    · rename_i hwt
      have hstep2 := hstep'
      unfold stepN at hstep2
      rw [if_neg hwt] at hstep2
      have hpt : put T o.dst undef = put T o.dst v := by
        have := congrArg (fun x => Option.map Prod.fst x) hstep2
        simpa using this
      refine ⟨fun _ _ => trivial, hk S k φ _ w ⟨I.gok, I.s0, I.path, I.rem, hlow', ?_, I.stp, (put_defers _ _ _).trans I.defs, hact', I.kle, hclo', hout', I.mono, hpendD (fun b hb hn x o' _ _ _ _ _ obj _ _ => hn)⟩⟩
      rw [hTD', ← hpt]
      have := put_rel henv o.dst (undefR φ)
      rw [hd] at this ⊢
      exact this

def undone (n : Nat) (D : Nat → Bool) : Nat := ((List.range n).filter fun r => !D r).length

theorem undone_zero {n : Nat} {D : Nat → Bool} (h : undone n D = 0) : ∀ r, r < n → D r = true := by
  intro r hr
  unfold undone at h
  have := List.eq_nil_of_length_eq_zero h
  cases hD : D r with
  | true => rfl
  | false =>
    have : r ∈ (List.range n).filter fun r => !D r := List.mem_filter.2 ⟨List.mem_range.2 hr, by simp [hD]⟩
    rw [List.eq_nil_of_length_eq_zero h] at this
    cases this

theorem undone_step {n r : Nat} {D D' : Nat → Bool} (hr : r < n) (hD : D r = false) (hD' : ∀ s, D' s = (D s || decide (s = r))) : undone n D = undone n D' + 1 := by
  unfold undone
  rw [← List.countP_eq_length_filter, ← List.countP_eq_length_filter]
  induction n with
  | zero => omega
  | succ n ih =>
    simp only [List.range_succ, List.countP_append, List.countP_singleton]
    by_cases e : r = n
    · subst e
      have : List.countP (fun r => !D' r) (List.range r) = List.countP (fun r => !D r) (List.range r) := by
        apply List.countP_congr
        intro s hs
        have := List.mem_range.1 hs
        rw [hD']
        have : s ≠ r := by omega
        simp [this]
      rw [this, hD', hD]
      simp
    · have := ih (by omega)
      rw [this, hD' n]
      have : n ≠ r := fun h => e h.symm
      simp [this]
      omega

theorem draw_any (F : Facts P G ops pi dirs ns) (hC : CalleesOk P G C) {ro : Option Nat} {QD : List (FEnv × AHeap) → FEnv → AHeap → Prop} {T0 : Env} {H0 : AHeap} (hdst : dstOkO T0.length ns = true)
    (hread : ∀ (S : Nat → Env × AHeap) (r : Nat) (o : NOper) (k : Nat), (S 0).1.length = T0.length → (∀ (i : Nat) o, i < nextA ns k → ns[i]? = some o → StepP o (S i) (S (i + 1))) → wpD C (ns.drop (nextA ns k)) (ofL (S (nextA ns k)).1) (S (nextA ns k)).2 (stsOf S (nextA ns k)) QD → r < nextA ns k → ns[r]? = some o → o.op.kind = .read → wantedN o.guard (S r).1 = true → k ≤ (actives 0 ns).length → (∀ j q, (actives 0 ns)[j]? = some q → k ≤ j → q ∉ (closeDeps [] dirs).getD r []) → (∀ j q, (actives 0 ns)[j]? = some q → j < k → r ∉ (closeDeps [] dirs).getD q []) →
      ∃ d v H1, o.dst = some d ∧ eop o.op (S r).1 (S (nextA ns k)).2 = some (.val v H1) ∧ v = (S (nextA ns k)).1.getD d undef)
    {φ₀ : Phi} {w₀ : World} {ds : List Deferred} {Q : Post} (hQD : ∀ a T H, QD a T H → Q .normal T H) : ∀ (fuel : Nat) (listed : Array Bool) (D : Nat → Bool) (S : Nat → Env × AHeap) (k : Nat) (φ : Phi) (a : Act) (w : World), listed.size = ops.size → (∀ r, r < ops.size → listed.getD (pi.getD r ops.size) true = D r) →
      Inv P G ops pi dirs ns C QD T0 H0 S φ₀ w₀ ds D k φ a w → undone ops.size D = fuel → wpAnyIn (Fr ro) 0 P .any ops (PostQ φ₀ H0 w₀ ds T0 (asgO ns) Q) fuel listed a w := by
  have hfin : ∀ (D : Nat → Bool) (S : Nat → Env × AHeap) (k : Nat) (φ : Phi) (a : Act) (w : World), Inv P G ops pi dirs ns C QD T0 H0 S φ₀ w₀ ds D k φ a w → (∀ r, r < ops.size → D r = true) → PostQ φ₀ H0 w₀ ds T0 (asgO ns) Q .normal a w := by
    intro D S k φ a w I hall
    have hkk : k = (actives 0 ns).length := by
      rcases Nat.lt_or_eq_of_le I.kle with h | h
      · obtain ⟨q, hq⟩ : ∃ q, (actives 0 ns)[k]? = some q := ⟨(actives 0 ns)[k], by simp⟩
        obtain ⟨o, ho, _⟩ := act_at (List.mem_of_getElem? hq)
        have hql : q < ops.size := by rw [← F.hns]; exact (List.getElem?_eq_some_iff.1 ho).1
        have := (I.act k q hq).1 (hall q hql)
        omega
      · exact h
    have hn : nextA ns k = ns.length := by rw [hkk]; simp [nextA, List.getD_eq_getElem?_getD]
    have hst := I.stp
    have hS := I.path
    have hrem := I.rem
    have henv := I.env
    rw [hn] at hst hS hrem henv
    rw [List.drop_length] at hrem
    have hlf := st_length (Nat.le_refl _) hS ns.length (Nat.le_refl _)
    have h00 : (S 0).1 = T0 := by rw [I.s0]
    refine ⟨.normal, (S ns.length).1, (S ns.length).2, hQD _ _ _ hrem, by rw [hlf, h00], fun i hi => ?_, rfl, [], I.defs, φ, ?_, by rw [← show (S 0).2 = H0 by rw [I.s0]]; exact hst, .nil⟩
    · simp only [ofL, List.getD_eq_getElem?_getD]
      rw [st_before (Nat.le_refl _) hS ns.length (Nat.le_refl _) (fun j o' hj hjo hd' => hi (mem_asgO (List.mem_of_getElem? hjo) hd')), h00]
    have hTD : TD ns (S 0).1 (S ns.length).1 D = (S ns.length).1 := by
      apply List.ext_getElem?
      intro t
      by_cases ht : t < (S 0).1.length
      · rw [TD_get ht]
        have htf : t < (S ns.length).1.length := by omega
        by_cases hw : ∃ s, s < ns.length ∧ (ns.getD s default).dst = some t
        · obtain ⟨s, hs, hd⟩ := hw
          rw [if_pos]
          · simp [List.getD_eq_getElem?_getD, htf]
          · simp only [List.any_eq_true, List.mem_range, Bool.and_eq_true, decide_eq_true_eq]
            exact ⟨s, hs, hall s (by rw [← F.hns]; exact hs), hd⟩
        · rw [if_neg]
          · rw [st_before (Nat.le_refl _) hS ns.length (Nat.le_refl _) (fun j o' hj hjo hd' => hw ⟨j, hj, by simp [List.getD_eq_getElem?_getD, hjo, hd']⟩)]
            simp [List.getD_eq_getElem?_getD, ht]
          · simp only [List.any_eq_true, List.mem_range, Bool.and_eq_true, decide_eq_true_eq, not_exists, not_and]
            intro j hj hDj hdj
            exact hw ⟨j, hj, hdj⟩
      · rw [List.getElem?_eq_none (by rw [TD_length]; omega), List.getElem?_eq_none (by omega)]
    rw [← hTD]; exact henv
  intro fuel
  induction fuel with
  | zero =>
    intro listed D S k φ a w hsz hl I hu
    have hall := undone_zero hu
    refine ⟨?_, hfin D S k φ a w I hall⟩
    cases hr : Region.ready .any ops listed with
    | nil => rfl
    | cons i rest =>
      have hi : i ∈ Region.ready .any ops listed := by rw [hr]; simp
      obtain ⟨h1, o, ho, _⟩ := mem_ready.1 hi
      have hio := (Array.getElem?_eq_some_iff.1 ho).1
      obtain ⟨r, hr1, hr2⟩ := F.cov i hio
      have := hl r hr1
      rw [hr2, h1, hall r hr1] at this
      cases this
  | succ fuel ih =>
    intro listed D S k φ a w hsz hl I hu
    refine ⟨fun hnil => ?_, fun i hi => ?_⟩
    · -- the first that has not been carried out could be
      exfalso
      have hex : ∃ r, r < ops.size ∧ D r = false ∧ ∀ s, s < r → D s = true := by
        have : ∃ r, r < ops.size ∧ D r = false := by
          refine Classical.byContradiction fun h => ?_
          have : undone ops.size D = 0 := by
            unfold undone
            rw [List.length_eq_zero_iff, List.filter_eq_nil_iff]
            intro r hr
            cases hD : D r with
            | true => simp
            | false => exact absurd ⟨r, List.mem_range.1 hr, hD⟩ h
          omega
        obtain ⟨r, hr⟩ := this
        induction r using Nat.strongRecOn with
        | _ r ihr =>
          by_cases h : ∃ s, s < r ∧ D s = false
          · obtain ⟨s, hs, hDs⟩ := h
            exact ihr s hs ⟨by omega, hDs⟩
          · refine ⟨r, hr.1, hr.2, fun s hs => ?_⟩
            cases hD : D s with
            | true => rfl
            | false => exact absurd ⟨s, hs, hD⟩ h
      obtain ⟨r, hr, hDr, hbef⟩ := hex
      obtain ⟨o, n, ho, _, _⟩ := F.comp r hr
      have : pi.getD r ops.size ∈ Region.ready .any ops listed := by
        refine mem_ready.2 ⟨by rw [hl r hr]; exact hDr, o, ho, fun e he hb => ?_⟩
        obtain ⟨s, hs, hse⟩ := F.edge r hr o ho e he hb
        have hlt := F.low r hr s hs
        have h1 := hl s (by omega)
        rw [hse, hbef s hlt] at h1
        have hlt2 : e.on < listed.size := by
          rw [hsz]
          refine Classical.byContradiction fun h => ?_
          have h3 : pi.getD s ops.size = e.on := hse
          obtain ⟨o', n', ho', _, _⟩ := F.comp s (by omega)
          rw [h3] at ho'
          exact h (Array.getElem?_eq_some_iff.1 ho').1
        simpa [Array.getD_eq_getD_getElem?, hlt2] using h1
      rw [hnil] at this
      cases this
    · obtain ⟨h1, o, ho, hall⟩ := mem_ready.1 hi
      have hio := (Array.getElem?_eq_some_iff.1 ho).1
      obtain ⟨r, hr, rfl⟩ := F.cov i hio
      obtain ⟨o', n, ho', hn, hco⟩ := F.comp r hr
      rw [ho] at ho'; cases ho'
      have hDr : D r = false := by rw [← hl r hr]; exact h1
      have hdir : ∀ s ∈ dirs.getD r [], D s = true := by
        intro s hs
        obtain ⟨e, he, hb, hse⟩ := F.back r hr o ho s hs
        have hlt := F.low r hr s hs
        have h3 := hall e he hb
        rw [← hl s (by omega), hse]
        have hlt2 : e.on < listed.size := by
          refine Classical.byContradiction fun h => ?_
          simp [Array.getD_eq_getD_getElem?, Array.getElem?_eq_none (Nat.le_of_not_lt h)] at h3
        simpa [Array.getD_eq_getD_getElem?, hlt2] using h3
      obtain ⟨D', hD'⟩ : ∃ D' : Nat → Bool, ∀ s, D' s = (D s || decide (s = r)) := ⟨fun s => D s || decide (s = r), fun s => rfl⟩
      have hl' : ∀ x, x < ops.size → (listed.setIfInBounds (pi.getD r ops.size) true).getD (pi.getD x ops.size) true = D' x := by
        intro x hx
        rw [hD']
        by_cases e : x = r
        · subst e
          simp [Array.getD_eq_getD_getElem?, hsz, hio]
        · have hne : pi.getD r ops.size ≠ pi.getD x ops.size := fun h => e (F.inj x r hx hr h.symm)
          rw [getD_set_ne true hne, hl x hx]
          simp [e]
      have := inv_step F hC (ro := ro) hdst hread I ho hn hco hDr hdir hD' (Q := PostQ φ₀ H0 w₀ ds T0 (asgO ns) Q)
        (next := wpAnyIn (Fr ro) 0 P .any ops (PostQ φ₀ H0 w₀ ds T0 (asgO ns) Q) fuel (listed.setIfInBounds (pi.getD r ops.size) true))
        (fun S' k' φ' a' w' I' => ih _ D' S' k' φ' a' w' (by simpa using hsz) hl' I' (by have := undone_step hr hDr hD'; omega))
      unfold wpOpIn
      rw [ho]
      simp only
      split
      · rename_i hw; rw [if_pos hw] at this; exact this
      · rename_i hw; rw [if_neg hw] at this; exact this

end draw
theorem chkF_get : ∀ {sts : List (FEnv × AHeap)} {Tf : FEnv} {os : List NOper} {cs : List (List Nat)} {r : Nat}, chkF sts Tf os cs r → ∀ (i : Nat) o c b, os[i]? = some o → cs[i]? = some c → b ∈ c → ∀ T H, sts[r + i]? = some (T, H) → wantedF o.guard T = true → ∃ d, o.dst = some d ∧ ∃ T1 H1, sts[b]? = some (T1, H1) ∧ chkF1 o.op d Tf T H1
  | sts, Tf, [], cs, r, h, i, o, c, b, ho, _, _, _, _, _, _ => by simp at ho
  | sts, Tf, o' :: os, [], r, h, i, o, c, b, ho, hc, _, _, _, _, _ => by simp at hc
  | sts, Tf, o' :: os, [] :: cs, r, h, i, o, c, b, ho, hc, hb, T, H, hs, hw => by
    simp only [chkF] at h
    cases i with
    | zero => simp at hc; subst hc; cases hb
    | succ i => exact chkF_get h i o c b (by simpa using ho) (by simpa using hc) hb T H (by rwa [show r + 1 + i = r + (i + 1) by omega]) hw
  | sts, Tf, o' :: os, (b' :: c') :: cs, r, h, i, o, c, b, ho, hc, hb, T, H, hs, hw => by
    simp only [chkF] at h
    cases i with
    | zero =>
      simp at ho hc; subst ho; subst hc
      have h1 := h.1
      rw [Nat.add_zero] at hs
      rw [hs] at h1
      have h1 := h1 hw
      cases hd : o'.dst with
      | none => rw [hd] at h1; exact h1.elim
      | some d =>
        rw [hd] at h1
        refine ⟨d, rfl, ?_⟩
        have key : ∀ (c : List Nat), chkFs sts o'.op d Tf T c → b ∈ c → ∃ T1 H1, sts[b]? = some (T1, H1) ∧ chkF1 o'.op d Tf T H1 := by
          intro c
          induction c with
          | nil => intro _ h; cases h
          | cons x c ih =>
            rintro ⟨k1, k2⟩ hm
            rcases List.mem_cons.1 hm with rfl | hm
            · split at k1
              · rename_i T1 H1 he; exact ⟨T1, H1, he, k1⟩
              · exact k1.elim
            · exact ih k2 hm
        exact key _ h1 hb
    | succ i => exact chkF_get h.2 i o c b (by simpa using ho) (by simpa using hc) hb T H (by rwa [show r + 1 + i = r + (i + 1) by omega]) hw

theorem drawSound (hm : P.follows .mixedOrders = true) {C : Callees} (hC : CalleesOk P G C) {ro : Option Nat} {id : Nat} {ops : Array Oper} {ns : List NOper} {chk : List (List Nat)} (hc : cDraw P G ops = some (ns, chk)) {T : Env} {H : AHeap} {Q : Post} (hdst : dstOkO T.length ns = true)
    (hrun : wpD C ns (ofL T) H [] (dK ns chk Q)) {φ : Phi} {a : Act} {w : World} (hg : GOk G φ) (ht : VRs φ T a.tmps.toList) (hs : Sim φ H w) : (Code.region id ops true).wpIn (Fr ro) 0 P (PostQ φ H w a.defers T (asgO ns) Q) a w := by
  simp only [cDraw, Option.bind_eq_some_iff] at hc
  obtain ⟨ns0, hns0, hc⟩ := hc
  obtain ⟨pi, hpi⟩ : ∃ pi, pi = asap (ops.toList.map binding) (ns0.map fun o => decide (o.op.kind = .active)) ops.size [] := ⟨_, rfl⟩
  rw [← hpi] at hc
  obtain ⟨dirs, hdirs⟩ : ∃ dirs, dirs = pi.map fun i => ((ops.toList.map binding).getD i []).map fun e => pi.idxOf e := ⟨_, rfl⟩
  rw [← hdirs] at hc
  obtain ⟨ns', hns, hc⟩ := hc
  split at hc
  case isFalse => cases hc
  rename_i hok
  cases hc
  have F := facts_of hns hok
  refine wpIn_region_any hm ?_
  have hread : ∀ (S : Nat → Env × AHeap) (r : Nat) (o : NOper) (k : Nat), (S 0).1.length = T.length → (∀ (i : Nat) o, i < nextA ns k → ns[i]? = some o → StepP o (S i) (S (i + 1))) → wpD C (ns.drop (nextA ns k)) (ofL (S (nextA ns k)).1) (S (nextA ns k)).2 (stsOf S (nextA ns k)) (dK ns (chkOf ops.size dirs ns) Q) → r < nextA ns k → ns[r]? = some o → o.op.kind = .read → wantedN o.guard (S r).1 = true → k ≤ (actives 0 ns).length → (∀ j q, (actives 0 ns)[j]? = some q → k ≤ j → q ∉ (closeDeps [] dirs).getD r []) → (∀ j q, (actives 0 ns)[j]? = some q → j < k → r ∉ (closeDeps [] dirs).getD q []) →
      ∃ d v H1, o.dst = some d ∧ eop o.op (S r).1 (S (nextA ns k)).2 = some (.val v H1) ∧ v = (S (nextA ns k)).1.getD d undef := by
    intro S r o k hl0 hS hrem hrm ho hk hw hkl hA hB
    have hr : r < ns.length := (List.getElem?_eq_some_iff.1 ho).1
    have hro : r < ops.size := by rw [← F.hns]; exact hr
    have hgo : ns.getD r default = o := by simp [List.getD_eq_getElem?_getD, ho]
    have hcr : (chkOf ops.size dirs ns)[r]? = some (places ops.size (actives 0 ns) (closeDeps [] dirs) r) := by
      simp only [chkOf, List.getElem?_map, List.getElem?_range hro, Option.map_some]
      rw [hgo, if_pos hk]
    have hmem : nextA ns k ∈ places ops.size (actives 0 ns) (closeDeps [] dirs) r := by
      simp only [places, List.mem_filterMap, List.mem_range]
      refine ⟨k, by omega, ?_⟩
      rw [if_pos]
      · simp [nextA, F.hns]
      · simp only [Bool.and_eq_true, List.all_eq_true, Bool.not_eq_true', List.contains_eq_mem, decide_eq_false_iff_not]
        refine ⟨fun q hq => ?_, fun q hq => ?_⟩
        · obtain ⟨j, hj⟩ := List.getElem?_of_mem hq
          rw [List.getElem?_drop] at hj
          exact hA (k + j) q hj (by omega)
        · obtain ⟨j, hj⟩ := List.getElem?_of_mem hq
          have hjl : j < k := by
            have := (List.getElem?_eq_some_iff.1 hj).1
            simp at this; omega
          rw [List.getElem?_take, if_pos hjl] at hj
          exact hB j q hj hjl
    obtain ⟨m, hm⟩ : ∃ m, m = nextA ns k := ⟨_, rfl⟩
    have hml : m ≤ ns.length := by rw [hm]; exact nextA_le ns k
    rw [← hm] at hS hrem hrm hmem ⊢
    have hlm : (S m).1.length = T.length := (st_length hml hS m (Nat.le_refl _)).trans hl0
    obtain ⟨tr, lf, Hf, ⟨hchk, _⟩, _, hag⟩ := wpD_feas (ns.drop m) (S m).1 (S m).2 _ _ (by rw [hlm]; exact dstOkO_drop m hdst) hrem
    obtain ⟨d, hd, T1, H1, hb, H2, he⟩ := chkF_get hchk r o _ m ho hcr hmem (ofL (S r).1) (S r).2 (by rw [Nat.zero_add, List.getElem?_append_left (by rw [stsOf_len]; exact hrm), stsOf_get S hrm]) (by rw [← wanted_ofL'']; exact hw)
    rw [List.getElem?_append_right (by rw [stsOf_len]; exact Nat.le_refl _), stsOf_len, Nat.sub_self] at hb
    simp only [List.getElem?_cons_zero, Option.some.injEq, Prod.mk.injEq] at hb
    obtain ⟨_, rfl⟩ := hb
    rw [eop_sub] at he
    refine ⟨d, _, H2, hd, he, ?_⟩
    rw [hag d]
    · rfl
    · intro hmm
      obtain ⟨o', ho', hd'⟩ := of_mem_asgO hmm
      obtain ⟨j, hj⟩ := List.getElem?_of_mem ho'
      rw [List.getElem?_drop] at hj
      have hjl := (List.getElem?_eq_some_iff.1 hj).1
      exact F.dst r (m + j) hro (by rw [← F.hns]; exact hjl) (by omega) d (by rw [hgo]; exact hd) (by simp [List.getD_eq_getElem?_getD, hj, hd'])
  have hdrew := Stp.drew hs (w.drawn + 1)
  -- at the begin: nothing has been carried out
  have hna : ∀ (i : Nat) o, 0 ≤ i → i < 0 + nextA ns 0 → ns[i]? = some o → o.op.kind ≠ .active := fun i o h1 h2 h3 => between (k := 0) (fun j q _ h => by omega) (by omega) h3
  have hle : 0 + nextA ns 0 ≤ ns.length := by have := nextA_le ns 0; omega
  obtain ⟨S, f1, f2, f3, f4⟩ := run_on (S := fun _ => (T, H)) (lo := 0) hdst rfl (by simpa [stsOf] using hrun) (nextA ns 0) hle hna
  have hS0 : S 0 = (T, H) := f1 0 (Nat.le_refl _)
  have hg0 := grow (S := S) (φ₀ := φ) (w₀ := w) (w := { w with drawn := w.drawn + 1 }) (φ := φ) (D := fun _ => false) (lo := 0) (by rw [hS0]; exact hdrew) (fun i j h1 h2 => by
      have : i = j := by omega
      subst this; exact Nat.le_refl _) (fun r o _ h => by omega) (nextA ns 0) f2 hle hna
  rw [Nat.zero_add] at hg0 f2 f3 f4
  have I : Inv P G ops pi dirs ns C (dK ns (chkOf ops.size dirs ns) Q) T H S φ w a.defers (fun _ => false) 0 φ a { w with drawn := w.drawn + 1 } := by
    refine ⟨hg, hS0, fun i o hi => f2 i o (Nat.zero_le _) hi, f4, fun r h => (by cases h), ?_, hg0.1, rfl, ?_, Nat.zero_le _, ?_, fun _ _ => rfl, hg0.2.1, hg0.2.2⟩
    · rw [TD_none (fun _ _ => rfl), hS0]; exact ht
    · intro j q _; simp
    · intro r _ h; cases h
  exact draw_any F hC (ro := ro) hdst hread (fun a T H h => h.2) ops.size (Array.replicate ops.size false) (fun _ => false) S 0 φ a { w with drawn := w.drawn + 1 } (by simp) (fun r hr => by
      obtain ⟨o, n, ho, _, _⟩ := F.comp r hr
      have := (Array.getElem?_eq_some_iff.1 ho).1
      clear ho
      generalize pi.getD r ops.size = i at *
      simp [Array.getD_eq_getD_getElem?, this]) I (by
      have e : ((List.range ops.size).filter fun r => !(fun _ : Nat => false) r) = List.range ops.size := List.filter_eq_self.2 (fun _ _ => rfl)
      unfold undone
      rw [e, List.length_range])

end Go.E
