/-
  THE EVALUATOR, PART Q: regions that draw their order: the theorem.
-/
import Derived.Test.YtamcfhhcmjagnaaEhP
set_option linter.unusedSimpArgs false
set_option linter.unusedVariables false
namespace Go.E
open Go
variable {P : Program} {G : Nat}
section draw
variable {C : Callee} {ops : Array Oper} {pi : List Nat} {dirs : List (List Nat)} {ns : List NOper} {S : Nat → Env × AHeap}
def nextA (ns : List NOper) (k : Nat) : Nat := (actives 0 ns).getD k ns.length

theorem nextA_le (ns : List NOper) (k : Nat) : nextA ns k ≤ ns.length := by
  unfold nextA
  rw [List.getD_eq_getElem?_getD]
  cases h : (actives 0 ns)[k]? with
  | none => simp
  | some q =>
    obtain ⟨j, o, h1, h2, _⟩ := (actives_mem ns 0 q).1 (List.mem_of_getElem? h)
    have := (List.getElem?_eq_some_iff.1 h2).1
    simp; omega

structure Inv (P : Program) (G : Nat) (ops : Array Oper) (pi : List Nat) (dirs : List (List Nat)) (ns : List NOper) (S : Nat → Env × AHeap) (φ₀ : Phi) (w₀ : World) (ds : List Deferred) (D : Nat → Bool) (k : Nat) (φ : Phi) (a : Act) (w : World) : Prop where
  gok : GOk G φ
  env : VRs φ (TD ns (S 0).1 (S ns.length).1 D) a.tmps.toList
  stp : Stp φ₀ (S 0).2 w₀ φ (S (nextA ns k)).2 w
  defs : a.defers = ds
  act : ∀ (j q : Nat), (actives 0 ns)[j]? = some q → (D q = true ↔ j < k)
  kle : k ≤ (actives 0 ns).length
  clo : ∀ r, r < ns.length → D r = true → ∀ s ∈ dirs.getD r [], D s = true
  out : ∀ r, ns.length ≤ r → D r = false
  mono : ∀ i j, i ≤ j → j ≤ nextA ns k → (S i).2.next ≤ (S j).2.next
  pend : ∀ r o, ns[r]? = some o → r < nextA ns k → D r = false → o.op.kind = .alloc → wantedN o.guard (S r).1 = true → ∀ obj, (S (r + 1)).2 = (S r).2.add obj → φ (S r).2.next = none ∧ (S (nextA ns k)).2.get (S r).2.next = obj

variable (hS : ∀ (i : Nat) o, ns[i]? = some o → stepN C o (S i).1 (S i).2 = some (S (i + 1)))
include hS
theorem step_heap {i : Nat} {o : NOper} (ho : ns[i]? = some o) (hk : o.op.kind ≠ .active) :
    (S (i + 1)).2 = (S i).2 ∧ (o.op.kind = .alloc → wantedN o.guard (S i).1 = true → False) ∨ ∃ obj, o.op.kind = .alloc ∧ wantedN o.guard (S i).1 = true ∧ (S (i + 1)).2 = (S i).2.add obj := by
  have h := hS i o ho
  unfold stepN at h
  split at h
  case isFalse hw =>
    have := congrArg (fun x => (Option.map Prod.snd x)) h
    simp at this
    exact .inl ⟨this.symm, fun _ hw' => hw hw'⟩
  rename_i hw
  cases hkd : o.op.kind with
  | active => exact absurd hkd hk
  | pure =>
    split at h
    · rename_i v H' he
      obtain ⟨v', h1, _⟩ := eop_pure hkd he
      cases h1
      cases hq : S (i + 1); rw [hq] at h; cases h
      exact .inl ⟨rfl, fun e => (by cases e)⟩
    · rename_i f args H' he
      obtain ⟨v', h1, _⟩ := eop_pure hkd he
      cases h1
    · cases h
  | read =>
    split at h
    · rename_i v H' he
      obtain ⟨v', h1⟩ := eop_read hkd he
      cases h1
      cases hq : S (i + 1); rw [hq] at h; cases h
      exact .inl ⟨rfl, fun e => (by cases e)⟩
    · rename_i f args H' he
      obtain ⟨v', h1⟩ := eop_read hkd he
      cases h1
    · cases h
  | alloc =>
    split at h
    · rename_i v H' he
      obtain ⟨v', obj, h1⟩ := eop_alloc_heap hkd he
      cases h1
      cases hq : S (i + 1); rw [hq] at h; cases h
      exact .inr ⟨obj, rfl, hw, rfl⟩
    · rename_i f args H' he
      obtain ⟨v', obj, h1⟩ := eop_alloc_heap hkd he
      cases h1
    · cases h

theorem grow {φ₀ φ : Phi} {w₀ w : World} {D : Nat → Bool} {lo : Nat} (hst : Stp φ₀ (S 0).2 w₀ φ (S lo).2 w) (hmono : ∀ i j, i ≤ j → j ≤ lo → (S i).2.next ≤ (S j).2.next)
    (hpend : ∀ r o, ns[r]? = some o → r < lo → D r = false → o.op.kind = .alloc → wantedN o.guard (S r).1 = true → ∀ obj, (S (r + 1)).2 = (S r).2.add obj → φ (S r).2.next = none ∧ (S lo).2.get (S r).2.next = obj) :
    ∀ (m : Nat), lo + m ≤ ns.length → (∀ (i : Nat) o, lo ≤ i → i < lo + m → ns[i]? = some o → o.op.kind ≠ .active) →
      Stp φ₀ (S 0).2 w₀ φ (S (lo + m)).2 w ∧ (∀ i j, i ≤ j → j ≤ lo + m → (S i).2.next ≤ (S j).2.next) ∧
      (∀ r o, ns[r]? = some o → r < lo + m → D r = false → o.op.kind = .alloc → wantedN o.guard (S r).1 = true → ∀ obj, (S (r + 1)).2 = (S r).2.add obj → φ (S r).2.next = none ∧ (S (lo + m)).2.get (S r).2.next = obj)
  | 0, _, _ => ⟨hst, hmono, hpend⟩
  | m + 1, hle, hna => by
    obtain ⟨h1, h2, h3⟩ := grow hst hmono hpend m (by omega) (fun i o hi hi' ho => hna i o hi (by omega) ho)
    obtain ⟨o, ho⟩ : ∃ o, ns[lo + m]? = some o := ⟨ns[lo + m]'(by omega), by simp⟩
    have hk := hna (lo + m) o (by omega) (by omega) ho
    rw [show lo + (m + 1) = lo + m + 1 by omega]
    rcases step_heap hS ho hk with ⟨he, hno⟩ | ⟨obj, hka, hw, he⟩
    · rw [he]
      refine ⟨h1, ?_, ?_⟩
      · intro i j hij hj
        by_cases e : j = lo + m + 1
        · subst e
          rw [he]
          by_cases e2 : i = lo + m + 1
          · subst e2; rw [he]; exact Nat.le_refl _
          · exact h2 i _ (by omega) (Nat.le_refl _)
        · exact h2 i j hij (by omega)
      · intro r o' ho' hr hD hka' hw' obj hobj
        by_cases e : r = lo + m
        · subst e
          rw [ho] at ho'; cases ho'
          exact (hno hka' hw').elim
        · exact h3 r o' ho' (by omega) hD hka' hw' obj hobj
    · rw [he]
      refine ⟨h1.addU obj, ?_, ?_⟩
      · intro i j hij hj
        by_cases e : j = lo + m + 1
        · subst e
          rw [he]
          by_cases e2 : i = lo + m + 1
          · subst e2; rw [he]; exact Nat.le_refl _
          · have := h2 i _ (show i ≤ lo + m by omega) (Nat.le_refl _)
            simp only [AHeap.next_add]; omega
        · exact h2 i j hij (by omega)
      · intro r o' ho' hr hD hka' hw' obj' hobj
        by_cases e : r = lo + m
        · subst e
          rw [he] at hobj
          have := add_inj hobj
          subst this
          exact ⟨h1.sim.fresh, by simp⟩
        · obtain ⟨g1, g2⟩ := h3 r o' ho' (by omega) hD hka' hw' obj' hobj
          have hb : (S r).2.next < (S (lo + m)).2.next := by
            have := h2 (r + 1) (lo + m) (by omega) (Nat.le_refl _)
            rw [hobj] at this
            simp only [AHeap.next_add] at this
            omega
          exact ⟨g1, by rw [AHeap.get_add, if_neg (by omega)]; exact g2⟩

omit hS in
theorem deps_closed (F : Facts P G ops pi dirs ns) {D : Nat → Bool} (hclo : ∀ r, r < ns.length → D r = true → ∀ s ∈ dirs.getD r [], D s = true) (hout : ∀ r, ns.length ≤ r → D r = false) :
    ∀ r, D r = true → ∀ s ∈ (closeDeps [] dirs).getD r [], D s = true := by
  refine closeDeps_closed (fun r => D r = true) dirs [] (by simp) ?_ ?_
  · intro i hi s hs
    have := F.low i (by rw [← F.hdirs]; exact hi) s hs
    simp; omega
  · intro i hi hD s hs
    simp only [List.length_nil, Nat.zero_add] at hD
    exact hclo i (by rw [F.hns, ← F.hdirs]; exact hi) hD s hs

omit hS in
theorem deps_lt (F : Facts P G ops pi dirs ns) : ∀ r, ∀ s ∈ (closeDeps [] dirs).getD r [], s < r := by
  refine closeDeps_lt dirs [] (by simp) ?_
  intro i hi s hs
  have := F.low i (by rw [← F.hdirs]; exact hi) s hs
  simp; omega

theorem looks_agree (F : Facts P G ops pi dirs ns) {D : Nat → Bool} (hcl : ∀ r, D r = true → ∀ s ∈ (closeDeps [] dirs).getD r [], D s = true) (hout : ∀ r, ns.length ≤ r → D r = false) {r : Nat} {o : NOper} (ho : ns[r]? = some o) (hD : D r = false)
    (hdeps : ∀ s ∈ (closeDeps [] dirs).getD r [], D s = true) : ∀ t ∈ o.looks, (TD ns (S 0).1 (S ns.length).1 D)[t]? = (S r).1[t]? := by
  intro t ht
  have hr : r < ns.length := (List.getElem?_eq_some_iff.1 ho).1
  have hgo : ns.getD r default = o := by simp [List.getD_eq_getElem?_getD, ho]
  have hlen := st_length hS r (Nat.le_of_lt hr)
  have hlenf := st_length hS ns.length (Nat.le_refl _)
  by_cases hlt : t < (S 0).1.length
  · rw [TD_get hlt]
    -- is there an operation that writes it?
    by_cases hw : ∃ s, s < ns.length ∧ (ns.getD s default).dst = some t
    · obtain ⟨s, hs, hd⟩ := hw
      have huniq : ∀ (j : Nat) o', ns[j]? = some o' → o'.dst = some t → j = s := by
        intro j o' hj hd'
        have hjl : j < ns.length := (List.getElem?_eq_some_iff.1 hj).1
        have hgj : ns.getD j default = o' := by simp [List.getD_eq_getElem?_getD, hj]
        refine Classical.byContradiction fun hne => ?_
        exact F.dst j s (by rw [← F.hns]; exact hjl) (by rw [← F.hns]; exact hs) hne t (by rw [hgj]; exact hd') hd
      rcases F.look r (by rw [← F.hns]; exact hr) t (by rw [hgo]; exact ht) s (by rw [← F.hns]; exact hs) hd with h | h | h
      · -- itself
        subst h
        rw [if_neg]
        · rw [st_before hS r (Nat.le_of_lt hr) (fun j o' hj hjo hd' => by have := huniq j o' hjo hd'; omega)]
          simp [List.getD_eq_getElem?_getD, hlt]
        · simp only [List.any_eq_true, List.mem_range, Bool.and_eq_true, decide_eq_true_eq, not_exists, not_and]
          intro j hj hDj hdj
          have := huniq j (ns.getD j default) (by simp [List.getD_eq_getElem?_getD, hj]) hdj
          subst this; rw [hD] at hDj; cases hDj
      · -- one that it hangs on
        have hDs := hdeps s h
        have hsr := deps_lt F r s h
        rw [if_pos]
        · rw [← st_after hS (ns.length - r) r (by omega) (fun j o' hj hjo hd' => by have := huniq j o' hjo hd'; omega)]
          have : t < (S ns.length).1.length := by omega
          simp [List.getD_eq_getElem?_getD, this]
        · simp only [List.any_eq_true, List.mem_range, Bool.and_eq_true, decide_eq_true_eq]
          exact ⟨s, hs, hDs, hd⟩
      · -- one that hangs on it
        have hrs := deps_lt F s r h
        rw [if_neg]
        · rw [st_before hS r (Nat.le_of_lt hr) (fun j o' hj hjo hd' => by have := huniq j o' hjo hd'; omega)]
          simp [List.getD_eq_getElem?_getD, hlt]
        · simp only [List.any_eq_true, List.mem_range, Bool.and_eq_true, decide_eq_true_eq, not_exists, not_and]
          intro j hj hDj hdj
          have := huniq j (ns.getD j default) (by simp [List.getD_eq_getElem?_getD, hj]) hdj
          subst this
          have := hcl j hDj r h
          rw [hD] at this; cases this
    · rw [if_neg]
      · rw [st_before hS r (Nat.le_of_lt hr) (fun j o' hj hjo hd' => hw ⟨j, (List.getElem?_eq_some_iff.1 hjo).1, by simp [List.getD_eq_getElem?_getD, hjo, hd']⟩)]
        simp [List.getD_eq_getElem?_getD, hlt]
      · simp only [List.any_eq_true, List.mem_range, Bool.and_eq_true, decide_eq_true_eq, not_exists, not_and]
        intro j hj hDj hdj
        exact hw ⟨j, hj, hdj⟩
  · have h1 : (TD ns (S 0).1 (S ns.length).1 D).length ≤ t := by rw [TD_length]; omega
    have h2 : (S r).1.length ≤ t := by omega
    rw [List.getElem?_eq_none h1, List.getElem?_eq_none h2]

theorem tf_val (F : Facts P G ops pi dirs ns) {r : Nat} {o : NOper} (ho : ns[r]? = some o) {v : Value} (hv : (S (r + 1)).1 = put (S r).1 o.dst v) {X : Env} (hX : X.length = (S 0).1.length) :
    put X o.dst (tfv (S ns.length).1 o.dst) = put X o.dst v := by
  have hr : r < ns.length := (List.getElem?_eq_some_iff.1 ho).1
  have hgo : ns.getD r default = o := by simp [List.getD_eq_getElem?_getD, ho]
  cases hd : o.dst with
  | none => rfl
  | some d =>
    simp only [put, tfv]
    by_cases hlt : d < X.length
    · congr 1
      have h1 : (S ns.length).1[d]? = (S (r + 1)).1[d]? := st_after hS (ns.length - (r + 1)) (r + 1) (by omega) (fun j o' hj hjo hd' => by
        have hjl : j < ns.length := (List.getElem?_eq_some_iff.1 hjo).1
        exact F.dst r j (by rw [← F.hns]; exact hr) (by rw [← F.hns]; exact hjl) (by omega) d (by rw [hgo]; exact hd) (by simp [List.getD_eq_getElem?_getD, hjo, hd']))
      have hl := st_length hS r (Nat.le_of_lt hr)
      have hdl : d < (S r).1.length := by omega
      rw [hv, hd] at h1
      simp only [put, List.getElem?_set, if_true, hdl] at h1
      simp [List.getD_eq_getElem?_getD, h1]
    · rw [List.set_eq_of_length_le (by omega), List.set_eq_of_length_le (by omega)]

end draw
end Go.E
