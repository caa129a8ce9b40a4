/-
  THE EVALUATOR, PART P: regions that draw their order: whatever order is drawn, what the evaluator says comes about.
-/
import Derived.Test.YtlkgacbholklkaaEwO
set_option linter.unusedSimpArgs false
set_option linter.unusedVariables false
namespace Go.E
open Go
variable {P : Program} {G : Nat}
/-! ### two steps of the simulation more -/
theorem Stp.addU {φ₀ φ : Phi} {H₀ H : AHeap} {w₀ w : World} (h : Stp φ₀ H₀ w₀ φ H w) (o : AObj) : Stp φ₀ H₀ w₀ φ (H.add o) w := by
  have hlt : ∀ {b m}, φ b = some m → b ≠ H.next := fun hb e => by have := h.sim.dom _ _ hb; omega
  refine ⟨h.le, ⟨?_, ?_, ?_⟩, h.os, h.tape, h.output, h.size, h.keep, ?_, by have := h.next; simp; omega, ?_⟩
  · intro b m hb; have := h.sim.dom b m hb; simp; omega
  · intro b m hb; rw [AHeap.get_add, if_neg (hlt hb)]; exact h.sim.obj b m hb
  · intro b1 b2 m1 m2 h1 h2 he hne hw
    rw [AHeap.get_add, if_neg (hlt h1)] at hw
    rw [AHeap.get_add, if_neg (hlt h2)]
    exact h.sim.inj b1 b2 m1 m2 h1 h2 he hne hw
  · rintro k hk ⟨b, m, hb, rfl, hw⟩
    rw [AHeap.get_add, if_neg (hlt hb)] at hw
    exact h.wr _ hk ⟨b, m, hb, rfl, hw⟩
  · intro b hb hn
    obtain ⟨h1, h2⟩ := h.unmapped b hb hn
    have := h.next
    rw [AHeap.get_add, if_neg (by omega)]
    exact ⟨h1, h2⟩

theorem Stp.bind {φ₀ φ : Phi} {H₀ H : AHeap} {w₀ w : World} (h : Stp φ₀ H₀ w₀ φ H w) {b : Nat} {m : Emb} {obj : AObj} {ob : Obj} (hb0 : H₀.next ≤ b) (hb : b < H.next) (hn : φ b = none) (hg : H.get b = obj) (hm : m.blk = w.heap.size)
    (ho : ObjR (φ.add b m) m (w.alloc ob) obj) : Stp φ₀ H₀ w₀ (φ.add b m) H (w.alloc ob) := by
  have hle : φ.le (φ.add b m) := Phi.add_le hn
  have hold : ∀ k, k < w.heap.size → (w.alloc ob).heap[k]? = w.heap[k]? := fun k hk => heap_alloc_old w ob k hk
  have hlt : ∀ {c mc}, φ c = some mc → H.get c ≠ .dead → mc.blk < w.heap.size := fun hc hd => h.sim.blk_lt hc hd
  refine ⟨h.le.trans hle, ⟨?_, ?_, ?_⟩, h.os, h.tape, h.output, by have := h.size; simp; omega, ?_, ?_, h.next, ?_⟩
  · intro c mc hc
    unfold Phi.add at hc
    split at hc
    · rename_i e; subst e; exact hb
    · exact h.sim.dom c mc hc
  · intro c mc hc
    unfold Phi.add at hc
    split at hc
    · rename_i e; subst e; cases hc; rw [hg]; exact ho
    · by_cases hd : H.get c = .dead
      · rw [hd]; trivial
      · exact ObjR.mono hle (hold _ (hlt hc hd)) (h.sim.obj c mc hc)
  · intro b1 b2 m1 m2 h1 h2 he hne hw
    have hw1 : H.get b1 ≠ .dead := by intro e; rw [e] at hw; cases hw
    unfold Phi.add at h1 h2
    by_cases e1 : b1 = b
    · rw [if_pos e1] at h1; cases h1
      have e2 : b2 ≠ b := fun e => hne (e1.trans e.symm)
      rw [if_neg e2] at h2
      refine Classical.byContradiction fun hd => ?_
      have := hlt h2 hd
      omega
    · rw [if_neg e1] at h1
      have l1 := hlt h1 hw1
      by_cases e2 : b2 = b
      · rw [if_pos e2] at h2; cases h2; omega
      · rw [if_neg e2] at h2
        exact h.sim.inj b1 b2 m1 m2 h1 h2 he hne hw
  · intro k hk hnw
    rw [hold k (Nat.lt_of_lt_of_le hk h.size)]
    exact h.keep k hk hnw
  · rintro k hk ⟨c, mc, hc, rfl, hw⟩
    unfold Phi.add at hc
    split at hc
    · cases hc; have := h.size; omega
    · exact h.wr _ hk ⟨c, mc, hc, rfl, hw⟩
  · intro c hc hcn
    obtain ⟨h1, h2⟩ := h.unmapped c hc hcn
    refine ⟨h1, ?_⟩
    unfold Phi.add; rw [if_neg (by omega)]; exact h2

theorem eop_alloc_heap {o : NOp} (hk : o.kind = .alloc) {T : Env} {H : AHeap} {r : Res} (h : eop o T H = some r) : ∃ v obj, r = .val v (H.add obj) := by
  cases o <;> simp only [NOp.kind] at hk <;> first | cases hk | skip
  all_goals
    simp only [eop] at h
    repeat' split at h
    all_goals first
      | (cases h; done)
      | (simp only [Option.some.injEq] at h; subst h; exact ⟨_, _, rfl⟩)
      | (simp only [Option.map_eq_some_iff] at h; obtain ⟨x, h1, rfl⟩ := h; exact ⟨_, _, rfl⟩)

theorem add_inj {H : AHeap} {o o' : AObj} (h : H.add o = H.add o') : o = o' := by
  have := congrArg (fun K => AHeap.get K H.next) h
  simpa using this

/-! ### dependencies -/
theorem closeDeps_closed (D : Nat → Prop) : ∀ (rest acc : List (List Nat)), (∀ r, r < acc.length → D r → ∀ s ∈ acc.getD r [], D s) →
    (∀ i, i < rest.length → ∀ s ∈ rest.getD i [], s < acc.length + i) → (∀ i, i < rest.length → D (acc.length + i) → ∀ s ∈ rest.getD i [], D s) →
    ∀ r, D r → ∀ s ∈ (closeDeps acc rest).getD r [], D s
  | [], acc, h1, _, _, r, hr, s, hs => by
    simp only [closeDeps] at hs
    by_cases h : r < acc.length
    · exact h1 r h hr s hs
    · simp [List.getD_eq_getElem?_getD, List.getElem?_eq_none (Nat.le_of_not_lt h)] at hs
  | d :: rest, acc, h1, h2, h3, r, hr, s, hs => by
    simp only [closeDeps] at hs
    refine closeDeps_closed D rest (acc ++ [d ++ d.flatMap fun j => acc.getD j []]) ?_ ?_ ?_ r hr s hs
    · intro r hr hD s hs
      simp only [List.length_append, List.length_cons, List.length_nil, Nat.zero_add] at hr
      by_cases h : r < acc.length
      · rw [List.getD_eq_getElem?_getD, List.getElem?_append_left h, ← List.getD_eq_getElem?_getD] at hs
        exact h1 r h hD s hs
      · have : r = acc.length := by omega
        subst this
        rw [List.getD_eq_getElem?_getD, List.getElem?_append_right (Nat.le_refl _)] at hs
        simp only [Nat.sub_self, List.getElem?_cons_zero, Option.getD_some, List.mem_append, List.mem_flatMap] at hs
        have hd : ∀ j ∈ d, D j := fun j hj => h3 0 (by simp) (by simpa using hD) j (by simpa using hj)
        rcases hs with hs | ⟨j, hj, hs⟩
        · exact hd s hs
        · have hlt := h2 0 (by simp) j (by simpa using hj)
          exact h1 j (by omega) (hd j hj) s hs
    · intro i hi s hs
      have := h2 (i + 1) (by simpa using hi) s (by simpa using hs)
      simp; omega
    · intro i hi hD s hs
      refine h3 (i + 1) (by simpa using hi) ?_ s (by simpa using hs)
      simp only [List.length_append, List.length_cons, List.length_nil, Nat.zero_add] at hD
      rwa [show acc.length + (i + 1) = acc.length + 1 + i by omega]

theorem closeDeps_lt : ∀ (rest acc : List (List Nat)), (∀ r, r < acc.length → ∀ s ∈ acc.getD r [], s < r) → (∀ i, i < rest.length → ∀ s ∈ rest.getD i [], s < acc.length + i) →
    ∀ r, ∀ s ∈ (closeDeps acc rest).getD r [], s < r
  | [], acc, h1, _, r, s, hs => by
    simp only [closeDeps] at hs
    by_cases h : r < acc.length
    · exact h1 r h s hs
    · simp [List.getD_eq_getElem?_getD, List.getElem?_eq_none (Nat.le_of_not_lt h)] at hs
  | d :: rest, acc, h1, h2, r, s, hs => by
    simp only [closeDeps] at hs
    refine closeDeps_lt rest (acc ++ [d ++ d.flatMap fun j => acc.getD j []]) ?_ ?_ r s hs
    · intro r hr s hs
      simp only [List.length_append, List.length_cons, List.length_nil, Nat.zero_add] at hr
      by_cases h : r < acc.length
      · rw [List.getD_eq_getElem?_getD, List.getElem?_append_left h, ← List.getD_eq_getElem?_getD] at hs
        exact h1 r h s hs
      · have : r = acc.length := by omega
        subst this
        rw [List.getD_eq_getElem?_getD, List.getElem?_append_right (Nat.le_refl _)] at hs
        simp only [Nat.sub_self, List.getElem?_cons_zero, Option.getD_some, List.mem_append, List.mem_flatMap] at hs
        rcases hs with hs | ⟨j, hj, hs⟩
        · have := h2 0 (by simp) s (by simpa using hs); omega
        · have hlt := h2 0 (by simp) j (by simpa using hj)
          have := h1 j (by omega) s hs
          omega
    · intro i hi s hs
      have := h2 (i + 1) (by simpa using hi) s (by simpa using hs)
      simp; omega

/-! ### the active operations -/
theorem actives_mem : ∀ (ns : List NOper) (i q : Nat), q ∈ actives i ns ↔ ∃ j o, q = i + j ∧ ns[j]? = some o ∧ o.op.kind = .active
  | [], i, q => by simp [actives]
  | o :: r, i, q => by
    unfold actives
    have ih := actives_mem r (i + 1) q
    constructor
    · intro h
      split at h
      · rename_i hk
        rcases List.mem_cons.1 h with rfl | h
        · exact ⟨0, o, rfl, rfl, hk⟩
        · obtain ⟨j, o', h1, h2, h3⟩ := ih.1 h
          exact ⟨j + 1, o', by omega, by simpa using h2, h3⟩
      · obtain ⟨j, o', h1, h2, h3⟩ := ih.1 h
        exact ⟨j + 1, o', by omega, by simpa using h2, h3⟩
    · rintro ⟨j, o', h1, h2, h3⟩
      cases j with
      | zero =>
        simp at h2; subst h2
        rw [if_pos h3]; simp; left; omega
      | succ j =>
        have := ih.2 ⟨j, o', by omega, by simpa using h2, h3⟩
        split
        · exact List.mem_cons_of_mem _ this
        · exact this

theorem actives_sorted : ∀ (ns : List NOper) (i : Nat), (actives i ns).Pairwise (· < ·)
  | [], i => .nil
  | o :: r, i => by
    unfold actives
    split
    · refine List.pairwise_cons.2 ⟨fun q hq => ?_, actives_sorted r (i + 1)⟩
      obtain ⟨j, o', h1, _, _⟩ := (actives_mem r (i + 1) q).1 hq
      omega
    · exact actives_sorted r (i + 1)

/-! ### what is known of a region that compiled -/
structure Facts (P : Program) (G : Nat) (ops : Array Oper) (pi : List Nat) (dirs : List (List Nat)) (ns : List NOper) : Prop where
  hns : ns.length = ops.size
  comp : ∀ r, r < ops.size → ∃ o n, ops[pi.getD r ops.size]? = some o ∧ ns[r]? = some n ∧ cOper P G ops o = some n
  cov : ∀ i, i < ops.size → ∃ r, r < ops.size ∧ pi.getD r ops.size = i
  inj : ∀ i j, i < ops.size → j < ops.size → pi.getD i ops.size = pi.getD j ops.size → i = j
  low : ∀ i, i < ops.size → ∀ s ∈ dirs.getD i [], s < i
  hdirs : dirs.length = ops.size
  edge : ∀ i, i < ops.size → ∀ o, ops[pi.getD i ops.size]? = some o → ∀ e ∈ o.after, Region.binds .any e = true → ∃ s ∈ dirs.getD i [], pi.getD s ops.size = e.on
  back : ∀ i, i < ops.size → ∀ o, ops[pi.getD i ops.size]? = some o → ∀ s ∈ dirs.getD i [], ∃ e ∈ o.after, Region.binds .any e = true ∧ pi.getD s ops.size = e.on
  dst : ∀ i j, i < ops.size → j < ops.size → i ≠ j → ∀ d, (ns.getD i default).dst = some d → (ns.getD j default).dst ≠ some d
  look : ∀ i, i < ops.size → ∀ t ∈ (ns.getD i default).looks, ∀ j, j < ops.size → (ns.getD j default).dst = some t → i = j ∨ j ∈ (closeDeps [] dirs).getD i [] ∨ i ∈ (closeDeps [] dirs).getD j []
  chain : ∀ q ∈ actives 0 ns, ∀ r ∈ actives 0 ns, q < r → q ∈ (closeDeps [] dirs).getD r []
  early : ∀ i, i < ops.size → (ns.getD i default).op.kind ≠ .active → ∀ q ∈ actives 0 ns, q < i → q ∈ (closeDeps [] dirs).getD i []

theorem cOpersAt_get {ops : Array Oper} : ∀ {pi : List Nat} {ns : List NOper}, cOpersAt P G ops pi = some ns → ns.length = pi.length ∧ ∀ (r i : Nat), pi[r]? = some i → ∃ o n, ops[i]? = some o ∧ ns[r]? = some n ∧ cOper P G ops o = some n
  | [], ns, h => by simp [cOpersAt] at h; subst h; simp
  | j :: pi, ns, h => by
    simp only [cOpersAt] at h
    split at h
    case h_2 => cases h
    rename_i o ho
    simp only [Option.bind_eq_some_iff, Option.map_eq_some_iff] at h
    obtain ⟨n, h1, ns', h2, rfl⟩ := h
    obtain ⟨h3, h4⟩ := cOpersAt_get h2
    refine ⟨by simp [h3], fun r i hr => ?_⟩
    cases r with
    | zero => simp at hr; subst hr; exact ⟨o, n, ho, rfl, h1⟩
    | succ r => simpa using h4 r i (by simpa using hr)

theorem facts_of {ops : Array Oper} {pi : List Nat} {dirs : List (List Nat)} {ns : List NOper} (hns : cOpersAt P G ops pi = some ns) (h : drawOk ops.size pi dirs (ops.toList.map binding) ns = true) : Facts P G ops pi dirs ns := by
  unfold drawOk at h
  simp only [Bool.and_eq_true, beq_iff_eq, List.all_eq_true, List.mem_range, Bool.or_eq_true, Bool.not_eq_true', decide_eq_true_eq, decide_eq_false_iff_not, List.any_eq_true, List.contains_eq_mem] at h
  obtain ⟨⟨⟨⟨⟨⟨⟨⟨⟨⟨⟨⟨h1, h2⟩, h3⟩, h4⟩, h5⟩, h6⟩, h7⟩, h8⟩, h9⟩, h10⟩, h11⟩, h12⟩, h13⟩ := h
  obtain ⟨hl, hget⟩ := cOpersAt_get hns
  have haft : ∀ (i : Nat) o, ops[i]? = some o → (ops.toList.map binding).getD i [] = binding o := by
    intro i o ho
    simp [List.getD_eq_getElem?_getD, ho]
  refine ⟨h2, ?_, ?_, ?_, h7, h3, ?_, ?_, ?_, ?_, ?_, ?_⟩
  · intro r hr
    have : pi[r]? = some (pi.getD r ops.size) := by
      have hr' : r < pi.length := by omega
      simp [List.getD_eq_getElem?_getD, hr']
    exact hget r _ this
  · intro i hi
    obtain ⟨r, hr⟩ := List.getElem?_of_mem (h5 i hi)
    exact ⟨r, by have := (List.getElem?_eq_some_iff.1 hr).1; omega, by simp [List.getD_eq_getElem?_getD, hr]⟩
  · intro i j hi hj he
    rcases h6 i hi j hj with h | h
    · exact h
    · simp at h; exact absurd he h
  · intro i hi o ho e he hb
    have := h8 i hi e.on (by rw [haft _ o ho]; simp only [binding, List.mem_map, List.mem_filter]; exact ⟨e, ⟨by simpa using he, hb⟩, rfl⟩)
    obtain ⟨s, h1, h2⟩ := this
    exact ⟨s, h1, by simpa using h2⟩
  · intro i hi o ho s hs
    have := h9 i hi s hs
    rw [haft _ o ho] at this
    simp only [binding, List.mem_map, List.mem_filter] at this
    obtain ⟨e, ⟨h1, h2⟩, h3⟩ := this
    exact ⟨e, by simpa using h1, h2, h3.symm⟩
  · intro i j hi hj hne d hd hd'
    rcases h10 i hi j hj with h | h
    · exact hne h
    · rw [hd, hd'] at h; simp at h
  · intro i hi t ht j hj hd
    rcases h11 i hi t ht j hj with ((h | h) | h) | h
    · rw [hd] at h; simp at h
    · exact .inl h
    · exact .inr (.inl h)
    · exact .inr (.inr h)
  · intro q hq r hr hlt
    rcases h12 q hq r hr with h | h
    · omega
    · exact h
  · intro i hi hk q hq hlt
    rcases h13 i hi with h | h
    · exact absurd h hk
    · rcases h q hq with h | h
      · omega
      · exact h

end Go.E
