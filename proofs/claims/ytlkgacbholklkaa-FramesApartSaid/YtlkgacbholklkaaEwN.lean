/-
  THE EVALUATOR, PART N: regions that draw their order.
-/
import Derived.Test.YtlkgacbholklkaaEwM
set_option linter.unusedSimpArgs false
set_option linter.unusedVariables false
namespace Go.E
open Go
variable {P : Program} {G : Nat}
/-! ### an operation looks at its operands alone -/
theorem ev_congr {T T' : Env} {x : NOpd} (h : ∀ t ∈ x.tmps, T.getD t undef = T'.getD t undef) : x.ev T = x.ev T' := by
  cases x with
  | t i => exact h i (by simp [NOpd.tmps])
  | c v => rfl
  | g i => rfl

theorem opt_congr {T T' : Env} {x : Option NOpd} (h : ∀ t ∈ optTmps x, T.getD t undef = T'.getD t undef) : x.map (·.ev T) = x.map (·.ev T') := by
  cases x with
  | none => rfl
  | some x => simp only [Option.map_some]; rw [ev_congr h]

theorem evs_congr {T T' : Env} {xs : List NOpd} (h : ∀ t ∈ xs.flatMap (·.tmps), T.getD t undef = T'.getD t undef) : xs.map (·.ev T) = xs.map (·.ev T') := by
  apply List.map_congr_left
  intro x hx
  exact ev_congr fun t ht => h t (List.mem_flatMap.2 ⟨x, hx, ht⟩)

theorem parts_congr {T T' : Env} {ps : List (Nat × Nat × NOpd)} (h : ∀ t ∈ ps.flatMap (fun (_, _, x) => x.tmps), T.getD t undef = T'.getD t undef) : ps.map (fun (o, s, x) => (o, s, x.ev T)) = ps.map (fun (o, s, x) => (o, s, x.ev T')) := by
  apply List.map_congr_left
  rintro ⟨o, s, x⟩ hx
  have := ev_congr (T := T) (T' := T') (x := x) fun t ht => h t (List.mem_flatMap.2 ⟨(o, s, x), hx, ht⟩)
  simp [this]

theorem eop_congr {o : NOp} {T T' : Env} (H : AHeap) (h : ∀ t ∈ o.tmps, T.getD t undef = T'.getD t undef) : eop o T H = eop o T' H := by
  cases o
  case mov x => simp only [eop, ev_congr (x := x) h]
  case pick a b c =>
    simp only [NOp.tmps, List.mem_append] at h
    simp only [eop, ev_congr (x := a) fun t ht => h t (.inl (.inl ht)), ev_congr (x := b) fun t ht => h t (.inl (.inr ht)), ev_congr (x := c) fun t ht => h t (.inr ht)]
  case alloc => rfl
  case box es x => simp only [eop, ev_congr (x := x) h]
  case build z ps => simp only [eop, parts_congr h]
  case bslice es l z ps => simp only [eop, parts_congr h]
  case load1 x => simp only [eop, ev_congr (x := x) h]
  case loadN n x => simp only [eop, ev_congr (x := x) h]
  case store n a b =>
    simp only [NOp.tmps, List.mem_append] at h
    simp only [eop, ev_congr (x := a) fun t ht => h t (.inl ht), ev_congr (x := b) fun t ht => h t (.inr ht)]
  case nilchk x => simp only [eop, ev_congr (x := x) h]
  case bin op e a b =>
    simp only [NOp.tmps, List.mem_append] at h
    simp only [eop, ev_congr (x := a) fun t ht => h t (.inl ht), ev_congr (x := b) fun t ht => h t (.inr ht)]
  case un op x => simp only [eop, ev_congr (x := x) h]
  case convInt k x => simp only [eop, ev_congr (x := x) h]
  case convStr x => simp only [eop, ev_congr (x := x) h]
  case i2s x => simp only [eop, ev_congr (x := x) h]
  case b2s x => simp only [eop, ev_congr (x := x) h]
  case s2b x => simp only [eop, ev_congr (x := x) h]
  case b2b x => simp only [eop, ev_congr (x := x) h]
  case mkfunc f a b =>
    simp only [NOp.tmps, List.mem_append] at h
    simp only [eop, evs_congr (xs := a) fun t ht => h t (.inl ht), evs_congr (xs := b) fun t ht => h t (.inr ht)]
  case mkmap => rfl
  case mkslice es by_ z a b =>
    simp only [NOp.tmps, List.mem_append] at h
    simp only [eop, ev_congr (x := a) fun t ht => h t (.inl ht), ev_congr (x := b) fun t ht => h t (.inr ht)]
  case slice es x a b c =>
    simp only [NOp.tmps, List.mem_append] at h
    simp only [eop, ev_congr (x := x) fun t ht => h t (.inl (.inl (.inl ht))), opt_congr (x := a) fun t ht => h t (.inl (.inl (.inr ht))), opt_congr (x := b) fun t ht => h t (.inl (.inr ht)), opt_congr (x := c) fun t ht => h t (.inr ht)]
  case sliceStr x a b =>
    simp only [NOp.tmps, List.mem_append] at h
    simp only [eop, ev_congr (x := x) fun t ht => h t (.inl (.inl ht)), opt_congr (x := a) fun t ht => h t (.inl (.inr ht)), opt_congr (x := b) fun t ht => h t (.inr ht)]
  case sliceArr n es x a b c =>
    simp only [NOp.tmps, List.mem_append] at h
    simp only [eop, ev_congr (x := x) fun t ht => h t (.inl (.inl (.inl ht))), opt_congr (x := a) fun t ht => h t (.inl (.inl (.inr ht))), opt_congr (x := b) fun t ht => h t (.inl (.inr ht)), opt_congr (x := c) fun t ht => h t (.inr ht)]
  case faddr off x => simp only [eop, ev_congr (x := x) h]
  case field sz off x => simp only [eop, ev_congr (x := x) h]
  case iaddr es a b =>
    simp only [NOp.tmps, List.mem_append] at h
    simp only [eop, ev_congr (x := a) fun t ht => h t (.inl ht), ev_congr (x := b) fun t ht => h t (.inr ht)]
  case iaddrArr n es a b =>
    simp only [NOp.tmps, List.mem_append] at h
    simp only [eop, ev_congr (x := a) fun t ht => h t (.inl ht), ev_congr (x := b) fun t ht => h t (.inr ht)]
  case idxStr a b =>
    simp only [NOp.tmps, List.mem_append] at h
    simp only [eop, ev_congr (x := a) fun t ht => h t (.inl ht), ev_congr (x := b) fun t ht => h t (.inr ht)]
  case idxArr n sz es a b =>
    simp only [NOp.tmps, List.mem_append] at h
    simp only [eop, ev_congr (x := a) fun t ht => h t (.inl ht), ev_congr (x := b) fun t ht => h t (.inr ht)]
  case lookup k z a b ok =>
    simp only [NOp.tmps, List.mem_append] at h
    simp only [eop, ev_congr (x := a) fun t ht => h t (.inl ht), ev_congr (x := b) fun t ht => h t (.inr ht)]
  case mapupd k a b c =>
    simp only [NOp.tmps, List.mem_append] at h
    simp only [eop, ev_congr (x := a) fun t ht => h t (.inl (.inl ht)), ev_congr (x := b) fun t ht => h t (.inl (.inr ht)), ev_congr (x := c) fun t ht => h t (.inr ht)]
  case extract x i => simp only [eop, ev_congr (x := x) h]
  case append es by_ a b =>
    simp only [NOp.tmps, List.mem_append] at h
    simp only [eop, ev_congr (x := a) fun t ht => h t (.inl ht), ev_congr (x := b) fun t ht => h t (.inr ht)]
  case appendZ es z a b =>
    simp only [NOp.tmps, List.mem_append] at h
    simp only [eop, ev_congr (x := a) fun t ht => h t (.inl ht), ev_congr (x := b) fun t ht => h t (.inr ht)]
  case ixByteS a b =>
    simp only [NOp.tmps, List.mem_append] at h
    simp only [eop, ev_congr (x := a) fun t ht => h t (.inl ht), ev_congr (x := b) fun t ht => h t (.inr ht)]
  case extB cnt a b =>
    simp only [NOp.tmps, List.mem_append] at h
    simp only [eop, ev_congr (x := a) fun t ht => h t (.inl ht), ev_congr (x := b) fun t ht => h t (.inr ht)]
  case copy es a b =>
    simp only [NOp.tmps, List.mem_append] at h
    simp only [eop, ev_congr (x := a) fun t ht => h t (.inl ht), ev_congr (x := b) fun t ht => h t (.inr ht)]
  case lenC n => rfl
  case len k x => simp only [eop, ev_congr (x := x) h]
  case minmax mx xs => simp only [eop, evs_congr h]
  case clear es z x => simp only [eop, ev_congr (x := x) h]
  case clearM x => simp only [eop, ev_congr (x := x) h]
  case rangeM x => simp only [eop, ev_congr (x := x) h]
  case nextM x => simp only [eop, ev_congr (x := x) h]
  case rangeS x => simp only [eop, ev_congr (x := x) h]
  case nextS x => simp only [eop, ev_congr (x := x) h]
  case entryM x => simp only [eop, ev_congr (x := x) h]
  case s2ap n x => simp only [eop, ev_congr (x := x) h]
  case delete k a b =>
    simp only [NOp.tmps, List.mem_append] at h
    simp only [eop, ev_congr (x := a) fun t ht => h t (.inl ht), ev_congr (x := b) fun t ht => h t (.inr ht)]
  case call f xs =>
    simp only [NOp.tmps, List.mem_append] at h
    simp only [eop, ev_congr (x := f) fun t ht => h t (.inl ht), evs_congr (xs := xs) fun t ht => h t (.inr ht)]

/-! ### what the kinds of operations do to the heap -/
theorem eop_pure {o : NOp} (hk : o.kind = .pure) {T : Env} {H : AHeap} {r : Res} (h : eop o T H = some r) : ∃ v, r = .val v H ∧ ∀ H', eop o T H' = some (.val v H') := by
  cases o <;> simp only [NOp.kind] at hk <;> first | cases hk | skip
  all_goals
    simp only [eop] at h ⊢
    repeat' split at h
    all_goals first
      | (cases h; done)
      | (simp only [Option.some.injEq] at h; subst h; exact ⟨_, rfl, fun H' => by simp_all⟩)
      | (simp only [Option.map_eq_some_iff] at h; obtain ⟨x, h1, rfl⟩ := h; exact ⟨x, rfl, fun H' => by simp_all⟩)
      | (simp only [Option.bind_eq_some_iff, Option.some.injEq] at h; obtain ⟨x, h1, rfl⟩ := h; exact ⟨_, rfl, fun H' => by simp_all⟩)

theorem eop_read {o : NOp} (hk : o.kind = .read) {T : Env} {H : AHeap} {r : Res} (h : eop o T H = some r) : ∃ v, r = .val v H := by
  cases o <;> simp only [NOp.kind] at hk <;> first | cases hk | skip
  all_goals
    simp only [eop] at h
    repeat' split at h
    all_goals first
      | (cases h; done)
      | (simp only [Option.some.injEq] at h; subst h; exact ⟨_, rfl⟩)
      | (simp only [Option.map_eq_some_iff] at h; obtain ⟨x, h1, rfl⟩ := h; exact ⟨_, rfl⟩)
      | (simp only [Option.bind_eq_some_iff, Option.map_eq_some_iff] at h; obtain ⟨x, h1, y, h2, rfl⟩ := h; exact ⟨_, rfl⟩)
      | (simp only [Option.bind_eq_some_iff] at h; obtain ⟨x, h1, h⟩ := h; repeat' split at h
         all_goals first | (cases h; done) | (cases h; exact ⟨_, rfl⟩))

end Go.E
