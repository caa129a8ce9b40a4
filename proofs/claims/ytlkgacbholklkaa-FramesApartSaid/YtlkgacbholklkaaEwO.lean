/-
  THE EVALUATOR, PART O: regions that draw their order: the runs.
-/
import Derived.Test.YtlkgacbholklkaaEwN
set_option linter.unusedSimpArgs false
set_option linter.unusedVariables false
namespace Go.E
open Go
variable {P : Program} {G : Nat}
theorem builtin_kind {b : Builtin} {ts : List TypeId} {as : List Operand} {n : NOp} (h : cBuiltin P G b ts as = some n) : n.kind ≠ .alloc := by
  unfold cBuiltin at h
  repeat' split at h
  all_goals first
    | (cases h; done)
    | (simp only [Option.bind_eq_some_iff, Option.some.injEq] at h; obtain ⟨_, _, _, _, _, _, rfl⟩ := h; simp [NOp.kind]; done)
    | (simp only [Option.bind_eq_some_iff, Option.some.injEq] at h; obtain ⟨_, _, _, _, rfl⟩ := h; simp [NOp.kind]; done)
    | (simp only [Option.bind_eq_some_iff, Option.some.injEq] at h; obtain ⟨_, _, rfl⟩ := h; simp [NOp.kind]; done)
    | (simp only [Option.some.injEq] at h; subst h; simp [NOp.kind]; done)

theorem eop_alloc {φ : Phi} {T : Env} {a : Act} {H : AHeap} {r : Res} (hg : GOk G φ) (ht : VRs φ T a.tmps.toList) {o : Oper} {n : NOp} (hc : cOp P G o = some n) (hk : n.kind = .alloc) (h : eop n T H = some r) (w : World) : AllocR P φ H w a o r := by
  obtain ⟨dst, op, type, pos, after, guard⟩ := o
  cases op with
  | alloc t => exact s_alloc hc h
  | box t x => exact s_box hg ht hc h
  | buildSlice t l p => exact s_bslice hg ht hc h
  | makeMap t x =>
    cases x with
    | none => exact s_mkmap hc h
    | some x => simp [cOp] at hc
  | makeSlice t x y => exact s_mkslice hg ht hc h
  | call c =>
    exfalso
    simp only [cOp] at hc
    split at hc
    · split at hc
      · split at hc
        · simp only [Option.bind_eq_some_iff, Option.some.injEq] at hc
          obtain ⟨_, _, _, _, rfl⟩ := hc
          simp [NOp.kind] at hk
        · cases hc
      · split at hc
        · split at hc
          · simp only [Option.bind_eq_some_iff, Option.some.injEq] at hc
            obtain ⟨_, _, _, _, rfl⟩ := hc
            simp [NOp.kind] at hk
          · cases hc
        · simp only [Option.bind_eq_some_iff, Option.map_eq_some_iff] at hc
          obtain ⟨_, _, _, _, rfl⟩ := hc
          simp [NOp.kind] at hk
    · exact builtin_kind hc hk
    · cases hc
  | slice t x lo hi mx =>
    exfalso
    simp only [cOp] at hc
    split at hc
    · cases hc
    simp only [Option.bind_eq_some_iff] at hc
    obtain ⟨_, _, _, _, _, _, _, _, hc⟩ := hc
    split at hc
    · simp only [Option.bind_eq_some_iff] at hc
      obtain ⟨_, _, hc⟩ := hc
      split at hc
      · cases hc; simp [NOp.kind] at hk
      · cases hc
    · split at hc
      · cases hc; simp [NOp.kind] at hk
      · cases hc
    · simp only [Option.bind_eq_some_iff] at hc
      obtain ⟨_, _, hc⟩ := hc
      split at hc
      · cases hc; simp [NOp.kind] at hk
      · cases hc
    · cases hc
  | makeFunc f x y =>
    exfalso
    cases f <;> simp only [cOp] at hc
    · simp only [Option.bind_eq_some_iff, Option.map_eq_some_iff] at hc
      obtain ⟨_, _, _, _, rfl⟩ := hc
      simp [NOp.kind] at hk
    all_goals cases hc
  | _ =>
    exfalso
    simp only [cOp] at hc
    repeat' split at hc
    all_goals first
      | (cases hc; done)
      | (simp only [Option.map_eq_some_iff] at hc; obtain ⟨_, _, rfl⟩ := hc; simp [NOp.kind] at hk; done)
      | (simp only [Option.bind_eq_some_iff, Option.map_eq_some_iff] at hc; obtain ⟨_, _, _, _, rfl⟩ := hc; simp [NOp.kind] at hk; done)
      | (simp only [Option.bind_eq_some_iff, Option.map_eq_some_iff] at hc; obtain ⟨_, _, _, _, _, _, rfl⟩ := hc; simp [NOp.kind] at hk; done)
      | (simp only [Option.bind_eq_some_iff, Option.some.injEq] at hc; obtain ⟨_, _, _, _, _, _, rfl⟩ := hc; simp [NOp.kind] at hk; done)
      | (simp only [Option.bind_eq_some_iff] at hc; obtain ⟨_, _, _, _, hc⟩ := hc; repeat' split at hc
         all_goals first
          | (cases hc; done)
          | (simp only [Option.map_eq_some_iff] at hc; obtain ⟨_, _, rfl⟩ := hc; simp [NOp.kind] at hk; done)
          | (simp only [Option.some.injEq] at hc; subst hc; simp [NOp.kind] at hk; done))
      | (simp only [Option.bind_eq_some_iff] at hc; obtain ⟨_, _, hc⟩ := hc; repeat' split at hc
         all_goals first
          | (cases hc; done)
          | (simp only [Option.map_eq_some_iff] at hc; obtain ⟨_, _, rfl⟩ := hc; simp [NOp.kind] at hk; done))
      | (simp only [Option.bind_eq_some_iff] at hc; obtain ⟨_, _, _, _, _, _, hc⟩ := hc; repeat' split at hc
         all_goals first
          | (cases hc; done)
          | (simp only [Option.some.injEq] at hc; subst hc; simp [NOp.kind] at hk; done))

/-! ### paths -/
def noCall : Callee := fun _ _ _ => none

def StepP (o : NOper) (x y : Env × AHeap) : Prop := (∃ v, y.1 = put x.1 o.dst v) ∧ (o.op.kind ≠ .active → stepN noCall o x.1 x.2 = some y)

section states
variable {ns : List NOper} {S : Nat → Env × AHeap} {m : Nat} (hm : m ≤ ns.length) (hS : ∀ (i : Nat) o, i < m → ns[i]? = some o → StepP o (S i) (S (i + 1)))
include hm hS
theorem st_length : ∀ i, i ≤ m → (S i).1.length = (S 0).1.length
  | 0, _ => rfl
  | i + 1, h => by
    obtain ⟨o, ho⟩ : ∃ o, ns[i]? = some o := ⟨ns[i]'(by omega), by simp⟩
    obtain ⟨v, hv⟩ := (hS i o (by omega) ho).1
    rw [hv, put_length, st_length i (by omega)]

theorem st_after {t : Nat} : ∀ (k i : Nat), i + k = m → (∀ (j : Nat) o, i ≤ j → j < m → ns[j]? = some o → o.dst ≠ some t) → (S m).1[t]? = (S i).1[t]?
  | 0, i, h, _ => by simp at h; rw [h]
  | k + 1, i, h, hn => by
    obtain ⟨o, ho⟩ : ∃ o, ns[i]? = some o := ⟨ns[i]'(by omega), by simp⟩
    obtain ⟨v, hv⟩ := (hS i o (by omega) ho).1
    rw [st_after k (i + 1) (by omega) (fun j o hj hjm hjo => hn j o (by omega) hjm hjo), hv, put_other (hn i o (Nat.le_refl _) (by omega) ho)]

theorem st_before {t : Nat} : ∀ (i : Nat), i ≤ m → (∀ (j : Nat) o, j < i → ns[j]? = some o → o.dst ≠ some t) → (S i).1[t]? = (S 0).1[t]?
  | 0, _, _ => rfl
  | i + 1, h, hn => by
    obtain ⟨o, ho⟩ : ∃ o, ns[i]? = some o := ⟨ns[i]'(by omega), by simp⟩
    obtain ⟨v, hv⟩ := (hS i o (by omega) ho).1
    rw [hv, put_other (hn i o (by omega) ho), st_before i (by omega) (fun j o hj hjo => hn j o (by omega) hjo)]
end states
def TD (ns : List NOper) (T Tf : Env) (D : Nat → Bool) : Env :=
  (List.range T.length).map fun t => if (List.range ns.length).any (fun r => D r && decide ((ns.getD r default).dst = some t)) then Tf.getD t undef else T.getD t undef

theorem TD_length (ns : List NOper) (T Tf : Env) (D : Nat → Bool) : (TD ns T Tf D).length = T.length := by simp [TD]

theorem TD_get {ns : List NOper} {T Tf : Env} {D : Nat → Bool} {t : Nat} (ht : t < T.length) :
    (TD ns T Tf D)[t]? = some (if (List.range ns.length).any (fun r => D r && decide ((ns.getD r default).dst = some t)) then Tf.getD t undef else T.getD t undef) := by
  simp [TD, ht]

theorem TD_none {ns : List NOper} {T Tf : Env} {D : Nat → Bool} (hD : ∀ r, r < ns.length → D r = false) : TD ns T Tf D = T := by
  apply List.ext_getElem?
  intro t
  by_cases ht : t < T.length
  · rw [TD_get ht, if_neg]
    · simp [List.getD_eq_getElem?_getD, ht]
    · simp only [List.any_eq_true, List.mem_range, Bool.and_eq_true, not_exists, not_and]
      intro r hr h; rw [hD r hr] at h; cases h
  · have h1 : (TD ns T Tf D).length ≤ t := by rw [TD_length]; omega
    simp [List.getElem?_eq_none h1, List.getElem?_eq_none (Nat.le_of_not_lt ht)]

def tfv (Tf : Env) : Option Nat → Value
  | some d => Tf.getD d undef
  | none => undef

theorem TD_step {ns : List NOper} {T Tf : Env} {D D' : Nat → Bool} {r : Nat} {o : NOper} (ho : ns[r]? = some o) (hD : ∀ s, s < ns.length → D' s = (D s || decide (s = r))) :
    TD ns T Tf D' = put (TD ns T Tf D) o.dst (tfv Tf o.dst) := by
  have hr : r < ns.length := (List.getElem?_eq_some_iff.1 ho).1
  have hgo : ns.getD r default = o := by simp [List.getD_eq_getElem?_getD, ho]
  apply List.ext_getElem?
  intro t
  by_cases ht : t < T.length
  · rw [TD_get ht]
    by_cases hd : o.dst = some t
    · rw [hd]
      rw [if_pos]
      · simp [put, TD_length, ht, tfv]
      · simp only [List.any_eq_true, List.mem_range, Bool.and_eq_true]
        exact ⟨r, hr, by rw [hD r hr]; simp, by rw [hgo, hd]; simp⟩
    · rw [put_other hd, TD_get ht]
      congr 1
      have : (List.range ns.length).any (fun r => D' r && decide ((ns.getD r default).dst = some t)) = (List.range ns.length).any (fun r => D r && decide ((ns.getD r default).dst = some t)) := by
        rw [Bool.eq_iff_iff]
        simp only [List.any_eq_true, List.mem_range, Bool.and_eq_true, decide_eq_true_eq]
        constructor
        · rintro ⟨s, hs, h1, h2⟩
          rw [hD s hs] at h1
          simp only [Bool.or_eq_true, decide_eq_true_eq] at h1
          rcases h1 with h1 | h1
          · exact ⟨s, hs, h1, h2⟩
          · subst h1; rw [hgo] at h2; exact absurd h2 hd
        · rintro ⟨s, hs, h1, h2⟩
          exact ⟨s, hs, by rw [hD s hs, h1]; rfl, h2⟩
      rw [this]
  · have h1 : (TD ns T Tf D').length ≤ t := by rw [TD_length]; omega
    have h2 : (put (TD ns T Tf D) o.dst (tfv Tf o.dst)).length ≤ t := by rw [put_length, TD_length]; omega
    rw [List.getElem?_eq_none h1, List.getElem?_eq_none h2]

end Go.E
