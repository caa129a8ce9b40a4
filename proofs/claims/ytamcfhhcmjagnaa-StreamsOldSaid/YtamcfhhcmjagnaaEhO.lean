/-
  THE EVALUATOR, PART O: regions that draw their order: the runs.
-/
import Derived.Test.YtamcfhhcmjagnaaEhN
set_option linter.unusedSimpArgs false
set_option linter.unusedVariables false
namespace Go.E
open Go
variable {P : Program} {G : Nat}
theorem builtin_kind {b : Builtin} {ts : List TypeId} {as : List Operand} {n : NOp} (h : cBuiltin P G b ts as = some n) : n.kind ≠ .alloc := by
  unfold cBuiltin at h
  repeat' split at h
  all_goals first
    | (cases h; done)
    | (simp only [Option.bind_eq_some_iff, Option.some.injEq] at h; obtain ⟨_, _, _, _, _, _, rfl⟩ := h; simp [NOp.kind]; done)
    | (simp only [Option.bind_eq_some_iff, Option.some.injEq] at h; obtain ⟨_, _, _, _, rfl⟩ := h; simp [NOp.kind]; done)
    | (simp only [Option.bind_eq_some_iff, Option.some.injEq] at h; obtain ⟨_, _, rfl⟩ := h; simp [NOp.kind]; done)
    | (simp only [Option.some.injEq] at h; subst h; simp [NOp.kind]; done)

theorem eop_alloc {φ : Phi} {T : Env} {a : Act} {H : AHeap} {r : Res} (hg : GOk G φ) (ht : VRs φ T a.tmps.toList) {o : Oper} {n : NOp} (hc : cOp P G o = some n) (hk : n.kind = .alloc) (h : eop n T H = some r) (w : World) : AllocR P φ H w a o r := by
  obtain ⟨dst, op, type, pos, after, guard⟩ := o
  cases op with
  | alloc t => exact s_alloc hc h
  | box t x => exact s_box hg ht hc h
  | buildSlice t l p => exact s_bslice hg ht hc h
  | makeMap t x =>
    cases x with
    | none => exact s_mkmap hc h
    | some x => simp [cOp] at hc
  | makeSlice t x y => exact s_mkslice hg ht hc h
  | call c =>
    exfalso
    simp only [cOp] at hc
    split at hc
    · split at hc
      · split at hc
        · simp only [Option.bind_eq_some_iff, Option.some.injEq] at hc
          obtain ⟨_, _, _, _, rfl⟩ := hc
          simp [NOp.kind] at hk
        · cases hc
      · split at hc
        · split at hc
          · simp only [Option.bind_eq_some_iff, Option.some.injEq] at hc
            obtain ⟨_, _, _, _, rfl⟩ := hc
            simp [NOp.kind] at hk
          · cases hc
        · simp only [Option.bind_eq_some_iff, Option.map_eq_some_iff] at hc
          obtain ⟨_, _, _, _, rfl⟩ := hc
          simp [NOp.kind] at hk
    · exact builtin_kind hc hk
    · cases hc
  | slice t x lo hi mx =>
    exfalso
    simp only [cOp] at hc
    split at hc
    · cases hc
    simp only [Option.bind_eq_some_iff] at hc
    obtain ⟨_, _, _, _, _, _, _, _, hc⟩ := hc
    split at hc
    · simp only [Option.bind_eq_some_iff] at hc
      obtain ⟨_, _, hc⟩ := hc
      split at hc
      · cases hc; simp [NOp.kind] at hk
      · cases hc
    · split at hc
      · cases hc; simp [NOp.kind] at hk
      · cases hc
    · simp only [Option.bind_eq_some_iff] at hc
      obtain ⟨_, _, hc⟩ := hc
      split at hc
      · cases hc; simp [NOp.kind] at hk
      · cases hc
    · cases hc
  | makeFunc f x y =>
    exfalso
    cases f <;> simp only [cOp] at hc
    · simp only [Option.bind_eq_some_iff, Option.map_eq_some_iff] at hc
      obtain ⟨_, _, _, _, rfl⟩ := hc
      simp [NOp.kind] at hk
    all_goals cases hc
  | _ =>
    exfalso
    simp only [cOp] at hc
    repeat' split at hc
    all_goals first
      | (cases hc; done)
      | (simp only [Option.map_eq_some_iff] at hc; obtain ⟨_, _, rfl⟩ := hc; simp [NOp.kind] at hk; done)
      | (simp only [Option.bind_eq_some_iff, Option.map_eq_some_iff] at hc; obtain ⟨_, _, _, _, rfl⟩ := hc; simp [NOp.kind] at hk; done)
      | (simp only [Option.bind_eq_some_iff, Option.map_eq_some_iff] at hc; obtain ⟨_, _, _, _, _, _, rfl⟩ := hc; simp [NOp.kind] at hk; done)
      | (simp only [Option.bind_eq_some_iff, Option.some.injEq] at hc; obtain ⟨_, _, _, _, _, _, rfl⟩ := hc; simp [NOp.kind] at hk; done)
      | (simp only [Option.bind_eq_some_iff] at hc; obtain ⟨_, _, _, _, hc⟩ := hc; repeat' split at hc
         all_goals first
          | (cases hc; done)
          | (simp only [Option.map_eq_some_iff] at hc; obtain ⟨_, _, rfl⟩ := hc; simp [NOp.kind] at hk; done)
          | (simp only [Option.some.injEq] at hc; subst hc; simp [NOp.kind] at hk; done))
      | (simp only [Option.bind_eq_some_iff] at hc; obtain ⟨_, _, hc⟩ := hc; repeat' split at hc
         all_goals first
          | (cases hc; done)
          | (simp only [Option.map_eq_some_iff] at hc; obtain ⟨_, _, rfl⟩ := hc; simp [NOp.kind] at hk; done))
      | (simp only [Option.bind_eq_some_iff] at hc; obtain ⟨_, _, _, _, _, _, hc⟩ := hc; repeat' split at hc
         all_goals first
          | (cases hc; done)
          | (simp only [Option.some.injEq] at hc; subst hc; simp [NOp.kind] at hk; done))

/-! ### the runs' states -/
theorem runD_trace {C : Callee} : ∀ (ns : List NOper) (T : Env) (H : AHeap) (acc sts : List (Env × AHeap)) (T' : Env) (H' : AHeap), runD C ns T H acc = some (sts, T', H') →
    ∃ tr : List (Env × AHeap), sts = acc ++ tr ∧ tr.length = ns.length + 1 ∧ tr[0]? = some (T, H) ∧ tr[ns.length]? = some (T', H') ∧ ∀ (i : Nat) o, ns[i]? = some o → ∃ x y, tr[i]? = some x ∧ tr[i + 1]? = some y ∧ stepN C o x.1 x.2 = some y
  | [], T, H, acc, sts, T', H', h => by
    simp [runD] at h
    obtain ⟨rfl, rfl, rfl⟩ := h
    exact ⟨[(T, H)], rfl, rfl, rfl, rfl, by simp⟩
  | o :: r, T, H, acc, sts, T', H', h => by
    simp only [runD] at h
    split at h
    case h_2 => cases h
    rename_i T1 H1 h1
    obtain ⟨tr, rfl, h3, h4, h5, h6⟩ := runD_trace r T1 H1 _ sts T' H' h
    refine ⟨(T, H) :: tr, by simp, by simp [h3], rfl, by simpa using h5, ?_⟩
    intro i o' ho
    cases i with
    | zero => simp at ho; subst ho; exact ⟨(T, H), (T1, H1), rfl, by simpa using h4, h1⟩
    | succ i => simpa using h6 i o' (by simpa using ho)

theorem runD_spec {C : Callee} {ns : List NOper} {T : Env} {H : AHeap} {sts : List (Env × AHeap)} {T' : Env} {H' : AHeap} (h : runD C ns T H [] = some (sts, T', H')) :
    ∃ S : Nat → Env × AHeap, S 0 = (T, H) ∧ S ns.length = (T', H') ∧ (∀ (i : Nat) o, ns[i]? = some o → stepN C o (S i).1 (S i).2 = some (S (i + 1))) ∧ ∀ i, i ≤ ns.length → sts[i]? = some (S i) := by
  obtain ⟨tr, h1, h2, h3, h4, h5⟩ := runD_trace ns T H [] sts T' H' h
  simp only [List.nil_append] at h1
  subst h1
  refine ⟨fun i => sts.getD i (T, H), by simp [List.getD_eq_getElem?_getD, h3], by simp [List.getD_eq_getElem?_getD, h4], ?_, ?_⟩
  · intro i o ho
    obtain ⟨x, y, g1, g2, g3⟩ := h5 i o ho
    simpa [List.getD_eq_getElem?_getD, g1, g2] using g3
  · intro i hi
    have : i < sts.length := by omega
    simp [List.getD_eq_getElem?_getD, this]

/-! ### environments -/
theorem put_length (T : Env) (d : Option Nat) (v : Value) : (put T d v).length = T.length := by cases d <;> simp [put]

theorem put_other {T : Env} {d : Option Nat} {v : Value} {t : Nat} (h : d ≠ some t) : (put T d v)[t]? = T[t]? := by
  cases d with
  | none => rfl
  | some d =>
    have : d ≠ t := fun e => h (by rw [e])
    simp [put, List.getElem?_set, this]

theorem stepN_put {C : Callee} {o : NOper} {T T' : Env} {H H' : AHeap} (h : stepN C o T H = some (T', H')) : ∃ v, T' = put T o.dst v := by
  unfold stepN at h
  split at h
  · split at h
    · cases h; exact ⟨_, rfl⟩
    · simp only [Option.map_eq_some_iff] at h
      obtain ⟨⟨v, H2⟩, _, heq⟩ := h
      cases heq; exact ⟨v, rfl⟩
    · cases h
  · cases h; exact ⟨_, rfl⟩

section states
variable {C : Callee} {ns : List NOper} {S : Nat → Env × AHeap} (hS : ∀ (i : Nat) o, ns[i]? = some o → stepN C o (S i).1 (S i).2 = some (S (i + 1)))
include hS
theorem st_length : ∀ i, i ≤ ns.length → (S i).1.length = (S 0).1.length
  | 0, _ => rfl
  | i + 1, h => by
    obtain ⟨o, ho⟩ : ∃ o, ns[i]? = some o := ⟨ns[i]'(by omega), by simp⟩
    obtain ⟨v, hv⟩ := stepN_put (hS i o ho)
    rw [hv, put_length, st_length i (by omega)]

theorem st_after {t : Nat} : ∀ (k i : Nat), i + k = ns.length → (∀ (j : Nat) o, i ≤ j → ns[j]? = some o → o.dst ≠ some t) → (S ns.length).1[t]? = (S i).1[t]?
  | 0, i, h, _ => by simp at h; rw [h]
  | k + 1, i, h, hn => by
    obtain ⟨o, ho⟩ : ∃ o, ns[i]? = some o := ⟨ns[i]'(by omega), by simp⟩
    obtain ⟨v, hv⟩ := stepN_put (hS i o ho)
    rw [st_after k (i + 1) (by omega) (fun j o hj hjo => hn j o (by omega) hjo), hv, put_other (hn i o (Nat.le_refl _) ho)]

theorem st_before {t : Nat} : ∀ (i : Nat), i ≤ ns.length → (∀ (j : Nat) o, j < i → ns[j]? = some o → o.dst ≠ some t) → (S i).1[t]? = (S 0).1[t]?
  | 0, _, _ => rfl
  | i + 1, h, hn => by
    obtain ⟨o, ho⟩ : ∃ o, ns[i]? = some o := ⟨ns[i]'(by omega), by simp⟩
    obtain ⟨v, hv⟩ := stepN_put (hS i o ho)
    rw [hv, put_other (hn i o (by omega) ho), st_before i (by omega) (fun j o hj hjo => hn j o (by omega) hjo)]
end states
def TD (ns : List NOper) (T Tf : Env) (D : Nat → Bool) : Env :=
  (List.range T.length).map fun t => if (List.range ns.length).any (fun r => D r && decide ((ns.getD r default).dst = some t)) then Tf.getD t undef else T.getD t undef

theorem TD_length (ns : List NOper) (T Tf : Env) (D : Nat → Bool) : (TD ns T Tf D).length = T.length := by simp [TD]

theorem TD_get {ns : List NOper} {T Tf : Env} {D : Nat → Bool} {t : Nat} (ht : t < T.length) :
    (TD ns T Tf D)[t]? = some (if (List.range ns.length).any (fun r => D r && decide ((ns.getD r default).dst = some t)) then Tf.getD t undef else T.getD t undef) := by
  simp [TD, ht]

theorem TD_none {ns : List NOper} {T Tf : Env} {D : Nat → Bool} (hD : ∀ r, r < ns.length → D r = false) : TD ns T Tf D = T := by
  apply List.ext_getElem?
  intro t
  by_cases ht : t < T.length
  · rw [TD_get ht, if_neg]
    · simp [List.getD_eq_getElem?_getD, ht]
    · simp only [List.any_eq_true, List.mem_range, Bool.and_eq_true, not_exists, not_and]
      intro r hr h; rw [hD r hr] at h; cases h
  · have h1 : (TD ns T Tf D).length ≤ t := by rw [TD_length]; omega
    simp [List.getElem?_eq_none h1, List.getElem?_eq_none (Nat.le_of_not_lt ht)]

def tfv (Tf : Env) : Option Nat → Value
  | some d => Tf.getD d undef
  | none => undef

theorem TD_step {ns : List NOper} {T Tf : Env} {D D' : Nat → Bool} {r : Nat} {o : NOper} (ho : ns[r]? = some o) (hD : ∀ s, s < ns.length → D' s = (D s || decide (s = r))) :
    TD ns T Tf D' = put (TD ns T Tf D) o.dst (tfv Tf o.dst) := by
  have hr : r < ns.length := (List.getElem?_eq_some_iff.1 ho).1
  have hgo : ns.getD r default = o := by simp [List.getD_eq_getElem?_getD, ho]
  apply List.ext_getElem?
  intro t
  by_cases ht : t < T.length
  · rw [TD_get ht]
    by_cases hd : o.dst = some t
    · rw [hd]
      rw [if_pos]
      · simp [put, TD_length, ht, tfv]
      · simp only [List.any_eq_true, List.mem_range, Bool.and_eq_true]
        exact ⟨r, hr, by rw [hD r hr]; simp, by rw [hgo, hd]; simp⟩
    · rw [put_other hd, TD_get ht]
      congr 1
      have : (List.range ns.length).any (fun r => D' r && decide ((ns.getD r default).dst = some t)) = (List.range ns.length).any (fun r => D r && decide ((ns.getD r default).dst = some t)) := by
        rw [Bool.eq_iff_iff]
        simp only [List.any_eq_true, List.mem_range, Bool.and_eq_true, decide_eq_true_eq]
        constructor
        · rintro ⟨s, hs, h1, h2⟩
          rw [hD s hs] at h1
          simp only [Bool.or_eq_true, decide_eq_true_eq] at h1
          rcases h1 with h1 | h1
          · exact ⟨s, hs, h1, h2⟩
          · subst h1; rw [hgo] at h2; exact absurd h2 hd
        · rintro ⟨s, hs, h1, h2⟩
          exact ⟨s, hs, by rw [hD s hs, h1]; rfl, h2⟩
      rw [this]
  · have h1 : (TD ns T Tf D').length ≤ t := by rw [TD_length]; omega
    have h2 : (put (TD ns T Tf D) o.dst (tfv Tf o.dst)).length ≤ t := by rw [put_length, TD_length]; omega
    rw [List.getElem?_eq_none h1, List.getElem?_eq_none h2]

end Go.E
