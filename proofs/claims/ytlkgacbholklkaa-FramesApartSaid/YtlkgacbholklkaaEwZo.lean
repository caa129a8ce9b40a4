/-
  THE EVALUATOR WITH CHOICES, PART ZO: ranges over maps, as assertions: any entry that is left may come next.
-/
import Derived.Test.YtlkgacbholklkaaEwZn
set_option linter.unusedSimpArgs false
set_option linter.unusedVariables false
set_option linter.unusedSectionVars false
namespace Go.E
open Go
theorem resW_pick {C : Callees} {v : Value} {H : AHeap} {K : Value → AHeap → Prop} (h : pickV v H K) : resW C (.nextM (.c v)) H K := by
  unfold resW
  split
  · rename_i u H1 he
    unfold pickV at h
    split at h
    case h_2 => exact h.elim
    rename_i p
    obtain ⟨h0, h⟩ := h
    split at h
    case h_2 => exact h.elim
    rename_i m since seen last hg
    split at h
    case h_2 => exact h.elim
    rename_i es clock hm
    obtain ⟨h1, h⟩ := h
    simp only [eop, NOpd.ev, h0, if_true, hg, hm] at he
    unfold iterStep at he
    rw [if_neg (by rw [h1]; simp)] at he
    cases hl : es.filter fun e => !seen.contains e.born with
    | nil =>
      rw [hl] at he
      cases he
      exact h none (by unfold pickL; rw [hl]; simp)
    | cons e l =>
      rw [hl] at he
      cases l with
      | cons a b => cases he
      | nil =>
        simp only at he
        split at he
        · rename_i e' hs
          split at hs
          · cases hs
          · cases hs
        · rename_i e' hs
          split at hs
          · rename_i hlt
            cases hs
            split at he
            · rename_i hcl
              cases he
              have := h (some e) (by unfold pickL; rw [hl]; simp [hlt])
              exact this.2
            · cases he
          · cases hs
        · cases he
  · rename_i f args H1 he
    exfalso
    simp only [eop] at he
    repeat' split at he
    all_goals first | (cases he; done) | skip
  · exact h

section
variable {α : Type} [DecidableEq α]
def imr (enc : α → Value) (m p : Nat) (kv rest : List (α × Value)) (cur : Option (α × Value)) : Asn :=
  exA fun (x : List MapEntry × Nat × List Nat) => seps [pto m (.map x.1 x.2.1), pto p (.iter (some m) x.2.1 x.2.2 x.2.1),
    pur (x.1.map kvE = kv.map (kvP enc) ∧ BornOk x.1 x.2.1 ∧ (x.1.filter fun e => !x.2.2.contains e.born).map kvE = rest.map (kvP enc) ∧
      ∀ q, cur = some q → ∃ e ∈ x.1, x.2.2.getLast? = some e.born ∧ kvE e = kvP enc q)]
variable {C : Callees} {T : FEnv} {B H : AHeap} {As : List Asn} {K : FEnv → AHeap → Prop} {d : Nat} {g : Option (Nat × Bool)} {enc : α → Value} {m p : Nat} {kv rest : List (α × Value)} {cur : Option (α × Value)}
theorem S.imrOpen (h : S B H (imr enc m p kv rest cur :: As)) : ∃ es clock seen, es.map kvE = kv.map (kvP enc) ∧ BornOk es clock ∧ (es.filter fun e => !seen.contains e.born).map kvE = rest.map (kvP enc) ∧
    (∀ q, cur = some q → ∃ e ∈ es, seen.getLast? = some e.born ∧ kvE e = kvP enc q) ∧ S B H (pto m (.map es clock) :: pto p (.iter (some m) clock seen clock) :: As) := by
  obtain ⟨⟨es, clock, seen⟩, h⟩ := S.unex h
  have h := S.unseps h
  obtain ⟨⟨h1, h2, h3, h4⟩, h⟩ := S.unpur (S.up2 h)
  exact ⟨es, clock, seen, h1, h2, h3, h4, h⟩
theorem S.imrClose {es : List MapEntry} {clock : Nat} {seen : List Nat} (h : S B H (pto m (.map es clock) :: pto p (.iter (some m) clock seen clock) :: As)) (h1 : es.map kvE = kv.map (kvP enc)) (h2 : BornOk es clock)
    (h3 : (es.filter fun e => !seen.contains e.born).map kvE = rest.map (kvP enc)) (h4 : ∀ q, cur = some q → ∃ e ∈ es, seen.getLast? = some e.born ∧ kvE e = kvP enc q) : S B H (imr enc m p kv rest cur :: As) :=
  S.exI (X := List MapEntry × Nat × List Nat) (es, clock, seen) (S.seps (S.dn2 (S.pur ⟨h1, h2, h3, h4⟩ h)))
theorem op1_rangeMS {mm : NOpd} (hw : wantedF g T = true) (hm : mm.evF T = .map (some m)) (hS : S B H (im enc m kv :: As))
    (kk : ∀ p H', S B H' (imr enc m p kv kv none :: As) → K (upd T d (.pointer (some ⟨p, 0, none⟩))) H') : op1 C ⟨some d, .rangeM mm, g⟩ T H K := by
  obtain ⟨es, clock, h1, h2, hS⟩ := hS.imOpenB
  have hg := hS.get
  refine op1_val (v := .pointer (some ⟨H.next, 0, none⟩)) (H' := H.add (.iter (some m) clock [] clock)) hw ?_ (kk H.next _ (S.imrClose (S.up1 (hS.add _)) h1 h2 ?_ fun q h => by cases h))
  · simp only [NOp.sub, eop, ev_subF, hm, hg]
  · have : (es.filter fun e => !([] : List Nat).contains e.born) = es := List.filter_eq_self.2 fun _ _ => rfl
    rw [this]; exact h1

theorem op1_nextMS {x : NOpd} (hcl : ∀ a, closedV (enc a) = true) (hw : wantedF g T = true) (hx : x.evF T = .pointer (some ⟨p, 0, none⟩)) (hx' : x.sub T = .c (x.evF T)) (hS : S B H (imr enc m p kv rest cur :: As))
    (kn : rest = [] → K (upd T d (.tuple #[.bool false])) H)
    (kc : ∀ l1 k v l2 H', rest = l1 ++ (k, v) :: l2 → S B H' (imr enc m p kv (l1 ++ l2) (some (k, v)) :: As) → K (upd T d (.tuple #[.bool true, enc k, v])) H') : op1 C ⟨some d, .nextM x, g⟩ T H K := by
  obtain ⟨es, clock, seen, h1, h2, h3, _, hS⟩ := hS.imrOpen
  have hgm := hS.get
  have hgp := (S.up1 hS).get
  refine ⟨fun K' hK => ?_⟩
  simp only [op1R, hw, NOp.sub, hx', hx]
  refine resW_pick ?_
  have hold : ((es.filter fun e => !seen.contains e.born).filter fun e => decide (e.born < clock)) = es.filter fun e => !seen.contains e.born :=
    List.filter_eq_self.2 fun e he => decide_eq_true (h2.lt e (List.mem_filter.1 he).1)
  have hnew : ((es.filter fun e => !seen.contains e.born).filter fun e => decide (e.born ≥ clock)) = [] :=
    List.filter_eq_nil_iff.2 fun e he => by have := h2.lt e (List.mem_filter.1 he).1; simp; omega
  have hL : pickL es clock seen = if (es.filter fun e => !seen.contains e.born).isEmpty then [none] else (es.filter fun e => !seen.contains e.born).map some := by
    unfold pickL
    rw [hold, hnew]
    cases es.filter fun e => !seen.contains e.born <;> simp
  unfold pickV
  simp only [hgp, hgm, true_and]
  refine ⟨?_, fun c hc => ?_⟩
  · cases es with
    | nil => simp
    | cons e r =>
      have := h2.lt e (by simp)
      have h0 : decide (e.born ≥ clock) = false := by simp; omega
      simp [List.all_cons, h0]
  rw [hL] at hc
  cases c with
  | none =>
    split at hc
    · rename_i he
      have hr : rest = [] := by
        rw [List.isEmpty_iff.1 he] at h3
        simpa using h3.symm
      exact hK _ _ (kn hr)
    · simp at hc
  | some e =>
    split at hc
    · simp at hc
    rename_i hne
    simp only [List.mem_map, Option.some.injEq, exists_eq_right] at hc
    obtain ⟨L1, L2, hsp⟩ := List.append_of_mem hc
    -- the rest, split in the same way
    obtain ⟨l1, l2, k, v, hr, hl1, hke, hl2⟩ : ∃ l1 l2 k v, rest = l1 ++ (k, v) :: l2 ∧ L1.map kvE = l1.map (kvP enc) ∧ kvE e = kvP enc (k, v) ∧ L2.map kvE = l2.map (kvP enc) := by
      rw [hsp, List.map_append, List.map_cons] at h3
      obtain ⟨a, b, e1, e2, e3⟩ := List.map_eq_append_iff.1 h3.symm
      obtain ⟨q, b', e4, e5, e6⟩ := List.map_eq_cons_iff.1 e3
      exact ⟨a, b', q.1, q.2, by rw [e1, e4], e2.symm, e5.symm, e6.symm⟩
    have hke' : e.key = enc k ∧ e.val = v := by
      unfold kvE kvP at hke
      simpa using hke
    refine ⟨by rw [hke'.1]; exact hcl k, ?_⟩
    rw [hke'.1, hke'.2]
    have hnd : (es.filter fun e => !seen.contains e.born).map (·.born) |>.Nodup := (List.filter_sublist.map _).nodup h2.nodup
    have hmem : e ∈ es := (List.mem_filter.1 hc).1
    have hfil : (es.filter fun x => !(seen ++ [e.born]).contains x.born) = L1 ++ L2 := by
      have e1 : (es.filter fun x => !(seen ++ [e.born]).contains x.born) = (es.filter fun e => !seen.contains e.born).filter fun x => !decide (x.born = e.born) := by
        rw [List.filter_filter]
        apply List.filter_congr
        intro x _
        simp only [List.contains_eq_mem, List.mem_append, List.mem_singleton]
        by_cases a : x.born ∈ seen <;> by_cases b : x.born = e.born <;> simp [a, b]
      rw [e1, hsp, List.filter_append, List.filter_cons]
      rw [hsp, List.map_append, List.map_cons, List.nodup_append, List.nodup_cons] at hnd
      obtain ⟨n1, ⟨n2, n3⟩, n4⟩ := hnd
      rw [if_neg (by simp)]
      congr 1
      · refine List.filter_eq_self.2 fun x hx => ?_
        have := n4 x.born (List.mem_map_of_mem hx) e.born (by simp)
        simpa using this
      · refine List.filter_eq_self.2 fun x hx => ?_
        have : x.born ≠ e.born := fun k => n2 (by rw [← k]; exact List.mem_map_of_mem hx)
        simpa using this
    refine hK _ _ (kc l1 k v l2 _ hr (S.imrClose (seen := seen ++ [e.born]) (S.up1 ((S.up1 hS).set _)) h1 h2 ?_ ?_))
    · rw [hfil, List.map_append, List.map_append, hl1, hl2]
    · rintro q hq
      cases hq
      exact ⟨e, hmem, by simp, hke⟩

theorem op1_entryMS {x : NOpd} {k : α} {v : Value} (hcl : ∀ a, closedV (enc a) = true) (hw : wantedF g T = true) (hx : x.evF T = .pointer (some ⟨p, 0, none⟩)) (hS : S B H (imr enc m p kv rest (some (k, v)) :: As))
    (kk : K (upd T d (.tuple #[enc k, v])) H) : op1 C ⟨some d, .entryM x, g⟩ T H K := by
  obtain ⟨es, clock, seen, h1, h2, h3, h4, hS⟩ := hS.imrOpen
  have hgm := hS.get
  have hgp := (S.up1 hS).get
  obtain ⟨e, he, hlast, hkv⟩ := h4 _ rfl
  have hke' : e.key = enc k ∧ e.val = v := by
    unfold kvE kvP at hkv
    simpa using hkv
  have hfind : (es.find? fun x => x.born == e.born) = some e := by
    have hnd := h2.nodup
    clear h1 h2 h3 h4 hS hgm hgp
    induction es with
    | nil => cases he
    | cons a es ih =>
      rw [List.find?_cons]
      simp only [List.map_cons, List.nodup_cons] at hnd
      rcases List.mem_cons.1 he with rfl | he
      · simp
      · have hne : a.born ≠ e.born := fun k => hnd.1 (by rw [k]; exact List.mem_map_of_mem he)
        have : (a.born == e.born) = false := by simpa using hne
        rw [this]
        exact ih he hnd.2
  refine op1_val (v := .tuple #[enc k, v]) (H' := H) hw ?_ kk
  simp only [NOp.sub, eop, ev_subF, hx, if_true, hgp, hgm, hlast, hfind, Option.bind_some, hke'.1, hke'.2, hcl k]
end
end Go.E
