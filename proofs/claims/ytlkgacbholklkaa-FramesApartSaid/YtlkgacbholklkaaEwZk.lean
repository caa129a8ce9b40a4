/-
  THE EVALUATOR, PART ZK: strings compared; bound methods; cuts behind which the code may have returned.
-/
import Derived.Test.YtlkgacbholklkaaEwZj
set_option linter.unusedSimpArgs false
set_option linter.unusedVariables false
namespace Go.E
open Go
theorem toListLoop (bs : ByteArray) : ∀ (n i : Nat) (r : List UInt8), bs.size - i = n → i ≤ bs.size → ByteArray.toList.loop bs i r = r.reverse ++ bs.data.toList.drop i
  | 0, i, r, h, hi => by
    have hl : bs.data.toList.length = bs.size := Array.length_toList
    rw [ByteArray.toList.loop, if_neg (by omega), List.drop_of_length_le (by omega), List.append_nil]
  | n + 1, i, r, h, hi => by
    have hl : bs.data.toList.length = bs.size := Array.length_toList
    rw [ByteArray.toList.loop, if_pos (by omega), toListLoop bs n (i + 1) _ (by omega) (by omega), List.reverse_cons, List.append_assoc]
    congr 1
    rw [List.drop_eq_getElem_cons (show i < bs.data.toList.length by omega)]
    simp only [List.singleton_append, List.cons.injEq, and_true]
    show bs.data[i]! = _
    rw [getElem!_pos bs.data i (by simpa using (show i < bs.data.toList.length by omega))]
    simp
theorem toList_data (bs : ByteArray) : bs.toList = bs.data.toList := by
  unfold ByteArray.toList
  rw [toListLoop bs bs.size 0 [] (by omega) (by omega)]
  simp
theorem str_eq (a b : ByteArray) : (a.toList == b.toList) = decide (a = b) := by
  rw [toList_data, toList_data]
  cases a with | mk a => cases b with | mk b =>
  by_cases h : a = b
  · subst h; simp
  · have h2 : ¬ (ByteArray.mk a = ByteArray.mk b) := fun e => h (by cases e; rfl)
    have h3 : ¬ a.toList = b.toList := fun e => h (Array.toList_inj.1 e)
    rw [decide_eq_false h2]
    simpa using h
theorem str_empty (s : ByteArray) : (s.toList == (ByteArray.mk #[]).toList) = decide (s.size = 0) := by
  rw [str_eq, decide_eq_decide]
  constructor
  · rintro rfl; rfl
  · intro h
    cases s with | mk s =>
    have h : s.size = 0 := h
    rw [Array.eq_empty_of_size_eq_zero h]
theorem op1_eqlSD {C : Callees} {T : FEnv} {H : AHeap} {K : KO} {e : EqT} {x y : NOpd} {a b : ByteArray} {d : Nat} {g : Option (Nat × Bool)} (hw : wantedF g T = true) (hx : x.evF T = .string a) (hy : y.evF T = .string b) (k : K (upd T d (.bool (decide (a = b)))) H) : op1 C ⟨some d, .bin .eql e x y, g⟩ T H K := by
  rw [← str_eq] at k
  exact op1_eqlS hw hx hy k
theorem op1_eqlS0 {C : Callees} {T : FEnv} {H : AHeap} {K : KO} {e : EqT} {x y : NOpd} {a : ByteArray} {d : Nat} {g : Option (Nat × Bool)} (hw : wantedF g T = true) (hx : x.evF T = .string a) (hy : y.evF T = .string ⟨#[]⟩) (k : K (upd T d (.bool (decide (a.size = 0)))) H) : op1 C ⟨some d, .bin .eql e x y, g⟩ T H K := by
  rw [← str_empty] at k
  exact op1_eqlS hw hx hy k

theorem bool_leaf {x : Bool} {P : Prop} [Decidable P] (h : x = true ↔ P) : [Value.bool x] = [.bool (decide P)] := by
  congr 2
  cases x
  · rw [decide_eq_false (fun hp => by have := h.2 hp; cases this)]
  · rw [decide_eq_true (h.1 rfl)]
section
variable {C : Callees} {T : FEnv} {H : AHeap} {K : KO}
theorem op1_bnd2 {f : Nat} {ff c0 c1 : NOpd} {fs : List Value} {v0 v1 : Value} {d : Nat} {g : Option (Nat × Bool)} (hw : wantedF g T = true) (hff : ff.evF T = .func (.func f) ⟨fs⟩ ⟨[]⟩) (h0 : c0.evF T = v0) (h1 : c1.evF T = v1)
    (k : wpF C f (fs ++ [v0, v1]) H fun v H2 => K (upd T d v) H2) : op1 C ⟨some d, .call ff [c0, c1], g⟩ T H K := by
  refine op1_call hw ?_ k
  simp only [NOp.sub, eop, ev_subF, hff, subs, List.map_cons, List.map_nil, h0, h1, List.append_nil]
theorem op1_mkfuncB {f : Nat} {x : NOpd} {v : Value} {d : Nat} {g : Option (Nat × Bool)} (hw : wantedF g T = true) (hx : x.evF T = v) (k : K (upd T d (.func (.func f) ⟨[v]⟩ ⟨[]⟩)) H) : op1 C ⟨some d, .mkfunc f [x] [], g⟩ T H K := by
  refine op1_val hw ?_ k
  simp only [NOp.sub, eop, ev_subF, hx, subs, List.map_cons, List.map_nil]
theorem kvSet_new {α : Type} [DecidableEq α] {kv : List (α × Value)} {k : α} {v : Value} : kvGet kv k = none → kvSet kv k v = kv ++ [(k, v)] := by
  induction kv with
  | nil => intro _; rfl
  | cons p l ih =>
    intro h
    simp only [kvGet] at h
    split at h
    · cases h
    · rename_i hk
      simp only [kvSet, if_neg hk, ih h, List.cons_append]
end
end Go.E
