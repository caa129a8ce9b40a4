/-
  THE EVALUATOR, PART ZK: strings compared; bound methods; cuts behind which the code may have returned.
-/
import Derived.Test.YtnbjnjichhepiaaDoorEwZj
set_option linter.unusedSimpArgs false
set_option linter.unusedVariables false
namespace Go.E
open Go
theorem toListLoop (bs : ByteArray) : ∀ (n i : Nat) (r : List UInt8), bs.size - i = n → i ≤ bs.size → ByteArray.toList.loop bs i r = r.reverse ++ bs.data.toList.drop i
  | 0, i, r, h, hi => by
    have hl : bs.data.toList.length = bs.size := Array.length_toList
    rw [ByteArray.toList.loop, if_neg (by omega), List.drop_of_length_le (by omega), List.append_nil]
  | n + 1, i, r, h, hi => by
    have hl : bs.data.toList.length = bs.size := Array.length_toList
    rw [ByteArray.toList.loop, if_pos (by omega), toListLoop bs n (i + 1) _ (by omega) (by omega), List.reverse_cons, List.append_assoc]
    congr 1
    rw [List.drop_eq_getElem_cons (show i < bs.data.toList.length by omega)]
    simp only [List.singleton_append, List.cons.injEq, and_true]
    show bs.data[i]! = _
    rw [getElem!_pos bs.data i (by simpa using (show i < bs.data.toList.length by omega))]
    simp
theorem toList_data (bs : ByteArray) : bs.toList = bs.data.toList := by
  unfold ByteArray.toList
  rw [toListLoop bs bs.size 0 [] (by omega) (by omega)]
  simp
theorem str_eq (a b : ByteArray) : (a.toList == b.toList) = decide (a = b) := by
  rw [toList_data, toList_data]
  cases a with | mk a => cases b with | mk b =>
  by_cases h : a = b
  · subst h; simp
  · have h2 : ¬ (ByteArray.mk a = ByteArray.mk b) := fun e => h (by cases e; rfl)
    have h3 : ¬ a.toList = b.toList := fun e => h (Array.toList_inj.1 e)
    rw [decide_eq_false h2]
    simpa using h
theorem str_empty (s : ByteArray) : (s.toList == (ByteArray.mk #[]).toList) = decide (s.size = 0) := by
  rw [str_eq, decide_eq_decide]
  constructor
  · rintro rfl; rfl
  · intro h
    cases s with | mk s =>
    have h : s.size = 0 := h
    rw [Array.eq_empty_of_size_eq_zero h]
structure CutR (ds : List Nat) (J : List Value → AHeap → Prop) (Q : Post) (x : NX) (T : FEnv) (H : AHeap) : Prop where
  out : match x with
    | .normal => J (ds.map T) H
    | x => Q x T H
theorem cutR_ret {ds : List Nat} {J : List Value → AHeap → Prop} {Q : Post} {T : FEnv} {H : AHeap} (k : Q .ret T H) : CutR ds J Q .ret T H := ⟨k⟩
theorem cutR0 {J : List Value → AHeap → Prop} {Q : Post} {T : FEnv} {H : AHeap} (k : J [] H) : CutR [] J Q .normal T H := ⟨k⟩
theorem wp_cutR {C : Callees} {a b : NCode} {T : FEnv} {H : AHeap} {Q : Post} (ds : List Nat) (J : List Value → AHeap → Prop) (h1 : WP C a T H (CutR ds J Q))
    (h2 : ∀ vs T' H', J vs H' → WP C b (updL (havoc (asg a) T T') ds vs) H' Q) : WP C (.seq a b) T H Q :=
  ⟨fun Q' hQ => wp_mono (c := a) (fun x T' H' ⟨k, ha⟩ => by
    cases x with
    | normal =>
      have := h2 _ T' H' k.out
      rw [havoc_eq ha, updL_self] at this
      exact this.out Q' hQ
    | ret => exact hQ _ _ _ k.out
    | exit i => exact hQ _ _ _ k.out) (wp_frame (c := a) (h1.out _ fun _ _ _ k => k))⟩
theorem bool_leaf {x : Bool} {P : Prop} [Decidable P] (h : x = true ↔ P) : [Value.bool x] = [.bool (decide P)] := by
  congr 2
  cases x
  · rw [decide_eq_false (fun hp => by have := h.2 hp; cases this)]
  · rw [decide_eq_true (h.1 rfl)]
section
variable {C : Callees} {T : FEnv} {H : AHeap} {K : KO}
end
end Go.E
