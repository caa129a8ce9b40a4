/-
  THE EVALUATOR WITH CHOICES, PART ZR: maps from whole numbers to boxes, as assertions.
-/
import Derived.Test.YtgbnjcmjioiclaaDoorEwZq
set_option linter.unusedSimpArgs false
set_option linter.unusedVariables false
set_option linter.unusedSectionVars false
namespace Go.E
open Go
def encI (n : Int) : Value := .int .i64 n
def ptrB (b : Nat) : Value := .pointer (some ⟨b, 0, none⟩)
section
variable {X : Type}
def gGet : List (Int × X) → Int → Option X
  | [], _ => none
  | p :: l, k => if k = p.1 then some p.2 else gGet l k
def gSet : List (Int × X) → Int → X → List (Int × X)
  | [], _, _ => []
  | p :: l, k, x => if k = p.1 then (p.1, x) :: l else p :: gSet l k x
def gDel : List (Int × X) → Int → List (Int × X)
  | [], _ => []
  | p :: l, k => if k = p.1 then l else p :: gDel l k
theorem gSet_len (l : List (Int × X)) (k : Int) (x : X) : (gSet l k x).length = l.length := by
  induction l with
  | nil => rfl
  | cons p l ih => unfold gSet; split <;> simp [ih]
theorem gSet_keys (l : List (Int × X)) (k : Int) (x : X) : (gSet l k x).map (·.1) = l.map (·.1) := by
  induction l with
  | nil => rfl
  | cons p l ih => unfold gSet; split <;> simp [ih]
theorem gSet_self {l : List (Int × X)} {k : Int} {x : X} (h : gGet l k = some x) : gSet l k x = l := by
  induction l with
  | nil => rfl
  | cons p l ih =>
    unfold gGet at h
    unfold gSet
    split at h
    · rename_i e
      cases h
      rw [if_pos e]
    · rename_i e
      rw [if_neg e, ih h]
theorem gGet_set {l : List (Int × X)} {k j : Int} {x y : X} (h : gGet l k = some y) : gGet (gSet l k x) j = if j = k then some x else gGet l j := by
  induction l with
  | nil => cases h
  | cons p l ih =>
    unfold gGet at h
    unfold gSet
    split at h
    · rename_i e
      rw [if_pos e]
      unfold gGet
      by_cases hj : j = p.1
      · rw [if_pos hj, if_pos (by rw [e]; exact hj)]
      · rw [if_neg hj, if_neg (by rw [e]; exact hj), if_neg hj]
    · rename_i e
      rw [if_neg e]
      unfold gGet
      by_cases hj : j = p.1
      · rw [if_pos hj, if_pos hj, if_neg (fun h => e (by rw [← h]; exact hj))]
      · rw [if_neg hj, if_neg hj, ih h]
theorem gGet_none {l : List (Int × X)} {k : Int} : gGet l k = none ↔ k ∉ l.map (·.1) := by
  induction l with
  | nil => simp [gGet]
  | cons p l ih =>
    unfold gGet
    split
    · rename_i e; simp [e]
    · rename_i e; simp [e, ih]
theorem gGet_mem {l : List (Int × X)} {k : Int} {x : X} (h : gGet l k = some x) : (k, x) ∈ l := by
  induction l with
  | nil => cases h
  | cons p l ih =>
    unfold gGet at h
    split at h
    · rename_i e; cases h; rw [e]; simp
    · exact List.mem_cons_of_mem _ (ih h)
/-! ### the assertion -/
def qP (y : Int × Nat × X) : Int × X := (y.1, y.2.2)
def qK (y : Int × Nat × X) : Int × Value := (y.1, ptrB y.2.1)
def qB (f : X → List Value) (y : Int × Nat × X) : Asn := pto y.2.1 (.cells (f y.2.2) 0 false)
def rg (f : X → List Value) (m : Nat) (l : List (Int × X)) : Asn := exA fun (q : List (Int × Nat × X)) => seps [pur (q.map qP = l), im encI m (q.map qK), seps (q.map (qB f))]
variable {f : X → List Value} {m : Nat} {l : List (Int × X)} {B H : AHeap} {As : List Asn}
theorem rgOpen (h : S B H (rg f m l :: As)) : ∃ q : List (Int × Nat × X), q.map qP = l ∧ S B H (im encI m (q.map qK) :: seps (q.map (qB f)) :: As) := by
  obtain ⟨q, h⟩ := S.unex h
  obtain ⟨h1, h2⟩ := S.unpur (S.unseps h)
  exact ⟨q, h1, h2⟩
theorem rgClose {q : List (Int × Nat × X)} (h : S B H (im encI m (q.map qK) :: seps (q.map (qB f)) :: As)) (hq : q.map qP = l) : S B H (rg f m l :: As) :=
  S.exI (X := List (Int × Nat × X)) q (S.seps (S.pur hq h))
theorem rgNew (h : S B H (pto m (.map [] 0) :: As)) : S B H (rg f m [] :: As) :=
  rgClose (q := []) (S.up1 (S.seps (L := []) (S.imNew h))) rfl
theorem kvGet_q (q : List (Int × Nat × X)) (k : Int) : (gGet (q.map qP) k = none → kvGet (q.map qK) k = none) ∧ ∀ x, gGet (q.map qP) k = some x → ∃ b, kvGet (q.map qK) k = some (ptrB b) ∧ ∃ q1 q2, q = q1 ++ (k, b, x) :: q2 ∧ ∀ y ∈ q1, k ≠ y.1 := by
  induction q with
  | nil => exact ⟨fun _ => rfl, fun x h => by cases h⟩
  | cons y q ih =>
    simp only [List.map_cons]
    unfold gGet kvGet
    by_cases e : k = y.1
    · rw [if_pos (show k = (qP y).1 from e), if_pos (show k = (qK y).1 from e)]
      refine ⟨fun h => (by cases h), fun x h => ⟨y.2.1, rfl, [], q, ?_, by simp⟩⟩
      cases h
      rw [e]
      rfl
    · rw [if_neg (show ¬ k = (qP y).1 from e), if_neg (show ¬ k = (qK y).1 from e)]
      refine ⟨ih.1, fun x h => ?_⟩
      obtain ⟨b, h1, q1, q2, h2, h3⟩ := ih.2 x h
      refine ⟨b, h1, y :: q1, q2, by rw [h2]; rfl, fun z hz => ?_⟩
      rcases List.mem_cons.1 hz with rfl | hz
      · exact e
      · exact h3 z hz
theorem gSet_q {q1 q2 : List (Int × Nat × X)} {k : Int} {b : Nat} {x x' : X} (h : ∀ y ∈ q1, k ≠ y.1) : gSet ((q1 ++ (k, b, x) :: q2).map qP) k x' = (q1 ++ (k, b, x') :: q2).map qP := by
  induction q1 with
  | nil => simp [gSet, qP]
  | cons y q ih =>
    have h1 := h y (by simp)
    simp only [List.cons_append, List.map_cons, gSet]
    rw [if_neg (show ¬ k = (qP y).1 from h1), ih fun z hz => h z (by simp [hz])]
theorem kvSet_q {q : List (Int × Nat × X)} {k : Int} {v : Value} (h : gGet (q.map qP) k = none) : kvSet (q.map qK) k v = q.map qK ++ [(k, v)] := by
  induction q with
  | nil => rfl
  | cons y q ih =>
    simp only [List.map_cons] at h ⊢
    unfold gGet at h
    split at h
    · cases h
    rename_i e
    unfold kvSet
    rw [if_neg (show ¬ k = (qK y).1 from e), ih h]
    rfl
theorem kvDel_q {q1 q2 : List (Int × Nat × X)} {k : Int} {b : Nat} {x : X} (h : ∀ y ∈ q1, k ≠ y.1) : kvDel ((q1 ++ (k, b, x) :: q2).map qK) k = (q1 ++ q2).map qK := by
  induction q1 with
  | nil => simp [kvDel, qK]
  | cons y q ih =>
    have h1 := h y (by simp)
    simp only [List.cons_append, List.map_cons, kvDel]
    rw [if_neg (show ¬ k = (qK y).1 from h1), ih fun z hz => h z (by simp [hz])]
theorem gDel_q {q1 q2 : List (Int × Nat × X)} {k : Int} {b : Nat} {x : X} (h : ∀ y ∈ q1, k ≠ y.1) : gDel ((q1 ++ (k, b, x) :: q2).map qP) k = (q1 ++ q2).map qP := by
  induction q1 with
  | nil => simp [gDel, qP]
  | cons y q ih =>
    have h1 := h y (by simp)
    simp only [List.cons_append, List.map_cons, gDel]
    rw [if_neg (show ¬ k = (qP y).1 from h1), ih fun z hz => h z (by simp [hz])]

theorem boxOut {q1 q2 : List (Int × Nat × X)} {y : Int × Nat × X} (h : S B H (seps ((q1 ++ y :: q2).map (qB f)) :: As)) : S B H (qB f y :: seps ((q1 ++ q2).map (qB f)) :: As) := by
  have h1 := S.unseps h
  have h2 : S B H ((q1 ++ q2).map (qB f) ++ (qB f y :: As)) := h1.perm (by
    simp only [List.map_append, List.map_cons, List.append_assoc, List.cons_append]
    refine List.Perm.append_left _ ?_
    exact List.perm_middle.symm)
  exact S.up1 (S.seps h2)
theorem boxIn {q1 q2 : List (Int × Nat × X)} {y : Int × Nat × X} (h : S B H (qB f y :: seps ((q1 ++ q2).map (qB f)) :: As)) : S B H (seps ((q1 ++ y :: q2).map (qB f)) :: As) := by
  have h1 := S.unseps (S.up1 h)
  refine S.seps (h1.perm ?_)
  simp only [List.map_append, List.map_cons, List.append_assoc, List.cons_append]
  refine List.Perm.append_left _ ?_
  exact List.perm_middle

theorem rgBorrow {k : Int} {x : X} (h : S B H (rg f m l :: As)) (hx : gGet l k = some x) : ∃ b kv R, kvGet kv k = some (ptrB b) ∧ kv.length = l.length ∧ S B H (pto b (.cells (f x) 0 false) :: im encI m kv :: R :: As) ∧
    (∀ H' As' x', S B H' (pto b (.cells (f x') 0 false) :: im encI m kv :: R :: As') → S B H' (rg f m (gSet l k x') :: As')) ∧
    ∀ H' As', S B H' (im encI m (kvDel kv k) :: R :: As') → S B H' (rg f m (gDel l k) :: As') := by
  obtain ⟨q, rfl, hq⟩ := rgOpen h
  obtain ⟨b, h1, q1, q2, rfl, h2⟩ := (kvGet_q q k).2 x hx
  refine ⟨b, _, seps ((q1 ++ q2).map (qB f)), h1, by simp, ?_, fun H' As' x' h' => ?_, fun H' As' h' => ?_⟩
  · have h3 := S.up1 (S.up2 (boxOut (S.up1 hq)))
    exact h3
  · have h3 : S B H' (qB f (k, b, x') :: im encI m ((q1 ++ (k, b, x) :: q2).map qK) :: seps ((q1 ++ q2).map (qB f)) :: As') := h'
    have h4 := boxIn (y := (k, b, x')) (S.up1 (S.up2 h3))
    rw [gSet_q h2]
    refine rgClose (q := q1 ++ (k, b, x') :: q2) ?_ rfl
    have e : (q1 ++ (k, b, x') :: q2).map qK = (q1 ++ (k, b, x) :: q2).map qK := by simp [qK]
    rw [e]
    exact S.up1 h4
  · rw [kvDel_q h2] at h'
    rw [gDel_q h2]
    exact rgClose h' rfl
theorem rgNone {k : Int} (h : S B H (rg f m l :: As)) (hx : gGet l k = none) : ∃ kv R, kvGet kv k = none ∧ kv.length = l.length ∧ S B H (im encI m kv :: R :: As) ∧
    (∀ H' As', S B H' (im encI m kv :: R :: As') → S B H' (rg f m l :: As')) ∧
    ∀ H' As' b x, S B H' (im encI m (kvSet kv k (ptrB b)) :: R :: pto b (.cells (f x) 0 false) :: As') → S B H' (rg f m (l ++ [(k, x)]) :: As') := by
  obtain ⟨q, rfl, hq⟩ := rgOpen h
  refine ⟨_, seps (q.map (qB f)), (kvGet_q q k).1 hx, by simp, hq, fun H' As' h' => rgClose h' rfl, fun H' As' b x h' => ?_⟩
  rw [kvSet_q hx] at h'
  refine rgClose (q := q ++ [(k, b, x)]) ?_ (by simp [qP])
  have h1 : S B H' (qB f (k, b, x) :: seps ((q ++ []).map (qB f)) :: im encI m (q.map qK ++ [(k, ptrB b)]) :: As') := by
    rw [List.append_nil]
    exact S.up1 (S.up2 (S.up2 h'))
  have h2 := boxIn h1
  have e : (q ++ [(k, b, x)]).map qK = q.map qK ++ [(k, ptrB b)] := by simp [qK]
  rw [e]
  exact S.up1 h2
theorem rgLen (h : S B H (rg f m l :: As)) : ∃ kv R, kv.length = l.length ∧ S B H (im encI m kv :: R :: As) ∧ ∀ H' As', S B H' (im encI m kv :: R :: As') → S B H' (rg f m l :: As') := by
  obtain ⟨q, rfl, hq⟩ := rgOpen h
  exact ⟨_, seps (q.map (qB f)), by simp, hq, fun H' As' h' => rgClose h' rfl⟩
end
end Go.E
