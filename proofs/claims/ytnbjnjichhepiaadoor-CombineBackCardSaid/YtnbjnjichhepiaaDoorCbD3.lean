/- Combine: the reference's Decode. -/
import Derived.Test.YtnbjnjichhepiaaDoorCbD1
import Derived.Test.YtnbjnjichhepiaaDoorCbF4
namespace Go.E.Cb
open Go Go.E Go.Proofs.YtnbjnjichhepiaaDoor.base Go.Proofs.YtnbjnjichhepiaaDoor Go.Proofs
set_option linter.unusedVariables false
set_option linter.unusedSimpArgs false
set_option maxRecDepth 100000
section
variable {B H : AHeap} {As : List Asn}
end
end Go.E.Cb
/- Combine: CombineDecodes. -/
namespace Go.E.Cb
open Go Go.E Go.Proofs.YtnbjnjichhepiaaDoor.base Go.Proofs.YtnbjnjichhepiaaDoor Go.Proofs
set_option linter.unusedVariables false
set_option linter.unusedSimpArgs false
set_option maxRecDepth 100000
theorem Byt.app {a b : List Int} (ha : Byt a) (hb : Byt b) : Byt (a ++ b) := fun x hx => (List.mem_append.1 hx).elim (ha x) (hb x)
theorem nameB_byt (s : ByteArray) : Byt (nameB s) := fun x hx => by
  unfold nameB at hx
  obtain ⟨y, _, rfl⟩ := List.mem_map.1 hx
  have := y.toNat_lt
  omega
theorem encP_byt (m : Int) {p : Pt} (hp : PtN p) : Byt (encP m p) := by
  unfold encP
  have h := fun x k => leB_byte x k
  exact (((((((((Byt.app (h _ _) (h _ _)).app (h _ _)).app (h _ _)).app (h _ _)).app (h _ _)).app (h _ _)).app (h _ _)).app (nameB_byt _)).app hp.byte)
theorem encTo_byt {l : List Pt} (h : ∀ p ∈ l, PtN p) (n : Nat) : Byt (encTo l n) := by
  induction n with
  | zero => intro x hx; cases hx
  | succ n ih =>
    rw [encTo]
    refine ih.app ?_
    cases hp : l[n]? with
    | none => intro x hx; cases hx
    | some p => exact encP_byt _ (h p (List.mem_of_getElem? hp))
theorem encB_byt {l : List Pt} (h : ∀ p ∈ l, PtN p) : Byt (encB l) := by
  unfold encB
  split
  · exact encTo_byt h _
  · intro x hx; cases hx
theorem encB_len (l : List Pt) : (encB l).length ≤ 4096 := by
  unfold encB
  split
  · rename_i h
    unfold encE at h
    split at h
    · cases h
    split at h
    · cases h
    split at h
    · rename_i h3; exact absurd h h3
    split at h
    · cases h
    omega
  · simp
theorem Byt.set {l : List Int} (h : Byt l) (i : Nat) {y : Int} (hy : 0 ≤ y ∧ y ≤ 255) : Byt (l.set i y) := fun x hx => (List.mem_or_eq_of_mem_set hx).elim (h x) (fun e => e ▸ hy)
theorem decP_ok (k : Nat) {m : List Int} (hb : Byt m) (hl : m.length ≤ 1000000000) : ∀ p ∈ decP k m, PtN p := by
  induction k generalizing m with
  | zero => intro p hp; cases hp
  | succ k ih =>
    intro p hp
    rw [decP] at hp
    split at hp
    · cases hp
    rcases List.mem_cons.1 hp with rfl | hp
    · exact fstN hb hl
    · exact ih (hb.drop _) (by rw [List.length_drop]; omega) p hp
theorem decB_ok {m : List Int} (hb : Byt m) (hl : m.length ≤ 1000000000) : ∀ p ∈ decB m, PtN p := by
  unfold decB
  split
  · exact decP_ok _ hb hl
  · intro p hp; cases hp
theorem decB_len (m : List Int) : (decB m).length ≤ 16 := by
  unfold decB
  split
  · exact decP_len _ _
  · simp
theorem prt_ok {xs : List PX} {l : List Pt} (e : prt xs = l) (h : ∀ p ∈ l, PtN p) : ∀ x ∈ xs, PtN x.1 := fun x hx => h _ (by rw [← e]; exact List.mem_map_of_mem (f := (·.1)) hx)
theorem prt_len {xs : List PX} {l : List Pt} (e : prt xs = l) : xs.length = l.length := by rw [← e]; simp [prt]
section
variable {B : AHeap}
end
end Go.E.Cb
