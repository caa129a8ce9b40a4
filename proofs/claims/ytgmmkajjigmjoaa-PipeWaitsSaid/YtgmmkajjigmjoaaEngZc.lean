/-
  THE EVALUATOR, PART ZC: a cut inside a region.
-/
import Derived.Test.YtgmmkajjigmjoaaEngZb
set_option linter.unusedSimpArgs false
set_option linter.unusedVariables false
namespace Go.E
open Go

theorem asgO_append : ∀ (a b : List NOper), asgO (a ++ b) = asgO a ++ asgO b
  | [], b => rfl
  | o :: a, b => by simp only [List.cons_append, asgO, asgO_append a b, List.append_assoc]

theorem wpO_append {C : Nat → Callee} : ∀ {a b : List NOper} {T : FEnv} {H : AHeap} {Q : FEnv → AHeap → Prop}, wpO C a T H (fun T' H' => wpO C b T' H' Q) → wpO C (a ++ b) T H Q
  | [], b, T, H, Q, h => h
  | o :: a, b, T, H, Q, h => by
    simp only [List.cons_append, wpO] at h ⊢
    split at h
    · exact wpO_append h
    · split at h
      · exact wpO_append h
      · exact wpF_mono h fun v H' k => wpO_append k
      · exact h

structure CutO (ds : List Nat) (J : List Value → AHeap → Prop) (T : FEnv) (H : AHeap) : Prop where
  out : J (ds.map T) H

/-- A CUT inside a region, behind its first n operations -/
theorem wo_cut {C : Nat → Callee} {ops : List NOper} {T : FEnv} {H : AHeap} {Q : KO} (n : Nat) (ds : List Nat) (J : List Value → AHeap → Prop) (h1 : WO C (ops.take n) T H (CutO ds J))
    (h2 : ∀ vs T' H', J vs H' → WO C (ops.drop n) (updL (havoc (asgO (ops.take n)) T T') ds vs) H' Q) : WO C ops T H Q :=
  ⟨fun Q' hQ => by
    have e := List.take_append_drop n ops
    rw [← e]
    refine wpO_append (wpO_mono (fun T' H' ⟨k, ha⟩ => ?_) (wpO_frame (h1.out _ fun _ _ k => k)))
    have := h2 _ T' H' k.out
    rw [havoc_eq ha, updL_self] at this
    exact this.out Q' hQ⟩
theorem cuto0 {J : List Value → AHeap → Prop} {T : FEnv} {H : AHeap} (k : J [] H) : CutO [] J T H := ⟨k⟩
theorem cuto1 {d : Nat} {v : Value} {J : List Value → AHeap → Prop} {T : FEnv} {H : AHeap} (h : T d = v) (k : J [v] H) : CutO [d] J T H := by subst h; exact ⟨k⟩
theorem cuto2 {d e : Nat} {v w : Value} {J : List Value → AHeap → Prop} {T : FEnv} {H : AHeap} (h : T d = v) (h' : T e = w) (k : J [v, w] H) : CutO [d, e] J T H := by subst h h'; exact ⟨k⟩
section
variable {C : Nat → Callee} {T : FEnv} {H : AHeap} {K : KO} {d : Nat} {g : Option (Nat × Bool)} {e : EqT} {x y : NOpd}
theorem op1_eqlI_s {i : IntKind} {a : Int} (hw : wantedF g T = true) (hx : x.evF T = .int i a) (hy : y.evF T = .int i a) (k : K (upd T d (.bool true)) H) : op1 C ⟨some d, .bin .eql e x y, g⟩ T H K :=
  op1_eqlI hw hx hy (by rw [decide_eq_true rfl]; exact k)
theorem op1_neqI_s {i : IntKind} {a : Int} (hw : wantedF g T = true) (hx : x.evF T = .int i a) (hy : y.evF T = .int i a) (k : K (upd T d (.bool false)) H) : op1 C ⟨some d, .bin .neq e x y, g⟩ T H K :=
  op1_neqI hw hx hy (by rw [decide_eq_true rfl]; exact k)
theorem op1_eqlB_s {a : Bool} (he : e = .basic .bool) (hw : wantedF g T = true) (hx : x.evF T = .bool a) (hy : y.evF T = .bool a) (k : K (upd T d (.bool true)) H) : op1 C ⟨some d, .bin .eql e x y, g⟩ T H K :=
  op1_eqlB hw he hx hy (by rw [beq_self_eq_true]; exact k)
theorem op1_neqB_s {a : Bool} (he : e = .basic .bool) (hw : wantedF g T = true) (hx : x.evF T = .bool a) (hy : y.evF T = .bool a) (k : K (upd T d (.bool false)) H) : op1 C ⟨some d, .bin .neq e x y, g⟩ T H K :=
  op1_neqB hw he hx hy (by rw [beq_self_eq_true]; exact k)
end
theorem ArgsOk.cons {P : Program} {gs : List AObj} {n : Nat} {t : TypeId} {ts : List TypeId} {xs : List Value} (h : ArgsOk P gs n (t :: ts) xs) : ∃ a r, xs = a :: r ∧ (∃ cells, a = argV P t cells ∧ OkA P gs n t cells) ∧ ArgsOk P gs n ts r := by
  cases xs with
  | nil => exact h.elim
  | cons a r => exact ⟨a, r, rfl, h.1, h.2⟩
theorem ArgsOk.nil {P : Program} {gs : List AObj} {n : Nat} {xs : List Value} (h : ArgsOk P gs n [] xs) : xs = [] := by
  cases xs with
  | nil => rfl
  | cons a r => exact h.elim
end Go.E
