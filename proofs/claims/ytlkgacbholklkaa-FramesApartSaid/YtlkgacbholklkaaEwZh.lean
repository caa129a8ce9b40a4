/-
  THE EVALUATOR, PART ZH: bytes and whole numbers in slices; a slice deleted from in place.
-/
import Derived.Test.YtlkgacbholklkaaEwZg
set_option linter.unusedSimpArgs false
set_option linter.unusedVariables false
namespace Go.E
open Go
def u8s (l : List Int) : List Value := l.map (.int .u8 ·)
def i64s (l : List Int) : List Value := l.map (.int .i64 ·)
@[simp] theorem u8s_length (l : List Int) : (u8s l).length = l.length := by simp [u8s]
@[simp] theorem i64s_length (l : List Int) : (i64s l).length = l.length := by simp [i64s]
theorem i64s_append (a b : List Int) : i64s (a ++ b) = i64s a ++ i64s b := by simp [i64s]
theorem i64s_one (l : List Int) : (i64s l).all (·.oneCell') = true := by simp [i64s, Value.oneCell']
theorem i64s_take (l : List Int) (n : Nat) : (i64s l).take n = i64s (l.take n) := by simp [i64s]
theorem i64s_get {l : List Int} {i : Nat} {v : Value} (h : (i64s l)[i]? = some v) : ∃ x, l[i]? = some x ∧ v = .int .i64 x := by
  simp only [i64s, List.getElem?_map, Option.map_eq_some_iff] at h
  obtain ⟨x, h1, h2⟩ := h
  exact ⟨x, h1, h2.symm⟩
theorem RdS.u1 {H : AHeap} {v : Value} {l : List Int} {o : List Nat} (h : RdS H 1 v (u8s l) o) : ∃ a c, v = .slice a l.length c := by simpa using h.shape1
theorem RdS.i1 {H : AHeap} {v : Value} {l : List Int} {o : List Nat} (h : RdS H 1 v (i64s l) o) : ∃ a c, v = .slice a l.length c := by simpa using h.shape1
theorem RdS.le_cap {H : AHeap} {es : Nat} {a : Option Addr} {l c : Nat} {xs : List Value} {r : List Nat} (h : RdS H es (.slice a l c) xs r) : l ≤ c := by
  cases h with
  | nil => omega
  | empty => omega
  | blk hg hc he hl => exact hl
section
variable {C : Callees} {T : FEnv} {B H : AHeap} {K : FEnv → AHeap → Prop} {d : Nat} {g : Option (Nat × Bool)} {As : List Asn}
end
section
variable {B H : AHeap} {As : List Asn}
theorem S.u1 {v : Value} {l : List Int} (h : S B H (sl 1 v (u8s l) :: As)) : ∃ a c, v = .slice a l.length c := by simpa using h.shape1
theorem S.i1 {v : Value} {l : List Int} (h : S B H (sl 1 v (i64s l) :: As)) : ∃ a c, v = .slice a l.length c := by simpa using h.shape1
theorem RD.u1 {v : Value} {l : List Int} (h : RD B As 1 v (u8s l)) (hS : S B H As) : ∃ a c, v = .slice a l.length c := by simpa using h.shape1 hS
theorem S.cellAt {es b off l c k : Nat} {xs : List Value} (h : S B H (sl es (.slice (some ⟨b, off, none⟩) l c) xs :: As)) (hk : k < l * es) : ∃ cs, H.get b = .cells cs es false ∧ off + l * es ≤ cs.length ∧ cs[off + k]? = xs[k]? ∧ ∀ n, k + n ≤ l * es → (cs.drop (off + k)).take n = (xs.drop k).take n := by
  have hl0 : l ≠ 0 := by intro e; subst e; omega
  obtain ⟨b', off', cs, e, hc, hl, rfl, h2⟩ := h.slBlk hl0
  cases e
  have hm := Nat.mul_le_mul_right es hl
  refine ⟨cs, h2.get, by omega, ?_, fun n hn => ?_⟩
  · rw [List.getElem?_take, if_pos hk, List.getElem?_drop]
  · rw [List.drop_take, List.drop_drop, List.take_take, Nat.min_eq_left (by omega)]
theorem op1_loadL {C : Callees} {T : FEnv} {K : FEnv → AHeap → Prop} {d : Nat} {g : Option (Nat × Bool)} {a : NOpd} {es b o off l c k : Nat} {xs : List Value} {v : Value} (hw : wantedF g T = true) (ha : a.evF T = .pointer (some ⟨b, o, none⟩)) (hS : S B H (sl es (.slice (some ⟨b, off, none⟩) l c) xs :: As)) (ho : o = off + k) (hk : k < l * es) (hv : xs[k]? = some v)
    (kk : K (upd T d v) H) : op1 C ⟨some d, .load1 a, g⟩ T H K := by
  obtain ⟨cs, hg, _, h1, _⟩ := hS.cellAt hk
  subst ho
  exact op1_load hw ha hg (h1.trans hv) kk
theorem op1_loadNL {C : Callees} {T : FEnv} {K : FEnv → AHeap → Prop} {d : Nat} {g : Option (Nat × Bool)} {n : Nat} {a : NOpd} {es b o off l c k : Nat} {xs vs : List Value} (hw : wantedF g T = true) (ha : a.evF T = .pointer (some ⟨b, o, none⟩)) (hS : S B H (sl es (.slice (some ⟨b, off, none⟩) l c) xs :: As)) (ho : o = off + k) (hn : Nat.ble 1 n = true) (hk : k + n ≤ l * es) (hv : (xs.drop k).take n = vs)
    (kk : K (upd T d (.agg ⟨vs⟩)) H) : op1 C ⟨some d, .loadN n a, g⟩ T H K := by
  have hn := Nat.le_of_ble_eq_true hn
  obtain ⟨cs, hg, hl, _, h1⟩ := hS.cellAt (k := k) (by omega)
  subst ho
  exact op1_loadN hw ha hg (by omega) ((h1 n hk).trans hv) kk
theorem chk_loadL {Tf T : FEnv} {a : NOpd} {d es b o off l c k : Nat} {xs : List Value} {v : Value} (ha : a.evF T = .pointer (some ⟨b, o, none⟩)) (hS : S B H (sl es (.slice (some ⟨b, off, none⟩) l c) xs :: As)) (ho : o = off + k) (hk : k < l * es) (hv : xs[k]? = some v) (hd : Tf d = v) : chkF1 (.load1 a) d Tf T H := by
  obtain ⟨cs, hg, _, h1, _⟩ := hS.cellAt hk
  subst ho
  exact chk_load ha hg (h1.trans hv) hd
theorem flatMap_cut {α : Type} {f : α → List Value} {es : Nat} (hf : ∀ x, (f x).length = es) : ∀ {l : List α} {i : Nat} {x : α}, l[i]? = some x → ((l.flatMap f).drop (i * es)).take es = f x
  | [], i, x, h => by simp at h
  | y :: l, 0, x, h => by
    simp at h; subst h
    rw [List.flatMap_cons, Nat.zero_mul, List.drop_zero, List.take_append_of_le_length (by rw [hf]; exact Nat.le_refl _), List.take_of_length_le (by rw [hf]; exact Nat.le_refl _)]
  | y :: l, i + 1, x, h => by
    rw [List.flatMap_cons, Nat.add_mul, Nat.one_mul, Nat.add_comm, ← List.drop_drop, List.drop_left' (hf y)]
    exact flatMap_cut hf (by simpa using h)
end
end Go.E
