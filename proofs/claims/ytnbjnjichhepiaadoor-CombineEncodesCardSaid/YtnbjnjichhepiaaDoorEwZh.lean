/-
  THE EVALUATOR, PART ZH: bytes and whole numbers in slices; a slice deleted from in place.
-/
import Derived.Test.YtnbjnjichhepiaaDoorEwZg
set_option linter.unusedSimpArgs false
set_option linter.unusedVariables false
namespace Go.E
open Go
def u8s (l : List Int) : List Value := l.map (.int .u8 ·)
def i64s (l : List Int) : List Value := l.map (.int .i64 ·)
@[simp] theorem u8s_length (l : List Int) : (u8s l).length = l.length := by simp [u8s]
@[simp] theorem i64s_length (l : List Int) : (i64s l).length = l.length := by simp [i64s]
theorem u8s_one (l : List Int) : (u8s l).all (·.oneCell') = true := by simp [u8s, Value.oneCell']
theorem RdS.u1 {H : AHeap} {v : Value} {l : List Int} {o : List Nat} (h : RdS H 1 v (u8s l) o) : ∃ a c, v = .slice a l.length c := by simpa using h.shape1
theorem RdS.b2sU {H : AHeap} {v : Value} {l : List Int} {r : List Nat} (h : RdS H 1 v (u8s l) r) : b2sN H v = some (.string ⟨⟨l.map fun n => UInt8.ofNat n.toNat⟩⟩) := by
  generalize hx : u8s l = xs at h
  cases h with
  | nil =>
    have : l = [] := by simpa [u8s] using hx
    subst this; rfl
  | empty a =>
    have : l = [] := by simpa [u8s] using hx
    subst this; rfl
  | @blk b off n c cs e ro hg hc he hl =>
    have hl : n = l.length := by have := congrArg List.length hx; simp at this; omega
    simp only [b2sN]
    split
    · rename_i h0
      have : l = [] := List.eq_nil_of_length_eq_zero (by omega)
      subst this; rfl
    · simp only [AHeap.row, hg]
      rw [Nat.mul_one] at hc hx
      rw [if_pos hc, Option.bind_some, ← hx, show u8s l = l.map (.int .u8 ·) from rfl, toBytes_u8]
      rfl
def svA (es : Nat) (a : Option Addr) (c i : Nat) : Option Addr := match a with
  | none => none
  | some a => if c = 0 then some a else some ⟨a.block, a.off + i * es, none⟩
def svC (a : Option Addr) (c i : Nat) : Nat := match a with
  | none => 0
  | some _ => if c = 0 then 0 else c - i
theorem RdS.sv {H : AHeap} {es : Nat} {a : Option Addr} {l c i h : Nat} {xs : List Value} {o : List Nat} (hO : RdS H es (.slice a l c) xs o) (hih : i ≤ h) (hhl : h ≤ l) :
    RdS H es (.slice (svA es a c i) (h - i) (svC a c i)) ((xs.drop (i * es)).take ((h - i) * es)) o := by
  cases hO with
  | nil =>
    have e : h - i = 0 := by omega
    simp only [svA, svC, e, List.drop_nil, List.take_nil]
    exact .nil
  | empty a =>
    have e : h - i = 0 := by omega
    simp only [svA, svC, e, List.drop_nil, List.take_nil, if_true]
    exact .empty a
  | @blk b off l c cs e ro hg hc he hl =>
    by_cases h0 : c = 0
    · subst h0
      have e2 : l = 0 := by omega
      subst e2
      have e3 : i = 0 := by omega
      subst e3
      have e4 : h = 0 := by omega
      subst e4
      have h4 := RdS.blk (l := 0) (c := 0) (H := H) (es := es) (b := b) (off := off) hg (by omega) he (Nat.le_refl _)
      simpa [svA, svC] using h4
    · have hm1 := Nat.sub_mul h i es
      have hm2 := Nat.mul_le_mul_right es hih
      have hm3 := Nat.mul_le_mul_right es hhl
      have h4 := RdS.blk (H := H) (es := es) (b := b) (off := off + i * es) (l := h - i) (c := c - i) hg (by omega) he (by omega)
      have e : (List.drop (i * es) ((cs.drop off).take (l * es))).take ((h - i) * es) = (cs.drop (off + i * es)).take ((h - i) * es) := by
        rw [List.drop_take, List.take_take, List.drop_drop]
        congr 1
        omega
      rw [e]
      simp only [svA, svC, if_neg h0]
      exact h4
section
variable {C : Callees} {T : FEnv} {B H : AHeap} {K : FEnv → AHeap → Prop} {d : Nat} {g : Option (Nat × Bool)} {As : List Asn}
end
section
variable {B H : AHeap} {As : List Asn}
theorem S.u1 {v : Value} {l : List Int} (h : S B H (sl 1 v (u8s l) :: As)) : ∃ a c, v = .slice a l.length c := by simpa using h.shape1
theorem RD.u1 {v : Value} {l : List Int} (h : RD B As 1 v (u8s l)) (hS : S B H As) : ∃ a c, v = .slice a l.length c := by simpa using h.shape1 hS
theorem flatMap_cut {α : Type} {f : α → List Value} {es : Nat} (hf : ∀ x, (f x).length = es) : ∀ {l : List α} {i : Nat} {x : α}, l[i]? = some x → ((l.flatMap f).drop (i * es)).take es = f x
  | [], i, x, h => by simp at h
  | y :: l, 0, x, h => by
    simp at h; subst h
    rw [List.flatMap_cons, Nat.zero_mul, List.drop_zero, List.take_append_of_le_length (by rw [hf]; exact Nat.le_refl _), List.take_of_length_le (by rw [hf]; exact Nat.le_refl _)]
  | y :: l, i + 1, x, h => by
    rw [List.flatMap_cons, Nat.add_mul, Nat.one_mul, Nat.add_comm, ← List.drop_drop, List.drop_left' (hf y)]
    exact flatMap_cut hf (by simpa using h)
end
end Go.E
