/- The pipe in plain Lean, and how it lies in the heap. -/
import Derived.Test.YtgmmkajjigmjoaaPiDel
namespace Go.E.Pi
open Go Go.E Go.Proofs.Ytgmmkajjigmjoaa Go.Proofs
set_option linter.unusedVariables false
set_option linter.unusedSimpArgs false
set_option maxRecDepth 100000

/-! ### rings -/
def rix (c f i : Nat) : Nat := if f + i < c then f + i else f + i - c
def rot (r : List Int) (f n : Nat) : List Int := (List.range n).map fun i => r.getD (rix r.length f i) 0
@[simp] theorem rot_len (r : List Int) (f n : Nat) : (rot r f n).length = n := by simp [rot]
def splice (r : List Int) (o : Nat) (d : List Int) : List Int := r.take o ++ d ++ r.drop (o + d.length)
theorem splice_len {r d : List Int} {o : Nat} (h : o + d.length ≤ r.length) : (splice r o d).length = r.length := by
  simp only [splice, List.length_append, List.length_take, List.length_drop]; omega
theorem splice_get {r d : List Int} {o : Nat} (h : o + d.length ≤ r.length) (j : Nat) : (splice r o d).getD j 0 = if o ≤ j ∧ j < o + d.length then d.getD (j - o) 0 else r.getD j 0 := by
  simp only [splice, List.getD_eq_getElem?_getD, List.getElem?_append, List.length_append, List.length_take, List.getElem?_take, List.getElem?_drop, Nat.min_eq_left (show o ≤ r.length by omega)]
  by_cases h1 : j < o
  · rw [if_pos (by omega), if_pos h1, if_pos h1, if_neg (by omega)]
  · by_cases h2 : j < o + d.length
    · rw [if_pos h2, if_neg h1, if_pos ⟨by omega, h2⟩]
    · rw [if_neg h2, if_neg (by omega)]
      congr 2
      omega
theorem getD_take {d : List Int} {k j : Nat} (h : j < k) : (d.take k).getD j 0 = d.getD j 0 := by
  simp [List.getD_eq_getElem?_getD, List.getElem?_take, h]
theorem getD_drop {d : List Int} {k j : Nat} : (d.drop k).getD j 0 = d.getD (k + j) 0 := by
  simp [List.getD_eq_getElem?_getD, List.getElem?_drop]
theorem rot_get {r : List Int} {f n i : Nat} (h : i < n) : (rot r f n).getD i 0 = r.getD (rix r.length f i) 0 := by
  simp [rot, List.getD_eq_getElem?_getD, List.getElem?_map, List.getElem?_range h]
theorem list_eq {a b : List Int} (hl : a.length = b.length) (h : ∀ i, i < a.length → a.getD i 0 = b.getD i 0) : a = b := by
  apply List.ext_getElem hl
  intro i h1 h2
  have := h i h1
  simpa [List.getD_eq_getElem?_getD, h1, h2] using this
theorem getD_app {a b : List Int} {i : Nat} : (a ++ b).getD i 0 = if i < a.length then a.getD i 0 else b.getD (i - a.length) 0 := by
  simp only [List.getD_eq_getElem?_getD, List.getElem?_append]
  split <;> rfl

/-- what put leaves: the bytes behind those that were there -/
theorem rot_put {r d : List Int} {f n at_ k : Nat} (hf : f < r.length) (hn : n + d.length ≤ r.length) (ha : at_ = rix r.length f n) (ha2 : at_ < r.length) (hk : k = min d.length (r.length - at_)) :
    (splice (splice r at_ (d.take k)) 0 (d.drop k)).length = r.length ∧ rot (splice (splice r at_ (d.take k)) 0 (d.drop k)) f (n + d.length) = rot r f n ++ d := by
  have h1 : at_ + (d.take k).length ≤ r.length := by simp only [List.length_take]; omega
  have l1 := splice_len h1
  have h2 : 0 + (d.drop k).length ≤ (splice r at_ (d.take k)).length := by rw [l1]; simp only [List.length_drop]; omega
  have l2 := splice_len h2
  refine ⟨by rw [l2, l1], list_eq (by simp) fun i hi => ?_⟩
  rw [rot_len] at hi
  rw [rot_get hi, getD_app, rot_len, l2, l1, splice_get h2, splice_get h1]
  simp only [List.length_take, List.length_drop]
  unfold rix at *
  by_cases hin : i < n
  · rw [if_pos hin, rot_get hin]
    unfold rix
    split at ha <;> split <;> (rw [if_neg (by omega), if_neg (by omega)])
  · rw [if_neg hin]
    by_cases hw : f + i < r.length
    · rw [if_pos hw]
      split at ha
      · rw [if_neg (by omega), if_pos (by omega), getD_take (by omega)]
        congr 1
        omega
      · omega
    · rw [if_neg hw]
      split at ha
      · rw [if_pos (by omega), getD_drop]
        congr 1
        omega
      · rw [if_neg (by omega), if_pos (by omega), getD_take (by omega)]
        congr 1
        omega

theorem rot_take {r z : List Int} {f m k : Nat} (hf : f < r.length) (hm : m ≤ r.length) (hz : z.length = m) (hk : k = min (r.length - f) m) :
    splice (splice z 0 ((r.drop f).take k)) k (r.take (m - k)) = rot r f m := by
  have h1 : 0 + ((r.drop f).take k).length ≤ z.length := by simp only [List.length_take, List.length_drop]; omega
  have l1 := splice_len h1
  have h2 : k + (r.take (m - k)).length ≤ (splice z 0 ((r.drop f).take k)).length := by rw [l1]; simp only [List.length_take]; omega
  have l2 := splice_len h2
  refine list_eq (by rw [l2, l1, hz, rot_len]) fun i hi => ?_
  rw [l2, l1, hz] at hi
  rw [rot_get hi, splice_get h2, splice_get h1]
  simp only [List.length_take, List.length_drop]
  unfold rix
  by_cases hw : f + i < r.length
  · rw [if_pos hw, if_neg (by omega), if_pos (by omega), getD_take (by omega), getD_drop]
    congr 1
  · rw [if_neg hw, if_pos (by omega), getD_take (by omega)]
    congr 1
    omega
theorem rot_left {r : List Int} {f n m : Nat} (hf : f < r.length) (hm : m ≤ n) (hn : n ≤ r.length) : rot r f m = (rot r f n).take m ∧ rot r (rix r.length f m) (n - m) = (rot r f n).drop m := by
  constructor
  · refine list_eq (by simp; omega) fun i hi => ?_
    rw [rot_len] at hi
    rw [getD_take hi, rot_get hi, rot_get (by omega)]
  · refine list_eq (by simp) fun i hi => ?_
    rw [rot_len] at hi
    rw [getD_drop, rot_get hi, rot_get (by omega)]
    congr 1
    unfold rix
    split <;> split <;> split <;> omega

/-! ### the plain pipe -/
structure Wr where
  thread : Int
  data : List Int
  done : Nat
structure EndM where
  thread : Int
  data : List Int
  count : Int
  err : Int
structure PP where
  cap : Nat
  atomic : Int
  buf : List Int
  o0 : Int
  o1 : Int
  readers : List (Int × Int)
  writers : List Wr

def rdC (x : Int × Int) : List Value := [.int .i64 x.1, .int .i64 x.2]
def wrA (w : Wr) (cs : List Value) : Asn := exA fun vd => seps [sl 1 vd (u8s w.data), pur (cs = [.int .i64 w.thread, vd, .int .i64 w.done])]
def endA (e : EndM) (cs : List Value) : Asn := exA fun vd => seps [sl 1 vd (u8s e.data), pur (cs = [.int .i64 e.thread, vd, .int .i64 e.count, .int .i64 e.err])]
def ringC (rb c f n : Nat) : List Value := [.slice (some ⟨rb, 0, none⟩) c c, .int .i64 f, .int .i64 n]
structure RingOk (s : PP) (r : List Int) (f : Nat) : Prop where
  len : r.length = s.cap
  lt : f < s.cap
  buf : s.buf = rot r f s.buf.length
  le : s.buf.length ≤ s.cap
def pipeC (s : PP) (rb f : Nat) (vr vw : Value) : List Value := ringC rb s.cap f s.buf.length ++ [.int .i64 s.atomic, .int .i64 s.o0, .int .i64 s.o1, vr, vw]
def repP (p : Nat) (s : PP) : Asn := exA fun (x : Nat × Value × Value × List Int × Nat) =>
  seps [pto p (.cells (pipeC s x.1 x.2.2.2.2 x.2.1 x.2.2.1) 0 false), pto x.1 (.cells (u8s x.2.2.2.1) 1 false), sl 2 x.2.1 (s.readers.flatMap rdC), arr 3 wrA x.2.2.1 s.writers, pur (RingOk s x.2.2.2.1 x.2.2.2.2)]

section
variable {B H : AHeap} {As : List Asn} {p : Nat} {s : PP}
theorem openP (h : S B H (repP p s :: As)) : ∃ rb vr vw r f, RingOk s r f ∧ S B H (pto p (.cells (pipeC s rb f vr vw) 0 false) :: pto rb (.cells (u8s r) 1 false) :: sl 2 vr (s.readers.flatMap rdC) :: arr 3 wrA vw s.writers :: As) := by
  obtain ⟨⟨rb, vr, vw, r, f⟩, h⟩ := S.unex h
  have h := S.up4 (S.unseps h)
  obtain ⟨h1, h2⟩ := S.unpur h
  exact ⟨rb, vr, vw, r, f, h1, h2⟩
theorem closeP {rb f : Nat} {vr vw : Value} {r : List Int} (h1 : RingOk s r f) (h : S B H (pto p (.cells (pipeC s rb f vr vw) 0 false) :: pto rb (.cells (u8s r) 1 false) :: sl 2 vr (s.readers.flatMap rdC) :: arr 3 wrA vw s.writers :: As)) : S B H (repP p s :: As) :=
  S.exI (X := Nat × Value × Value × List Int × Nat) (rb, vr, vw, r, f) (S.seps (S.dn4 (S.pur h1 h)))
theorem rdC_len (l : List (Int × Int)) : (l.flatMap rdC).length = l.length * 2 := by
  induction l with
  | nil => rfl
  | cons a l ih => simp only [List.flatMap_cons, List.length_append, ih, List.length_cons, rdC, List.length_nil]; omega
theorem rdC_one (l : List (Int × Int)) : (l.flatMap rdC).all (·.oneCell') = true := by
  rw [List.all_eq_true]
  intro v hv
  simp only [List.mem_flatMap, rdC, List.mem_cons, List.not_mem_nil, or_false] at hv
  obtain ⟨x, _, rfl | rfl⟩ := hv <;> rfl
theorem shapeR {v : Value} {l : List (Int × Int)} (h : S B H (sl 2 v (l.flatMap rdC) :: As)) : ∃ a c, v = .slice a l.length c ∧ l.length ≤ c := by
  obtain ⟨a, n, c, rfl, e⟩ := h.shape
  rw [rdC_len] at e
  have := S.len_le h
  obtain rfl : n = l.length := by omega
  exact ⟨a, c, rfl, this⟩
end
end Go.E.Pi
