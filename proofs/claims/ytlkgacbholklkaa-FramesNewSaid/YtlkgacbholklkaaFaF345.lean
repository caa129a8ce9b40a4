/- The table of frames: singles. -/
import Derived.Test.YtlkgacbholklkaaFaRF12
namespace Go.E.Fa
open Go Go.E Go.Proofs.Ytlkgacbholklkaa Go.Proofs
set_option linter.unusedVariables false
set_option linter.unusedSimpArgs false
set_option maxRecDepth 100000
theorem plC_flen (l : List Pl) : (l.flatMap plC).length = l.length * 5 := by
  induction l with
  | nil => rfl
  | cons a l ih => rw [List.flatMap_cons, List.length_append, ih, plC_len, List.length_cons]; omega

structure PlOk (M : Fm) (p : Pl) : Prop where
  first : 0 ≤ p.first
  count : 0 ≤ p.count
  top : p.first + p.count ≤ 4096
  dom : ∀ n : Nat, p.first ≤ n → (n : Int) < p.first + p.count → (n : Int) ∈ M.dom
structure TbOk (T : Tb) : Prop where
  m : MOk T.m
  pls : ∀ p ∈ T.pls, PlOk T.m p
  len : T.pls.length ≤ 16
  pool : ∀ n ∈ T.m.dom, 0 ≤ T.m.pool n ∧ T.m.pool n < T.pls.length
  dat : ∀ n d, T.m.dat n = some d → d.2.length = 64

theorem runsP_free (M : Fm) (p : Pl) (hp : PlOk M p) : ((runsP M p.first.toNat (p.first + p.count).toNat).flatMap span).map (fun n : Nat => (n : Int)) = freeP M p := by
  have h1 := hp.first
  have h2 := hp.count
  unfold runsP freeP
  rw [runs_free _ _ _ (by omega), show (p.first + p.count).toNat - p.first.toNat = p.count.toNat by omega]

theorem freeP_len {M : Fm} {p : Pl} (hp : PlOk M p) : (freeP M p).length ≤ 4096 := by
  have h1 := hp.top
  have h2 := hp.first
  have h3 := hp.count
  unfold freeP
  rw [List.length_map]
  refine Nat.le_trans (List.length_filter_le _ _) ?_
  rw [List.length_range']
  omega

def ints (l : List Nat) : List Int := l.map fun n : Nat => (n : Int)
@[simp] theorem ints_len (a : List Nat) : (ints a).length = a.length := by simp [ints]
theorem runs_mem {fr : Nat → Bool} {E : Nat} (n : Nat) {x : Nat × Nat} (h : x ∈ runsAt fr E n) : n ≤ x.1 ∧ x.1 < x.2 ∧ x.2 ≤ E := by
  rw [runsAt.eq_def] at h
  split at h
  · rename_i hn
    have hge := skip_ge fr E n
    have hle := skip_le fr E n (by omega)
    rcases List.mem_append.1 h with h1 | h1
    · split at h1
      · rw [List.mem_singleton] at h1
        subst h1
        exact ⟨Nat.le_refl _, by assumption, hle⟩
      · simp at h1
    · have := runs_mem (skip fr E n + 1) h1
      omega
  · simp at h
termination_by E - n
decreasing_by have := skip_ge fr E n; omega
theorem openT1 {B H : AHeap} {As : List Asn} {t : Nat} {T : Tb} (h : S B H (repT t T :: As)) (hne : T.pls.length ≠ 0) : ∃ pb po pc m1 m2, T.pls.length ≤ pc ∧ S B H (pto t (.cells (tabC (.slice (some ⟨pb, po, none⟩) T.pls.length pc) m1 m2) 0 false) :: sl 5 (.slice (some ⟨pb, po, none⟩) T.pls.length pc) (T.pls.flatMap plC) :: im enS m1 T.ix :: im enI m2 (fkv T.m) :: seps (T.m.dom.map (frA T.m)) :: As) := by
  obtain ⟨pv, m1, m2, hS⟩ := openT h
  obtain ⟨ap, lp, cp, rfl, hpl⟩ := S.shape (S.up1 hS)
  rw [plC_flen] at hpl
  obtain rfl : lp = T.pls.length := by omega
  obtain ⟨pb, po, cs, rfl, _, hle, _⟩ := S.slBlk (S.up1 hS) hne
  exact ⟨pb, po, cp, m1, m2, hle, hS⟩

end Go.E.Fa
/- The table of frames: run. -/
namespace Go.E.Fa
open Go Go.E Go.Proofs.Ytlkgacbholklkaa Go.Proofs
set_option linter.unusedVariables false
set_option linter.unusedSimpArgs false
set_option maxRecDepth 100000
def low (al : Nat) (x : Nat × Nat) : Nat := (x.1 + al - 1) / al * al
def consec (a : Int) (n : Nat) : List Int := (List.range n).map fun k : Nat => a + k
theorem consec_succ (a : Int) (n : Nat) : consec a (n + 1) = consec a n ++ [a + n] := by simp [consec, List.range_succ]
theorem zero_i64s (n : Nat) : zeroOf [.int .i64 0] n = i64s (List.replicate n 0) := by
  unfold zeroOf i64s
  rw [List.map_replicate]
  induction n with
  | zero => rfl
  | succ n ih => rw [List.replicate_succ, List.flatten_cons, ih, List.replicate_succ]; rfl
end Go.E.Fa
/- The table of frames: asked. -/
namespace Go.E.Fa
open Go Go.E Go.Proofs.Ytlkgacbholklkaa Go.Proofs
set_option linter.unusedVariables false
set_option linter.unusedSimpArgs false
set_option maxRecDepth 100000
/-! ### the pools that are asked for -/
def ixOf (pls : List Pl) : List (ByteArray × Value) := pls.zipIdx.map fun x => (x.1.name, .int .i64 (x.2 : Nat))
def nameIx (pls : List Pl) (s : ByteArray) : Option Nat := pls.findIdx? fun p => decide (p.name = s)
theorem kvGet_ix (pls : List Pl) (s : ByteArray) : kvGet (ixOf pls) s = (nameIx pls s).map fun i : Nat => Value.int .i64 i := by
  unfold ixOf nameIx
  suffices h : ∀ (l : List Pl) (n : Nat), kvGet ((l.zipIdx n).map fun x => (x.1.name, Value.int .i64 (x.2 : Nat))) s = (l.findIdx? fun p => decide (p.name = s)).map fun i : Nat => Value.int .i64 ((n + i : Nat) : Int) by
    have := h pls 0
    simpa using this
  intro l
  induction l with
  | nil => intro n; rfl
  | cons p l ih =>
    intro n
    rw [List.zipIdx_cons, List.map_cons, List.findIdx?_cons]
    simp only [kvGet]
    by_cases hs : s = p.name
    · subst hs; simp
    · rw [if_neg hs, ih, decide_eq_false (fun h => hs h.symm)]
      simp only [Bool.false_eq_true, if_false, Option.map_map]
      congr 1
      funext i
      simp only [Function.comp]
      congr 2
      omega
theorem nameIx_lt {pls : List Pl} {s : ByteArray} {i : Nat} (h : nameIx pls s = some i) : i < pls.length := by
  unfold nameIx at h
  exact (List.findIdx?_eq_some_iff_getElem.1 h).1
end Go.E.Fa
