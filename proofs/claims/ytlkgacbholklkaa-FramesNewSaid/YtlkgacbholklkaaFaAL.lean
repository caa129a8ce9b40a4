/- What the laws of the frames need of the evaluator. -/
import Derived.Test.YtlkgacbholklkaaFaCode
import Derived.Test.YtlkgacbholklkaaEhZk
import Derived.Test.YtlkgacbholklkaaEhZb
import Derived.Test.YtlkgacbholklkaaEhZd
import Derived.KernelRfl
import Derived.Test.YtlkgacbholklkaaFaF789
namespace Go.E.Fa
open Go Go.E Go.ChangeShapes Go.WideShapes Go.ChangeAt Go.RowKit Go.Proofs.Ytlkgacbholklkaa Go.Proofs
set_option linter.unusedVariables false
set_option linter.unusedSimpArgs false
set_option maxRecDepth 100000
theorem mixed : Try.prog.follows .mixedOrders = true := by kernel_rfl
theorem awakeRun : ((callN (cProg Try.prog 0) 60 (.fn 13) [] (startH objs)).map (·.1)) = some (.bool true) := by kernel_rfl
theorem C_ok (n : Nat) : CalleeOk Try.prog 0 (C n) := callX_sound mixed (knownAt_ok (n := 60) mixed (by decide) (by decide) fun f v h => by
  simp only [K, List.lookup] at h
  split at h
  · rename_i he
    have : f = 13 := by simpa using he
    subst this
    cases h
    exact ⟨rfl, awakeRun⟩
  · cases h) n
theorem globAll (H : AHeap) : Glob objs H := ⟨fun b hb => by simp [objs] at hb, Nat.zero_le _⟩
theorem u3 : Try.prog.underlying 3 = some (.int .i64) := by kernel_rfl
end Go.E.Fa
/- What the laws share: what Alloc and Unref leave, tables with one pool. -/
namespace Go.E.Fa
open Go Go.E Go.Proofs.Ytlkgacbholklkaa Go.Proofs
set_option linter.unusedVariables false
set_option linter.unusedSimpArgs false
set_option maxRecDepth 100000
/-! ### what Alloc leaves -/
def nmP : ByteArray := ⟨#[112]⟩
def poolP (f c : Int) : Pl := ⟨nmP, f, c, true, false⟩

theorem PlOk.of {M M' : Fm} {p : Pl} (h : PlOk M p) (hd : M'.dom = M.dom) : PlOk M' p := ⟨h.first, h.count, h.top, fun n a b => hd ▸ h.dom n a b⟩
/-- a table with one pool -/
structure One (T : Tb) (f c : Int) : Prop where
  pls : T.pls = [poolP f c]
  ix : T.ix = ixOf T.pls
  ok : TbOk T
  dat : ∀ n, T.m.dat n = none
theorem One.fresh {T : Tb} {f c : Int} (hp : T.pls = [poolP f c]) (h : Fresh [poolP f c] T) : One T f c :=
  ⟨hp, hp ▸ h.ix, by have h2 := h; rw [← hp] at h2; exact h2.tbOk (by rw [hp]; simp), h.m.dat⟩
theorem One.plok {T : Tb} {f c : Int} (h : One T f c) : PlOk T.m (poolP f c) := h.ok.pls _ (by rw [h.pls]; simp)
theorem One.dom {T : Tb} {f c n : Int} (h : One T f c) (h1 : f ≤ n) (h2 : n < f + c) : n ∈ T.m.dom := by
  have hp := h.plok
  have hf : 0 ≤ f := hp.first
  have := hp.dom n.toNat (by show f ≤ _; omega) (by show _ < f + c; omega)
  rwa [show ((n.toNat : Nat) : Int) = n by omega] at this
theorem One.poolOf {T : Tb} {f c : Int} (h : One T f c) : Fa.poolOf T 0 = poolP f c := by unfold Fa.poolOf; rw [h.pls]; rfl
end Go.E.Fa
