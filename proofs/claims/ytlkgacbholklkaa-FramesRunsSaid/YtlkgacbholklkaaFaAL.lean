/- What the laws of the frames need of the evaluator. -/
import Derived.Test.YtlkgacbholklkaaFaCode
import Derived.Test.YtlkgacbholklkaaEhZk
import Derived.Test.YtlkgacbholklkaaEhZb
import Derived.Test.YtlkgacbholklkaaEhZd
import Derived.KernelRfl
import Derived.Test.YtlkgacbholklkaaFaF789
namespace Go.E.Fa
open Go Go.E Go.ChangeShapes Go.WideShapes Go.ChangeAt Go.RowKit Go.Proofs.Ytlkgacbholklkaa Go.Proofs
set_option linter.unusedVariables false
set_option linter.unusedSimpArgs false
set_option maxRecDepth 100000
theorem mixed : Try.prog.follows .mixedOrders = true := by kernel_rfl
theorem awakeRun : ((callN (cProg Try.prog 0) 60 (.fn 13) [] (startH objs)).map (·.1)) = some (.bool true) := by kernel_rfl
theorem C_ok (n : Nat) : CalleeOk Try.prog 0 (C n) := callX_sound mixed (knownAt_ok (n := 60) mixed (by decide) (by decide) fun f v h => by
  simp only [K, List.lookup] at h
  split at h
  · rename_i he
    have : f = 13 := by simpa using he
    subst this
    cases h
    exact ⟨rfl, awakeRun⟩
  · cases h) n
theorem globAll (H : AHeap) : Glob objs H := ⟨fun b hb => by simp [objs] at hb, Nat.zero_le _⟩
theorem u3 : Try.prog.underlying 3 = some (.int .i64) := by kernel_rfl
theorem u5 : Try.prog.underlying 5 = some (.int .u8) := by kernel_rfl
theorem u46 : Try.prog.underlying 46 = some (.slice 5) := by kernel_rfl
theorem co5 : Try.prog.cellsOf 5 = 1 := by kernel_rfl
end Go.E.Fa
/- What the laws share: what Alloc and Unref leave, tables with one pool. -/
namespace Go.E.Fa
open Go Go.E Go.Proofs.Ytlkgacbholklkaa Go.Proofs
set_option linter.unusedVariables false
set_option linter.unusedSimpArgs false
set_option maxRecDepth 100000
/-! ### what Alloc leaves -/
def nmP : ByteArray := ⟨#[112]⟩
def poolP (f c : Int) : Pl := ⟨nmP, f, c, true, false⟩

theorem PlOk.of {M M' : Fm} {p : Pl} (h : PlOk M p) (hd : M'.dom = M.dom) : PlOk M' p := ⟨h.first, h.count, h.top, fun n a b => hd ▸ h.dom n a b⟩
theorem unref_dom {M : Fm} {n : Int} : (unref M n).2.dom = M.dom ∧ (unref M n).2.pool = M.pool ∧ (unref M n).2.dat = M.dat := by
  unfold unref
  split
  · split <;> exact ⟨rfl, rfl, rfl⟩
  · exact ⟨rfl, rfl, rfl⟩
theorem unref_refs {M : Fm} {n k : Int} : (unref M n).2.refs k = if k = n ∧ n ∈ M.dom ∧ M.refs n ≠ 0 then M.refs n - 1 else M.refs k := by
  unfold unref
  split
  · rename_i hn
    split
    · rename_i h0
      rw [if_neg (fun h => h.2.2 h0)]
    · rename_i h0
      show (if k = n then M.refs n - 1 else M.refs k) = _
      by_cases hk : k = n
      · rw [if_pos hk, if_pos ⟨hk, hn, h0⟩]
      · rw [if_neg hk, if_neg (fun h => hk h.1)]
  · rename_i hn
    rw [if_neg (fun h => hn h.2.1)]
theorem TbOk.unref {T : Tb} {n : Int} (h : TbOk T) : TbOk (T.wm (unref T.m n).2) := by
  obtain ⟨h1, h2, h3⟩ := unref_dom (M := T.m) (n := n)
  refine ⟨⟨?_, ?_⟩, ?_, h.len, ?_, ?_⟩
  · show (Fa.unref T.m n).2.dom.Nodup
    rw [h1]; exact h.m.nd
  · intro k
    show 0 ≤ (Fa.unref T.m n).2.refs k ∧ (Fa.unref T.m n).2.refs k ≤ 60000
    rw [unref_refs]
    have := h.m.refs n
    have := h.m.refs k
    split
    · rename_i h5
      have := h5.2.2
      omega
    · assumption
  · intro p hp
    exact (h.pls p hp).of h1
  · intro k hk
    show 0 ≤ (Fa.unref T.m n).2.pool k ∧ (Fa.unref T.m n).2.pool k < T.pls.length
    rw [h2]
    exact h.pool k (h1 ▸ hk)
  · show ∀ k d, (Fa.unref T.m n).2.dat k = some d → d.2.length = 64
    rw [h3]; exact h.dat
/-- a table with one pool -/
structure One (T : Tb) (f c : Int) : Prop where
  pls : T.pls = [poolP f c]
  ix : T.ix = ixOf T.pls
  ok : TbOk T
  dat : ∀ n, T.m.dat n = none
theorem One.fresh {T : Tb} {f c : Int} (hp : T.pls = [poolP f c]) (h : Fresh [poolP f c] T) : One T f c :=
  ⟨hp, hp ▸ h.ix, by have h2 := h; rw [← hp] at h2; exact h2.tbOk (by rw [hp]; simp), h.m.dat⟩
theorem One.unref {T : Tb} {f c n : Int} (h : One T f c) : One (T.wm (unref T.m n).2) f c := ⟨h.pls, h.ix, h.ok.unref, by show ∀ k, (Fa.unref T.m n).2.dat k = none; rw [unref_dom.2.2]; exact h.dat⟩
theorem One.plok {T : Tb} {f c : Int} (h : One T f c) : PlOk T.m (poolP f c) := h.ok.pls _ (by rw [h.pls]; simp)
theorem One.dom {T : Tb} {f c n : Int} (h : One T f c) (h1 : f ≤ n) (h2 : n < f + c) : n ∈ T.m.dom := by
  have hp := h.plok
  have hf : 0 ≤ f := hp.first
  have := hp.dom n.toNat (by show f ≤ _; omega) (by show _ < f + c; omega)
  rwa [show ((n.toNat : Nat) : Int) = n by omega] at this
theorem One.poolOf {T : Tb} {f c : Int} (h : One T f c) : Fa.poolOf T 0 = poolP f c := by unfold Fa.poolOf; rw [h.pls]; rfl
end Go.E.Fa
/- FramesContiguous: the walk and the law. -/
namespace Go.E.Fa
open Go Go.E Go.Proofs.Ytlkgacbholklkaa Go.Proofs
set_option linter.unusedVariables false
set_option linter.unusedSimpArgs false
set_option maxRecDepth 100000
/-! ### the first aligned place -/
def OkAt (fr : Nat → Bool) (E cnt g : Nat) : Prop := g + cnt ≤ E ∧ ∀ i, g ≤ i → i < g + cnt → fr i = true
def IsFirst (fr : Nat → Bool) (E cnt al n : Nat) (a : Int) : Prop :=
  (a = -1 ∧ ∀ g, n ≤ g → al ∣ g → ¬ OkAt fr E cnt g) ∨ ∃ m : Nat, a = m ∧ n ≤ m ∧ al ∣ m ∧ OkAt fr E cnt m ∧ ∀ g, n ≤ g → g < m → al ∣ g → ¬ OkAt fr E cnt g
theorem skip_stop {fr : Nat → Bool} {E : Nat} (n : Nat) (h : skip fr E n < E) : fr (skip fr E n) = false := by
  rw [skip.eq_def] at h ⊢
  split
  · rename_i h1
    rw [dif_pos h1] at h
    exact skip_stop (n + 1) h
  · rename_i h1
    rw [dif_neg h1] at h
    by_cases h2 : fr n = true
    · exact absurd ⟨h, h2⟩ h1
    · simpa using h2
termination_by E - n
theorem low_le {al g : Nat} {x : Nat × Nat} (hal : 1 ≤ al) (hd : al ∣ g) (h : x.1 ≤ g) : low al x ≤ g := by
  obtain ⟨q, rfl⟩ := hd
  unfold low
  have : (x.1 + al - 1) / al ≤ q := by
    rw [Nat.div_le_iff_le_mul_add_pred (by omega)]
    omega
  calc (x.1 + al - 1) / al * al ≤ q * al := Nat.mul_le_mul_right _ this
    _ = al * q := Nat.mul_comm _ _
theorem low_dvd {al : Nat} {x : Nat × Nat} : al ∣ low al x := Nat.dvd_mul_left _ _
theorem isFirst_runs {fr : Nat → Bool} {E cnt al : Nat} (hal : 1 ≤ al) (hc : 1 ≤ cnt) (n : Nat) (hn : n ≤ E + 1) : IsFirst fr E cnt al n (atOf cnt al false (runsAt fr E n)) := by
  rw [runsAt.eq_def]
  split
  · rename_i hlt
    have hge := skip_ge fr E n
    have hle := skip_le fr E n (by omega)
    have ih := isFirst_runs (fr := fr) (E := E) (cnt := cnt) (al := al) hal hc (skip fr E n + 1) (by omega)
    have hin : ∀ g, n ≤ g → g ≤ skip fr E n → OkAt fr E cnt g → g < skip fr E n ∧ g + cnt ≤ skip fr E n := by
      intro g h1 h2 h3
      have hs : ¬ (g ≤ skip fr E n ∧ skip fr E n < g + cnt ∧ skip fr E n < E) := by
        rintro ⟨h4, h5, h6⟩
        have := h3.2 _ h4 h5
        rw [skip_stop n h6] at this
        cases this
      have := h3.1
      omega
    have hrest : ∀ a, IsFirst fr E cnt al (skip fr E n + 1) a → (∀ g, n ≤ g → g ≤ skip fr E n → al ∣ g → ¬ OkAt fr E cnt g) → IsFirst fr E cnt al n a := by
      rintro a (⟨h1, h2⟩ | ⟨m, h1, h2, h3, h4, h5⟩) h6
      · refine .inl ⟨h1, fun g g1 g2 g3 => ?_⟩
        by_cases g4 : g ≤ skip fr E n
        · exact h6 g g1 g4 g2 g3
        · exact h2 g (by omega) g2 g3
      · refine .inr ⟨m, h1, by omega, h3, h4, fun g g1 g2 g3 g4 => ?_⟩
        by_cases g5 : g ≤ skip fr E n
        · exact h6 g g1 g5 g3 g4
        · exact h5 g (by omega) g2 g3 g4
    split
    · rename_i hs
      rw [List.singleton_append]
      unfold atOf at ih ⊢
      rw [List.foldl_cons]
      by_cases hf : fits cnt al (n, skip fr E n) = true
      · have e : at1 cnt al false (-1) (n, skip fr E n) = (low al (n, skip fr E n) : Nat) := by
          unfold at1; rw [if_pos hf, if_neg (by simp), if_pos (by omega)]
        rw [e, atOf_more _ _ (by omega)]
        have h1 := low_ge (al := al) (x := (n, skip fr E n)) hal
        have h2 := of_decide_eq_true hf
        simp only at h1 h2
        refine .inr ⟨_, rfl, h1, low_dvd, ⟨by omega, fun i i1 i2 => skip_free (fr := fr) (E := E) n (by omega) (by omega)⟩, fun g g1 g2 g3 _ => ?_⟩
        have := low_le (x := (n, skip fr E n)) hal g3 g1
        omega
      · have e : at1 cnt al false (-1) (n, skip fr E n) = -1 := by unfold at1; rw [if_neg hf]
        rw [e]
        refine hrest _ ih fun g g1 g2 g3 g4 => hf ?_
        have := hin g g1 g2 g4
        have := low_le (x := (n, skip fr E n)) hal g3 g1
        unfold fits
        rw [decide_eq_true_eq]
        simp only
        omega
    · rename_i hs
      rw [List.nil_append]
      refine hrest _ ih fun g g1 g2 g3 g4 => ?_
      have := hin g g1 g2 g4
      omega
  · refine .inl ⟨rfl, fun g g1 g2 g3 => ?_⟩
    have := g3.1
    omega
termination_by E + 1 - n
decreasing_by have := skip_ge fr E n; omega
theorem isFirst_uniq {fr : Nat → Bool} {E cnt al n : Nat} {a b : Int} (h : IsFirst fr E cnt al n a) (k : IsFirst fr E cnt al n b) : a = b := by
  rcases h with ⟨h1, h2⟩ | ⟨m, h1, h2, h3, h4, h5⟩
  · rcases k with ⟨k1, k2⟩ | ⟨m', k1, k2, k3, k4, k5⟩
    · omega
    · exact absurd k4 (h2 m' k2 k3)
  · rcases k with ⟨k1, k2⟩ | ⟨m', k1, k2, k3, k4, k5⟩
    · exact absurd h4 (k2 m h2 h3)
    · by_cases g1 : m < m'
      · exact absurd h4 (k5 m h2 g1 h3)
      · by_cases g2 : m' < m
        · exact absurd k4 (h5 m' k2 g2 k3)
        · omega

theorem OkAt.congr {fr fr' : Nat → Bool} {E cnt g : Nat} (h : ∀ n, n < E → fr n = fr' n) (k : OkAt fr E cnt g) : OkAt fr' E cnt g := ⟨k.1, fun i a b => by rw [← h i (by have := k.1; omega)]; exact k.2 i a b⟩
theorem IsFirst.congr {fr fr' : Nat → Bool} {E cnt al n : Nat} {a : Int} (h : ∀ n, n < E → fr n = fr' n) (k : IsFirst fr E cnt al n a) : IsFirst fr' E cnt al n a := by
  have h' : ∀ n, n < E → fr' n = fr n := fun n hn => (h n hn).symm
  rcases k with ⟨k1, k2⟩ | ⟨m, k1, k2, k3, k4, k5⟩
  · exact .inl ⟨k1, fun g a b c => k2 g a b (c.congr h')⟩
  · exact .inr ⟨m, k1, k2, k3, k4.congr h, fun g a b c d => k5 g a b c (d.congr h')⟩
end Go.E.Fa
