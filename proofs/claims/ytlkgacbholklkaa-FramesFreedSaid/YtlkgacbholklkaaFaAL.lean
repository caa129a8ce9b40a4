/- What the laws of the frames need of the evaluator. -/
import Derived.Test.YtlkgacbholklkaaFaCode
import Derived.Test.YtlkgacbholklkaaEhZk
import Derived.Test.YtlkgacbholklkaaEhZb
import Derived.Test.YtlkgacbholklkaaEhZd
import Derived.KernelRfl
import Derived.Test.YtlkgacbholklkaaFaF789
namespace Go.E.Fa
open Go Go.E Go.ChangeShapes Go.WideShapes Go.ChangeAt Go.RowKit Go.Proofs.Ytlkgacbholklkaa Go.Proofs
set_option linter.unusedVariables false
set_option linter.unusedSimpArgs false
set_option maxRecDepth 100000
theorem mixed : Try.prog.follows .mixedOrders = true := by kernel_rfl
theorem awakeRun : ((callN (cProg Try.prog 0) 60 (.fn 13) [] (startH objs)).map (·.1)) = some (.bool true) := by kernel_rfl
theorem C_ok (n : Nat) : CalleeOk Try.prog 0 (C n) := callX_sound mixed (knownAt_ok (n := 60) mixed (by decide) (by decide) fun f v h => by
  simp only [K, List.lookup] at h
  split at h
  · rename_i he
    have : f = 13 := by simpa using he
    subst this
    cases h
    exact ⟨rfl, awakeRun⟩
  · cases h) n
theorem globAll (H : AHeap) : Glob objs H := ⟨fun b hb => by simp [objs] at hb, Nat.zero_le _⟩
theorem u5 : Try.prog.underlying 5 = some (.int .u8) := by kernel_rfl
theorem u46 : Try.prog.underlying 46 = some (.slice 5) := by kernel_rfl
theorem co5 : Try.prog.cellsOf 5 = 1 := by kernel_rfl
theorem ag5 : aggT Try.prog 5 = false := by kernel_rfl
theorem ag46 : aggT Try.prog 46 = false := by kernel_rfl
theorem arg_u8 {gs : List AObj} {n : Nat} {a : Value} (h : ∃ cells, a = argV Try.prog 5 cells ∧ OkA Try.prog gs (n + 1) 5 cells) : ∃ x, a = .int .u8 x ∧ 0 ≤ x ∧ x ≤ 255 := by
  obtain ⟨cells, rfl, h⟩ := h
  unfold OkA at h
  rw [u5] at h
  obtain ⟨b, rfl, hw⟩ := h
  refine ⟨b, by unfold argV; rw [ag5]; rfl, ?_⟩
  simp [Lit.wf, IntKind.min, IntKind.max, IntKind.signed, IntKind.bits] at hw
  omega
theorem arg_bytes {gs : List AObj} {n : Nat} {a : Value} (h : ∃ cells, a = argV Try.prog 46 cells ∧ OkA Try.prog gs (n + 2) 46 cells) :
    ∃ (l : List Int) (r : List Nat), RdS (startH gs) 1 a (l.map (.int .u8 ·)) r ∧ (∀ b ∈ r, b < (startH gs).next) ∧ ∀ x ∈ l, (0 : Int) ≤ x ∧ x ≤ 255 := by
  obtain ⟨cells, rfl, h⟩ := h
  obtain ⟨v, l, r, rfl, h1, h2, h3⟩ := h.bytes u46 u5 co5
  exact ⟨l, r, by unfold argV; rw [ag46]; exact h1, by rw [next_startH]; exact h2, h3⟩
end Go.E.Fa
/- What the laws share: what Alloc and Unref leave, tables with one pool. -/
namespace Go.E.Fa
open Go Go.E Go.Proofs.Ytlkgacbholklkaa Go.Proofs
set_option linter.unusedVariables false
set_option linter.unusedSimpArgs false
set_option maxRecDepth 100000
/-! ### what Alloc leaves -/
theorem takes_refs (pls : List Pl) : ∀ (l : List Int) (M : Fm) (n : Int), (l.foldl (takeF pls) M).refs n = if n ∈ l then 1 else M.refs n := by
  intro l
  induction l with
  | nil => intro M n; simp
  | cons x l ih =>
    intro M n
    rw [List.foldl_cons, ih]
    by_cases h : n ∈ l
    · rw [if_pos h, if_pos (List.mem_cons_of_mem _ h)]
    · rw [if_neg h]
      show (if n = x then (1 : Int) else M.refs n) = _
      by_cases h2 : n = x
      · rw [if_pos h2, if_pos (by rw [h2]; exact List.mem_cons_self)]
      · rw [if_neg h2, if_neg (by rw [List.mem_cons]; rintro (h3 | h3); exact h2 h3; exact h h3)]
theorem takes_none (pls : List Pl) : ∀ (l : List Int) (M : Fm), (∀ n, M.dat n = none) → ∀ n, (l.foldl (takeF pls) M).dat n = none := by
  intro l
  induction l with
  | nil => intro M h; exact h
  | cons x l ih =>
    intro M h
    rw [List.foldl_cons]
    refine ih _ fun n => ?_
    show (if n = x then wipe _ (M.dat x) else M.dat n) = none
    rw [h, h]
    simp [wipe]

def nmP : ByteArray := ⟨#[112]⟩
def poolP (f c : Int) : Pl := ⟨nmP, f, c, true, false⟩

theorem PlOk.of {M M' : Fm} {p : Pl} (h : PlOk M p) (hd : M'.dom = M.dom) : PlOk M' p := ⟨h.first, h.count, h.top, fun n a b => hd ▸ h.dom n a b⟩
theorem TbOk.takes {T : Tb} {l : List Int} (h : TbOk T) : TbOk (T.wm (l.foldl (takeF T.pls) T.m)) := by
  obtain ⟨h1, h2, h3⟩ := takes_dom T.pls l T.m
  refine ⟨⟨?_, ?_⟩, ?_, h.len, ?_, ?_⟩
  · show (l.foldl (takeF T.pls) T.m).dom.Nodup
    rw [h1]; exact h.m.nd
  · intro n
    show 0 ≤ (l.foldl (takeF T.pls) T.m).refs n ∧ (l.foldl (takeF T.pls) T.m).refs n ≤ 60000
    rw [takes_refs]
    have := h.m.refs n
    split <;> omega
  · intro p hp
    exact (h.pls p hp).of h1
  · intro n hn
    show 0 ≤ (l.foldl (takeF T.pls) T.m).pool n ∧ (l.foldl (takeF T.pls) T.m).pool n < T.pls.length
    rw [h2]
    exact h.pool n (h1 ▸ hn)
  · exact takes_dat T.pls l T.m h.dat
theorem unref_dom {M : Fm} {n : Int} : (unref M n).2.dom = M.dom ∧ (unref M n).2.pool = M.pool ∧ (unref M n).2.dat = M.dat := by
  unfold unref
  split
  · split <;> exact ⟨rfl, rfl, rfl⟩
  · exact ⟨rfl, rfl, rfl⟩
theorem unref_refs {M : Fm} {n k : Int} : (unref M n).2.refs k = if k = n ∧ n ∈ M.dom ∧ M.refs n ≠ 0 then M.refs n - 1 else M.refs k := by
  unfold unref
  split
  · rename_i hn
    split
    · rename_i h0
      rw [if_neg (fun h => h.2.2 h0)]
    · rename_i h0
      show (if k = n then M.refs n - 1 else M.refs k) = _
      by_cases hk : k = n
      · rw [if_pos hk, if_pos ⟨hk, hn, h0⟩]
      · rw [if_neg hk, if_neg (fun h => hk h.1)]
  · rename_i hn
    rw [if_neg (fun h => hn h.2.1)]
theorem TbOk.unref {T : Tb} {n : Int} (h : TbOk T) : TbOk (T.wm (unref T.m n).2) := by
  obtain ⟨h1, h2, h3⟩ := unref_dom (M := T.m) (n := n)
  refine ⟨⟨?_, ?_⟩, ?_, h.len, ?_, ?_⟩
  · show (Fa.unref T.m n).2.dom.Nodup
    rw [h1]; exact h.m.nd
  · intro k
    show 0 ≤ (Fa.unref T.m n).2.refs k ∧ (Fa.unref T.m n).2.refs k ≤ 60000
    rw [unref_refs]
    have := h.m.refs n
    have := h.m.refs k
    split
    · rename_i h5
      have := h5.2.2
      omega
    · assumption
  · intro p hp
    exact (h.pls p hp).of h1
  · intro k hk
    show 0 ≤ (Fa.unref T.m n).2.pool k ∧ (Fa.unref T.m n).2.pool k < T.pls.length
    rw [h2]
    exact h.pool k (h1 ▸ hk)
  · show ∀ k d, (Fa.unref T.m n).2.dat k = some d → d.2.length = 64
    rw [h3]; exact h.dat
/-- a table with one pool -/
structure One (T : Tb) (f c : Int) : Prop where
  pls : T.pls = [poolP f c]
  ix : T.ix = ixOf T.pls
  ok : TbOk T
  dat : ∀ n, T.m.dat n = none
theorem One.fresh {T : Tb} {f c : Int} (hp : T.pls = [poolP f c]) (h : Fresh [poolP f c] T) : One T f c :=
  ⟨hp, hp ▸ h.ix, by have h2 := h; rw [← hp] at h2; exact h2.tbOk (by rw [hp]; simp), h.m.dat⟩
theorem One.takes {T : Tb} {f c : Int} {l : List Int} (h : One T f c) : One (T.wm (l.foldl (takeF T.pls) T.m)) f c := ⟨h.pls, h.ix, h.ok.takes, takes_none _ _ _ h.dat⟩
theorem One.unref {T : Tb} {f c n : Int} (h : One T f c) : One (T.wm (unref T.m n).2) f c := ⟨h.pls, h.ix, h.ok.unref, by show ∀ k, (Fa.unref T.m n).2.dat k = none; rw [unref_dom.2.2]; exact h.dat⟩
theorem One.plok {T : Tb} {f c : Int} (h : One T f c) : PlOk T.m (poolP f c) := h.ok.pls _ (by rw [h.pls]; simp)
theorem One.dom {T : Tb} {f c n : Int} (h : One T f c) (h1 : f ≤ n) (h2 : n < f + c) : n ∈ T.m.dom := by
  have hp := h.plok
  have hf : 0 ≤ f := hp.first
  have := hp.dom n.toNat (by show f ≤ _; omega) (by show _ < f + c; omega)
  rwa [show ((n.toNat : Nat) : Int) = n by omega] at this
theorem One.poolOf {T : Tb} {f c : Int} (h : One T f c) : Fa.poolOf T 0 = poolP f c := by unfold Fa.poolOf; rw [h.pls]; rfl
theorem One.asked {T : Tb} {f c : Int} (h : One T f c) : askedM T.pls [] = (0, [0]) := by rw [h.pls]; rfl
/-- one by one -/
theorem One.alloc1 {T : Tb} {f c : Int} {cnt : Nat} {top : Bool} (h : One T f c) (h1 : 1 ≤ cnt) (h2 : cnt ≤ 4096) :
    allocR T cnt 1 false top [] = if ((ordP T.m (poolP f c) top).take cnt).length < cnt then (23, []) else (0, (ordP T.m (poolP f c) top).take cnt) := by
  have e : singles T cnt top [0] = (ordP T.m (poolP f c) top).take cnt := by
    show sing1 T cnt top [] 0 = _
    unfold sing1
    rw [h.poolOf]; simp
  unfold allocR
  rw [if_neg (by omega), if_neg (by rintro (h3 | h3 | h3 | h3); omega; omega; exact h3 (by decide +kernel); exact h3.2 rfl), h.asked]
  simp only [if_neg (show ¬ (0 : Int) ≠ 0 by simp), Bool.false_eq_true, if_false, Int.toNat_natCast, e]
  by_cases h5 : ((ordP T.m (poolP f c) top).take cnt).length < cnt
  · rw [if_pos h5, if_pos (by omega)]
  · rw [if_neg h5, if_neg (by omega)]
theorem freeP_all {M : Fm} {f c : Nat} (h : ∀ n : Nat, f ≤ n → n < f + c → M.refs n = 0) : freeP M (poolP f c) = consec f c := by
  unfold freeP consec
  rw [List.filter_eq_self.2 ?_]
  · show (List.range' ((f : Int)).toNat ((c : Int)).toNat).map _ = _
    rw [Int.toNat_natCast, Int.toNat_natCast, List.range'_eq_map_range, List.map_map]
    apply List.map_congr_left
    intro a _
    show (((f + a : Nat)) : Int) = (f : Int) + (a : Nat)
    omega
  · intro n hn
    rw [List.mem_range'_1] at hn
    have e1 : (poolP f c).first.toNat = f := rfl
    have e2 : (poolP f c).count.toNat = c := rfl
    rw [e1, e2] at hn
    exact decide_eq_true (h n hn.1 hn.2)
end Go.E.Fa
