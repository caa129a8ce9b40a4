/- What the laws of the frames need of the evaluator. -/
import Derived.Test.YtlkgacbholklkaaFaCode
import Derived.Test.YtlkgacbholklkaaEwZk
import Derived.Test.YtlkgacbholklkaaEwZb
import Derived.Test.YtlkgacbholklkaaEwZd
import Derived.KernelRfl
import Derived.Test.YtlkgacbholklkaaFaF789
namespace Go.E.Fa
open Go Go.E Go.ChangeShapes Go.WideShapes Go.ChangeAt Go.RowKit Go.Proofs.Ytlkgacbholklkaa Go.Proofs
set_option linter.unusedVariables false
set_option linter.unusedSimpArgs false
set_option maxRecDepth 100000
theorem globAll (H : AHeap) : Glob objs H := ⟨fun b hb => by simp [objs] at hb, Nat.zero_le _⟩
theorem u3 : Try.prog.underlying 3 = some (.int .i64) := by kernel_rfl
theorem u5 : Try.prog.underlying 5 = some (.int .u8) := by kernel_rfl
theorem u46 : Try.prog.underlying 46 = some (.slice 5) := by kernel_rfl
theorem co5 : Try.prog.cellsOf 5 = 1 := by kernel_rfl
end Go.E.Fa
/- What the laws share: what Alloc and Unref leave, tables with one pool. -/
namespace Go.E.Fa
open Go Go.E Go.Proofs.Ytlkgacbholklkaa Go.Proofs
set_option linter.unusedVariables false
set_option linter.unusedSimpArgs false
set_option maxRecDepth 100000
/-! ### what Alloc leaves -/
theorem takes_refs (pls : List Pl) : ∀ (l : List Int) (M : Fm) (n : Int), (l.foldl (takeF pls) M).refs n = if n ∈ l then 1 else M.refs n := by
  intro l
  induction l with
  | nil => intro M n; simp
  | cons x l ih =>
    intro M n
    rw [List.foldl_cons, ih]
    by_cases h : n ∈ l
    · rw [if_pos h, if_pos (List.mem_cons_of_mem _ h)]
    · rw [if_neg h]
      show (if n = x then (1 : Int) else M.refs n) = _
      by_cases h2 : n = x
      · rw [if_pos h2, if_pos (by rw [h2]; exact List.mem_cons_self)]
      · rw [if_neg h2, if_neg (by rw [List.mem_cons]; rintro (h3 | h3); exact h2 h3; exact h h3)]
theorem takes_none (pls : List Pl) : ∀ (l : List Int) (M : Fm), (∀ n, M.dat n = none) → ∀ n, (l.foldl (takeF pls) M).dat n = none := by
  intro l
  induction l with
  | nil => intro M h; exact h
  | cons x l ih =>
    intro M h
    rw [List.foldl_cons]
    refine ih _ fun n => ?_
    show (if n = x then wipe _ (M.dat x) else M.dat n) = none
    rw [h, h]
    simp [wipe]

def nmP : ByteArray := ⟨#[112]⟩
def poolP (f c : Int) : Pl := ⟨nmP, f, c, true, false⟩

theorem PlOk.of {M M' : Fm} {p : Pl} (h : PlOk M p) (hd : M'.dom = M.dom) : PlOk M' p := ⟨h.first, h.count, h.top, fun n a b => hd ▸ h.dom n a b⟩
theorem TbOk.takes {T : Tb} {l : List Int} (h : TbOk T) : TbOk (T.wm (l.foldl (takeF T.pls) T.m)) := by
  obtain ⟨h1, h2, h3⟩ := takes_dom T.pls l T.m
  refine ⟨⟨?_, ?_⟩, ?_, h.len, ?_, ?_⟩
  · show (l.foldl (takeF T.pls) T.m).dom.Nodup
    rw [h1]; exact h.m.nd
  · intro n
    show 0 ≤ (l.foldl (takeF T.pls) T.m).refs n ∧ (l.foldl (takeF T.pls) T.m).refs n ≤ 60000
    rw [takes_refs]
    have := h.m.refs n
    split <;> omega
  · intro p hp
    exact (h.pls p hp).of h1
  · intro n hn
    show 0 ≤ (l.foldl (takeF T.pls) T.m).pool n ∧ (l.foldl (takeF T.pls) T.m).pool n < T.pls.length
    rw [h2]
    exact h.pool n (h1 ▸ hn)
  · exact takes_dat T.pls l T.m h.dat
theorem unref_dom {M : Fm} {n : Int} : (unref M n).2.dom = M.dom ∧ (unref M n).2.pool = M.pool ∧ (unref M n).2.dat = M.dat := by
  unfold unref
  split
  · split <;> exact ⟨rfl, rfl, rfl⟩
  · exact ⟨rfl, rfl, rfl⟩
theorem unref_refs {M : Fm} {n k : Int} : (unref M n).2.refs k = if k = n ∧ n ∈ M.dom ∧ M.refs n ≠ 0 then M.refs n - 1 else M.refs k := by
  unfold unref
  split
  · rename_i hn
    split
    · rename_i h0
      rw [if_neg (fun h => h.2.2 h0)]
    · rename_i h0
      show (if k = n then M.refs n - 1 else M.refs k) = _
      by_cases hk : k = n
      · rw [if_pos hk, if_pos ⟨hk, hn, h0⟩]
      · rw [if_neg hk, if_neg (fun h => hk h.1)]
  · rename_i hn
    rw [if_neg (fun h => hn h.2.1)]
theorem TbOk.unref {T : Tb} {n : Int} (h : TbOk T) : TbOk (T.wm (unref T.m n).2) := by
  obtain ⟨h1, h2, h3⟩ := unref_dom (M := T.m) (n := n)
  refine ⟨⟨?_, ?_⟩, ?_, h.len, ?_, ?_⟩
  · show (Fa.unref T.m n).2.dom.Nodup
    rw [h1]; exact h.m.nd
  · intro k
    show 0 ≤ (Fa.unref T.m n).2.refs k ∧ (Fa.unref T.m n).2.refs k ≤ 60000
    rw [unref_refs]
    have := h.m.refs n
    have := h.m.refs k
    split
    · rename_i h5
      have := h5.2.2
      omega
    · assumption
  · intro p hp
    exact (h.pls p hp).of h1
  · intro k hk
    show 0 ≤ (Fa.unref T.m n).2.pool k ∧ (Fa.unref T.m n).2.pool k < T.pls.length
    rw [h2]
    exact h.pool k (h1 ▸ hk)
  · show ∀ k d, (Fa.unref T.m n).2.dat k = some d → d.2.length = 64
    rw [h3]; exact h.dat
structure One (T : Tb) (f c : Int) : Prop where
  pls : T.pls = [poolP f c]
  ix : T.ix = ixOf T.pls
  ok : TbOk T
  dat : ∀ n, T.m.dat n = none
theorem One.fresh {T : Tb} {f c : Int} (hp : T.pls = [poolP f c]) (h : Fresh [poolP f c] T) : One T f c :=
  ⟨hp, hp ▸ h.ix, by have h2 := h; rw [← hp] at h2; exact h2.tbOk (by rw [hp]; simp), h.m.dat⟩
theorem One.takes {T : Tb} {f c : Int} {l : List Int} (h : One T f c) : One (T.wm (l.foldl (takeF T.pls) T.m)) f c := ⟨h.pls, h.ix, h.ok.takes, takes_none _ _ _ h.dat⟩
theorem One.unref {T : Tb} {f c n : Int} (h : One T f c) : One (T.wm (unref T.m n).2) f c := ⟨h.pls, h.ix, h.ok.unref, by show ∀ k, (Fa.unref T.m n).2.dat k = none; rw [unref_dom.2.2]; exact h.dat⟩
theorem One.plok {T : Tb} {f c : Int} (h : One T f c) : PlOk T.m (poolP f c) := h.ok.pls _ (by rw [h.pls]; simp)
theorem One.dom {T : Tb} {f c n : Int} (h : One T f c) (h1 : f ≤ n) (h2 : n < f + c) : n ∈ T.m.dom := by
  have hp := h.plok
  have hf : 0 ≤ f := hp.first
  have := hp.dom n.toNat (by show f ≤ _; omega) (by show _ < f + c; omega)
  rwa [show ((n.toNat : Nat) : Int) = n by omega] at this
theorem One.poolOf {T : Tb} {f c : Int} (h : One T f c) : Fa.poolOf T 0 = poolP f c := by unfold Fa.poolOf; rw [h.pls]; rfl
end Go.E.Fa
/- The table of frames, plain facts: what is handed out is different; what is used is counted. -/
namespace Go.E.Fa
open Go Go.E Go.Proofs.Ytlkgacbholklkaa Go.Proofs
set_option linter.unusedVariables false
set_option linter.unusedSimpArgs false
set_option maxRecDepth 100000
def DisP (pls : List Pl) : Prop := ∀ (i j : Nat) p q, pls[i]? = some p → pls[j]? = some q → ∀ n, inR p n = true → inR q n = true → i = j
theorem DisP.fresh {l : List Pl} {T : Tb} (h : Fresh l T) : DisP l := fun i j p q hp hq n h1 h2 => by
  have e1 := h.m.pool i p hp n h1
  have e2 := h.m.pool j q hq n h2
  omega
theorem gens_nodup (pls : List Pl) : ∀ n, (gens pls n).Nodup
  | 0 => by simp [gens]
  | n + 1 => by
    rw [gens, List.nodup_append]
    refine ⟨gens_nodup pls n, by split <;> simp, fun a ha b hb => ?_⟩
    have := (gens_len pls n).2 a ha
    split at hb
    · rw [List.mem_singleton] at hb; omega
    · simp at hb
theorem asked_nodup (pls : List Pl) (ns : List ByteArray) : (askedM pls ns).2.Nodup := by
  unfold askedM
  split
  · exact gens_nodup _ _
  split
  · simp
  split
  · simp
  split
  · rename_i h; exact h
  · simp
theorem freeP_nodup (M : Fm) (p : Pl) : (freeP M p).Nodup := by
  unfold freeP
  have h : ((List.range' p.first.toNat p.count.toNat).filter (frB M)).Nodup := List.Nodup.sublist List.filter_sublist List.nodup_range'
  generalize (List.range' p.first.toNat p.count.toNat).filter (frB M) = l at h
  induction l with
  | nil => simp
  | cons a l ih =>
    obtain ⟨h1, h2⟩ := List.nodup_cons.1 h
    rw [List.map_cons, List.nodup_cons]
    refine ⟨fun hm => ?_, ih h2⟩
    obtain ⟨b, hb, e⟩ := List.mem_map.1 hm
    exact h1 ((show b = a by omega) ▸ hb)
theorem ordP_nodup (M : Fm) (p : Pl) (top : Bool) : (ordP M p top).Nodup := by
  unfold ordP
  split
  · exact ((List.reverse_perm _).nodup_iff).2 (freeP_nodup M p)
  · exact freeP_nodup M p
theorem inR_of {M : Fm} {p : Pl} {n : Int} (h : FreeIn M p n) : inR p n = true := decide_eq_true ⟨h.1, h.2.1⟩
theorem poolOf_get {T : Tb} {i : Int} (h0 : 0 ≤ i) (h : i < T.pls.length) : T.pls[i.toNat]? = some (poolOf T i) := by
  unfold poolOf
  rw [List.getD_eq_getElem?_getD, List.getElem?_eq_getElem (show i.toNat < T.pls.length by omega)]
  rfl
theorem singles_nodup {T : Tb} (hT : TbOk T) (hD : DisP T.pls) {cnt : Nat} {top : Bool} {idx : List Int} (hidx : ∀ i ∈ idx, 0 ≤ i ∧ i < T.pls.length) (hn : idx.Nodup) : (singles T cnt top idx).Nodup := by
  unfold singles
  suffices hh : ∀ (l : List Int) (acc : List Int), (∀ i ∈ l, 0 ≤ i ∧ i < T.pls.length) → l.Nodup → acc.Nodup → (∀ n ∈ acc, ∀ i ∈ l, inR (poolOf T i) n = false) → (l.foldl (sing1 T cnt top) acc).Nodup by
    exact hh idx [] hidx hn (by simp) (by simp)
  intro l
  induction l with
  | nil => intro acc _ _ h _; exact h
  | cons i l ih =>
    intro acc hl hnd ha hd
    obtain ⟨n1, n2⟩ := List.nodup_cons.1 hnd
    have hi := hl i (by simp)
    have hok := poolOf_ok hT hi.1 hi.2
    refine ih _ (fun j hj => hl j (by simp [hj])) n2 ?_ ?_
    · unfold sing1
      rw [List.nodup_append]
      refine ⟨ha, List.Nodup.sublist (List.take_sublist _ _) (ordP_nodup _ _ _), fun a h1 b h2 e => ?_⟩
      subst e
      have h3 := inR_of (ordP_in hok (List.mem_of_mem_take h2))
      rw [hd a h1 i (by simp)] at h3
      cases h3
    · intro n hn j hj
      unfold sing1 at hn
      rcases List.mem_append.1 hn with h | h
      · exact hd n h j (by simp [hj])
      · have h3 := inR_of (ordP_in hok (List.mem_of_mem_take h))
        cases h4 : inR (poolOf T j) n with
        | false => rfl
        | true =>
          have hj0 := hl j (by simp [hj])
          have := hD _ _ _ _ (poolOf_get hi.1 hi.2) (poolOf_get hj0.1 hj0.2) n h3 h4
          exact absurd (show i = j by omega) (fun e => n1 (e ▸ hj))
theorem runM_nodup (T : Tb) (cnt al : Nat) (top : Bool) : ∀ idx, (runM T cnt al top idx).Nodup
  | [] => by simp [runM]
  | i :: is => by
    rw [runM]
    split
    · exact consec_nd _ _
    · exact runM_nodup T cnt al top is
theorem runM_len (T : Tb) (cnt al : Nat) (top : Bool) : ∀ idx, (runM T cnt al top idx).length ≤ cnt
  | [] => by simp [runM]
  | i :: is => by
    rw [runM]
    split
    · rw [consec_len]; exact Nat.le_refl _
    · exact runM_len T cnt al top is
theorem alloc_out {T : Tb} (hT : TbOk T) (hD : DisP T.pls) (cnt al : Int) (cg top : Bool) (ns : List ByteArray) :
    (allocR T cnt al cg top ns).2.Nodup ∧ (∀ n ∈ (allocR T cnt al cg top ns).2, n ∈ T.m.dom ∧ T.m.refs n = 0) ∧ ((allocR T cnt al cg top ns).1 = 0 → ((allocR T cnt al cg top ns).2.length : Int) = cnt) ∧ (allocR T cnt al cg top ns).2.length ≤ 4096 := by
  unfold allocR
  split
  · exact ⟨by simp, by simp, (fun h => by cases h), by simp⟩
  rename_i h1
  split
  · exact ⟨by simp, by simp, (fun h => by cases h), by simp⟩
  rename_i h2
  split
  · rename_i h3
    exact ⟨by simp, by simp, fun h => absurd h h3, by simp⟩
  have ha := asked_ok (ns := ns) hT.len
  have hn := asked_nodup T.pls ns
  have ho : (if cg = true then runM T cnt.toNat al.toNat top (askedM T.pls ns).2 else singles T cnt.toNat top (askedM T.pls ns).2).Nodup ∧ (∀ n ∈ (if cg = true then runM T cnt.toNat al.toNat top (askedM T.pls ns).2 else singles T cnt.toNat top (askedM T.pls ns).2), n ∈ T.m.dom ∧ T.m.refs n = 0) ∧ (if cg = true then runM T cnt.toNat al.toNat top (askedM T.pls ns).2 else singles T cnt.toNat top (askedM T.pls ns).2).length ≤ cnt.toNat := by
    cases cg with
    | true =>
      simp only [if_true]
      refine ⟨runM_nodup _ _ _ _ _, fun n hm => ?_, runM_len _ _ _ _ _⟩
      obtain ⟨i, hi, hf⟩ := runM_in hT (by omega) (by omega) ha.2 hm
      exact ⟨hf.dom (poolOf_ok hT (ha.2 i hi).1 (ha.2 i hi).2), hf.2.2⟩
    | false =>
      simp only [Bool.false_eq_true, if_false]
      refine ⟨singles_nodup hT hD ha.2 hn, fun n hm => ?_, singles_len _ _ _ _⟩
      obtain ⟨i, hi, hf⟩ := singles_in hT ha.2 hm
      exact ⟨hf.dom (poolOf_ok hT (ha.2 i hi).1 (ha.2 i hi).2), hf.2.2⟩
  generalize (if cg = true then runM T cnt.toNat al.toNat top (askedM T.pls ns).2 else singles T cnt.toNat top (askedM T.pls ns).2) = o at ho ⊢
  obtain ⟨o1, o2, o3⟩ := ho
  split
  · exact ⟨by simp, by simp, (fun h => by cases h), by simp⟩
  · refine ⟨o1, o2, fun _ => ?_, ?_⟩
    · show (o.length : Int) = cnt
      omega
    · show o.length ≤ 4096
      omega
/-! ### counting -/
def usedB (M : Fm) (n : Int) : Bool := decide (M.refs n ≠ 0)
def cntU (M : Fm) (l : List Int) : Nat := (l.filter (usedB M)).length
theorem cnt_both (M : Fm) (l : List Int) : (l.filter fun n => decide (M.refs n = 0)).length + cntU M l = l.length := by
  unfold cntU usedB
  induction l with
  | nil => rfl
  | cons n l ih =>
    by_cases h : M.refs n = 0
    · rw [List.filter_cons_of_pos (by simp [h]), List.filter_cons_of_neg (by simp [h]), List.length_cons, List.length_cons]
      omega
    · rw [List.filter_cons_of_neg (by simp [h]), List.filter_cons_of_pos (by simp [h]), List.length_cons, List.length_cons]
      omega
theorem range_consec (F n : Nat) : ((List.range' F n).map fun k : Nat => (k : Int)) = consec F n := by
  unfold consec
  rw [List.range'_eq_map_range, List.map_map]
  apply List.map_congr_left
  intro k _
  simp
theorem free_rng {M : Fm} {p : Pl} (h : 0 ≤ p.first) : freeP M p = (rng p).filter fun n => decide (M.refs n = 0) := by
  unfold freeP rng
  have e : p.first = (p.first.toNat : Int) := by omega
  conv => rhs; rw [e]
  rw [← range_consec, List.filter_map]
  rfl
theorem used_pool {M : Fm} {p : Pl} (h : PlOk M p) : p.count - ((freeP M p).length : Int) = cntU M (rng p) := by
  have h1 := cnt_both M (rng p)
  rw [← free_rng h.first] at h1
  have h2 : (rng p).length = p.count.toNat := by unfold rng; rw [consec_len]
  have := h.count
  omega
theorem cntU_app (M : Fm) (a b : List Int) : cntU M (a ++ b) = cntU M a + cntU M b := by unfold cntU; rw [List.filter_append, List.length_append]
theorem cntU_keys {M : Fm} {ks : List Int} (hn : ks.Nodup) (hd : M.dom.Nodup) (h1 : ∀ k ∈ ks, k ∈ M.dom) (h2 : ∀ k ∈ M.dom, M.refs k ≠ 0 → k ∈ ks) : cntU M ks = cntU M M.dom := by
  unfold cntU
  refine ((List.perm_ext_iff_of_nodup (List.Nodup.sublist List.filter_sublist hn) (List.Nodup.sublist List.filter_sublist hd)).2 fun k => ?_).length_eq
  rw [List.mem_filter, List.mem_filter]
  unfold usedB
  constructor
  · rintro ⟨h3, h4⟩
    exact ⟨h1 k h3, h4⟩
  · rintro ⟨h3, h4⟩
    exact ⟨h2 k h3 (of_decide_eq_true h4), h4⟩
end Go.E.Fa
