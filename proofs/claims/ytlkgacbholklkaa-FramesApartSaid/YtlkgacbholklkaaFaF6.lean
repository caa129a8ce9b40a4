/- The table of frames: Alloc. -/
import Derived.Test.YtlkgacbholklkaaFaF345
import Derived.Test.YtlkgacbholklkaaEwZk
namespace Go.E.Fa
open Go Go.E Go.Proofs.Ytlkgacbholklkaa Go.Proofs
set_option linter.unusedVariables false
set_option linter.unusedSimpArgs false
set_option maxRecDepth 100000
theorem eqItems_u8 (a b : List Int) : ∀ (n k : Nat), k + n ≤ a.length → k + n ≤ b.length → eqItemsN (eqN 9 (.basic (.int .u8))) 1 none (u8s a) (u8s b) (List.range' k n) = some (decide ((a.drop k).take n = (b.drop k).take n))
  | 0, k, _, _ => by simp [eqItemsN]
  | n + 1, k, h1, h2 => by
    have ih := eqItems_u8 a b n (k + 1) (by omega) (by omega)
    rw [List.range'_succ, eqItemsN]
    have ha : partN (u8s a) (k * 1) none = some (.int .u8 (a[k]'(by omega))) := by simp [partN, u8s, show k < a.length by omega]
    have hb : partN (u8s b) (k * 1) none = some (.int .u8 (b[k]'(by omega))) := by simp [partN, u8s, show k < b.length by omega]
    rw [ha, hb]
    simp only
    have hd1 := List.drop_eq_getElem_cons (show k < a.length by omega)
    have hd2 := List.drop_eq_getElem_cons (show k < b.length by omega)
    rw [hd1, hd2, List.take_succ_cons, List.take_succ_cons]
    have e : eqN 9 (.basic (.int .u8)) (.int .u8 (a[k]'(by omega))) (.int .u8 (b[k]'(by omega))) = some (decide (a[k]'(by omega) = b[k]'(by omega))) := by
      simp only [eqN, eqBasic, if_true]
      congr 1
    rw [e]
    by_cases h : a[k]'(by omega) = b[k]'(by omega)
    · rw [decide_eq_true h]
      simp only
      rw [ih]
      congr 1
      rw [decide_eq_decide, List.cons.injEq]
      exact ⟨fun q => ⟨h, q⟩, fun q => q.2⟩
    · rw [decide_eq_false h]
      simp only
      congr 1
      symm
      rw [decide_eq_false_iff_not, List.cons.injEq]
      exact fun q => h q.1
theorem op1_neqPage {C : Callees} {T : FEnv} {H : AHeap} {K : KO} {x y : NOpd} {a b : List Int} {d : Nat} {g : Option (Nat × Bool)} (hw : wantedF g T = true) (hx : x.evF T = .agg ⟨u8s a⟩) (hy : y.evF T = .agg ⟨u8s b⟩) (ha : a.length = 64) (hb : b.length = 64)
    (k : K (upd T d (.bool (!decide (a = b)))) H) : op1 C ⟨some d, .bin .neq (.arr 64 1 none (.basic (.int .u8))) x y, g⟩ T H K := by
  refine op1_val hw ?_ k
  have := eqItems_u8 a b 64 0 (by omega) (by omega)
  rw [List.drop_zero, List.drop_zero, List.take_of_length_le (by omega), List.take_of_length_le (by omega)] at this
  rw [← List.range_eq_range'] at this
  simp only [NOp.sub, eop, ev_subF, hx, hy, binN]
  show Option.map _ (Option.map _ (eqItemsN (eqN 9 (.basic (.int .u8))) 1 none (u8s a) (u8s b) (List.range 64))) = _
  rw [this]
  rfl

def zeros : List Int := List.replicate 64 0
def wipe (keep : Bool) : Option (Nat × List Int) → Option (Nat × List Int)
  | none => none
  | some d => if keep = false ∧ d.2 ≠ zeros then none else some d
def takeF (pls : List Pl) (M : Fm) (n : Int) : Fm := (M.setRefs n 1).setDat n (wipe (pls.getD (M.pool n).toNat default).keep (M.dat n))
def allocR (T : Tb) (cnt al : Int) (cg top : Bool) (ns : List ByteArray) : Int × List Int :=
  if cnt < 1 ∨ 4096 < cnt then (34, [])
  else if al < 1 ∨ 4096 < al ∨ bitAnd .i64 al (al - 1) ≠ 0 ∨ (cg = false ∧ al ≠ 1) then (14, [])
  else if (askedM T.pls ns).1 ≠ 0 then ((askedM T.pls ns).1, [])
  else if ((if cg then runM T cnt.toNat al.toNat top (askedM T.pls ns).2 else singles T cnt.toNat top (askedM T.pls ns).2).length : Int) < cnt then (23, [])
  else (0, if cg then runM T cnt.toNat al.toNat top (askedM T.pls ns).2 else singles T cnt.toNat top (askedM T.pls ns).2)

/-! ### what is handed out is free and there -/
theorem skip_free {fr : Nat → Bool} {E : Nat} (n : Nat) {m : Nat} (h1 : n ≤ m) (h2 : m < skip fr E n) : fr m = true := by
  rw [skip.eq_def] at h2
  split at h2
  · rename_i h
    by_cases e : m = n
    · rw [e]; exact h.2
    · exact skip_free (n + 1) (by omega) h2
  · omega
termination_by E - n
theorem runs_all {fr : Nat → Bool} {E : Nat} (n : Nat) {x : Nat × Nat} (h : x ∈ runsAt fr E n) {m : Nat} (h1 : x.1 ≤ m) (h2 : m < x.2) : fr m = true := by
  rw [runsAt.eq_def] at h
  split at h
  · rename_i hn
    have hge := skip_ge fr E n
    rcases List.mem_append.1 h with h3 | h3
    · split at h3
      · rw [List.mem_singleton] at h3
        subst h3
        exact skip_free n h1 h2
      · simp at h3
    · exact runs_all (skip fr E n + 1) h3 h1 h2
  · simp at h
termination_by E - n
decreasing_by have := skip_ge fr E n; omega
def FreeIn (M : Fm) (p : Pl) (n : Int) : Prop := p.first ≤ n ∧ n < p.first + p.count ∧ M.refs n = 0
theorem FreeIn.dom {M : Fm} {p : Pl} {n : Int} (hp : PlOk M p) (h : FreeIn M p n) : n ∈ M.dom := by
  have h1 := hp.first
  have := hp.dom n.toNat (by have := h.1; omega) (by have := h.2.1; have := h.1; omega)
  rwa [show ((n.toNat : Nat) : Int) = n by have := h.1; omega] at this
theorem freeP_in {M : Fm} {p : Pl} {n : Int} (hp : PlOk M p) (h : n ∈ freeP M p) : FreeIn M p n := by
  unfold freeP at h
  obtain ⟨m, hm, rfl⟩ := List.mem_map.1 h
  obtain ⟨h1, h2⟩ := List.mem_filter.1 hm
  rw [List.mem_range'_1] at h1
  have h3 := hp.first
  have h4 := hp.count
  exact ⟨by omega, by omega, of_decide_eq_true h2⟩
theorem ordP_in {M : Fm} {p : Pl} {top : Bool} {n : Int} (hp : PlOk M p) (h : n ∈ ordP M p top) : FreeIn M p n := by
  unfold ordP at h
  split at h
  · exact freeP_in hp (List.mem_reverse.1 h)
  · exact freeP_in hp h
theorem poolOf_ok {T : Tb} (hT : TbOk T) {i : Int} (h0 : 0 ≤ i) (h : i < T.pls.length) : PlOk T.m (poolOf T i) := by
  unfold poolOf
  rw [List.getD_eq_getElem?_getD, List.getElem?_eq_getElem (show i.toNat < T.pls.length by omega), Option.getD_some]
  exact hT.pls _ (List.getElem_mem _)
theorem singles_in {T : Tb} (hT : TbOk T) {cnt : Nat} {top : Bool} {idx : List Int} (hidx : ∀ i ∈ idx, 0 ≤ i ∧ i < T.pls.length) {n : Int} (h : n ∈ singles T cnt top idx) : ∃ i ∈ idx, FreeIn T.m (poolOf T i) n := by
  unfold singles at h
  suffices hh : ∀ (l : List Int) (acc : List Int), (∀ i ∈ l, 0 ≤ i ∧ i < T.pls.length) → n ∈ l.foldl (sing1 T cnt top) acc → n ∈ acc ∨ ∃ i ∈ l, FreeIn T.m (poolOf T i) n by
    rcases hh idx [] hidx h with h1 | h1
    · simp at h1
    · exact h1
  intro l
  induction l with
  | nil => intro acc _ h; exact .inl h
  | cons i l ih =>
    intro acc hl h
    rcases ih _ (fun j hj => hl j (by simp [hj])) h with h1 | ⟨j, hj, h1⟩
    · unfold sing1 at h1
      rcases List.mem_append.1 h1 with h2 | h2
      · exact .inl h2
      · have hi := hl i (by simp)
        exact .inr ⟨i, by simp, ordP_in (poolOf_ok hT hi.1 hi.2) (List.mem_of_mem_take h2)⟩
    · exact .inr ⟨j, by simp [hj], h1⟩
theorem low_ge {al : Nat} {x : Nat × Nat} (hal : 1 ≤ al) : x.1 ≤ low al x := by
  unfold low
  have h1 := Nat.div_add_mod (x.1 + al - 1) al
  have h2 := Nat.mod_lt (x.1 + al - 1) (show 0 < al by omega)
  rw [Nat.mul_comm] at h1
  omega
theorem high_ge {cnt al : Nat} {x : Nat × Nat} (hal : 1 ≤ al) (h : fits cnt al x = true) : low al x ≤ high cnt al x := by
  have h := of_decide_eq_true h
  unfold low high at *
  refine Nat.mul_le_mul_right _ ?_
  rw [Nat.le_div_iff_mul_le (by omega)]
  omega
theorem atOf_run {cnt al : Nat} {top : Bool} (hal : 1 ≤ al) (hc : 1 ≤ cnt) (rs : List (Nat × Nat)) (h : 0 ≤ atOf cnt al top rs) : ∃ x ∈ rs, ∃ m : Nat, atOf cnt al top rs = m ∧ x.1 ≤ m ∧ m + cnt ≤ x.2 ∧ m % al = 0 := by
  suffices hh : ∀ (rs : List (Nat × Nat)) (a : Int), 0 ≤ rs.foldl (at1 cnt al top) a → rs.foldl (at1 cnt al top) a = a ∨ ∃ x ∈ rs, ∃ m : Nat, rs.foldl (at1 cnt al top) a = m ∧ x.1 ≤ m ∧ m + cnt ≤ x.2 ∧ m % al = 0 by
    rcases hh rs (-1) h with h1 | h1
    · unfold atOf at h; omega
    · exact h1
  intro rs
  induction rs with
  | nil => intro a _; exact .inl rfl
  | cons x rs ih =>
    intro a ha
    rcases ih _ ha with h1 | ⟨y, hy, m, h1⟩
    · rw [List.foldl_cons, h1]
      unfold at1
      split
      · rename_i hf
        have hf2 := of_decide_eq_true hf
        have h3 := low_ge (x := x) hal
        have h4 := high_ge hal hf
        have h5 : high cnt al x ≤ x.2 - cnt := Nat.div_mul_le_self _ _
        split
        · exact .inr ⟨x, by simp, _, rfl, by omega, by omega, Nat.mul_mod_left _ _⟩
        · split
          · exact .inr ⟨x, by simp, _, rfl, h3, hf2, Nat.mul_mod_left _ _⟩
          · exact .inl rfl
      · exact .inl rfl
    · exact .inr ⟨y, by simp [hy], m, h1⟩
theorem consec_mem {a n : Int} {k : Nat} : n ∈ consec a k ↔ a ≤ n ∧ n < a + k := by
  unfold consec
  simp only [List.mem_map, List.mem_range]
  constructor
  · rintro ⟨m, hm, rfl⟩; omega
  · intro h; exact ⟨(n - a).toNat, by omega, by omega⟩
theorem atP_in {T : Tb} {cnt al : Nat} {top : Bool} {i : Int} (hal : 1 ≤ al) (hc : 1 ≤ cnt) (hp : PlOk T.m (poolOf T i)) (h : 0 ≤ atP T cnt al top i) {n : Int} (hn : n ∈ consec (atP T cnt al top i) cnt) : FreeIn T.m (poolOf T i) n := by
  obtain ⟨x, hx, m, h1, h2, h3, _⟩ := atOf_run hal hc _ h
  have hm := runs_mem _ hx
  have h4 := hp.first
  have h5 := hp.count
  rw [consec_mem] at hn
  have e : atP T cnt al top i = m := h1
  rw [e] at hn
  have hfr := runs_all _ hx (m := n.toNat) (by omega) (by omega)
  have := of_decide_eq_true hfr
  rw [show ((n.toNat : Nat) : Int) = n by omega] at this
  exact ⟨by omega, by omega, this⟩
theorem runM_in {T : Tb} (hT : TbOk T) {cnt al : Nat} {top : Bool} (hal : 1 ≤ al) (hc : 1 ≤ cnt) : ∀ {idx : List Int}, (∀ i ∈ idx, 0 ≤ i ∧ i < T.pls.length) → ∀ {n : Int}, n ∈ runM T cnt al top idx → ∃ i ∈ idx, FreeIn T.m (poolOf T i) n
  | [], _, n, h => by simp [runM] at h
  | i :: is, hidx, n, h => by
    rw [runM] at h
    have hi := hidx i (by simp)
    split at h
    · rename_i h0
      exact ⟨i, by simp, atP_in hal hc (poolOf_ok hT hi.1 hi.2) h0 h⟩
    · obtain ⟨j, hj, h1⟩ := runM_in hT hal hc (fun j hj => hidx j (by simp [hj])) h
      exact ⟨j, by simp [hj], h1⟩
def wipes (keep : Bool) : Option (Nat × List Int) → Bool
  | none => false
  | some d => decide (keep = false ∧ d.2 ≠ zeros)
theorem wipe_eq (keep : Bool) (d : Option (Nat × List Int)) : wipe keep d = if wipes keep d = true then none else d := by
  cases d with
  | none => rfl
  | some d => simp only [wipe, wipes, decide_eq_true_eq]
theorem plC_keep {l : List Pl} {i : Nat} {p : Pl} (h : l[i]? = some p) : (l.flatMap plC)[i * 5 + 4]? = some (.bool p.keep) := by
  have h1 := flatMap_cut plC_len h
  have h2 := congrArg (fun z => z[4]?) h1
  simp only [List.getElem?_take, List.getElem?_drop, show 4 < 5 by decide, if_true] at h2
  exact h2
theorem frA_setDat {M : Fm} {n k : Int} {v : Int} {d : Option (Nat × List Int)} (h : k ≠ n) : frA ((M.setRefs n v).setDat n d) k = frA M k := by unfold frA Fm.setRefs Fm.setDat; simp only [if_neg h]
theorem takes_dat (pls : List Pl) (l : List Int) (M : Fm) (h : ∀ n d, M.dat n = some d → d.2.length = 64) : ∀ n d, (l.foldl (takeF pls) M).dat n = some d → d.2.length = 64 := by
  induction l generalizing M with
  | nil => exact h
  | cons a l ih =>
    refine ih (takeF pls M a) fun n d hd => ?_
    unfold takeF Fm.setDat at hd
    simp only at hd
    split at hd
    · rw [wipe_eq] at hd
      split at hd
      · cases hd
      · exact h _ _ hd
    · exact h _ _ hd
theorem takes_dom (pls : List Pl) (l : List Int) (M : Fm) : (l.foldl (takeF pls) M).dom = M.dom ∧ (l.foldl (takeF pls) M).pool = M.pool ∧ (l.foldl (takeF pls) M).blk = M.blk := by
  induction l generalizing M with
  | nil => exact ⟨rfl, rfl, rfl⟩
  | cons a l ih =>
    obtain ⟨h1, h2, h3⟩ := ih (takeF pls M a)
    exact ⟨h1, h2, h3⟩

theorem L11 {B H : AHeap} {As : List Asn} {t : Nat} {T : Tb} {an : Option Addr} {cn : Nat} {ns : List ByteArray} {cnt al : Int} {cg top : Bool} (hT : TbOk T) (hix : T.ix = ixOf T.pls) (hns : ns.length ≤ 1000) (hcb : -100000 ≤ cnt ∧ cnt ≤ 100000)
    (hd : RD B (repT t T :: As) 1 (.slice an ns.length cn) (ns.map enS)) (hS : S B H (repT t T :: As)) :
    wpF C 11 [ptrV t, .agg ⟨reqC (.slice an ns.length cn) cnt al cg top⟩] H fun v H' => ∃ v0, v = .tuple ⟨[v0, .int .i64 (allocR T cnt al cg top ns).1]⟩ ∧
      S B H' (sl 1 v0 (i64s (allocR T cnt al cg top ns).2) :: repT t (T.wm ((allocR T cnt al cg top ns).2.foldl (takeF T.pls) T.m)) :: As) := by
  refine wpF_ofW o11 rfl rfl ?_
  unfold ptrV reqC
  refine zsr ?_; refine wpO_cons ?_; refine op1_boxNS rfl rfl rfl hS ?_; intro p1 H1 hS; refine zw1 ?_; refine zw1 ?_; refine zns ?_; refine wp_seq ?_; refine wp_block ?_; refine zsr ?_; refine zw1 ?_; refine wpO_cons ?_; refine op1_bin_false rfl (by (conv => lhs; whnf) <;> rfl) (by (conv => lhs; whnf) <;> rfl) rfl ?_; refine zw1 ?_; refine zns ?_; refine wp_false rfl ?_; refine zsr ?_; refine zf ?_; refine zh (S.g0 hS) ?_; refine wpO_cons ?_; refine op1_lss rfl rfl rfl ?_; refine zw1 ?_; refine wpO_cons ?_
  refine op1_dec rfl (fun h1 => ?_) (fun h1 => ?_)
  · have e : allocR T cnt al cg top ns = (34, []) := by unfold allocR; rw [if_pos (.inl h1)]
    rw [e]
    refine op1_skip rfl ?_; refine zk ?_; refine zk ?_; refine zt ?_; refine zw1 ?_; refine zns ?_; refine wp_true rfl ?_; refine zsr ?_; refine zw1 ?_; refine zw1 ?_; refine zns ?_; refine wp_ret ?_; refine block_ret ?_; refine seq_ret ?_; refine ret_of ?_; refine zr ?_; refine zr ?_; refine rk_nil ?_
    exact ⟨_, rfl, (S.drop hS).slNil⟩
  refine op1_faddr0 rfl rfl ?_; refine zh (S.g0 hS) ?_; refine wpO_cons ?_; refine op1_gtr rfl rfl rfl ?_; refine zu ?_; refine zw1 ?_; refine zns ?_
  refine wp_dec rfl (fun h2 => ?_) (fun h2 => ?_)
  · have e : allocR T cnt al cg top ns = (34, []) := by unfold allocR; rw [if_pos (.inr h2)]
    rw [e]
    refine zsr ?_; refine zw1 ?_; refine zw1 ?_; refine zns ?_; refine wp_ret ?_; refine block_ret ?_; refine seq_ret ?_; refine ret_of ?_; refine zr ?_; refine zr ?_; refine rk_nil ?_
    exact ⟨_, rfl, (S.drop hS).slNil⟩
  skip
  refine wp_cut [25] (fun vs H' => vs = [.bool (decide (al < 1 ∨ 4096 < al ∨ bitAnd .i64 al (al - 1) ≠ 0 ∨ (cg = false ∧ al ≠ 1)))] ∧ H1 = H') ?_ ?_
  · refine wp_region ?_; refine zf ?_; refine zh (S.g0 hS) ?_; refine wpO_cons ?_; refine op1_lss rfl rfl rfl ?_; refine zw1 ?_; refine wpO_cons ?_
    refine op1_dec rfl (fun ha1 => ?_) (fun ha1 => ?_)
    · refine op1_skip rfl ?_; refine zk ?_; refine zk ?_; refine zt ?_; refine zw1 ?_; (iterate 7 refine zk ?_); refine zt ?_; refine zw1 ?_; (iterate 8 refine zk ?_); refine zt ?_; refine zw1 ?_; refine wpO_nil ?_; refine cut1 (by (conv => lhs; whnf) <;> rfl) ?_
      exact ⟨bool_leaf ⟨fun _ => .inl ha1, fun _ => rfl⟩, rfl⟩
    refine op1_faddr0 rfl rfl ?_; refine zh (S.g0 hS) ?_; refine wpO_cons ?_; refine op1_gtr rfl rfl rfl ?_; refine zu ?_; refine zw1 ?_; refine wpO_cons ?_
    refine op1_dec rfl (fun ha2 => ?_) (fun ha2 => ?_)
    · refine op1_skip rfl ?_; (iterate 6 refine zk ?_); refine zt ?_; refine zw1 ?_; (iterate 8 refine zk ?_); refine zt ?_; refine zw1 ?_; refine wpO_nil ?_; refine cut1 (by (conv => lhs; whnf) <;> rfl) ?_
      exact ⟨bool_leaf ⟨fun _ => .inr (.inl ha2), fun _ => rfl⟩, rfl⟩
    refine op1_faddr0 rfl rfl ?_; refine zh (S.g0 hS) ?_; refine zf ?_; refine zh (S.g0 hS) ?_; refine wpO_cons ?_; refine op1_sub rfl rfl rfl (by exact wrap_i64 (by omega) (by omega)) ?_; refine wpO_cons ?_
    refine op1_and rfl rfl rfl ?_
    generalize hba : bitAnd .i64 al (al - 1) = ba
    refine wpO_cons ?_; refine op1_neqI rfl rfl rfl ?_; refine zu ?_; refine zw1 ?_; refine wpO_cons ?_
    refine op1_ndec rfl (fun ha3 => ?_) (fun ha3 => ?_)
    · refine op1_skip rfl ?_; (iterate 7 refine zk ?_); refine zt ?_; refine zw1 ?_; refine wpO_nil ?_; refine cut1 (by (conv => lhs; whnf) <;> rfl) ?_
      exact ⟨bool_leaf ⟨fun _ => .inr (.inr (.inl ha3)), fun _ => rfl⟩, rfl⟩
    refine op1_faddr0 rfl rfl ?_; refine zh (S.g0 hS) ?_; refine wpO_cons ?_; refine op1_not rfl rfl ?_; refine zw1 ?_; refine wpO_cons ?_
    cases cg
    · refine op1_faddr0 rfl rfl ?_; refine zh (S.g0 hS) ?_; refine wpO_cons ?_; refine op1_neqI rfl rfl rfl ?_; refine zt ?_; refine zu ?_; refine zw1 ?_; refine wpO_nil ?_; refine cut1 (by (conv => lhs; whnf) <;> rfl) ?_
      exact ⟨bool_leaf (by simp [ha1, ha2, ha3]), rfl⟩
    · refine op1_skip rfl ?_; refine zk ?_; refine zk ?_; refine zu ?_; refine zu ?_; refine zw1 ?_; refine wpO_nil ?_; refine cut1 (by (conv => lhs; whnf) <;> rfl) ?_
      exact ⟨bool_leaf (by simp [ha1, ha2, ha3]), rfl⟩
  rintro vs2 T2 H2 ⟨rfl, rfl⟩
  refine wp_dec rfl (fun h3 => ?_) (fun h3 => ?_)
  · have e : allocR T cnt al cg top ns = (14, []) := by unfold allocR; rw [if_neg (by omega), if_pos h3]
    rw [e]
    refine zsr ?_; refine zw1 ?_; refine zw1 ?_; refine zns ?_; refine wp_ret ?_; refine block_ret ?_; refine seq_ret ?_; refine ret_of ?_; refine zr ?_; refine zr ?_; refine rk_nil ?_
    exact ⟨_, rfl, (S.drop hS).slNil⟩
  refine wp_skip ?_; refine block_normal ?_; refine seq_normal ?_; refine zsr ?_; refine zw1 ?_; refine zf ?_; refine zh (S.g0 hS) ?_; refine wpO_cons ?_; refine op1_call2 rfl (by (conv => lhs; whnf) <;> rfl) (by (conv => lhs; whnf) <;> rfl) ?_
  have hal : 1 ≤ al ∧ al ≤ 4096 := by omega
  have hcg : cg = false → al = 1 := fun h => Classical.byContradiction fun h2 => h3 (.inr (.inr (.inr ⟨h, h2⟩)))
  refine wpF_mono (L30 hT hix hns (fun H h => hd H (S.drop (S.up1 h))) (S.up1 hS)) ?_
  rintro _ H3 ⟨v0, rfl, hS⟩
  have hao := asked_ok (pls := T.pls) (ns := ns) hT.len
  obtain ⟨idx, hidx⟩ : ∃ z, z = (askedM T.pls ns).2 := ⟨_, rfl⟩
  obtain ⟨er, her⟩ : ∃ z, z = (askedM T.pls ns).1 := ⟨_, rfl⟩
  have eR : allocR T cnt al cg top ns = if er ≠ 0 then (er, []) else if ((if cg then runM T cnt.toNat al.toNat top idx else singles T cnt.toNat top idx).length : Int) < cnt then (23, []) else (0, if cg then runM T cnt.toNat al.toNat top idx else singles T cnt.toNat top idx) := by
    unfold allocR; rw [if_neg (by omega), if_neg h3, ← hidx, ← her]
  rw [eR]
  rw [← hidx] at hS
  rw [← hidx] at hao
  clear eR hidx
  obtain ⟨a0, c0, rfl⟩ := hS.i1
  rw [← her]
  clear her
  refine zw1 ?_; refine wpO_cons ?_; refine op1_extract rfl rfl rfl ?_; refine wpO_cons ?_; refine op1_extract rfl rfl rfl ?_; refine zw1 ?_; refine zw1 ?_; refine zns ?_; refine wp_seq ?_; refine zsr ?_; refine zw1 ?_; refine wpO_cons ?_; refine op1_neqI rfl rfl rfl ?_; refine zns ?_
  refine wp_ndec rfl (fun he => ?_) (fun he => ?_)
  · rw [if_pos he]
    refine zsr ?_; refine zw1 ?_; refine zw1 ?_; refine zw1 ?_; refine zns ?_; refine wp_ret ?_; refine seq_ret ?_; refine ret_of ?_; refine zr ?_; refine zr ?_; refine rk_nil ?_
    exact ⟨_, rfl, S.drop (S.up2 (S.drop (S.up1 (S.slNil (es := 1) hS))))⟩
  rw [if_neg (by simp [he])]
  obtain ⟨cn2, rfl⟩ : ∃ n : Nat, cnt = n := ⟨cnt.toNat, by omega⟩
  obtain ⟨al2, rfl⟩ : ∃ n : Nat, al = n := ⟨al.toNat, by omega⟩
  rw [Int.toNat_natCast, Int.toNat_natCast]
  obtain ⟨out, hout⟩ : ∃ z, z = if cg = true then runM T cn2 al2 top idx else singles T cn2 top idx := ⟨_, rfl⟩
  rw [← hout]
  refine wp_skip ?_; refine seq_normal ?_; refine zsr ?_; refine zw1 ?_; refine wpO_cons ?_
  refine op1_mkfuncB rfl rfl ?_
  refine zw1 ?_; refine zns ?_
  refine wp_cut [8] (fun vs H' => vs = [.func (.func (if cg then 32 else 31)) ⟨[.pointer (some ⟨t, 0, none⟩)]⟩ ⟨[]⟩] ∧ H3 = H') ?_ ?_
  · cases cg
    · refine zsr ?_; refine zf ?_; refine zh (S.g2 hS) ?_; refine zns ?_; refine wp_false rfl ?_; refine wp_skip ?_; refine cut1 (by (conv => lhs; whnf) <;> rfl) ?_
      exact ⟨rfl, rfl⟩
    · refine zsr ?_; refine zf ?_; refine zh (S.g2 hS) ?_; refine zns ?_; refine wp_true rfl ?_; refine wp_region ?_; refine zw1 ?_; refine wpO_cons ?_
      refine op1_mkfuncB rfl rfl ?_
      refine zw1 ?_; refine wpO_nil ?_; refine cut1 (by (conv => lhs; whnf) <;> rfl) ?_
      exact ⟨rfl, rfl⟩
  rintro vs3 T3 H4 ⟨rfl, rfl⟩
  skip
  have hio : ∀ n ∈ out, ∃ i ∈ idx, FreeIn T.m (poolOf T i) n := by
    intro n hn
    rw [hout] at hn
    split at hn
    · exact runM_in hT (by omega) (by omega) hao.2 hn
    · exact singles_in hT hao.2 hn
  have hol : out.length ≤ 4096 := by
    rw [hout]
    split
    · suffices h : ∀ l, (runM T cn2 al2 top l).length ≤ cn2 by have := h idx; omega
      intro l
      induction l with
      | nil => simp [runM]
      | cons i is ih => rw [runM]; split; rw [consec_len]; exact Nat.le_refl _; exact ih
    · have := singles_len T cn2 top idx; omega
  refine wp_cut [9] (fun vs H' => ∃ ao co, vs = [.slice ao out.length co] ∧ S B H' (sl 1 (.slice ao out.length co) (i64s out) :: repT t T :: pto p1 (.cells [.slice an ns.length cn, .int .i64 (cn2 : Nat), .int .i64 (al2 : Nat), .bool cg, .bool top] 0 false) :: As)) ?_ ?_
  · cases cg
    · refine wp_region ?_; refine zw1 ?_; refine zw1 ?_; refine wpO_cons ?_; refine op1_load_5 rfl rfl (by exact S.g2 hS) rfl rfl ?_; refine wpO_cons ?_
      refine op1_bnd2 rfl rfl rfl rfl ?_
      refine wpF_mono (L31 (cg := false) hT hao.2 hao.1 (by omega) (S.up1 hS)) ?_
      rintro v1 H5 hS
      rw [if_neg (by simp)] at hout
      rw [← hout] at hS
      obtain ⟨a1, c1, rfl⟩ := hS.i1
      refine zw1 ?_; refine wpO_nil ?_; refine cut1 (by (conv => lhs; whnf) <;> rfl) ?_
      exact ⟨a1, c1, rfl, S.dn1 (S.drop (S.up2 (S.up1 hS)))⟩
    · refine wp_region ?_; refine zw1 ?_; refine zw1 ?_; refine wpO_cons ?_; refine op1_load_5 rfl rfl (by exact S.g2 hS) rfl rfl ?_; refine wpO_cons ?_
      refine op1_bnd2 rfl rfl rfl rfl ?_
      refine wpF_mono (L32 (cg := true) hT hao.2 hao.1 (by omega) (by omega) (S.up1 hS)) ?_
      rintro v1 H5 hS
      rw [if_pos rfl] at hout
      rw [← hout] at hS
      obtain ⟨a1, c1, rfl⟩ := hS.i1
      refine zw1 ?_; refine wpO_nil ?_; refine cut1 (by (conv => lhs; whnf) <;> rfl) ?_
      exact ⟨a1, c1, rfl, S.dn1 (S.drop (S.up2 (S.up1 hS)))⟩
  clear hS hout
  rintro vs4 T4 H5 ⟨ao, co, rfl, hS⟩
  refine wp_seq ?_; refine zsr ?_; refine zw1 ?_; refine wpO_cons ?_; refine op1_len rfl rfl ?_; refine zf ?_; refine zh (S.g2 hS) ?_; refine wpO_cons ?_; refine op1_lss rfl rfl rfl ?_; refine zns ?_
  refine wp_dec rfl (fun h5 => ?_) (fun h5 => ?_)
  · simp only [if_pos h5]
    refine zsr ?_; refine zw1 ?_; refine zw1 ?_; refine zns ?_; refine wp_ret ?_; refine seq_ret ?_; refine ret_of ?_; refine zr ?_; refine zr ?_; refine rk_nil ?_
    exact ⟨_, rfl, S.drop (S.up2 (S.drop (S.up1 (S.slNil (es := 1) hS))))⟩
  simp only [if_neg h5]
  have hpl0 : out.length ≠ 0 → T.pls.length ≠ 0 := by
    intro h0
    obtain ⟨n, hn⟩ := List.exists_mem_of_length_pos (l := out) (by omega)
    obtain ⟨i, hi, _⟩ := hio n hn
    have := hao.2 i hi
    omega
  refine wp_skip ?_; refine seq_normal ?_; refine wp_seq ?_; refine zsr ?_; refine zw1 ?_; refine wpO_cons ?_; refine op1_len rfl rfl ?_; refine zw1 ?_; refine zns ?_; refine wp_block ?_
  refine wp_loop [80] (fun k vs H' => ∃ i : Nat, vs = [.int .i64 i] ∧ k = out.length - i ∧ i ≤ out.length ∧ S B H' (sl 1 (.slice ao out.length co) (i64s out) :: repT t (T.wm ((out.take i).foldl (takeF T.pls) T.m)) :: pto p1 (.cells [.slice an ns.length cn, .int .i64 (cn2 : Nat), .int .i64 (al2 : Nat), .bool cg, .bool top] 0 false) :: As))
    ⟨_, 0, rfl, rfl, by omega, hS⟩ ?_
  clear hS
  rintro k vs T' H6 ⟨i, rfl, rfl, hi, hS⟩
  refine zsr ?_; refine wpO_cons ?_; refine op1_lss rfl rfl rfl ?_; refine zns ?_; refine wp_seq ?_
  refine wp_dec rfl (fun hlt => ?_) (fun hlt => ?_)
  · obtain ⟨y, hy⟩ : ∃ x, out[i]? = some x := ⟨out[i]'(by omega), by simp⟩
    obtain ⟨ix, hix2, hyf⟩ := hio y (List.mem_of_getElem? hy)
    have hyd : y ∈ T.m.dom := hyf.dom (poolOf_ok hT (hao.2 ix hix2).1 (hao.2 ix hix2).2)
    have hnx : (out.take (i + 1)).foldl (takeF T.pls) T.m = takeF T.pls ((out.take i).foldl (takeF T.pls) T.m) y := by rw [List.take_add_one, hy, Option.toList_some, List.foldl_append]; rfl
    have htd := takes_dom T.pls (out.take i) T.m
    have htt := takes_dat T.pls (out.take i) T.m hT.dat
    obtain ⟨M, hM⟩ : ∃ M, M = (out.take i).foldl (takeF T.pls) T.m := ⟨_, rfl⟩
    rw [← hM] at hnx htd htt hS
    have hyM : y ∈ M.dom := by rw [htd.1]; exact hyd
    have hpo := hT.pool y hyd
    rw [← htd.2.1] at hpo
    obtain ⟨bo, off, cs, rfl, _⟩ := S.slBlk hS (by omega)
    refine wp_skip ?_; refine seq_normal ?_; refine wp_seq ?_; refine wp_block ?_; refine zsr ?_; refine wpO_cons ?_; refine op1_iaddr rfl rfl rfl (by omega) (by omega) ?_; refine wpO_cons ?_
    refine op1_loadL rfl rfl hS rfl (by omega) (i64s_at hy) ?_
    obtain ⟨pb, po, pc, m1, m2, hpc, hS⟩ := openT1 (T := T.wm M) (S.up1 hS) (hpl0 (by omega))
    unfold tabC at hS
    simp only [Tb.wm] at hS hpc
    refine zw1 ?_; refine zns ?_; refine zsr ?_; refine zw1 ?_; refine zn ?_; refine zf ?_; refine zh (S.g0 hS) ?_; refine zw1 ?_; refine wpO_cons ?_
    refine op1_lookS1 keyI rfl rfl rfl (S.up3 hS) ?_
    rw [fkv_get, if_pos hyM, Option.getD_some]
    replace hS := S.frAt (S.up4 hS) hyM
    unfold frC at hS
    obtain ⟨pn, hpn⟩ : ∃ n : Nat, M.pool y = n := ⟨(M.pool y).toNat, by omega⟩
    rw [hpn] at hS hpo
    obtain ⟨p, hp⟩ : ∃ p, T.pls[pn]? = some p := ⟨T.pls[pn]'(by omega), by simp⟩
    have hgp : (T.pls.getD (M.pool y).toNat default) = p := by rw [hpn, Int.toNat_natCast, List.getD_eq_getElem?_getD, hp]; rfl
    obtain ⟨dt, hdt⟩ : ∃ d, d = M.dat y := ⟨_, rfl⟩
    rw [← hdt] at hS
    have hdl := htt y
    rw [← hdt] at hdl
    refine zw1 ?_; refine zns ?_; refine zsr ?_; refine zw1 ?_; refine zn ?_; refine zf ?_; refine wpO_cons ?_; (refine op1_store1S rfl rfl (by (conv => lhs; whnf) <;> rfl) rfl rfl (S.up0 hS) rfl ?_; intro H2 hS; replace hS := S.dn0 hS); refine zns ?_
    refine wp_cut [121] (fun vs H' => vs = [.bool (wipes p.keep dt)] ∧ H2 = H') ?_ ?_
    · refine wp_regionD ?_; refine zd1 ?_; refine zm ?_; refine zg ?_; refine zj (S.g3 hS) ?_; refine zd1 ?_; refine zm ?_; refine zg ?_; refine zj (S.g0 hS) ?_; refine wpD_cons ?_; refine op1_iaddr rfl rfl rfl (by omega) (by omega) ?_; refine wpD_cons ?_; refine op1_faddr rfl rfl ?_; refine wpD_cons ?_
      obtain ⟨kp, hkp⟩ : ∃ k, k = p.keep := ⟨_, rfl⟩
      have hkeep := plC_keep hp
      rw [← hkp] at hkeep ⊢
      refine op1_loadL rfl rfl (S.up4 hS) (by rw [Int.toNat_natCast, Nat.add_assoc]) (by omega) hkeep ?_
      cases kp
      · cases dt with
        | none =>
          unfold datV at hS
          refine wpD_cons ?_; refine op1_not_f rfl rfl ?_; refine zd1 ?_; refine zd1 ?_; refine zm ?_; refine zg ?_; refine zj (S.g0 hS) ?_; refine wpD_cons ?_; refine op1_bin_false rfl (by (conv => lhs; whnf) <;> rfl) (by (conv => lhs; whnf) <;> rfl) rfl ?_; refine wpD_cons ?_; refine op1_pick_t rfl rfl (by (conv => lhs; whnf) <;> rfl) ?_; refine zd1 ?_; (iterate 8 refine zl ?_); refine wpD_cons ?_; refine op1_pick_f rfl rfl (by (conv => lhs; whnf) <;> rfl) ?_; refine wpD_nil ?_; refine dk_of ?_ ?_; (iterate 3 refine chk_skip ?_); refine zx 26 ?_ ?_; refine zy 0 ?_ ?_; exact zq (S.g3 hS); exact chkFs_nil; (iterate 3 refine chk_skip ?_); refine zx 22 ?_ ?_; refine zy 0 ?_ ?_; exact zq (S.g0 hS); exact chkFs_nil; (iterate 2 refine chk_skip ?_); refine zx 19 ?_ ?_; refine zy 0 ?_ ?_
          · exact chk_loadL rfl (S.up4 hS) (by rw [Int.toNat_natCast, Nat.add_assoc]) (by omega) hkeep rfl
          exact chkFs_nil; (iterate 5 refine chk_skip ?_); refine zx 13 ?_ ?_; refine zy 0 ?_ ?_; exact zq (S.g0 hS); exact chkFs_nil; (iterate 6 refine chk_skip ?_); refine chk_unw 6 rfl rfl rfl ?_; refine chk_skip ?_; refine chk_unw 4 rfl rfl rfl ?_; (iterate 3 refine chk_skip ?_); exact chk_end; refine cut1 (by (conv => lhs; whnf) <;> rfl) ?_
          exact ⟨rfl, rfl⟩
        | some d =>
          unfold datV ptrV datA at hS
          have hd64 := hdl d rfl
          refine wpD_cons ?_; refine op1_not_f rfl rfl ?_; refine zd1 ?_; refine zd1 ?_; refine zm ?_; refine zg ?_; refine zj (S.g0 hS) ?_; refine wpD_cons ?_; refine op1_bin_true rfl (by (conv => lhs; whnf) <;> rfl) (by (conv => lhs; whnf) <;> rfl) rfl ?_; refine wpD_cons ?_; refine op1_pick_t rfl rfl (by (conv => lhs; whnf) <;> rfl) ?_; refine zd1 ?_; refine zd1 ?_; refine zm ?_; refine zg ?_; refine zj (S.g0 hS) ?_; refine zm ?_; refine wpD_cons ?_
          refine op1_loadN rfl rfl (S.g1 hS) (by rw [u8s_length, hd64]; decide) (by rw [List.drop_zero, List.take_of_length_le (by rw [u8s_length, hd64]; decide)]) ?_
          refine wpD_cons ?_; refine op1_build rfl ?_; refine bk_nil ?_; refine wpD_cons ?_
          refine op1_neqPage (a := d.2) (b := zeros) rfl rfl rfl hd64 (by decide) ?_
          refine wpD_cons ?_; refine op1_pick_t rfl rfl (by (conv => lhs; whnf) <;> rfl) ?_; refine wpD_nil ?_; refine dk_of ?_ ?_; (iterate 3 refine chk_skip ?_); refine zx 26 ?_ ?_; refine zy 0 ?_ ?_; exact zq (S.g3 hS); exact chkFs_nil; (iterate 3 refine chk_skip ?_); refine zx 22 ?_ ?_; refine zy 0 ?_ ?_; exact zq (S.g0 hS); exact chkFs_nil; (iterate 2 refine chk_skip ?_); refine zx 19 ?_ ?_; refine zy 0 ?_ ?_
          · exact chk_loadL rfl (S.up4 hS) (by rw [Int.toNat_natCast, Nat.add_assoc]) (by omega) hkeep rfl
          exact chkFs_nil; (iterate 5 refine chk_skip ?_); refine zx 13 ?_ ?_; refine zy 0 ?_ ?_; exact zq (S.g0 hS); exact chkFs_nil; (iterate 6 refine chk_skip ?_); refine zx 6 ?_ ?_; refine zy 0 ?_ ?_; exact zq (S.g0 hS); exact chkFs_nil; refine chk_skip ?_; refine zx 4 ?_ ?_; refine zy 0 ?_ ?_
          · exact chk_loadN rfl (S.g1 hS) (by rw [u8s_length, hd64]; rfl) rfl (by rw [List.drop_zero, List.take_of_length_le (by rw [u8s_length, hd64]; decide)])
          exact chkFs_nil; (iterate 3 refine chk_skip ?_); exact chk_end; refine cut1 (by (conv => lhs; whnf) <;> rfl) ?_
          exact ⟨by simp [wipes], rfl⟩
      · refine wpD_cons ?_; refine op1_not_t rfl rfl ?_; refine zd1 ?_; (iterate 5 refine zl ?_); refine wpD_cons ?_; refine op1_pick_f rfl rfl (by (conv => lhs; whnf) <;> rfl) ?_; refine zd1 ?_; (iterate 8 refine zl ?_); refine wpD_cons ?_; refine op1_pick_f rfl rfl (by (conv => lhs; whnf) <;> rfl) ?_; refine wpD_nil ?_; refine dk_of ?_ ?_; (iterate 3 refine chk_skip ?_); refine zx 26 ?_ ?_; refine zy 0 ?_ ?_; exact zq (S.g3 hS); exact chkFs_nil; (iterate 3 refine chk_skip ?_); refine zx 22 ?_ ?_; refine zy 0 ?_ ?_; exact zq (S.g0 hS); exact chkFs_nil; (iterate 2 refine chk_skip ?_); refine zx 19 ?_ ?_; refine zy 0 ?_ ?_
        · exact chk_loadL rfl (S.up4 hS) (by rw [Int.toNat_natCast, Nat.add_assoc]) (by omega) hkeep rfl
        exact chkFs_nil; (iterate 5 refine chk_skip ?_); refine chk_unw 13 rfl rfl rfl ?_; (iterate 6 refine chk_skip ?_); refine chk_unw 6 rfl rfl rfl ?_; refine chk_skip ?_; refine chk_unw 4 rfl rfl rfl ?_; (iterate 3 refine chk_skip ?_); exact chk_end; refine cut1 (by (conv => lhs; whnf) <;> rfl) ?_
        refine ⟨?_, rfl⟩
        cases dt <;> simp [wipes]
    rintro vs7 T7 H7 ⟨rfl, rfl⟩
    have hndM : M.dom.Nodup := by rw [htd.1]; exact hT.m.nd
    refine wp_cond rfl (fun hw => ?_) (fun hw => ?_)
    · have ew : wipe p.keep dt = none := by rw [wipe_eq, if_pos hw]
      refine wp_region ?_; refine zw1 ?_; refine zn ?_; refine zf ?_; refine wpO_cons ?_; (refine op1_store1S rfl rfl (by (conv => lhs; whnf) <;> rfl) rfl rfl (S.up0 hS) rfl ?_; intro H4 hS; replace hS := S.dn0 hS); refine wpO_nil ?_; refine block_normal ?_; refine seq_normal ?_; refine wp_region ?_; refine wpO_cons ?_; refine op1_add rfl rfl rfl (by exact wrap_i64 (by omega) (by omega)) ?_; refine zw1 ?_; refine wpO_nil ?_
      refine ⟨⟨out.length - (i + 1), by omega, i + 1, rfl, rfl, by omega, ?_⟩⟩
      rw [hnx]
      have eM : takeF T.pls M y = (M.setRefs y 1).setDat y (wipe p.keep dt) := by unfold takeF; rw [hgp, ← hdt]
      rw [eM, ew]
      have hput := S.frPut (M := M) (M' := (M.setRefs y 1).setDat y none) hyM rfl hndM (fun k hk => frA_setDat hk) (As := _) (B := B) (H := _) (by
        have e1 : ((M.setRefs y 1).setDat y none).refs y = 1 := by simp [Fm.setRefs, Fm.setDat]
        have e2 : ((M.setRefs y 1).setDat y none).dat y = none := by simp [Fm.setDat]
        have e3 : ((M.setRefs y 1).setDat y none).pool y = (pn : Nat) := hpn
        rw [e1, e2, e3]
        exact S.up1 (S.pur trivial (S.drop (S.up1 hS))))
      exact S.up1 (closeT (pv := .slice (some ⟨pb, po, none⟩) T.pls.length pc) (m1 := m1) (m2 := m2) (T := T.wm ((M.setRefs y 1).setDat y none)) (S.dn4 hput))
    · have ew : wipe p.keep dt = dt := by rw [wipe_eq, if_neg (by simp [hw])]
      refine wp_skip ?_; refine block_normal ?_; refine seq_normal ?_; refine wp_region ?_; refine wpO_cons ?_; refine op1_add rfl rfl rfl (by exact wrap_i64 (by omega) (by omega)) ?_; refine zw1 ?_; refine wpO_nil ?_
      refine ⟨⟨out.length - (i + 1), by omega, i + 1, rfl, rfl, by omega, ?_⟩⟩
      rw [hnx]
      have eM : takeF T.pls M y = (M.setRefs y 1).setDat y (wipe p.keep dt) := by unfold takeF; rw [hgp, ← hdt]
      rw [eM, ew]
      have hput := S.frPut (M := M) (M' := (M.setRefs y 1).setDat y dt) hyM rfl hndM (fun k hk => frA_setDat hk) (As := _) (B := B) (H := _) (by
        have e1 : ((M.setRefs y 1).setDat y dt).refs y = 1 := by simp [Fm.setRefs, Fm.setDat]
        have e2 : ((M.setRefs y 1).setDat y dt).dat y = dt := by simp [Fm.setDat]
        have e3 : ((M.setRefs y 1).setDat y dt).pool y = (pn : Nat) := hpn
        rw [e1, e2, e3]
        exact hS)
      exact S.up1 (closeT (pv := .slice (some ⟨pb, po, none⟩) T.pls.length pc) (m1 := m1) (m2 := m2) (T := T.wm ((M.setRefs y 1).setDat y dt)) (S.dn4 hput))
  · refine wp_exit ?_; refine seq_exit ?_; refine iter_exit ?_; refine block_exit ?_; refine seq_normal ?_; refine zsr ?_; refine zw1 ?_; refine zw1 ?_; refine zw1 ?_; refine zns ?_; refine wp_ret ?_; refine ret_of ?_; refine zr ?_; refine zr ?_; refine rk_nil ?_
    rw [show out.take i = out from List.take_of_length_le (by omega)] at hS
    exact ⟨_, rfl, S.drop (S.up2 hS)⟩
end Go.E.Fa
