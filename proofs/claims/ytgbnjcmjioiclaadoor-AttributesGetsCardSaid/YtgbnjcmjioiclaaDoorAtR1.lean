/- Attributes: the reference's table over the same plain table; New, object, open. -/
import Derived.Test.YtgbnjcmjioiclaaDoorAtF1
import Derived.Test.YtgbnjcmjioiclaaDoorAtCode
import Derived.Test.YtgbnjcmjioiclaaDoorAtQ2
import Derived.Test.YtgbnjcmjioiclaaDoorAtP1
namespace Go.E.At
open Go Go.E Go.Proofs.YtgbnjcmjioiclaaDoor.base Go.Proofs.YtgbnjcmjioiclaaDoor Go.Proofs
set_option linter.unusedVariables false
set_option linter.unusedSimpArgs false
set_option maxRecDepth 100000
section
variable {Y : Type} {r : Y → List Value} {n : Nat}
theorem fm_len (hr : ∀ y, (r y).length = n) (l : List Y) : (l.flatMap r).length = l.length * n := by
  induction l with
  | nil => simp
  | cons y l ih => rw [List.flatMap_cons, List.length_append, hr, ih, List.length_cons, Nat.add_mul]; omega
theorem fm_split (hr : ∀ y, (r y).length = n) {l : List Y} {i : Nat} {y : Y} (hy : l[i]? = some y) : ∃ a b, l = a ++ y :: b ∧ a.length = i ∧ (∀ y', l.set i y' = a ++ y' :: b) ∧ l.flatMap r = a.flatMap r ++ (r y ++ b.flatMap r) ∧ (a.flatMap r).length = i * n := by
  induction l generalizing i with
  | nil => cases hy
  | cons z l ih =>
    cases i with
    | zero =>
      simp only [List.getElem?_cons_zero, Option.some.injEq] at hy
      subst hy
      exact ⟨[], l, rfl, rfl, fun _ => rfl, by simp, by simp⟩
    | succ i =>
      rw [List.getElem?_cons_succ] at hy
      obtain ⟨a, b, h1, h2, h3, h4, h5⟩ := ih hy
      refine ⟨z :: a, b, by rw [h1]; rfl, by simp [h2], fun y' => by simp [h3], by rw [List.flatMap_cons, h4, List.flatMap_cons, List.append_assoc], by rw [List.flatMap_cons, List.length_append, h5, hr, Nat.add_mul]; omega⟩
theorem fm_get (hr : ∀ y, (r y).length = n) {l : List Y} {i j : Nat} {y : Y} (hy : l[i]? = some y) (hj : j < n) : (l.flatMap r)[i * n + j]? = (r y)[j]? := by
  obtain ⟨a, b, _, _, _, h4, h5⟩ := fm_split hr hy
  rw [h4, List.getElem?_append_right (by omega), h5, List.getElem?_append_left (by rw [hr]; omega)]
  congr 1
  omega
theorem fm_set (hr : ∀ y, (r y).length = n) {l : List Y} {i j : Nat} {y y' : Y} {v : Value} (hy : l[i]? = some y) (hj : j < n) (he : (r y).set j v = r y') : (l.flatMap r).set (i * n + j) v = (l.set i y').flatMap r := by
  obtain ⟨a, b, _, _, h3, h4, h5⟩ := fm_split hr hy
  rw [h4, h3, List.set_append_right _ _ (by omega), h5, List.set_append_left _ _ (by rw [hr]; omega), List.flatMap_append, List.flatMap_cons, ← he]
  congr 4
  omega
theorem fm_cut (hr : ∀ y, (r y).length = n) {l : List Y} {i j m : Nat} {y : Y} (hy : l[i]? = some y) (hj : j + m ≤ n) : ((l.flatMap r).drop (i * n + j)).take m = ((r y).drop j).take m := by
  obtain ⟨a, b, _, _, _, h4, h5⟩ := fm_split hr hy
  rw [h4, List.drop_append, List.drop_eq_nil_of_le (by omega), List.nil_append, h5, show i * n + j - i * n = j by omega, List.drop_append, List.take_append]
  rw [List.length_drop, hr, show m - (n - j) = 0 by omega, List.take_zero, List.append_nil]
end
def rowO (y : Int × Ob) : List Value := .int .i64 y.1 :: y.2.cells
def rowB (y : Int × Bk) : List Value := .int .i64 y.1 :: y.2.cells
theorem rowO_len (y : Int × Ob) : (rowO y).length = 7 := rfl
theorem rowB_len (y : Int × Bk) : (rowB y).length = 7 := rfl
def rfC (t : Tb) (v1 v2 : Value) : List Value := [v1, v2, .int .i64 t.lo, .int .i64 t.lb]
def refP (p : Nat) (t : Tb) : Asn := exA fun (x : Value × Value) => seps [pto p (.cells (rfC t x.1 x.2) 0 false), sl 7 x.1 (t.os.flatMap rowO), sl 7 x.2 (t.bs.flatMap rowB)]
section
variable {B H : AHeap} {As : List Asn} {t : Tb} {p : Nat} {id : Int}
theorem openR (h : S B H (refP p t :: As)) : ∃ a1 c1 a2 c2, S B H (pto p (.cells (rfC t (.slice a1 t.os.length c1) (.slice a2 t.bs.length c2)) 0 false) :: sl 7 (.slice a1 t.os.length c1) (t.os.flatMap rowO) :: sl 7 (.slice a2 t.bs.length c2) (t.bs.flatMap rowB) :: As) := by
  obtain ⟨⟨v1, v2⟩, h⟩ := S.unex h
  have h := S.unseps h
  obtain ⟨a1, l1, c1, e1, h1⟩ := S.shape (S.up1 h)
  obtain ⟨a2, l2, c2, e2, h2⟩ := S.shape (S.up2 h)
  rw [fm_len rowO_len] at h1
  rw [fm_len rowB_len] at h2
  have h1 : l1 = t.os.length := by omega
  have h2 : l2 = t.bs.length := by omega
  simp only at e1 e2
  subst e1 e2 h1 h2
  exact ⟨a1, c1, a2, c2, h⟩
theorem closeR {v1 v2 : Value} (h : S B H (pto p (.cells (rfC t v1 v2) 0 false) :: sl 7 v1 (t.os.flatMap rowO) :: sl 7 v2 (t.bs.flatMap rowB) :: As)) : S B H (refP p t :: As) :=
  S.exI (X := Value × Value) (v1, v2) (S.seps (L := [_, _, _]) h)
theorem L18 (hS : S B H As) : wpF C 18 [] H fun v H' => ∃ p, v = ptrB p ∧ S B H' (refP p ⟨[], 0, [], 0⟩ :: As) := by
  refine wpF_ofW o18 rfl rfl ?_
  refine zsr ?_; refine zw1 ?_; refine zns ?_; refine zsr ?_; refine wpO_cons ?_; refine op1_build rfl ?_; refine bk_nil ?_; refine wpO_cons ?_; refine op1_boxNS rfl rfl rfl hS ?_; intro p1 H1 hS; refine zw1 ?_; refine zns ?_; refine wp_ret ?_; refine ret_of ?_; refine zr ?_; refine rk_nil ?_
  exact ⟨_, rfl, closeR (t := ⟨[], 0, [], 0⟩) (S.up2 (S.slNil (S.slNil hS)))⟩
structure At {X : Type} (l : List (Int × X)) (k : Int) (i : Nat) (x : X) : Prop where
  get : l[i]? = some (k, x)
  is : gGet l k = some x
  set : ∀ x', l.set i (k, x') = gSet l k x'
  del : l.take i ++ l.drop (i + 1) = gDel l k
theorem At.of {X : Type} {l : List (Int × X)} {k : Int} {i : Nat} {x : X} (h : l[i]? = some (k, x)) (hn : ∀ y ∈ l.take i, k ≠ y.1) : At l k i x := by
  induction l generalizing i with
  | nil => cases h
  | cons z l ih =>
    cases i with
    | zero =>
      simp only [List.getElem?_cons_zero, Option.some.injEq] at h
      subst h
      exact ⟨rfl, by simp [gGet], fun x' => by simp [gSet], by simp [gDel]⟩
    | succ i =>
      rw [List.getElem?_cons_succ] at h
      have hz : k ≠ z.1 := hn z (by simp)
      have := ih h fun y hy => hn y (by simp [hy])
      exact ⟨by rw [List.getElem?_cons_succ]; exact h, by rw [gGet, if_neg hz]; exact this.is, fun x' => by rw [gSet, if_neg hz, ← this.set]; rfl, by rw [gDel, if_neg hz, ← this.del]; rfl⟩
theorem L68o {a1 a2 : Option Addr} {c1 c2 : Nat} (ht : TbOk t) (hS : S B H (pto p (.cells (rfC t (.slice a1 t.os.length c1) (.slice a2 t.bs.length c2)) 0 false) :: sl 7 (.slice a1 t.os.length c1) (t.os.flatMap rowO) :: sl 7 (.slice a2 t.bs.length c2) (t.bs.flatMap rowB) :: As)) : wpF C 68 [ptrB p, .int .i64 id] H fun v H' => S B H' (pto p (.cells (rfC t (.slice a1 t.os.length c1) (.slice a2 t.bs.length c2)) 0 false) :: sl 7 (.slice a1 t.os.length c1) (t.os.flatMap rowO) :: sl 7 (.slice a2 t.bs.length c2) (t.bs.flatMap rowB) :: As) ∧ ((gGet t.os id = none ∧ v = .int .i64 (-1)) ∨ ∃ i x, At t.os id i x ∧ i < t.os.length ∧ v = .int .i64 i) := by
  refine wpF_ofW o68 rfl rfl ?_
  unfold rfC at hS
  unfold ptrB
  refine zsr ?_; refine zw1 ?_; refine zns ?_; refine wp_seq ?_; refine zsr ?_; refine zw1 ?_; refine zns ?_; refine wp_block ?_
  refine wp_loop [5] (fun k vs H' => ∃ (i : Nat), vs = [.int .i64 i] ∧ k = t.os.length - i ∧ i ≤ t.os.length ∧ (∀ y ∈ t.os.take i, id ≠ y.1) ∧ S B H' (pto p (.cells [.slice a1 t.os.length c1, .slice a2 t.bs.length c2, .int .i64 t.lo, .int .i64 t.lb] 0 false) :: sl 7 (.slice a1 t.os.length c1) (t.os.flatMap rowO) :: sl 7 (.slice a2 t.bs.length c2) (t.bs.flatMap rowB) :: As)) ⟨_, 0, rfl, rfl, by omega, by simp, hS⟩ ?_
  clear hS
  rintro k vs T2 H2 ⟨i, rfl, rfl, hi, hno, hS⟩
  have hlo := ht.osL
  refine wp_seq ?_; refine zsr ?_; refine zw1 ?_; refine zw1 ?_; refine zn ?_; refine zf ?_; refine zh (S.g0 hS) ?_; refine wpO_cons ?_; refine op1_len rfl rfl ?_; refine wpO_cons ?_; refine op1_lss rfl rfl rfl ?_; refine zns ?_
  refine wp_dec rfl (fun h1 => ?_) (fun h1 => ?_)
  · obtain ⟨y, hy⟩ : ∃ y, t.os[i]? = some y := ⟨_, List.getElem?_eq_getElem (by omega)⟩
    obtain ⟨b, off, cs, rfl, hg, hcl, hdt, hj⟩ := S.elt (S.up1 hS) (i := i) (by omega)
    have hv : cs[off + i * 7 + 0]? = some (.int .i64 y.1) := (hj 0 (by omega)).trans ((fm_get rowO_len hy (by omega)).trans rfl)
    refine wp_skip ?_; refine seq_normal ?_; refine wp_seq ?_; refine wp_block ?_; refine zsr ?_; refine zw1 ?_; refine zn ?_; refine zf ?_; refine zh (S.g0 hS) ?_; refine zw1 ?_; refine wpO_cons ?_; refine op1_iaddr rfl rfl rfl (by omega) (by omega) ?_; refine wpO_cons ?_; refine op1_faddr rfl rfl ?_; refine wpO_cons ?_
    refine op1_load rfl rfl hg hv ?_
    refine zw1 ?_; refine wpO_cons ?_; refine op1_eqlI rfl rfl rfl ?_; refine zns ?_
    refine wp_dec rfl (fun h2 => ?_) (fun h2 => ?_)
    · refine zsr ?_; refine zw1 ?_; refine zw1 ?_; refine zns ?_; refine wp_ret ?_; refine block_ret ?_; refine seq_ret ?_; refine iter_ret ?_; refine block_ret ?_; refine seq_ret ?_; refine ret_of ?_; refine zr ?_; refine rk_nil ?_
      refine ⟨hS, .inr ⟨i, y.2, ?_, by omega, rfl⟩⟩
      subst h2
      exact At.of hy hno
    · refine wp_skip ?_; refine block_normal ?_; refine seq_normal ?_; refine wp_region ?_; refine zw1 ?_; refine wpO_cons ?_; refine op1_add rfl rfl rfl (by exact wrap_i64 (by omega) (by omega)) ?_; refine zw1 ?_; refine wpO_nil ?_
      refine ⟨t.os.length - (i + 1), by omega, i + 1, rfl, rfl, by omega, fun z hz => ?_, hS⟩
      rw [List.take_add_one, hy] at hz
      rcases List.mem_append.1 hz with h | h
      · exact hno z h
      · simp at h
        rw [h]
        exact fun e => h2 e.symm
  · refine wp_exit ?_; refine seq_exit ?_; refine iter_exit ?_; refine block_exit ?_; refine seq_normal ?_; refine zsr ?_; refine zw1 ?_; refine zns ?_; refine wp_ret ?_; refine ret_of ?_; refine zr ?_; refine rk_nil ?_
    refine ⟨hS, .inl ⟨gGet_none.2 ?_, rfl⟩⟩
    rw [List.take_of_length_le (by omega)] at hno
    intro hm
    obtain ⟨y, hy, e⟩ := List.mem_map.1 hm
    exact hno y hy e.symm
theorem L69o {a1 a2 : Option Addr} {c1 c2 : Nat} (ht : TbOk t) (hS : S B H (pto p (.cells (rfC t (.slice a1 t.os.length c1) (.slice a2 t.bs.length c2)) 0 false) :: sl 7 (.slice a1 t.os.length c1) (t.os.flatMap rowO) :: sl 7 (.slice a2 t.bs.length c2) (t.bs.flatMap rowB) :: As)) : wpF C 69 [ptrB p, .int .i64 id] H fun v H' => S B H' (pto p (.cells (rfC t (.slice a1 t.os.length c1) (.slice a2 t.bs.length c2)) 0 false) :: sl 7 (.slice a1 t.os.length c1) (t.os.flatMap rowO) :: sl 7 (.slice a2 t.bs.length c2) (t.bs.flatMap rowB) :: As) ∧ ((gGet t.bs id = none ∧ v = .int .i64 (-1)) ∨ ∃ i x, At t.bs id i x ∧ i < t.bs.length ∧ v = .int .i64 i) := by
  refine wpF_ofW o69 rfl rfl ?_
  unfold rfC at hS
  unfold ptrB
  refine zsr ?_; refine zw1 ?_; refine zns ?_; refine wp_seq ?_; refine zsr ?_; refine zw1 ?_; refine zns ?_; refine wp_block ?_
  refine wp_loop [5] (fun k vs H' => ∃ (i : Nat), vs = [.int .i64 i] ∧ k = t.bs.length - i ∧ i ≤ t.bs.length ∧ (∀ y ∈ t.bs.take i, id ≠ y.1) ∧ S B H' (pto p (.cells [.slice a1 t.os.length c1, .slice a2 t.bs.length c2, .int .i64 t.lo, .int .i64 t.lb] 0 false) :: sl 7 (.slice a1 t.os.length c1) (t.os.flatMap rowO) :: sl 7 (.slice a2 t.bs.length c2) (t.bs.flatMap rowB) :: As)) ⟨_, 0, rfl, rfl, by omega, by simp, hS⟩ ?_
  clear hS
  rintro k vs T2 H2 ⟨i, rfl, rfl, hi, hno, hS⟩
  have hlo := ht.bsL
  refine wp_seq ?_; refine zsr ?_; refine zw1 ?_; refine zw1 ?_; refine zn ?_; refine zf ?_; refine zh (S.g0 hS) ?_; refine wpO_cons ?_; refine op1_len rfl rfl ?_; refine wpO_cons ?_; refine op1_lss rfl rfl rfl ?_; refine zns ?_
  refine wp_dec rfl (fun h1 => ?_) (fun h1 => ?_)
  · obtain ⟨y, hy⟩ : ∃ y, t.bs[i]? = some y := ⟨_, List.getElem?_eq_getElem (by omega)⟩
    obtain ⟨b, off, cs, rfl, hg, hcl, hdt, hj⟩ := S.elt (S.up2 hS) (i := i) (by omega)
    have hv : cs[off + i * 7 + 0]? = some (.int .i64 y.1) := (hj 0 (by omega)).trans ((fm_get rowB_len hy (by omega)).trans rfl)
    refine wp_skip ?_; refine seq_normal ?_; refine wp_seq ?_; refine wp_block ?_; refine zsr ?_; refine zw1 ?_; refine zn ?_; refine zf ?_; refine zh (S.g0 hS) ?_; refine zw1 ?_; refine wpO_cons ?_; refine op1_iaddr rfl rfl rfl (by omega) (by omega) ?_; refine wpO_cons ?_; refine op1_faddr rfl rfl ?_; refine wpO_cons ?_
    refine op1_load rfl rfl hg hv ?_
    refine zw1 ?_; refine wpO_cons ?_; refine op1_eqlI rfl rfl rfl ?_; refine zns ?_
    refine wp_dec rfl (fun h2 => ?_) (fun h2 => ?_)
    · refine zsr ?_; refine zw1 ?_; refine zw1 ?_; refine zns ?_; refine wp_ret ?_; refine block_ret ?_; refine seq_ret ?_; refine iter_ret ?_; refine block_ret ?_; refine seq_ret ?_; refine ret_of ?_; refine zr ?_; refine rk_nil ?_
      refine ⟨hS, .inr ⟨i, y.2, ?_, by omega, rfl⟩⟩
      subst h2
      exact At.of hy hno
    · refine wp_skip ?_; refine block_normal ?_; refine seq_normal ?_; refine wp_region ?_; refine zw1 ?_; refine wpO_cons ?_; refine op1_add rfl rfl rfl (by exact wrap_i64 (by omega) (by omega)) ?_; refine zw1 ?_; refine wpO_nil ?_
      refine ⟨t.bs.length - (i + 1), by omega, i + 1, rfl, rfl, by omega, fun z hz => ?_, hS⟩
      rw [List.take_add_one, hy] at hz
      rcases List.mem_append.1 hz with h | h
      · exact hno z h
      · simp at h
        rw [h]
        exact fun e => h2 e.symm
  · refine wp_exit ?_; refine seq_exit ?_; refine iter_exit ?_; refine block_exit ?_; refine seq_normal ?_; refine zsr ?_; refine zw1 ?_; refine zns ?_; refine wp_ret ?_; refine ret_of ?_; refine zr ?_; refine rk_nil ?_
    refine ⟨hS, .inl ⟨gGet_none.2 ?_, rfl⟩⟩
    rw [List.take_of_length_le (by omega)] at hno
    intro hm
    obtain ⟨y, hy, e⟩ := List.mem_map.1 hm
    exact hno y hy e.symm
theorem L68 (ht : TbOk t) (hS : S B H (refP p t :: As)) : wpF C 68 [ptrB p, .int .i64 id] H fun v H' => S B H' (refP p t :: As) ∧ ((gGet t.os id = none ∧ v = .int .i64 (-1)) ∨ ∃ i x, At t.os id i x ∧ i < t.os.length ∧ v = .int .i64 i) := by
  obtain ⟨a1, c1, a2, c2, hS1⟩ := openR hS
  exact wpF_mono (L68o ht hS1) fun v H' h => ⟨closeR h.1, h.2⟩
theorem L69 (ht : TbOk t) (hS : S B H (refP p t :: As)) : wpF C 69 [ptrB p, .int .i64 id] H fun v H' => S B H' (refP p t :: As) ∧ ((gGet t.bs id = none ∧ v = .int .i64 (-1)) ∨ ∃ i x, At t.bs id i x ∧ i < t.bs.length ∧ v = .int .i64 i) := by
  obtain ⟨a1, c1, a2, c2, hS1⟩ := openR hS
  exact wpF_mono (L69o ht hS1) fun v H' h => ⟨closeR h.1, h.2⟩
end
end Go.E.At
/- Attributes: the reference's Attr, Block, Dup, Link, Truncate. -/
namespace Go.E.At
open Go Go.E Go.Proofs.YtgbnjcmjioiclaaDoor.base Go.Proofs.YtgbnjcmjioiclaaDoor Go.Proofs
set_option linter.unusedVariables false
set_option linter.unusedSimpArgs false
set_option maxRecDepth 100000
theorem eltR {Y : Type} {r : Y → List Value} (hr : ∀ y, (r y).length = 7) {B H : AHeap} {As : List Asn} {a : Option Addr} {c i : Nat} {L : List Y} {y : Y} (h : S B H (sl 7 (.slice a L.length c) (L.flatMap r) :: As)) (hy : L[i]? = some y) :
    ∃ b off cs, a = some ⟨b, off, none⟩ ∧ H.get b = .cells cs 7 false ∧ off + i * 7 + 7 ≤ cs.length ∧ (∀ j, j < 7 → cs[off + i * 7 + j]? = (r y)[j]?) ∧ (cs.drop (off + i * 7 + 1)).take 6 = (r y).drop 1 := by
  have hi : i < L.length := (List.getElem?_eq_some_iff.1 hy).1
  obtain ⟨b, off, cs, e, hg, hcl, hdt, hj⟩ := S.elt h (i := i) hi
  refine ⟨b, off, cs, e, hg, ?_, fun j hj7 => (hj j hj7).trans (fm_get hr hy hj7), ?_⟩
  · have : i * 7 + 7 ≤ L.length * 7 := by omega
    omega
  · have h1 := (fm_cut hr (j := 0) (m := 7) hy (by omega))
    rw [Nat.add_zero, List.drop_zero, List.take_of_length_le (l := r y) (by rw [hr]; omega)] at h1
    rw [h1] at hdt
    rw [← hdt, List.drop_take, List.drop_drop]
section
variable {B H : AHeap} {As : List Asn} {t : Tb} {p : Nat} {id o : Int}
theorem L34 (ht : TbOk t) (hS : S B H (refP p t :: As)) : wpF C 34 [ptrB p, .int .i64 o] H fun v H' => v = .tuple ⟨[.agg ⟨(t.attr o).1.cells⟩, .int .i64 (t.attr o).2]⟩ ∧ S B H' (refP p t :: As) := by
  refine wpF_ofW o34 rfl rfl ?_
  unfold Tb.attr
  refine zsr ?_; refine wpO_cons ?_; refine op1_allocS rfl hS ?_; intro p1 H1 hS; refine zw1 ?_; refine zns ?_; refine zsr ?_; refine zw1 ?_; refine zw1 ?_; refine wpO_cons ?_; refine op1_call2 rfl (by (conv => lhs; whnf) <;> rfl) (by (conv => lhs; whnf) <;> rfl) ?_
  refine wpF_mono (L68 (id := o) ht (S.up1 hS)) ?_
  rintro _ H3 ⟨hS3, ⟨hx, rfl⟩ | ⟨i, x, hA, hi, rfl⟩⟩
  · clear hS
    have hS := hS3
    clear hS3
    refine zw1 ?_; refine zns ?_; refine wp_seq ?_; refine zsr ?_; refine zw1 ?_; refine wpO_cons ?_; refine op1_lss rfl rfl rfl ?_; refine zns ?_; refine wp_true rfl ?_; refine zsr ?_; refine wpO_cons ?_; refine op1_build rfl ?_; refine bk_nil ?_; refine wpO_cons ?_; (refine op1_storeNS rfl rfl (by (conv => lhs; whnf) <;> rfl) rfl rfl (S.up1 hS) (Nat.le_of_ble_eq_true rfl) ?_; intro H2 hS; replace hS := S.dn1 hS); refine zw1 ?_; refine zns ?_; refine wp_ret ?_; refine seq_ret ?_; refine ret_of ?_; refine rk_cellN rfl (by exact S.g1 hS) rfl rfl ?_; refine zr ?_; refine rk_nil ?_
    exact ⟨by rw [hx]; rfl, S.k1 hS⟩
  have hoR := ht.osR (o, x) (gGet_mem hA.is)
  have hr1 : 0 ≤ x.links ∧ x.links ≤ 9223372036854775807 := hoR.links
  unfold ptrB
  clear hS
  have hS := hS3
  clear hS3
  obtain ⟨a1, c1, a2, c2, hS1⟩ := openR hS
  clear hS
  have hS := hS1
  clear hS1
  unfold rfC at hS
  have hlo := ht.osL
  refine zw1 ?_; refine zns ?_; refine wp_seq ?_; refine zsr ?_; refine zw1 ?_; refine wpO_cons ?_; refine op1_lss rfl rfl rfl ?_; refine zns ?_; refine wp_false rfl ?_; refine wp_skip ?_; refine seq_normal ?_; refine zsr ?_; refine zw1 ?_; refine zn ?_; refine zf ?_; refine zh (S.g0 hS) ?_; refine zw1 ?_; refine wpO_cons ?_
  obtain ⟨b, off, cs, rfl, hg, hcl, hj, hN⟩ := eltR rowO_len (S.up1 hS) hA.get
  have hN2 : (cs.drop (off + i * 7 + 1)).take 6 = x.cells := hN
  refine op1_iaddr rfl rfl rfl (by omega) (by omega) ?_; refine wpO_cons ?_; refine op1_faddr rfl rfl ?_; refine wpO_cons ?_
  refine op1_loadN rfl rfl hg (by omega) hN2 ?_
  unfold Ob.cells
  refine wpO_cons ?_; (refine op1_storeNS rfl rfl (by (conv => lhs; whnf) <;> rfl) rfl rfl (S.up3 hS) (Nat.le_of_ble_eq_true rfl) ?_; intro H2 hS; replace hS := S.dn3 hS); refine zw1 ?_; refine zns ?_; refine wp_ret ?_; refine ret_of ?_; refine rk_cellN rfl (by exact S.g3 hS) rfl rfl ?_; refine zr ?_; refine rk_nil ?_
  exact ⟨by rw [hA.is]; rfl, S.k1 (closeR (S.dn3 (S.up3 hS)))⟩
theorem L59 (ht : TbOk t) (hS : S B H (refP p t :: As)) : wpF C 59 [ptrB p, .int .i64 o] H fun v H' => v = .int .i64 (t.link o).1 ∧ S B H' (refP p (t.link o).2 :: As) := by
  refine wpF_ofW o59 rfl rfl ?_
  refine zsr ?_; refine zw1 ?_; refine zns ?_; refine zsr ?_; refine zw1 ?_; refine zw1 ?_; refine wpO_cons ?_; refine op1_call2 rfl (by (conv => lhs; whnf) <;> rfl) (by (conv => lhs; whnf) <;> rfl) ?_
  refine wpF_mono (L68 (id := o) ht (hS)) ?_
  rintro _ H3 ⟨hS3, ⟨hx, rfl⟩ | ⟨i, x, hA, hi, rfl⟩⟩
  · clear hS
    have hS := hS3
    clear hS3
    refine zw1 ?_; refine zns ?_; refine wp_seq ?_; refine zsr ?_; refine zw1 ?_; refine wpO_cons ?_; refine op1_lss rfl rfl rfl ?_; refine zns ?_; refine wp_true rfl ?_; refine zsr ?_; refine zw1 ?_; refine zns ?_; refine wp_ret ?_; refine seq_ret ?_; refine ret_of ?_; refine zr ?_; refine rk_nil ?_
    exact ⟨by unfold Tb.link; rw [hx]; rfl, by unfold Tb.link; rw [hx]; exact hS⟩
  have hoR := ht.osR (o, x) (gGet_mem hA.is)
  have hr1 : 0 ≤ x.links ∧ x.links ≤ 9223372036854775807 := hoR.links
  unfold ptrB
  clear hS
  have hS := hS3
  clear hS3
  obtain ⟨a1, c1, a2, c2, hS1⟩ := openR hS
  clear hS
  have hS := hS1
  clear hS1
  unfold rfC at hS
  have hlo := ht.osL
  refine zw1 ?_; refine zns ?_; refine wp_seq ?_; refine zsr ?_; refine zw1 ?_; refine wpO_cons ?_; refine op1_lss rfl rfl rfl ?_; refine zns ?_; refine wp_false rfl ?_; refine wp_skip ?_; refine seq_normal ?_; refine wp_seq ?_; refine zsr ?_; refine zw1 ?_; refine zn ?_; refine zf ?_; refine zh (S.g0 hS) ?_; refine zw1 ?_; refine wpO_cons ?_
  obtain ⟨b, off, cs, rfl, hg, hcl, hj, hN⟩ := eltR rowO_len (S.up1 hS) hA.get
  refine op1_iaddr rfl rfl rfl (by omega) (by omega) ?_; refine wpO_cons ?_; refine op1_faddr rfl rfl ?_; refine wpO_cons ?_; refine op1_faddr rfl rfl ?_; refine wpO_cons ?_
  refine op1_load (v := .int .i64 x.links) rfl rfl hg (hj 5 (by omega)) ?_
  refine wpO_cons ?_; refine op1_geq rfl rfl rfl ?_; refine zns ?_
  have e0 : t.link o = if 1000 ≤ x.links then (18, t) else (0, t.setO o { x with links := x.links + 1 }) := by unfold Tb.link; rw [hA.is]
  rw [e0]
  clear e0
  refine wp_dec rfl (fun h1 => ?_) (fun h1 => ?_)
  · refine zsr ?_; refine zw1 ?_; refine zns ?_; refine wp_ret ?_; refine seq_ret ?_; refine ret_of ?_; refine zr ?_; refine rk_nil ?_
    rw [if_pos h1]
    exact ⟨rfl, closeR hS⟩
  rw [if_neg h1]
  refine wp_skip ?_; refine seq_normal ?_; refine zsr ?_; refine zw1 ?_; refine zn ?_; refine zf ?_; refine zh (S.g0 hS) ?_; refine zw1 ?_; refine wpO_cons ?_; refine op1_iaddr rfl rfl rfl (by omega) (by omega) ?_; refine wpO_cons ?_; refine op1_faddr rfl rfl ?_; refine wpO_cons ?_; refine op1_faddr rfl rfl ?_; refine wpO_cons ?_
  refine op1_load (v := .int .i64 x.links) rfl rfl hg (hj 5 (by omega)) ?_
  refine wpO_cons ?_; refine op1_add rfl rfl rfl (by exact wrap_i64 (by omega) (by omega)) ?_; refine wpO_cons ?_; refine op1_iaddr rfl rfl rfl (by omega) (by omega) ?_; refine wpO_cons ?_; refine op1_faddr rfl rfl ?_; refine wpO_cons ?_; refine op1_faddr rfl rfl ?_; refine wpO_cons ?_
  refine op1_store1L (k := i * 7 + 5) rfl rfl rfl rfl rfl (S.up1 hS) (by omega) ?_
  have hT := hS
  clear hS
  intro H4 hS
  rw [fm_set rowO_len hA.get (by omega) (y' := (o, { x with links := x.links + 1 })) rfl, hA.set] at hS
  refine zns ?_; refine zsr ?_; refine zw1 ?_; refine zns ?_; refine wp_ret ?_; refine ret_of ?_; refine zr ?_; refine rk_nil ?_
  exact ⟨rfl, closeR (t := t.setO o { x with links := x.links + 1 }) (S.up1 hS)⟩
theorem L35 (ht : TbOk t) (hS : S B H (refP p t :: As)) : wpF C 35 [ptrB p, .int .i64 id] H fun v H' => v = .tuple ⟨[.agg ⟨(t.blk id).1.cells⟩, .int .i64 (t.blk id).2]⟩ ∧ S B H' (refP p t :: As) := by
  refine wpF_ofW o35 rfl rfl ?_
  unfold Tb.blk
  refine zsr ?_; refine wpO_cons ?_; refine op1_allocS rfl hS ?_; intro p1 H1 hS; refine zw1 ?_; refine zns ?_; refine zsr ?_; refine zw1 ?_; refine zw1 ?_; refine wpO_cons ?_; refine op1_call2 rfl (by (conv => lhs; whnf) <;> rfl) (by (conv => lhs; whnf) <;> rfl) ?_
  refine wpF_mono (L69 (id := id) ht (S.up1 hS)) ?_
  rintro _ H3 ⟨hS3, ⟨hx, rfl⟩ | ⟨i, k, hA, hi, rfl⟩⟩
  · clear hS
    have hS := hS3
    clear hS3
    refine zw1 ?_; refine zns ?_; refine wp_seq ?_; refine zsr ?_; refine zw1 ?_; refine wpO_cons ?_; refine op1_lss rfl rfl rfl ?_; refine zns ?_; refine wp_true rfl ?_; refine zsr ?_; refine wpO_cons ?_; refine op1_build rfl ?_; refine bk_nil ?_; refine wpO_cons ?_; (refine op1_storeNS rfl rfl (by (conv => lhs; whnf) <;> rfl) rfl rfl (S.up1 hS) (Nat.le_of_ble_eq_true rfl) ?_; intro H2 hS; replace hS := S.dn1 hS); refine zw1 ?_; refine zns ?_; refine wp_ret ?_; refine seq_ret ?_; refine ret_of ?_; refine rk_cellN rfl (by exact S.g1 hS) rfl rfl ?_; refine zr ?_; refine rk_nil ?_
    exact ⟨by rw [hx]; rfl, S.k1 hS⟩
  have hkR := ht.bsR (id, k) (gGet_mem hA.is)
  have hr2 : 0 ≤ k.off ∧ k.off ≤ 16384 := hkR.off
  have hr3 : 1 ≤ k.refs ∧ k.refs ≤ 200 := hkR.refs
  unfold ptrB
  clear hS
  have hS := hS3
  clear hS3
  obtain ⟨a1, c1, a2, c2, hS1⟩ := openR hS
  clear hS
  have hS := hS1
  clear hS1
  unfold rfC at hS
  have hlo := ht.bsL
  refine zw1 ?_; refine zns ?_; refine wp_seq ?_; refine zsr ?_; refine zw1 ?_; refine wpO_cons ?_; refine op1_lss rfl rfl rfl ?_; refine zns ?_; refine wp_false rfl ?_; refine wp_skip ?_; refine seq_normal ?_; refine zsr ?_; refine zw1 ?_; refine zn ?_; refine zf ?_; refine zh (S.g0 hS) ?_; refine zw1 ?_; refine wpO_cons ?_
  obtain ⟨b, off, cs, rfl, hg, hcl, hj, hN⟩ := eltR rowB_len (S.up2 hS) hA.get
  have hN2 : (cs.drop (off + i * 7 + 1)).take 6 = k.cells := hN
  refine op1_iaddr rfl rfl rfl (by omega) (by omega) ?_; refine wpO_cons ?_; refine op1_faddr rfl rfl ?_; refine wpO_cons ?_
  refine op1_loadN rfl rfl hg (by omega) hN2 ?_
  unfold Bk.cells
  refine wpO_cons ?_; (refine op1_storeNS rfl rfl (by (conv => lhs; whnf) <;> rfl) rfl rfl (S.up3 hS) (Nat.le_of_ble_eq_true rfl) ?_; intro H2 hS; replace hS := S.dn3 hS); refine zw1 ?_; refine zns ?_; refine wp_ret ?_; refine ret_of ?_; refine rk_cellN rfl (by exact S.g3 hS) rfl rfl ?_; refine zr ?_; refine rk_nil ?_
  exact ⟨by rw [hA.is]; rfl, S.k1 (closeR (S.dn3 (S.up3 hS)))⟩
theorem L51 (ht : TbOk t) (hS : S B H (refP p t :: As)) : wpF C 51 [ptrB p, .int .i64 id] H fun v H' => v = .int .i64 (t.dup id).1 ∧ S B H' (refP p (t.dup id).2 :: As) := by
  refine wpF_ofW o51 rfl rfl ?_
  refine zsr ?_; refine zw1 ?_; refine zns ?_; refine zsr ?_; refine zw1 ?_; refine zw1 ?_; refine wpO_cons ?_; refine op1_call2 rfl (by (conv => lhs; whnf) <;> rfl) (by (conv => lhs; whnf) <;> rfl) ?_
  refine wpF_mono (L69 (id := id) ht (hS)) ?_
  rintro _ H3 ⟨hS3, ⟨hx, rfl⟩ | ⟨i, k, hA, hi, rfl⟩⟩
  · clear hS
    have hS := hS3
    clear hS3
    refine zw1 ?_; refine zns ?_; refine wp_seq ?_; refine zsr ?_; refine zw1 ?_; refine wpO_cons ?_; refine op1_lss rfl rfl rfl ?_; refine zns ?_; refine wp_true rfl ?_; refine zsr ?_; refine zw1 ?_; refine zns ?_; refine wp_ret ?_; refine seq_ret ?_; refine ret_of ?_; refine zr ?_; refine rk_nil ?_
    exact ⟨by unfold Tb.dup; rw [hx]; rfl, by unfold Tb.dup; rw [hx]; exact hS⟩
  have hkR := ht.bsR (id, k) (gGet_mem hA.is)
  have hr2 : 0 ≤ k.off ∧ k.off ≤ 16384 := hkR.off
  have hr3 : 1 ≤ k.refs ∧ k.refs ≤ 200 := hkR.refs
  unfold ptrB
  clear hS
  have hS := hS3
  clear hS3
  obtain ⟨a1, c1, a2, c2, hS1⟩ := openR hS
  clear hS
  have hS := hS1
  clear hS1
  unfold rfC at hS
  have hlo := ht.bsL
  refine zw1 ?_; refine zns ?_; refine wp_seq ?_; refine zsr ?_; refine zw1 ?_; refine wpO_cons ?_; refine op1_lss rfl rfl rfl ?_; refine zns ?_; refine wp_false rfl ?_; refine wp_skip ?_; refine seq_normal ?_; refine wp_seq ?_; refine zsr ?_; refine zw1 ?_; refine zn ?_; refine zf ?_; refine zh (S.g0 hS) ?_; refine zw1 ?_; refine wpO_cons ?_
  obtain ⟨b, off, cs, rfl, hg, hcl, hj, hN⟩ := eltR rowB_len (S.up2 hS) hA.get
  refine op1_iaddr rfl rfl rfl (by omega) (by omega) ?_; refine wpO_cons ?_; refine op1_faddr rfl rfl ?_; refine wpO_cons ?_; refine op1_faddr rfl rfl ?_; refine wpO_cons ?_
  refine op1_load (v := .int .i64 k.refs) rfl rfl hg (hj 6 (by omega)) ?_
  refine wpO_cons ?_; refine op1_geq rfl rfl rfl ?_; refine zns ?_
  have e0 : t.dup id = if 200 ≤ k.refs then (18, t) else (0, t.setB id { k with refs := k.refs + 1 }) := by unfold Tb.dup; rw [hA.is]
  rw [e0]
  clear e0
  refine wp_dec rfl (fun h1 => ?_) (fun h1 => ?_)
  · refine zsr ?_; refine zw1 ?_; refine zns ?_; refine wp_ret ?_; refine seq_ret ?_; refine ret_of ?_; refine zr ?_; refine rk_nil ?_
    rw [if_pos h1]
    exact ⟨rfl, closeR hS⟩
  rw [if_neg h1]
  refine wp_skip ?_; refine seq_normal ?_; refine zsr ?_; refine zw1 ?_; refine zn ?_; refine zf ?_; refine zh (S.g0 hS) ?_; refine zw1 ?_; refine wpO_cons ?_; refine op1_iaddr rfl rfl rfl (by omega) (by omega) ?_; refine wpO_cons ?_; refine op1_faddr rfl rfl ?_; refine wpO_cons ?_; refine op1_faddr rfl rfl ?_; refine wpO_cons ?_
  refine op1_load (v := .int .i64 k.refs) rfl rfl hg (hj 6 (by omega)) ?_
  refine wpO_cons ?_; refine op1_add rfl rfl rfl (by exact wrap_i64 (by omega) (by omega)) ?_; refine wpO_cons ?_; refine op1_iaddr rfl rfl rfl (by omega) (by omega) ?_; refine wpO_cons ?_; refine op1_faddr rfl rfl ?_; refine wpO_cons ?_; refine op1_faddr rfl rfl ?_; refine wpO_cons ?_
  refine op1_store1L (k := i * 7 + 6) rfl rfl rfl rfl rfl (S.up2 hS) (by omega) ?_
  have hT := hS
  clear hS
  intro H4 hS
  rw [fm_set rowB_len hA.get (by omega) (y' := (id, { k with refs := k.refs + 1 })) rfl, hA.set] at hS
  refine zns ?_; refine zsr ?_; refine zw1 ?_; refine zns ?_; refine wp_ret ?_; refine ret_of ?_; refine zr ?_; refine rk_nil ?_
  exact ⟨rfl, closeR (t := t.setB id { k with refs := k.refs + 1 }) (S.dn2 hS)⟩
end
end Go.E.At
/- Attributes: the reference's Truncate, least, Read, Objects, Opens. -/
namespace Go.E.At
open Go Go.E Go.Proofs.YtgbnjcmjioiclaaDoor.base Go.Proofs.YtgbnjcmjioiclaaDoor Go.Proofs
set_option linter.unusedVariables false
set_option linter.unusedSimpArgs false
set_option maxRecDepth 100000
section
variable {B H : AHeap} {As : List Asn} {t : Tb} {p : Nat} {id o : Int}
theorem L74 {a b : Int} (hS : S B H As) : wpF C 74 [.int .i64 a, .int .i64 b] H fun v H' => v = .int .i64 (min a b) ∧ S B H' As := by
  refine wpF_ofW o74 rfl rfl ?_
  refine zsr ?_; refine zw1 ?_; refine zns ?_; refine wp_seq ?_; refine zsr ?_; refine zw1 ?_; refine zw1 ?_; refine wpO_cons ?_; refine op1_lss rfl rfl rfl ?_; refine zns ?_
  refine wp_dec rfl (fun h => ?_) (fun h => ?_)
  · refine zsr ?_; refine zw1 ?_; refine zw1 ?_; refine zns ?_; refine wp_ret ?_; refine seq_ret ?_; refine ret_of ?_; refine zr ?_; refine rk_nil ?_
    exact ⟨by simp only [resultV]; congr 1; omega, hS⟩
  · refine wp_skip ?_; refine seq_normal ?_; refine zsr ?_; refine zw1 ?_; refine zw1 ?_; refine zns ?_; refine wp_ret ?_; refine ret_of ?_; refine zr ?_; refine rk_nil ?_
    exact ⟨by simp only [resultV]; congr 1; omega, hS⟩
theorem L37 (ht : TbOk t) (hS : S B H (refP p t :: As)) : wpF C 37 [ptrB p, .int .i64 o] H fun v H' => S B H' (sl 1 v (i64s (t.opens o)) :: refP p t :: As) := by
  refine wpF_ofW o37 rfl rfl ?_
  obtain ⟨a1, c1, a2, c2, hS1⟩ := openR hS
  clear hS
  have hS := hS1
  clear hS1
  unfold rfC at hS
  unfold ptrB
  have hlo := ht.bsL
  refine zsr ?_; refine zw1 ?_; refine zns ?_; refine zsr ?_; refine zw1 ?_; refine zns ?_; refine wp_seq ?_; refine zsr ?_; refine zw1 ?_; refine zns ?_; refine wp_block ?_
  refine wp_loop [5, 6] (fun k vs H' => ∃ (i : Nat) (a : Option Addr) (c : Nat) (L : List Int), vs = [.slice a L.length c, .int .i64 i] ∧ k = t.bs.length - i ∧ i ≤ t.bs.length ∧ L.length ≤ i ∧ L = ((t.bs.take i).filter fun y => decide (y.2.obj = o)).map (·.1) ∧ S B H' (sl 1 (.slice a L.length c) (i64s L) :: pto p (.cells [.slice a1 t.os.length c1, .slice a2 t.bs.length c2, .int .i64 t.lo, .int .i64 t.lb] 0 false) :: sl 7 (.slice a1 t.os.length c1) (t.os.flatMap rowO) :: sl 7 (.slice a2 t.bs.length c2) (t.bs.flatMap rowB) :: As)) ⟨_, 0, none, 0, [], rfl, rfl, by omega, by simp, by simp, S.slNil hS⟩ ?_
  clear hS
  rintro k vs T2 H2 ⟨i, a, c, L, rfl, rfl, hi, hL, hLe, hS⟩
  refine wp_seq ?_; refine zsr ?_; refine zw1 ?_; refine zw1 ?_; refine zn ?_; refine zf ?_; refine zh (S.g1 hS) ?_; refine wpO_cons ?_; refine op1_len rfl rfl ?_; refine wpO_cons ?_; refine op1_lss rfl rfl rfl ?_; refine zns ?_
  refine wp_dec rfl (fun h1 => ?_) (fun h1 => ?_)
  · obtain ⟨y, hy⟩ : ∃ y, t.bs[i]? = some y := ⟨_, List.getElem?_eq_getElem (by omega)⟩
    obtain ⟨b, off, cs, rfl, hg, hcl, hj, hN⟩ := eltR rowB_len (S.up3 hS) hy
    refine wp_skip ?_; refine seq_normal ?_; refine wp_seq ?_; refine wp_block ?_; refine zsr ?_; refine zw1 ?_; refine zn ?_; refine zf ?_; refine zh (S.g1 hS) ?_; refine zw1 ?_; refine wpO_cons ?_; refine op1_iaddr rfl rfl rfl (by omega) (by omega) ?_; refine wpO_cons ?_; refine op1_faddr rfl rfl ?_; refine wpO_cons ?_; refine op1_faddr rfl rfl ?_; refine wpO_cons ?_
    refine op1_load (v := .int .i64 y.2.obj) rfl rfl hg (hj 1 (by omega)) ?_
    refine zw1 ?_; refine wpO_cons ?_; refine op1_eqlI rfl rfl rfl ?_; refine zns ?_
    refine wp_dec rfl (fun h2 => ?_) (fun h2 => ?_)
    · refine wp_region ?_; refine zw1 ?_; refine zw1 ?_; refine zn ?_; refine zf ?_; refine zh (S.g1 hS) ?_; refine zw1 ?_; refine wpO_cons ?_; refine op1_iaddr rfl rfl rfl (by omega) (by omega) ?_; refine wpO_cons ?_; refine op1_faddr rfl rfl ?_; refine wpO_cons ?_
      refine op1_load (v := .int .i64 y.1) rfl rfl hg (hj 0 (by omega)) ?_
      refine wpO_cons ?_; refine op1_bsliceS rfl hS ?_; refine bk_one (by (conv => lhs; whnf) <;> rfl) rfl rfl rfl ?_; refine bk_nil ?_; intro p1 H1 hS; refine wpO_cons ?_; (refine op1_appBS rfl rfl (by (conv => lhs; whnf) <;> rfl) rfl (S.g0 hS) rfl rfl (S.up1 hS) (by omega) ?_; intro a2 c3 H3 hS; replace hS := S.dn1 hS; replace hS := S.drop hS); refine zw1 ?_; refine wpO_nil ?_; refine block_normal ?_; refine seq_normal ?_; refine wp_region ?_; refine zw1 ?_; refine wpO_cons ?_; refine op1_add rfl rfl rfl (by exact wrap_i64 (by omega) (by omega)) ?_; refine zw1 ?_; refine wpO_nil ?_
      refine iter_normal ⟨t.bs.length - (i + 1), by omega, i + 1, a2, c3, L ++ [y.1], by rw [List.length_append]; rfl, rfl, by omega, by simp; omega, ?_, ?_⟩
      · rw [List.take_add_one, hy, hLe]
        simp [h2]
      · rw [show (L ++ [y.1]).length = L.length + 1 from List.length_append, show i64s (L ++ [y.1]) = i64s L ++ [.int .i64 y.1] from List.map_append]
        exact hS
    · refine wp_skip ?_; refine block_normal ?_; refine seq_normal ?_; refine wp_region ?_; refine zw1 ?_; refine wpO_cons ?_; refine op1_add rfl rfl rfl (by exact wrap_i64 (by omega) (by omega)) ?_; refine zw1 ?_; refine wpO_nil ?_
      refine iter_normal ⟨t.bs.length - (i + 1), by omega, i + 1, a, c, L, rfl, rfl, by omega, by omega, ?_, hS⟩
      rw [List.take_add_one, hy, hLe]
      simp [h2]
  · refine wp_exit ?_; refine seq_exit ?_; refine iter_exit ?_; refine block_exit ?_; refine seq_normal ?_; refine zsr ?_; refine zw1 ?_; refine zw1 ?_; refine zns ?_; refine wp_ret ?_; refine ret_of ?_; refine zr ?_; refine rk_nil ?_
    rw [List.take_of_length_le (by omega)] at hLe
    have h2 := closeR (S.dn3 hS)
    rw [hLe] at h2 ⊢
    exact S.up1 h2
end
end Go.E.At
/- Attributes: the reference's Truncate, Read, Seek, Write. -/
namespace Go.E.At
open Go Go.E Go.Proofs.YtgbnjcmjioiclaaDoor.base Go.Proofs.YtgbnjcmjioiclaaDoor Go.Proofs
set_option linter.unusedVariables false
set_option linter.unusedSimpArgs false
set_option maxRecDepth 100000
section
variable {B H : AHeap} {As : List Asn} {t : Tb} {p : Nat} {id o : Int}
theorem L56 {s : Int} (ht : TbOk t) (hS : S B H (refP p t :: As)) : wpF C 56 [ptrB p, .int .i64 id, .int .i64 s] H fun v H' => v = .int .i64 (t.trunc id s).1 ∧ S B H' (refP p (t.trunc id s).2 :: As) := by
  refine wpF_ofW o56 rfl rfl ?_
  refine zsr ?_; refine zw1 ?_; refine zns ?_; refine zsr ?_; refine zw1 ?_; refine zw1 ?_; refine wpO_cons ?_; refine op1_call2 rfl (by (conv => lhs; whnf) <;> rfl) (by (conv => lhs; whnf) <;> rfl) ?_
  refine wpF_mono (L69 (id := id) ht (hS)) ?_
  rintro _ H3 ⟨hS3, ⟨hx, rfl⟩ | ⟨i, k, hA, hi, rfl⟩⟩
  · clear hS
    have hS := hS3
    clear hS3
    refine zw1 ?_; refine zns ?_; refine wp_seq ?_; refine zsr ?_; refine zw1 ?_; refine wpO_cons ?_; refine op1_lss rfl rfl rfl ?_; refine zns ?_; refine wp_true rfl ?_; refine zsr ?_; refine zw1 ?_; refine zns ?_; refine wp_ret ?_; refine seq_ret ?_; refine ret_of ?_; refine zr ?_; refine rk_nil ?_
    exact ⟨by unfold Tb.trunc; rw [hx]; rfl, by unfold Tb.trunc; rw [hx]; exact hS⟩
  have hkR := ht.bsR (id, k) (gGet_mem hA.is)
  have hr2 : 0 ≤ k.off ∧ k.off ≤ 16384 := hkR.off
  have hr3 : 1 ≤ k.refs ∧ k.refs ≤ 200 := hkR.refs
  unfold ptrB
  clear hS
  have hS := hS3
  clear hS3
  obtain ⟨a1, c1, a2, c2, hS1⟩ := openR hS
  clear hS
  have hS := hS1
  clear hS1
  unfold rfC at hS
  have hlo := ht.bsL
  refine zw1 ?_; refine zns ?_; refine wp_seq ?_; refine zsr ?_; refine zw1 ?_; refine wpO_cons ?_; refine op1_lss rfl rfl rfl ?_; refine zns ?_; refine wp_false rfl ?_; refine wp_skip ?_; refine seq_normal ?_; refine wp_seq ?_; refine zsr ?_; refine zw1 ?_; refine zn ?_; refine zf ?_; refine zh (S.g0 hS) ?_; refine zw1 ?_; refine wpO_cons ?_
  obtain ⟨b, off, cs, rfl, hg, hcl, hj, hN⟩ := eltR rowB_len (S.up2 hS) hA.get
  obtain ⟨x, hxo⟩ := ht.has (id, k) (gGet_mem hA.is)
  have hxo : gGet t.os k.obj = some x := hxo
  have e0 : t.trunc id s = if bitAnd .i64 k.acc 2 = 0 then (1, t) else if s < 0 ∨ s > 16384 then (34, t) else (0, t.setO k.obj { x with size := s }) := by unfold Tb.trunc; rw [hA.is]; simp only [hxo]
  rw [e0]
  clear e0
  refine op1_iaddr rfl rfl rfl (by omega) (by omega) ?_; refine wpO_cons ?_; refine op1_faddr rfl rfl ?_; refine wpO_cons ?_; refine op1_faddr rfl rfl ?_; refine wpO_cons ?_
  refine op1_load (v := .int .i64 k.acc) rfl rfl hg (hj 2 (by omega)) ?_
  refine wpO_cons ?_; refine op1_and rfl rfl rfl ?_; refine wpO_cons ?_; refine op1_eqlI rfl rfl rfl ?_; refine zns ?_
  refine wp_dec rfl (fun h1 => ?_) (fun h1 => ?_)
  · refine zsr ?_; refine zw1 ?_; refine zns ?_; refine wp_ret ?_; refine seq_ret ?_; refine ret_of ?_; refine zr ?_; refine rk_nil ?_
    rw [if_pos h1]
    exact ⟨rfl, closeR hS⟩
  rw [if_neg h1]
  refine wp_skip ?_; refine seq_normal ?_; refine wp_seq ?_; refine zsr ?_; refine zw1 ?_; refine wpO_cons ?_; refine op1_lss rfl rfl rfl ?_; refine zw1 ?_; refine wpO_cons ?_
  refine op1_dec rfl (fun h2 => ?_) (fun h2 => ?_)
  · refine op1_skip rfl ?_; refine zk ?_; refine zt ?_; refine zns ?_; refine wp_true rfl ?_; refine zsr ?_; refine zw1 ?_; refine zns ?_; refine wp_ret ?_; refine seq_ret ?_; refine ret_of ?_; refine zr ?_; refine rk_nil ?_
    rw [if_pos (.inl h2)]
    exact ⟨rfl, closeR hS⟩
  refine op1_mov rfl (by (conv => lhs; whnf) <;> rfl) ?_; refine wpO_cons ?_; refine op1_gtr rfl rfl rfl ?_; refine zu ?_; refine zns ?_
  refine wp_dec rfl (fun h3 => ?_) (fun h3 => ?_)
  · refine zsr ?_; refine zw1 ?_; refine zns ?_; refine wp_ret ?_; refine seq_ret ?_; refine ret_of ?_; refine zr ?_; refine rk_nil ?_
    rw [if_pos (.inr h3)]
    exact ⟨rfl, closeR hS⟩
  rw [if_neg (by omega)]
  refine wp_skip ?_; refine seq_normal ?_; refine wp_seq ?_; refine wp_regionD ?_; refine zd1 ?_; refine zm ?_; refine zg ?_; refine zj (S.g0 hS) ?_; refine zd1 ?_; refine zd1 ?_; refine zm ?_; refine zg ?_; refine zj (S.g0 hS) ?_; refine zd1 ?_; refine wpD_cons ?_; refine op1_iaddr rfl rfl rfl (by omega) (by omega) ?_; refine wpD_cons ?_; refine op1_faddr rfl rfl ?_; refine wpD_cons ?_; refine op1_faddr rfl rfl ?_; refine wpD_cons ?_
  refine op1_load (v := .int .i64 k.obj) rfl rfl hg (hj 1 (by omega)) ?_
  refine zd1 ?_; refine wpD_cons ?_; refine op1_call2 rfl (by (conv => lhs; whnf) <;> rfl) (by (conv => lhs; whnf) <;> rfl) ?_
  refine wpF_mono (L68o (id := k.obj) ht hS) ?_
  rintro _ H4 ⟨hS4, ⟨hx4, rfl⟩ | ⟨i2, x2, hA2, hi2, rfl⟩⟩
  · rw [hxo] at hx4
    cases hx4
  obtain rfl : x2 = x := by
    have := hA2.is
    rw [hxo] at this
    cases this
    rfl
  have hT := hS
  clear hS
  have hS := hS4
  clear hS4
  have hlo1 := ht.osL
  obtain ⟨b2, off2, cs2, rfl, hg2, hcl2, hj2, hN2⟩ := eltR rowO_len (S.up1 hS) hA2.get
  unfold rfC at hS
  refine wpD_cons ?_; refine op1_iaddr rfl rfl rfl (by omega) (by omega) ?_; refine wpD_cons ?_; refine op1_faddr rfl rfl ?_; refine wpD_cons ?_; refine op1_faddr rfl rfl ?_; refine wpD_cons ?_
  refine op1_store1L (k := i2 * 7 + 4) rfl rfl rfl rfl rfl (S.up1 hS) (by omega) ?_
  have hT2 := hS
  clear hS
  intro H5 hS
  rw [fm_set rowO_len hA2.get (by omega) (y' := (k.obj, { x2 with size := s })) rfl, hA2.set] at hS
  refine wpD_nil ?_; refine dk_of ?_ ?_; (iterate 3 refine chk_skip ?_); refine zx 17 ?_ ?_; refine zy 5 ?_ ?_; exact zq (S.g0 hT); refine zy 1 ?_ ?_; exact zq (S.g0 hT2); exact chkFs_nil; (iterate 4 refine chk_skip ?_); refine zx 12 ?_ ?_; refine zy 5 ?_ ?_; exact zq (S.g0 hT); exact chkFs_nil; (iterate 4 refine chk_skip ?_); refine zx 7 ?_ ?_; refine zy 5 ?_ ?_
  · exact chk_load rfl hg (hj 1 (by omega)) rfl
  exact chkFs_nil; (iterate 6 refine chk_skip ?_); exact chk_end; refine seq_normal ?_
  refine zsr ?_; refine zw1 ?_; refine zns ?_; refine wp_ret ?_; refine ret_of ?_; refine zr ?_; refine rk_nil ?_
  exact ⟨rfl, closeR (t := t.setO k.obj { x2 with size := s }) (S.up1 hS)⟩
theorem L53 {n : Int} (hn : -9223372036854775808 ≤ n ∧ n ≤ 9223372036854775807) (ht : TbOk t) (hS : S B H (refP p t :: As)) : wpF C 53 [ptrB p, .int .i64 id, .int .i64 n] H fun v H' => v = .tuple ⟨[.int .i64 (t.read id n).1, .int .i64 (t.read id n).2.1, .int .i64 (t.read id n).2.2.1]⟩ ∧ S B H' (refP p (t.read id n).2.2.2 :: As) := by
  refine wpF_ofW o53 rfl rfl ?_
  refine zsr ?_; refine zw1 ?_; refine zw1 ?_; refine zw1 ?_; refine zns ?_; refine zsr ?_; refine zw1 ?_; refine zw1 ?_; refine wpO_cons ?_; refine op1_call2 rfl (by (conv => lhs; whnf) <;> rfl) (by (conv => lhs; whnf) <;> rfl) ?_
  refine wpF_mono (L69 (id := id) ht (hS)) ?_
  rintro _ H3 ⟨hS3, ⟨hx, rfl⟩ | ⟨i, k, hA, hi, rfl⟩⟩
  · clear hS
    have hS := hS3
    clear hS3
    refine zw1 ?_; refine zns ?_; refine wp_seq ?_; refine zsr ?_; refine zw1 ?_; refine wpO_cons ?_; refine op1_lss rfl rfl rfl ?_; refine zns ?_; refine wp_true rfl ?_; refine zsr ?_; refine zw1 ?_; refine zw1 ?_; refine zw1 ?_; refine zns ?_; refine wp_ret ?_; refine seq_ret ?_; refine ret_of ?_; refine zr ?_; refine zr ?_; refine zr ?_; refine rk_nil ?_
    exact ⟨by unfold Tb.read; rw [hx]; rfl, by unfold Tb.read; rw [hx]; exact hS⟩
  have hkR := ht.bsR (id, k) (gGet_mem hA.is)
  have hr2 : 0 ≤ k.off ∧ k.off ≤ 16384 := hkR.off
  have hr3 : 1 ≤ k.refs ∧ k.refs ≤ 200 := hkR.refs
  unfold ptrB
  clear hS
  have hS := hS3
  clear hS3
  obtain ⟨a1, c1, a2, c2, hS1⟩ := openR hS
  clear hS
  have hS := hS1
  clear hS1
  unfold rfC at hS
  have hlo := ht.bsL
  refine zw1 ?_; refine zns ?_; refine wp_seq ?_; refine zsr ?_; refine zw1 ?_; refine wpO_cons ?_; refine op1_lss rfl rfl rfl ?_; refine zns ?_; refine wp_false rfl ?_; refine wp_skip ?_; refine seq_normal ?_; refine zsr ?_; refine zw1 ?_; refine zn ?_; refine zf ?_; refine zh (S.g0 hS) ?_; refine zw1 ?_; refine wpO_cons ?_
  obtain ⟨b, off, cs, rfl, hg, hcl, hj, hN⟩ := eltR rowB_len (S.up2 hS) hA.get
  obtain ⟨x, hxo⟩ := ht.has (id, k) (gGet_mem hA.is)
  have hxo : gGet t.os k.obj = some x := hxo
  have e0 : t.read id n = if bitAnd .i64 k.acc 1 = 0 then (0, 0, 1, t) else if n < 0 then (0, 0, 34, t) else (k.off, max (min n (x.size - k.off)) 0, 0, t.setB id { k with off := k.off + max (min n (x.size - k.off)) 0 }) := by unfold Tb.read; rw [hA.is]; simp only [hxo]
  rw [e0]
  clear e0
  refine op1_iaddr rfl rfl rfl (by omega) (by omega) ?_; refine wpO_cons ?_; refine op1_faddr rfl rfl ?_; refine zw1 ?_; refine zns ?_; refine wp_seq ?_; refine zsr ?_; refine zw1 ?_; refine zn ?_; refine wpO_cons ?_; refine op1_faddr rfl rfl ?_; refine wpO_cons ?_
  refine op1_load (v := .int .i64 k.acc) rfl rfl hg (hj 2 (by omega)) ?_
  refine wpO_cons ?_; refine op1_and rfl rfl rfl ?_; refine wpO_cons ?_; refine op1_eqlI rfl rfl rfl ?_; refine zns ?_
  refine wp_dec rfl (fun h1 => ?_) (fun h1 => ?_)
  · refine zsr ?_; refine zw1 ?_; refine zw1 ?_; refine zw1 ?_; refine zns ?_; refine wp_ret ?_; refine seq_ret ?_; refine ret_of ?_; refine zr ?_; refine zr ?_; refine zr ?_; refine rk_nil ?_
    rw [if_pos h1]
    exact ⟨rfl, closeR hS⟩
  rw [if_neg h1]
  refine wp_skip ?_; refine seq_normal ?_; refine wp_seq ?_; refine zsr ?_; refine zw1 ?_; refine wpO_cons ?_; refine op1_lss rfl rfl rfl ?_; refine zns ?_
  refine wp_dec rfl (fun h2 => ?_) (fun h2 => ?_)
  · refine zsr ?_; refine zw1 ?_; refine zw1 ?_; refine zw1 ?_; refine zns ?_; refine wp_ret ?_; refine seq_ret ?_; refine ret_of ?_; refine zr ?_; refine zr ?_; refine zr ?_; refine rk_nil ?_
    rw [if_pos h2]
    exact ⟨rfl, closeR hS⟩
  rw [if_neg h2]
  refine wp_skip ?_; refine seq_normal ?_; refine wp_seq ?_; refine wp_regionD ?_; refine zd1 ?_; refine zm ?_; refine wpD_cons ?_; refine op1_faddr rfl rfl ?_; refine wpD_cons ?_
  refine op1_load (v := .int .i64 k.off) rfl rfl hg (hj 5 (by omega)) ?_
  refine zd1 ?_; refine zm ?_; refine zg ?_; refine zj (S.g0 hS) ?_; refine zd1 ?_; refine zd1 ?_; refine zm ?_; refine wpD_cons ?_; refine op1_faddr rfl rfl ?_; refine wpD_cons ?_
  refine op1_load (v := .int .i64 k.obj) rfl rfl hg (hj 1 (by omega)) ?_
  refine wpD_cons ?_; refine op1_call2 rfl (by (conv => lhs; whnf) <;> rfl) (by (conv => lhs; whnf) <;> rfl) ?_
  refine wpF_mono (L68o (id := k.obj) ht hS) ?_
  rintro _ H4 ⟨hS4, ⟨hx4, rfl⟩ | ⟨i2, x2, hA2, hi2, rfl⟩⟩
  · rw [hxo] at hx4
    cases hx4
  obtain rfl : x2 = x := by
    have := hA2.is
    rw [hxo] at this
    cases this
    rfl
  have hT := hS
  clear hS
  have hS := hS4
  clear hS4
  have hlo1 := ht.osL
  obtain ⟨b2, off2, cs2, rfl, hg2, hcl2, hj2, hN2⟩ := eltR rowO_len (S.up1 hS) hA2.get
  have hxR : 0 ≤ x2.size ∧ x2.size ≤ 16384 := (ht.osR (k.obj, x2) (gGet_mem hA2.is)).size
  obtain ⟨_, _, cs4, e4, hg4, hcl4, hj4, hN4⟩ := eltR rowB_len (S.up2 hS) hA.get
  cases e4
  unfold rfC at hS
  refine wpD_cons ?_; refine op1_iaddr rfl rfl rfl (by omega) (by omega) ?_; refine wpD_cons ?_; refine op1_faddr rfl rfl ?_; refine wpD_cons ?_; refine op1_faddr rfl rfl ?_; refine wpD_cons ?_
  refine op1_load (v := .int .i64 x2.size) rfl rfl hg2 (hj2 4 (by omega)) ?_
  refine zd1 ?_; refine zd1 ?_; refine wpD_nil ?_; refine dk_of ?_ ?_; (iterate 3 refine chk_skip ?_); refine zx 17 ?_ ?_; refine zy 7 ?_ ?_
  · exact chk_load rfl hg (hj 5 (by omega)) rfl
  refine zy 0 ?_ ?_
  · exact chk_load rfl hg4 (hj4 5 (by omega)) rfl
  exact chkFs_nil; (iterate 3 refine chk_skip ?_); refine zx 13 ?_ ?_; refine zy 7 ?_ ?_; exact zq (S.g0 hT); refine zy 0 ?_ ?_; exact zq (S.g0 hS); exact chkFs_nil; (iterate 4 refine chk_skip ?_); refine zx 8 ?_ ?_; refine zy 7 ?_ ?_
  · exact chk_load rfl hg (hj 1 (by omega)) rfl
  exact chkFs_nil; (iterate 4 refine chk_skip ?_); refine zx 3 ?_ ?_; refine zy 0 ?_ ?_
  · exact chk_load rfl hg2 (hj2 4 (by omega)) rfl
  exact chkFs_nil; (iterate 2 refine chk_skip ?_); exact chk_end; refine seq_normal ?_
  refine zsr ?_; refine zw1 ?_; refine zns ?_; refine wp_seq ?_; refine zsr ?_; refine zw1 ?_; refine zw1 ?_; refine wpO_cons ?_; refine op1_lss rfl rfl rfl ?_; refine zns ?_
  refine wp_dec rfl (fun h4 => ?_) (fun h4 => ?_)
  · refine wp_region ?_; refine zw1 ?_; refine zw1 ?_; refine zw1 ?_; refine wpO_cons ?_; refine op1_sub rfl rfl rfl (by exact wrap_i64 (by omega) (by omega)) ?_; refine wpO_cons ?_; refine op1_call2 rfl (by (conv => lhs; whnf) <;> rfl) (by (conv => lhs; whnf) <;> rfl) ?_
    refine wpF_mono (L74 hS) ?_
    rintro _ H5 ⟨rfl, hS5⟩
    have hT3 := hS
    clear hS
    have hS := hS5
    clear hS5
    refine zw1 ?_; refine zns ?_; refine zsr ?_; refine zw1 ?_; refine zw1 ?_; refine zw1 ?_; refine wpO_cons ?_; refine op1_add rfl rfl rfl (by exact wrap_i64 (by omega) (by omega)) ?_; refine zn ?_; refine wpO_cons ?_; refine op1_faddr rfl rfl ?_; refine wpO_cons ?_
    refine op1_store1L (k := i * 7 + 5) rfl rfl rfl rfl rfl (S.up2 hS) (by omega) ?_
    have hT4 := hS
    clear hS
    intro H6 hS
    rw [fm_set rowB_len hA.get (by omega) (y' := (id, { k with off := k.off + min n (x2.size - k.off) })) rfl, hA.set] at hS
    refine zns ?_; refine zsr ?_; (iterate 5 refine zw1 ?_); refine zns ?_; refine wp_ret ?_; refine ret_of ?_; refine zr ?_; refine zr ?_; refine zr ?_; refine rk_nil ?_
    rw [show max (min n (x2.size - k.off)) 0 = min n (x2.size - k.off) by omega]
    exact ⟨rfl, closeR (t := t.setB id { k with off := k.off + min n (x2.size - k.off) }) (S.dn2 hS)⟩
  · refine wp_skip ?_; refine seq_normal ?_; refine zsr ?_; refine zw1 ?_; refine zw1 ?_; refine zw1 ?_; refine wpO_cons ?_; refine op1_add rfl rfl rfl (by exact wrap_i64 (by omega) (by omega)) ?_; refine zn ?_; refine wpO_cons ?_; refine op1_faddr rfl rfl ?_; refine wpO_cons ?_
    refine op1_store1L (k := i * 7 + 5) rfl rfl rfl rfl rfl (S.up2 hS) (by omega) ?_
    have hT4 := hS
    clear hS
    intro H6 hS
    rw [fm_set rowB_len hA.get (by omega) (y' := (id, { k with off := k.off + 0 })) rfl, hA.set] at hS
    refine zns ?_; refine zsr ?_; (iterate 5 refine zw1 ?_); refine zns ?_; refine wp_ret ?_; refine ret_of ?_; refine zr ?_; refine zr ?_; refine zr ?_; refine rk_nil ?_
    rw [show max (min n (x2.size - k.off)) 0 = 0 by omega]
    exact ⟨rfl, closeR (t := t.setB id { k with off := k.off + 0 }) (S.dn2 hS)⟩
end
end Go.E.At
/- Attributes: the reference's Seek. -/
namespace Go.E.At
open Go Go.E Go.Proofs.YtgbnjcmjioiclaaDoor.base Go.Proofs.YtgbnjcmjioiclaaDoor Go.Proofs
set_option linter.unusedVariables false
set_option linter.unusedSimpArgs false
set_option maxRecDepth 100000
section
variable {B H : AHeap} {As : List Asn} {t : Tb} {p : Nat} {id o : Int}
def Tb.sk2 (t : Tb) (id : Int) (k : Bk) (s a : Int) : Int × Int × Tb := if s < -a ∨ s > 16384 - a then (0, 34, t) else (a + s, 0, t.setB id { k with off := a + s })
theorem seek_eq {s w : Int} {k : Bk} {x : Ob} (hk : gGet t.bs id = some k) (hx : gGet t.os k.obj = some x) (h1 : 0 ≤ k.off ∧ k.off ≤ 16384) (h2 : 0 ≤ x.size ∧ x.size ≤ 16384) : t.seek id s w = if w < 0 ∨ w > 2 then (0, 14, t) else t.sk2 id k s (if w = 0 then 0 else if w = 1 then k.off else x.size) := by
  unfold Tb.seek Tb.sk2
  rw [hk]
  simp only [hx]
  by_cases h0 : w < 0 ∨ w > 2
  · rw [if_pos h0, if_pos h0]
  rw [if_neg h0, if_neg h0]
  have ha : 0 ≤ (if w = 0 then 0 else if w = 1 then k.off else x.size) ∧ (if w = 0 then 0 else if w = 1 then k.off else x.size) ≤ 16384 := by
    split
    · omega
    · split <;> omega
  generalize (if w = 0 then 0 else if w = 1 then k.off else x.size) = a at ha
  rw [Int.add_comm s a]
  by_cases h3 : s < -a ∨ s > 16384 - a
  · rw [if_pos h3]
    by_cases h4 : s < -16384 ∨ s > 16384
    · rw [if_pos h4]
    · rw [if_neg h4, if_pos (by omega)]
  · rw [if_neg h3, if_neg (by omega), if_neg (by omega)]
theorem L55 {s w : Int} (hs : -9223372036854775808 ≤ s ∧ s ≤ 9223372036854775807) (ht : TbOk t) (hS : S B H (refP p t :: As)) : wpF C 55 [ptrB p, .int .i64 id, .int .i64 s, .int .i64 w] H fun v H' => v = .tuple ⟨[.int .i64 (t.seek id s w).1, .int .i64 (t.seek id s w).2.1]⟩ ∧ S B H' (refP p (t.seek id s w).2.2 :: As) := by
  refine wpF_ofW o55 rfl rfl ?_
  refine zsr ?_; refine zw1 ?_; refine zw1 ?_; refine zns ?_; refine zsr ?_; refine zw1 ?_; refine zw1 ?_; refine wpO_cons ?_; refine op1_call2 rfl (by (conv => lhs; whnf) <;> rfl) (by (conv => lhs; whnf) <;> rfl) ?_
  refine wpF_mono (L69 (id := id) ht (hS)) ?_
  rintro _ H3 ⟨hS3, ⟨hx, rfl⟩ | ⟨i, k, hA, hi, rfl⟩⟩
  · clear hS
    have hS := hS3
    clear hS3
    refine zw1 ?_; refine zns ?_; refine wp_seq ?_; refine zsr ?_; refine zw1 ?_; refine wpO_cons ?_; refine op1_lss rfl rfl rfl ?_; refine zns ?_; refine wp_true rfl ?_; refine zsr ?_; refine zw1 ?_; refine zw1 ?_; refine zns ?_; refine wp_ret ?_; refine seq_ret ?_; refine ret_of ?_; refine zr ?_; refine zr ?_; refine rk_nil ?_
    exact ⟨by unfold Tb.seek; rw [hx]; rfl, by unfold Tb.seek; rw [hx]; exact hS⟩
  have hkR := ht.bsR (id, k) (gGet_mem hA.is)
  have hr2 : 0 ≤ k.off ∧ k.off ≤ 16384 := hkR.off
  have hr3 : 1 ≤ k.refs ∧ k.refs ≤ 200 := hkR.refs
  unfold ptrB
  clear hS
  have hS := hS3
  clear hS3
  obtain ⟨a1, c1, a2, c2, hS1⟩ := openR hS
  clear hS
  have hS := hS1
  clear hS1
  unfold rfC at hS
  have hlo := ht.bsL
  refine zw1 ?_; refine zns ?_; refine wp_seq ?_; refine zsr ?_; refine zw1 ?_; refine wpO_cons ?_; refine op1_lss rfl rfl rfl ?_; refine zns ?_; refine wp_false rfl ?_; refine wp_skip ?_; refine seq_normal ?_; refine zsr ?_; refine zw1 ?_; refine zn ?_; refine zf ?_; refine zh (S.g0 hS) ?_; refine zw1 ?_; refine wpO_cons ?_
  obtain ⟨b, off, cs, rfl, hg, hcl, hj, hN⟩ := eltR rowB_len (S.up2 hS) hA.get
  obtain ⟨x, hxo⟩ := ht.has (id, k) (gGet_mem hA.is)
  have hxo : gGet t.os k.obj = some x := hxo
  have hxR : 0 ≤ x.size ∧ x.size ≤ 16384 := (ht.osR (k.obj, x) (gGet_mem hxo)).size
  rw [seek_eq hA.is hxo hr2 hxR]
  refine op1_iaddr rfl rfl rfl (by omega) (by omega) ?_; refine wpO_cons ?_; refine op1_faddr rfl rfl ?_; refine zw1 ?_; refine zns ?_; refine zsr ?_; refine zw1 ?_; refine zns ?_; refine wp_seq ?_; refine zsr ?_; refine zw1 ?_; refine zns ?_; refine wp_block ?_; refine zsr ?_; refine wpO_cons ?_; refine op1_eqlI rfl rfl rfl ?_; refine zw1 ?_; refine zns ?_
  refine wp_dec rfl (fun h1 => ?_) (fun h1 => ?_)
  · rw [if_neg (by omega), if_pos h1]
    refine wp_skip ?_; refine block_normal ?_; refine seq_normal ?_; refine wp_seq ?_; refine zsr ?_; refine zw1 ?_; refine zw1 ?_; refine wpO_cons ?_; refine op1_neg rfl rfl (by exact wrap_i64 (by omega) (by omega)) ?_; refine wpO_cons ?_; refine op1_lss rfl rfl rfl ?_; refine zw1 ?_; refine wpO_cons ?_
    unfold Tb.sk2
    refine op1_dec rfl (fun h5 => ?_) (fun h5 => ?_)
    · refine op1_skip rfl ?_; (iterate 3 refine zk ?_); refine zt ?_; refine zns ?_; refine wp_true rfl ?_; refine zsr ?_; refine zw1 ?_; refine zw1 ?_; refine zns ?_; refine wp_ret ?_; refine seq_ret ?_; refine ret_of ?_; refine zr ?_; refine zr ?_; refine rk_nil ?_
      rw [if_pos (.inl (by omega))]
      exact ⟨rfl, closeR hS⟩
    refine op1_mov rfl (by (conv => lhs; whnf) <;> rfl) ?_; refine zw1 ?_; refine wpO_cons ?_; refine op1_sub rfl rfl rfl (by exact wrap_i64 (by omega) (by omega)) ?_; refine wpO_cons ?_; refine op1_gtr rfl rfl rfl ?_; refine zu ?_; refine zns ?_
    refine wp_dec rfl (fun h6 => ?_) (fun h6 => ?_)
    · refine zsr ?_; refine zw1 ?_; refine zw1 ?_; refine zns ?_; refine wp_ret ?_; refine seq_ret ?_; refine ret_of ?_; refine zr ?_; refine zr ?_; refine rk_nil ?_
      rw [if_pos (.inr (by omega))]
      exact ⟨rfl, closeR hS⟩
    rw [if_neg (by omega)]
    refine wp_skip ?_; refine seq_normal ?_; refine zsr ?_; refine zw1 ?_; refine zw1 ?_; refine zw1 ?_; refine wpO_cons ?_; refine op1_add rfl rfl rfl (by exact wrap_i64 (by omega) (by omega)) ?_; refine zn ?_; refine wpO_cons ?_; refine op1_faddr rfl rfl ?_; refine wpO_cons ?_
    refine op1_store1L (k := i * 7 + 5) rfl rfl rfl rfl rfl (S.up2 hS) (by omega) ?_
    have hT4 := hS
    clear hS
    intro H6 hS
    rw [fm_set rowB_len hA.get (by omega) (y' := (id, { k with off := 0 + s })) rfl] at hS
    have hS5 := hS
    rw [show t.bs.length = (t.bs.set i (id, { k with off := 0 + s })).length from List.length_set.symm] at hS5
    obtain ⟨_, _, cs5, e5, hg5, hcl5, hj5, hN5⟩ := eltR rowB_len hS5 (List.getElem?_set_self hi)
    cases e5
    clear hS5
    rw [hA.set] at hS
    refine zns ?_; refine zsr ?_; refine zw1 ?_; refine zn ?_; refine wpO_cons ?_; refine op1_faddr rfl rfl ?_; refine wpO_cons ?_
    refine op1_load (v := .int .i64 (0 + s)) rfl rfl hg5 (hj5 5 (by omega)) ?_
    refine zw1 ?_; refine zw1 ?_; refine zns ?_; refine wp_ret ?_; refine ret_of ?_; refine zr ?_; refine zr ?_; refine rk_nil ?_
    exact ⟨rfl, closeR (t := t.setB id { k with off := 0 + s }) (S.dn2 hS)⟩
  refine zsr ?_; refine wpO_cons ?_; refine op1_eqlI rfl rfl rfl ?_; refine zw1 ?_; refine zns ?_
  refine wp_dec rfl (fun h2 => ?_) (fun h2 => ?_)
  · rw [if_neg (by omega), if_neg h1, if_pos h2]
    refine wp_region ?_; refine zw1 ?_; refine zn ?_; refine wpO_cons ?_; refine op1_faddr rfl rfl ?_; refine wpO_cons ?_
    refine op1_load (v := .int .i64 k.off) rfl rfl hg (hj 5 (by omega)) ?_
    refine zw1 ?_; refine wpO_nil ?_; refine block_normal ?_; refine seq_normal ?_; refine wp_seq ?_; refine zsr ?_; refine zw1 ?_; refine zw1 ?_; refine wpO_cons ?_; refine op1_neg rfl rfl (by exact wrap_i64 (by omega) (by omega)) ?_; refine wpO_cons ?_; refine op1_lss rfl rfl rfl ?_; refine zw1 ?_; refine wpO_cons ?_
    unfold Tb.sk2
    refine op1_dec rfl (fun h5 => ?_) (fun h5 => ?_)
    · refine op1_skip rfl ?_; (iterate 3 refine zk ?_); refine zt ?_; refine zns ?_; refine wp_true rfl ?_; refine zsr ?_; refine zw1 ?_; refine zw1 ?_; refine zns ?_; refine wp_ret ?_; refine seq_ret ?_; refine ret_of ?_; refine zr ?_; refine zr ?_; refine rk_nil ?_
      rw [if_pos (.inl (by omega))]
      exact ⟨rfl, closeR hS⟩
    refine op1_mov rfl (by (conv => lhs; whnf) <;> rfl) ?_; refine zw1 ?_; refine wpO_cons ?_; refine op1_sub rfl rfl rfl (by exact wrap_i64 (by omega) (by omega)) ?_; refine wpO_cons ?_; refine op1_gtr rfl rfl rfl ?_; refine zu ?_; refine zns ?_
    refine wp_dec rfl (fun h6 => ?_) (fun h6 => ?_)
    · refine zsr ?_; refine zw1 ?_; refine zw1 ?_; refine zns ?_; refine wp_ret ?_; refine seq_ret ?_; refine ret_of ?_; refine zr ?_; refine zr ?_; refine rk_nil ?_
      rw [if_pos (.inr (by omega))]
      exact ⟨rfl, closeR hS⟩
    rw [if_neg (by omega)]
    refine wp_skip ?_; refine seq_normal ?_; refine zsr ?_; refine zw1 ?_; refine zw1 ?_; refine zw1 ?_; refine wpO_cons ?_; refine op1_add rfl rfl rfl (by exact wrap_i64 (by omega) (by omega)) ?_; refine zn ?_; refine wpO_cons ?_; refine op1_faddr rfl rfl ?_; refine wpO_cons ?_
    refine op1_store1L (k := i * 7 + 5) rfl rfl rfl rfl rfl (S.up2 hS) (by omega) ?_
    have hT4 := hS
    clear hS
    intro H6 hS
    rw [fm_set rowB_len hA.get (by omega) (y' := (id, { k with off := k.off + s })) rfl] at hS
    have hS5 := hS
    rw [show t.bs.length = (t.bs.set i (id, { k with off := k.off + s })).length from List.length_set.symm] at hS5
    obtain ⟨_, _, cs5, e5, hg5, hcl5, hj5, hN5⟩ := eltR rowB_len hS5 (List.getElem?_set_self hi)
    cases e5
    clear hS5
    rw [hA.set] at hS
    refine zns ?_; refine zsr ?_; refine zw1 ?_; refine zn ?_; refine wpO_cons ?_; refine op1_faddr rfl rfl ?_; refine wpO_cons ?_
    refine op1_load (v := .int .i64 (k.off + s)) rfl rfl hg5 (hj5 5 (by omega)) ?_
    refine zw1 ?_; refine zw1 ?_; refine zns ?_; refine wp_ret ?_; refine ret_of ?_; refine zr ?_; refine zr ?_; refine rk_nil ?_
    exact ⟨rfl, closeR (t := t.setB id { k with off := k.off + s }) (S.dn2 hS)⟩
  refine zsr ?_; refine wpO_cons ?_; refine op1_eqlI rfl rfl rfl ?_; refine zw1 ?_; refine zns ?_
  refine wp_dec rfl (fun h3 => ?_) (fun h3 => ?_)
  · rw [if_neg (by omega), if_neg h1, if_neg h2]
    refine wp_regionD ?_; refine zd1 ?_; refine zm ?_; refine zg ?_; refine zj (S.g0 hS) ?_; refine zd1 ?_; refine zd1 ?_; refine zm ?_; refine wpD_cons ?_; refine op1_faddr rfl rfl ?_; refine wpD_cons ?_
    refine op1_load (v := .int .i64 k.obj) rfl rfl hg (hj 1 (by omega)) ?_
    refine wpD_cons ?_; refine op1_call2 rfl (by (conv => lhs; whnf) <;> rfl) (by (conv => lhs; whnf) <;> rfl) ?_
    refine wpF_mono (L68o (id := k.obj) ht hS) ?_
    rintro _ H4 ⟨hS4, ⟨hx4, rfl⟩ | ⟨i2, x2, hA2, hi2, rfl⟩⟩
    · rw [hxo] at hx4
      cases hx4
    obtain rfl : x2 = x := by
      have := hA2.is
      rw [hxo] at this
      cases this
      rfl
    have hT := hS
    clear hS
    have hS := hS4
    clear hS4
    have hlo1 := ht.osL
    obtain ⟨b2, off2, cs2, rfl, hg2, hcl2, hj2, hN2⟩ := eltR rowO_len (S.up1 hS) hA2.get
    unfold rfC at hS
    refine wpD_cons ?_; refine op1_iaddr rfl rfl rfl (by omega) (by omega) ?_; refine wpD_cons ?_; refine op1_faddr rfl rfl ?_; refine wpD_cons ?_; refine op1_faddr rfl rfl ?_; refine wpD_cons ?_
    refine op1_load (v := .int .i64 x2.size) rfl rfl hg2 (hj2 4 (by omega)) ?_
    refine zd1 ?_; refine wpD_nil ?_; refine dk_of ?_ ?_; (iterate 3 refine chk_skip ?_); refine zx 12 ?_ ?_; refine zy 6 ?_ ?_; exact zq (S.g0 hT); refine zy 0 ?_ ?_; exact zq (S.g0 hS); exact chkFs_nil; (iterate 4 refine chk_skip ?_); refine zx 7 ?_ ?_; refine zy 6 ?_ ?_
    · exact chk_load rfl hg (hj 1 (by omega)) rfl
    exact chkFs_nil; (iterate 4 refine chk_skip ?_); refine zx 2 ?_ ?_; refine zy 0 ?_ ?_
    · exact chk_load rfl hg2 (hj2 4 (by omega)) rfl
    exact chkFs_nil; refine chk_skip ?_; exact chk_end; refine block_normal ?_; refine seq_normal ?_
    refine wp_seq ?_; refine zsr ?_; refine zw1 ?_; refine zw1 ?_; refine wpO_cons ?_; refine op1_neg rfl rfl (by exact wrap_i64 (by omega) (by omega)) ?_; refine wpO_cons ?_; refine op1_lss rfl rfl rfl ?_; refine zw1 ?_; refine wpO_cons ?_
    unfold Tb.sk2
    refine op1_dec rfl (fun h5 => ?_) (fun h5 => ?_)
    · refine op1_skip rfl ?_; (iterate 3 refine zk ?_); refine zt ?_; refine zns ?_; refine wp_true rfl ?_; refine zsr ?_; refine zw1 ?_; refine zw1 ?_; refine zns ?_; refine wp_ret ?_; refine seq_ret ?_; refine ret_of ?_; refine zr ?_; refine zr ?_; refine rk_nil ?_
      rw [if_pos (.inl (by omega))]
      exact ⟨rfl, closeR hS⟩
    refine op1_mov rfl (by (conv => lhs; whnf) <;> rfl) ?_; refine zw1 ?_; refine wpO_cons ?_; refine op1_sub rfl rfl rfl (by exact wrap_i64 (by omega) (by omega)) ?_; refine wpO_cons ?_; refine op1_gtr rfl rfl rfl ?_; refine zu ?_; refine zns ?_
    refine wp_dec rfl (fun h6 => ?_) (fun h6 => ?_)
    · refine zsr ?_; refine zw1 ?_; refine zw1 ?_; refine zns ?_; refine wp_ret ?_; refine seq_ret ?_; refine ret_of ?_; refine zr ?_; refine zr ?_; refine rk_nil ?_
      rw [if_pos (.inr (by omega))]
      exact ⟨rfl, closeR hS⟩
    rw [if_neg (by omega)]
    refine wp_skip ?_; refine seq_normal ?_; refine zsr ?_; refine zw1 ?_; refine zw1 ?_; refine zw1 ?_; refine wpO_cons ?_; refine op1_add rfl rfl rfl (by exact wrap_i64 (by omega) (by omega)) ?_; refine zn ?_; refine wpO_cons ?_; refine op1_faddr rfl rfl ?_; refine wpO_cons ?_
    refine op1_store1L (k := i * 7 + 5) rfl rfl rfl rfl rfl (S.up2 hS) (by omega) ?_
    have hT4 := hS
    clear hS
    intro H6 hS
    rw [fm_set rowB_len hA.get (by omega) (y' := (id, { k with off := x2.size + s })) rfl] at hS
    have hS5 := hS
    rw [show t.bs.length = (t.bs.set i (id, { k with off := x2.size + s })).length from List.length_set.symm] at hS5
    obtain ⟨_, _, cs5, e5, hg5, hcl5, hj5, hN5⟩ := eltR rowB_len hS5 (List.getElem?_set_self hi)
    cases e5
    clear hS5
    rw [hA.set] at hS
    refine zns ?_; refine zsr ?_; refine zw1 ?_; refine zn ?_; refine wpO_cons ?_; refine op1_faddr rfl rfl ?_; refine wpO_cons ?_
    refine op1_load (v := .int .i64 (x2.size + s)) rfl rfl hg5 (hj5 5 (by omega)) ?_
    refine zw1 ?_; refine zw1 ?_; refine zns ?_; refine wp_ret ?_; refine ret_of ?_; refine zr ?_; refine zr ?_; refine rk_nil ?_
    exact ⟨rfl, closeR (t := t.setB id { k with off := x2.size + s }) (S.dn2 hS)⟩
  · rw [if_pos (by omega)]
    refine zsr ?_; refine zw1 ?_; refine zw1 ?_; refine zns ?_; refine wp_ret ?_; refine block_ret ?_; refine seq_ret ?_; refine ret_of ?_; refine zr ?_; refine zr ?_; refine rk_nil ?_
    exact ⟨rfl, closeR hS⟩
end
end Go.E.At
/- Attributes: the reference's Write. -/
namespace Go.E.At
open Go Go.E Go.Proofs.YtgbnjcmjioiclaaDoor.base Go.Proofs.YtgbnjcmjioiclaaDoor Go.Proofs
set_option linter.unusedVariables false
set_option linter.unusedSimpArgs false
set_option maxRecDepth 100000
section
variable {B H : AHeap} {As : List Asn} {t : Tb} {p : Nat} {id o : Int}
def Tb.wr (t : Tb) (id n : Int) (k : Bk) (x : Ob) (at_ : Int) : Int × Int × Int × Tb :=
  if 0 < n ∧ min n (16384 - at_) = 0 then (0, 0, 25, t)
  else (at_, min n (16384 - at_), 0, t.set2 id { k with off := at_ + min n (16384 - at_) } k.obj { x with size := max x.size (at_ + min n (16384 - at_)) })
theorem write_eq {n : Int} {k : Bk} {x : Ob} (hk : gGet t.bs id = some k) (hx : gGet t.os k.obj = some x) (h0 : ¬ n < 0) (ha : ¬ bitAnd .i64 k.acc 2 = 0) (h1 : 0 ≤ k.off ∧ k.off ≤ 16384) (h2 : 0 ≤ x.size ∧ x.size ≤ 16384) : t.write id n = t.wr id n k x (if k.app = true then x.size else k.off) := by
  unfold Tb.write Tb.wr
  rw [hk]
  simp only [hx]
  rw [if_neg ha, if_neg h0]
  have ha : 0 ≤ (if k.app = true then x.size else k.off) ∧ (if k.app = true then x.size else k.off) ≤ 16384 := by split <;> omega
  generalize (if k.app = true then x.size else k.off) = a at ha
  rw [show max (min n (16384 - a)) 0 = min n (16384 - a) by omega]
theorem L54 {n : Int} (hn : -9223372036854775808 ≤ n ∧ n ≤ 9223372036854775807) (ht : TbOk t) (hS : S B H (refP p t :: As)) : wpF C 54 [ptrB p, .int .i64 id, .int .i64 n] H fun v H' => v = .tuple ⟨[.int .i64 (t.write id n).1, .int .i64 (t.write id n).2.1, .int .i64 (t.write id n).2.2.1]⟩ ∧ S B H' (refP p (t.write id n).2.2.2 :: As) := by
  refine wpF_ofW o54 rfl rfl ?_
  refine zsr ?_; refine zw1 ?_; refine zw1 ?_; refine zw1 ?_; refine zns ?_; refine zsr ?_; refine zw1 ?_; refine zw1 ?_; refine wpO_cons ?_; refine op1_call2 rfl (by (conv => lhs; whnf) <;> rfl) (by (conv => lhs; whnf) <;> rfl) ?_
  refine wpF_mono (L69 (id := id) ht (hS)) ?_
  rintro _ H3 ⟨hS3, ⟨hx, rfl⟩ | ⟨i, k, hA, hi, rfl⟩⟩
  · clear hS
    have hS := hS3
    clear hS3
    refine zw1 ?_; refine zns ?_; refine wp_seq ?_; refine zsr ?_; refine zw1 ?_; refine wpO_cons ?_; refine op1_lss rfl rfl rfl ?_; refine zns ?_; refine wp_true rfl ?_; refine zsr ?_; refine zw1 ?_; refine zw1 ?_; refine zw1 ?_; refine zns ?_; refine wp_ret ?_; refine seq_ret ?_; refine ret_of ?_; refine zr ?_; refine zr ?_; refine zr ?_; refine rk_nil ?_
    exact ⟨by unfold Tb.write; rw [hx]; rfl, by unfold Tb.write; rw [hx]; exact hS⟩
  have hkR := ht.bsR (id, k) (gGet_mem hA.is)
  have hr2 : 0 ≤ k.off ∧ k.off ≤ 16384 := hkR.off
  have hr3 : 1 ≤ k.refs ∧ k.refs ≤ 200 := hkR.refs
  unfold ptrB
  clear hS
  have hS := hS3
  clear hS3
  obtain ⟨a1, c1, a2, c2, hS1⟩ := openR hS
  clear hS
  have hS := hS1
  clear hS1
  unfold rfC at hS
  have hlo := ht.bsL
  refine zw1 ?_; refine zns ?_; refine wp_seq ?_; refine zsr ?_; refine zw1 ?_; refine wpO_cons ?_; refine op1_lss rfl rfl rfl ?_; refine zns ?_; refine wp_false rfl ?_; refine wp_skip ?_; refine seq_normal ?_; refine zsr ?_; refine zw1 ?_; refine zn ?_; refine zf ?_; refine zh (S.g0 hS) ?_; refine zw1 ?_; refine wpO_cons ?_
  obtain ⟨b, off, cs, rfl, hg, hcl, hj, hN⟩ := eltR rowB_len (S.up2 hS) hA.get
  obtain ⟨x, hxo⟩ := ht.has (id, k) (gGet_mem hA.is)
  have hxo : gGet t.os k.obj = some x := hxo
  have hxR : 0 ≤ x.size ∧ x.size ≤ 16384 := (ht.osR (k.obj, x) (gGet_mem hxo)).size
  refine op1_iaddr rfl rfl rfl (by omega) (by omega) ?_; refine wpO_cons ?_; refine op1_faddr rfl rfl ?_; refine zw1 ?_; refine zns ?_; refine wp_seq ?_; refine zsr ?_; refine zw1 ?_; refine zn ?_; refine wpO_cons ?_; refine op1_faddr rfl rfl ?_; refine wpO_cons ?_
  refine op1_load (v := .int .i64 k.acc) rfl rfl hg (hj 2 (by omega)) ?_
  refine wpO_cons ?_; refine op1_and rfl rfl rfl ?_; refine wpO_cons ?_; refine op1_eqlI rfl rfl rfl ?_; refine zns ?_
  refine wp_dec rfl (fun h1 => ?_) (fun h1 => ?_)
  · refine zsr ?_; refine zw1 ?_; refine zw1 ?_; refine zw1 ?_; refine zns ?_; refine wp_ret ?_; refine seq_ret ?_; refine ret_of ?_; refine zr ?_; refine zr ?_; refine zr ?_; refine rk_nil ?_
    exact ⟨by unfold Tb.write; rw [hA.is]; simp only []; rw [if_pos h1]; rfl, by unfold Tb.write; rw [hA.is]; simp only []; rw [if_pos h1]; exact closeR hS⟩
  refine wp_skip ?_; refine seq_normal ?_; refine wp_seq ?_; refine zsr ?_; refine zw1 ?_; refine wpO_cons ?_; refine op1_lss rfl rfl rfl ?_; refine zns ?_
  refine wp_dec rfl (fun h2 => ?_) (fun h2 => ?_)
  · refine zsr ?_; refine zw1 ?_; refine zw1 ?_; refine zw1 ?_; refine zns ?_; refine wp_ret ?_; refine seq_ret ?_; refine ret_of ?_; refine zr ?_; refine zr ?_; refine zr ?_; refine rk_nil ?_
    exact ⟨by unfold Tb.write; rw [hA.is]; simp only []; rw [if_neg h1, if_pos h2]; rfl, by unfold Tb.write; rw [hA.is]; simp only []; rw [if_neg h1, if_pos h2]; exact closeR hS⟩
  rw [write_eq hA.is hxo h2 h1 hr2 hxR]
  refine wp_skip ?_; refine seq_normal ?_; refine wp_seq ?_; refine wp_regionD ?_; refine zd1 ?_; refine zm ?_; refine zg ?_; refine zj (S.g0 hS) ?_; refine zd1 ?_; refine zd1 ?_; refine zm ?_; refine wpD_cons ?_; refine op1_faddr rfl rfl ?_; refine wpD_cons ?_
  refine op1_load (v := .int .i64 k.obj) rfl rfl hg (hj 1 (by omega)) ?_
  refine wpD_cons ?_; refine op1_call2 rfl (by (conv => lhs; whnf) <;> rfl) (by (conv => lhs; whnf) <;> rfl) ?_
  refine wpF_mono (L68o (id := k.obj) ht hS) ?_
  rintro _ H4 ⟨hS4, ⟨hx4, rfl⟩ | ⟨i2, x2, hA2, hi2, rfl⟩⟩
  · rw [hxo] at hx4
    cases hx4
  obtain rfl : x2 = x := by
    have := hA2.is
    rw [hxo] at this
    cases this
    rfl
  have hT := hS
  clear hS
  have hS := hS4
  clear hS4
  have hlo1 := ht.osL
  obtain ⟨b2, off2, cs2, rfl, hg2, hcl2, hj2, hN2⟩ := eltR rowO_len (S.up1 hS) hA2.get
  unfold rfC at hS
  obtain ⟨_, _, cs4, e4, hg4, hcl4, hj4, hN4⟩ := eltR rowB_len (S.up2 hS) hA.get
  cases e4
  refine wpD_cons ?_; refine op1_iaddr rfl rfl rfl (by omega) (by omega) ?_; refine wpD_cons ?_; refine op1_faddr rfl rfl ?_; refine zd1 ?_; refine wpD_nil ?_; refine dk_of ?_ ?_; (iterate 3 refine chk_skip ?_); refine zx 10 ?_ ?_; refine zy 4 ?_ ?_; exact zq (S.g0 hT); refine zy 0 ?_ ?_; exact zq (S.g0 hS); exact chkFs_nil; (iterate 4 refine chk_skip ?_); refine zx 5 ?_ ?_; refine zy 4 ?_ ?_
  · exact chk_load rfl hg (hj 1 (by omega)) rfl
  exact chkFs_nil; (iterate 4 refine chk_skip ?_); exact chk_end; refine seq_normal ?_
  refine zsr ?_; refine zw1 ?_; refine zn ?_; refine wpO_cons ?_; refine op1_faddr rfl rfl ?_; refine wpO_cons ?_
  refine op1_load (v := .int .i64 k.off) rfl rfl hg4 (hj4 5 (by omega)) ?_
  refine zw1 ?_; refine zns ?_; refine wp_seq ?_; refine zsr ?_; refine zw1 ?_; refine zn ?_; refine wpO_cons ?_; refine op1_faddr rfl rfl ?_; refine wpO_cons ?_
  refine op1_load (v := .bool k.app) rfl rfl hg4 (hj4 4 (by omega)) ?_
  refine zns ?_
  cases happ : k.app with
  | true =>
    refine wp_true rfl ?_; refine wp_region ?_; refine zw1 ?_; refine zn ?_; refine wpO_cons ?_; refine op1_faddr rfl rfl ?_; refine wpO_cons ?_
    refine op1_load (v := .int .i64 x2.size) rfl rfl hg2 (hj2 4 (by omega)) ?_
    refine zw1 ?_; refine zns ?_; refine zsr ?_; refine zw1 ?_; refine zw1 ?_; refine wpO_cons ?_; refine op1_sub rfl rfl rfl (by exact wrap_i64 (by omega) (by omega)) ?_; refine wpO_cons ?_; refine op1_call2 rfl (by (conv => lhs; whnf) <;> rfl) (by (conv => lhs; whnf) <;> rfl) ?_
    rw [if_pos rfl]
    refine wpF_mono (L74 hS) ?_
    rintro _ H5 ⟨rfl, hS5⟩
    have hT3 := hS
    clear hS
    have hS := hS5
    clear hS5
    unfold Tb.wr
    refine zw1 ?_; refine zns ?_; refine wp_seq ?_; refine zsr ?_; refine zw1 ?_; refine wpO_cons ?_; refine op1_gtr rfl rfl rfl ?_; refine zw1 ?_; refine wpO_cons ?_
    refine op1_dec rfl (fun h3 => ?_) (fun h3 => ?_)
    · refine op1_mov rfl (by (conv => lhs; whnf) <;> rfl) ?_; refine wpO_cons ?_; refine op1_eqlI rfl rfl rfl ?_; refine zt ?_; refine zns ?_
      refine wp_dec rfl (fun h4 => ?_) (fun h4 => ?_)
      · refine zsr ?_; refine zw1 ?_; refine zw1 ?_; refine zw1 ?_; refine zns ?_; refine wp_ret ?_; refine seq_ret ?_; refine ret_of ?_; refine zr ?_; refine zr ?_; refine zr ?_; refine rk_nil ?_
        rw [if_pos ⟨h3, h4⟩]
        exact ⟨rfl, closeR hS⟩
      rw [if_neg (fun h => h4 h.2)]
      refine wp_skip ?_; refine seq_normal ?_; refine zsr ?_; refine zw1 ?_; refine zw1 ?_; refine zw1 ?_; refine wpO_cons ?_; refine op1_add rfl rfl rfl (by exact wrap_i64 (by omega) (by omega)) ?_; refine zn ?_; refine wpO_cons ?_; refine op1_faddr rfl rfl ?_; refine wpO_cons ?_
      refine op1_store1L (k := i * 7 + 5) rfl rfl rfl rfl rfl (S.up2 hS) (by omega) ?_
      have hT5 := hS
      clear hS
      intro H6 hS
      rw [fm_set rowB_len hA.get (by omega) (y' := (id, { k with off := x2.size + min n (16384 - x2.size) })) rfl, hA.set] at hS
      obtain ⟨_, _, cs6, e6, hg6, hcl6, hj6, hN6⟩ := eltR rowO_len (S.up2 hS) hA2.get
      cases e6
      refine zns ?_; refine wp_seq ?_; refine zsr ?_; refine zw1 ?_; refine zn ?_; refine wpO_cons ?_; refine op1_faddr rfl rfl ?_; refine wpO_cons ?_
      refine op1_load (v := .int .i64 x2.size) rfl rfl hg6 (hj6 4 (by omega)) ?_
      refine zw1 ?_; refine zw1 ?_; refine wpO_cons ?_; refine op1_add rfl rfl rfl (by exact wrap_i64 (by omega) (by omega)) ?_; refine wpO_cons ?_; refine op1_lss rfl rfl rfl ?_; refine zns ?_
      refine wp_dec rfl (fun h8 => ?_) (fun h8 => ?_)
      · refine wp_region ?_; refine zw1 ?_; refine zw1 ?_; refine zw1 ?_; refine wpO_cons ?_; refine op1_add rfl rfl rfl (by exact wrap_i64 (by omega) (by omega)) ?_; refine zn ?_; refine wpO_cons ?_; refine op1_faddr rfl rfl ?_; refine wpO_cons ?_
        refine op1_store1L (k := i2 * 7 + 4) rfl rfl rfl rfl rfl (S.up2 hS) (by omega) ?_
        have hT6 := hS
        clear hS
        intro H7 hS
        rw [fm_set rowO_len hA2.get (by omega) (y' := (k.obj, { x2 with size := x2.size + min n (16384 - x2.size) })) rfl, hA2.set] at hS
        refine zns ?_; refine zsr ?_; (iterate 5 refine zw1 ?_); refine zns ?_; refine wp_ret ?_; refine ret_of ?_; refine zr ?_; refine zr ?_; refine zr ?_; refine rk_nil ?_
        rw [show max x2.size (x2.size + min n (16384 - x2.size)) = x2.size + min n (16384 - x2.size) by omega]
        exact ⟨rfl, closeR (t := t.set2 id { k with off := x2.size + min n (16384 - x2.size) } k.obj { x2 with size := x2.size + min n (16384 - x2.size) }) (S.up2 hS)⟩
      · refine wp_skip ?_; refine seq_normal ?_; refine zsr ?_; (iterate 5 refine zw1 ?_); refine zns ?_; refine wp_ret ?_; refine ret_of ?_; refine zr ?_; refine zr ?_; refine zr ?_; refine rk_nil ?_
        rw [show max x2.size (x2.size + min n (16384 - x2.size)) = x2.size by omega]
        have h9 := closeR (t := t.setB id { k with off := x2.size + min n (16384 - x2.size) }) (S.up1 (S.up2 (S.up1 hS)))
        rw [← Tb.set2_B hxo] at h9
        exact ⟨rfl, h9⟩
    · rw [if_neg (fun h => h3 h.1)]
      refine op1_skip rfl ?_; refine zk ?_; refine zu ?_; refine zns ?_; refine wp_false rfl ?_; refine wp_skip ?_; refine seq_normal ?_; refine zsr ?_; refine zw1 ?_; refine zw1 ?_; refine zw1 ?_; refine wpO_cons ?_; refine op1_add rfl rfl rfl (by exact wrap_i64 (by omega) (by omega)) ?_; refine zn ?_; refine wpO_cons ?_; refine op1_faddr rfl rfl ?_; refine wpO_cons ?_
      refine op1_store1L (k := i * 7 + 5) rfl rfl rfl rfl rfl (S.up2 hS) (by omega) ?_
      have hT5 := hS
      clear hS
      intro H6 hS
      rw [fm_set rowB_len hA.get (by omega) (y' := (id, { k with off := x2.size + min n (16384 - x2.size) })) rfl, hA.set] at hS
      obtain ⟨_, _, cs6, e6, hg6, hcl6, hj6, hN6⟩ := eltR rowO_len (S.up2 hS) hA2.get
      cases e6
      refine zns ?_; refine wp_seq ?_; refine zsr ?_; refine zw1 ?_; refine zn ?_; refine wpO_cons ?_; refine op1_faddr rfl rfl ?_; refine wpO_cons ?_
      refine op1_load (v := .int .i64 x2.size) rfl rfl hg6 (hj6 4 (by omega)) ?_
      refine zw1 ?_; refine zw1 ?_; refine wpO_cons ?_; refine op1_add rfl rfl rfl (by exact wrap_i64 (by omega) (by omega)) ?_; refine wpO_cons ?_; refine op1_lss rfl rfl rfl ?_; refine zns ?_
      refine wp_dec rfl (fun h8 => ?_) (fun h8 => ?_)
      · refine wp_region ?_; refine zw1 ?_; refine zw1 ?_; refine zw1 ?_; refine wpO_cons ?_; refine op1_add rfl rfl rfl (by exact wrap_i64 (by omega) (by omega)) ?_; refine zn ?_; refine wpO_cons ?_; refine op1_faddr rfl rfl ?_; refine wpO_cons ?_
        refine op1_store1L (k := i2 * 7 + 4) rfl rfl rfl rfl rfl (S.up2 hS) (by omega) ?_
        have hT6 := hS
        clear hS
        intro H7 hS
        rw [fm_set rowO_len hA2.get (by omega) (y' := (k.obj, { x2 with size := x2.size + min n (16384 - x2.size) })) rfl, hA2.set] at hS
        refine zns ?_; refine zsr ?_; (iterate 5 refine zw1 ?_); refine zns ?_; refine wp_ret ?_; refine ret_of ?_; refine zr ?_; refine zr ?_; refine zr ?_; refine rk_nil ?_
        rw [show max x2.size (x2.size + min n (16384 - x2.size)) = x2.size + min n (16384 - x2.size) by omega]
        exact ⟨rfl, closeR (t := t.set2 id { k with off := x2.size + min n (16384 - x2.size) } k.obj { x2 with size := x2.size + min n (16384 - x2.size) }) (S.up2 hS)⟩
      · refine wp_skip ?_; refine seq_normal ?_; refine zsr ?_; (iterate 5 refine zw1 ?_); refine zns ?_; refine wp_ret ?_; refine ret_of ?_; refine zr ?_; refine zr ?_; refine zr ?_; refine rk_nil ?_
        rw [show max x2.size (x2.size + min n (16384 - x2.size)) = x2.size by omega]
        have h9 := closeR (t := t.setB id { k with off := x2.size + min n (16384 - x2.size) }) (S.up1 (S.up2 (S.up1 hS)))
        rw [← Tb.set2_B hxo] at h9
        exact ⟨rfl, h9⟩
  | false =>
    refine wp_false rfl ?_; refine wp_skip ?_; refine seq_normal ?_; refine zsr ?_; refine zw1 ?_; refine zw1 ?_; refine wpO_cons ?_; refine op1_sub rfl rfl rfl (by exact wrap_i64 (by omega) (by omega)) ?_; refine wpO_cons ?_; refine op1_call2 rfl (by (conv => lhs; whnf) <;> rfl) (by (conv => lhs; whnf) <;> rfl) ?_
    rw [if_neg (by decide)]
    refine wpF_mono (L74 hS) ?_
    rintro _ H5 ⟨rfl, hS5⟩
    have hT3 := hS
    clear hS
    have hS := hS5
    clear hS5
    unfold Tb.wr
    refine zw1 ?_; refine zns ?_; refine wp_seq ?_; refine zsr ?_; refine zw1 ?_; refine wpO_cons ?_; refine op1_gtr rfl rfl rfl ?_; refine zw1 ?_; refine wpO_cons ?_
    refine op1_dec rfl (fun h3 => ?_) (fun h3 => ?_)
    · refine op1_mov rfl (by (conv => lhs; whnf) <;> rfl) ?_; refine wpO_cons ?_; refine op1_eqlI rfl rfl rfl ?_; refine zt ?_; refine zns ?_
      refine wp_dec rfl (fun h4 => ?_) (fun h4 => ?_)
      · refine zsr ?_; refine zw1 ?_; refine zw1 ?_; refine zw1 ?_; refine zns ?_; refine wp_ret ?_; refine seq_ret ?_; refine ret_of ?_; refine zr ?_; refine zr ?_; refine zr ?_; refine rk_nil ?_
        rw [if_pos ⟨h3, h4⟩]
        exact ⟨rfl, closeR hS⟩
      rw [if_neg (fun h => h4 h.2)]
      refine wp_skip ?_; refine seq_normal ?_; refine zsr ?_; refine zw1 ?_; refine zw1 ?_; refine zw1 ?_; refine wpO_cons ?_; refine op1_add rfl rfl rfl (by exact wrap_i64 (by omega) (by omega)) ?_; refine zn ?_; refine wpO_cons ?_; refine op1_faddr rfl rfl ?_; refine wpO_cons ?_
      refine op1_store1L (k := i * 7 + 5) rfl rfl rfl rfl rfl (S.up2 hS) (by omega) ?_
      have hT5 := hS
      clear hS
      intro H6 hS
      rw [fm_set rowB_len hA.get (by omega) (y' := (id, { k with off := k.off + min n (16384 - k.off) })) rfl, hA.set] at hS
      obtain ⟨_, _, cs6, e6, hg6, hcl6, hj6, hN6⟩ := eltR rowO_len (S.up2 hS) hA2.get
      cases e6
      refine zns ?_; refine wp_seq ?_; refine zsr ?_; refine zw1 ?_; refine zn ?_; refine wpO_cons ?_; refine op1_faddr rfl rfl ?_; refine wpO_cons ?_
      refine op1_load (v := .int .i64 x2.size) rfl rfl hg6 (hj6 4 (by omega)) ?_
      refine zw1 ?_; refine zw1 ?_; refine wpO_cons ?_; refine op1_add rfl rfl rfl (by exact wrap_i64 (by omega) (by omega)) ?_; refine wpO_cons ?_; refine op1_lss rfl rfl rfl ?_; refine zns ?_
      refine wp_dec rfl (fun h8 => ?_) (fun h8 => ?_)
      · refine wp_region ?_; refine zw1 ?_; refine zw1 ?_; refine zw1 ?_; refine wpO_cons ?_; refine op1_add rfl rfl rfl (by exact wrap_i64 (by omega) (by omega)) ?_; refine zn ?_; refine wpO_cons ?_; refine op1_faddr rfl rfl ?_; refine wpO_cons ?_
        refine op1_store1L (k := i2 * 7 + 4) rfl rfl rfl rfl rfl (S.up2 hS) (by omega) ?_
        have hT6 := hS
        clear hS
        intro H7 hS
        rw [fm_set rowO_len hA2.get (by omega) (y' := (k.obj, { x2 with size := k.off + min n (16384 - k.off) })) rfl, hA2.set] at hS
        refine zns ?_; refine zsr ?_; (iterate 5 refine zw1 ?_); refine zns ?_; refine wp_ret ?_; refine ret_of ?_; refine zr ?_; refine zr ?_; refine zr ?_; refine rk_nil ?_
        rw [show max x2.size (k.off + min n (16384 - k.off)) = k.off + min n (16384 - k.off) by omega]
        exact ⟨rfl, closeR (t := t.set2 id { k with off := k.off + min n (16384 - k.off) } k.obj { x2 with size := k.off + min n (16384 - k.off) }) (S.up2 hS)⟩
      · refine wp_skip ?_; refine seq_normal ?_; refine zsr ?_; (iterate 5 refine zw1 ?_); refine zns ?_; refine wp_ret ?_; refine ret_of ?_; refine zr ?_; refine zr ?_; refine zr ?_; refine rk_nil ?_
        rw [show max x2.size (k.off + min n (16384 - k.off)) = x2.size by omega]
        have h9 := closeR (t := t.setB id { k with off := k.off + min n (16384 - k.off) }) (S.up1 (S.up2 (S.up1 hS)))
        rw [← Tb.set2_B hxo] at h9
        exact ⟨rfl, h9⟩
    · rw [if_neg (fun h => h3 h.1)]
      refine op1_skip rfl ?_; refine zk ?_; refine zu ?_; refine zns ?_; refine wp_false rfl ?_; refine wp_skip ?_; refine seq_normal ?_; refine zsr ?_; refine zw1 ?_; refine zw1 ?_; refine zw1 ?_; refine wpO_cons ?_; refine op1_add rfl rfl rfl (by exact wrap_i64 (by omega) (by omega)) ?_; refine zn ?_; refine wpO_cons ?_; refine op1_faddr rfl rfl ?_; refine wpO_cons ?_
      refine op1_store1L (k := i * 7 + 5) rfl rfl rfl rfl rfl (S.up2 hS) (by omega) ?_
      have hT5 := hS
      clear hS
      intro H6 hS
      rw [fm_set rowB_len hA.get (by omega) (y' := (id, { k with off := k.off + min n (16384 - k.off) })) rfl, hA.set] at hS
      obtain ⟨_, _, cs6, e6, hg6, hcl6, hj6, hN6⟩ := eltR rowO_len (S.up2 hS) hA2.get
      cases e6
      refine zns ?_; refine wp_seq ?_; refine zsr ?_; refine zw1 ?_; refine zn ?_; refine wpO_cons ?_; refine op1_faddr rfl rfl ?_; refine wpO_cons ?_
      refine op1_load (v := .int .i64 x2.size) rfl rfl hg6 (hj6 4 (by omega)) ?_
      refine zw1 ?_; refine zw1 ?_; refine wpO_cons ?_; refine op1_add rfl rfl rfl (by exact wrap_i64 (by omega) (by omega)) ?_; refine wpO_cons ?_; refine op1_lss rfl rfl rfl ?_; refine zns ?_
      refine wp_dec rfl (fun h8 => ?_) (fun h8 => ?_)
      · refine wp_region ?_; refine zw1 ?_; refine zw1 ?_; refine zw1 ?_; refine wpO_cons ?_; refine op1_add rfl rfl rfl (by exact wrap_i64 (by omega) (by omega)) ?_; refine zn ?_; refine wpO_cons ?_; refine op1_faddr rfl rfl ?_; refine wpO_cons ?_
        refine op1_store1L (k := i2 * 7 + 4) rfl rfl rfl rfl rfl (S.up2 hS) (by omega) ?_
        have hT6 := hS
        clear hS
        intro H7 hS
        rw [fm_set rowO_len hA2.get (by omega) (y' := (k.obj, { x2 with size := k.off + min n (16384 - k.off) })) rfl, hA2.set] at hS
        refine zns ?_; refine zsr ?_; (iterate 5 refine zw1 ?_); refine zns ?_; refine wp_ret ?_; refine ret_of ?_; refine zr ?_; refine zr ?_; refine zr ?_; refine rk_nil ?_
        rw [show max x2.size (k.off + min n (16384 - k.off)) = k.off + min n (16384 - k.off) by omega]
        exact ⟨rfl, closeR (t := t.set2 id { k with off := k.off + min n (16384 - k.off) } k.obj { x2 with size := k.off + min n (16384 - k.off) }) (S.up2 hS)⟩
      · refine wp_skip ?_; refine seq_normal ?_; refine zsr ?_; (iterate 5 refine zw1 ?_); refine zns ?_; refine wp_ret ?_; refine ret_of ?_; refine zr ?_; refine zr ?_; refine zr ?_; refine rk_nil ?_
        rw [show max x2.size (k.off + min n (16384 - k.off)) = x2.size by omega]
        have h9 := closeR (t := t.setB id { k with off := k.off + min n (16384 - k.off) }) (S.up1 (S.up2 (S.up1 hS)))
        rw [← Tb.set2_B hxo] at h9
        exact ⟨rfl, h9⟩
end
end Go.E.At
