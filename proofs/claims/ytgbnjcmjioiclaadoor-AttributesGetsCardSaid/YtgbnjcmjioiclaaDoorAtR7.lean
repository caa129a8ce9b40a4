/- Attributes: the reference's Create, release, Unlink. -/
import Derived.Test.YtgbnjcmjioiclaaDoorAtR1
import Derived.Test.YtgbnjcmjioiclaaDoorAtQ2
namespace Go.E.At
open Go Go.E Go.Proofs.YtgbnjcmjioiclaaDoor.base Go.Proofs.YtgbnjcmjioiclaaDoor Go.Proofs
set_option linter.unusedVariables false
set_option linter.unusedSimpArgs false
set_option maxRecDepth 100000
theorem fm_take {Y : Type} {r : Y → List Value} {n : Nat} (hr : ∀ y, (r y).length = n) (l : List Y) (i : Nat) : (l.flatMap r).take (i * n) = (l.take i).flatMap r := by
  induction l generalizing i with
  | nil => simp
  | cons y l ih =>
    cases i with
    | zero => simp
    | succ i => rw [List.flatMap_cons, List.take_succ_cons, List.flatMap_cons, List.take_append, hr, List.take_of_length_le (by rw [hr, Nat.add_mul]; omega), ← ih, show (i + 1) * n - n = i * n by rw [Nat.add_mul]; omega]
theorem fm_drop {Y : Type} {r : Y → List Value} {n : Nat} (hr : ∀ y, (r y).length = n) (l : List Y) (i : Nat) : (l.flatMap r).drop (i * n) = (l.drop i).flatMap r := by
  induction l generalizing i with
  | nil => simp
  | cons y l ih =>
    cases i with
    | zero => simp
    | succ i => rw [List.flatMap_cons, List.drop_succ_cons, List.drop_append, hr, List.drop_eq_nil_of_le (by rw [hr, Nat.add_mul]; omega), ← ih, show (i + 1) * n - n = i * n by rw [Nat.add_mul]; omega, List.nil_append]
theorem fm_one {Y : Type} {r : Y → List Value} (hr : ∀ y, (r y).all (·.oneCell') = true) (l : List Y) : (l.flatMap r).all (·.oneCell') = true := by
  induction l with
  | nil => rfl
  | cons y l ih => rw [List.flatMap_cons, List.all_append, hr, ih]; rfl
theorem rowO_one (y : Int × Ob) : (rowO y).all (·.oneCell') = true := rfl
theorem rowB_one (y : Int × Bk) : (rowB y).all (·.oneCell') = true := rfl
section
variable {B H : AHeap} {As : List Asn} {t : Tb} {p : Nat} {id o : Int}
theorem closeRO {v1 v2 : Value} {xs : List Value} (hx : xs = t.os.flatMap rowO) (h : S B H (pto p (.cells (rfC t v1 v2) 0 false) :: sl 7 v1 xs :: sl 7 v2 (t.bs.flatMap rowB) :: As)) : S B H (refP p t :: As) := closeR (hx ▸ h)
theorem closeRB {v1 v2 : Value} {xs : List Value} (hx : xs = t.bs.flatMap rowB) (h : S B H (pto p (.cells (rfC t v1 v2) 0 false) :: sl 7 v1 (t.os.flatMap rowO) :: sl 7 v2 xs :: As)) : S B H (refP p t :: As) := closeR (hx ▸ h)
theorem L49 {a : Ob} (ht : TbOk t) (hS : S B H (refP p t :: As)) : wpF C 49 [ptrB p, .agg ⟨a.cells⟩] H fun v H' => v = .tuple ⟨[.int .i64 (t.create a).1, .int .i64 (t.create a).2.1]⟩ ∧ S B H' (refP p (t.create a).2.2 :: As) := by
  refine wpF_ofW o49 rfl rfl ?_
  unfold ptrB Ob.cells
  refine zsr ?_; refine wpO_cons ?_; refine op1_boxNS rfl rfl rfl hS ?_; intro p1 H1 hS; refine zw1 ?_; refine zw1 ?_; refine zns ?_; refine wp_seq ?_; refine zsr ?_; refine zf ?_; refine zh (S.g0 hS) ?_; refine wpO_cons ?_; refine op1_lss rfl rfl rfl ?_; refine zw1 ?_; refine wpO_cons ?_
  refine op1_dec rfl (fun h1 => ?_) (fun h1 => ?_)
  · refine op1_skip rfl ?_; refine zk ?_; refine zk ?_; refine zt ?_; refine zw1 ?_; (iterate 3 refine zk ?_); refine zt ?_; refine zw1 ?_; (iterate 3 refine zk ?_); refine zt ?_; refine zw1 ?_; (iterate 3 refine zk ?_); refine zt ?_; refine zw1 ?_; (iterate 3 refine zk ?_); refine zt ?_; refine zw1 ?_; (iterate 3 refine zk ?_); refine zt ?_; refine zns ?_; refine wp_true rfl ?_; refine zsr ?_; refine zw1 ?_; refine zw1 ?_; refine zns ?_; refine wp_ret ?_; refine seq_ret ?_; refine ret_of ?_; refine zr ?_; refine zr ?_; refine rk_nil ?_
    have e : t.create a = (0, 34, t) := by unfold Tb.create; rw [if_pos (show badA a by unfold badA; omega)]
    rw [e]
    exact ⟨rfl, S.drop hS⟩
  refine op1_faddr0 rfl rfl ?_; refine zh (S.g0 hS) ?_; refine wpO_cons ?_; refine op1_gtr rfl rfl rfl ?_; refine zu ?_; refine zw1 ?_; refine wpO_cons ?_
  refine op1_dec rfl (fun h2 => ?_) (fun h2 => ?_)
  · refine op1_skip rfl ?_; refine zk ?_; refine zk ?_; refine zt ?_; refine zw1 ?_; (iterate 3 refine zk ?_); refine zt ?_; refine zw1 ?_; (iterate 3 refine zk ?_); refine zt ?_; refine zw1 ?_; (iterate 3 refine zk ?_); refine zt ?_; refine zw1 ?_; (iterate 3 refine zk ?_); refine zt ?_; refine zns ?_; refine wp_true rfl ?_; refine zsr ?_; refine zw1 ?_; refine zw1 ?_; refine zns ?_; refine wp_ret ?_; refine seq_ret ?_; refine ret_of ?_; refine zr ?_; refine zr ?_; refine rk_nil ?_
    have e : t.create a = (0, 34, t) := by unfold Tb.create; rw [if_pos (show badA a by unfold badA; omega)]
    rw [e]
    exact ⟨rfl, S.drop hS⟩
  refine op1_faddr0 rfl rfl ?_; refine zh (S.g0 hS) ?_; refine wpO_cons ?_; refine op1_lss rfl rfl rfl ?_; refine zu ?_; refine zw1 ?_; refine wpO_cons ?_
  refine op1_dec rfl (fun h3 => ?_) (fun h3 => ?_)
  · refine op1_skip rfl ?_; refine zk ?_; refine zk ?_; refine zt ?_; refine zw1 ?_; (iterate 3 refine zk ?_); refine zt ?_; refine zw1 ?_; (iterate 3 refine zk ?_); refine zt ?_; refine zw1 ?_; (iterate 3 refine zk ?_); refine zt ?_; refine zns ?_; refine wp_true rfl ?_; refine zsr ?_; refine zw1 ?_; refine zw1 ?_; refine zns ?_; refine wp_ret ?_; refine seq_ret ?_; refine ret_of ?_; refine zr ?_; refine zr ?_; refine rk_nil ?_
    have e : t.create a = (0, 34, t) := by unfold Tb.create; rw [if_pos (show badA a by unfold badA; omega)]
    rw [e]
    exact ⟨rfl, S.drop hS⟩
  refine op1_faddr0 rfl rfl ?_; refine zh (S.g0 hS) ?_; refine wpO_cons ?_; refine op1_lss rfl rfl rfl ?_; refine zu ?_; refine zw1 ?_; refine wpO_cons ?_
  refine op1_dec rfl (fun h4 => ?_) (fun h4 => ?_)
  · refine op1_skip rfl ?_; refine zk ?_; refine zk ?_; refine zt ?_; refine zw1 ?_; (iterate 3 refine zk ?_); refine zt ?_; refine zw1 ?_; (iterate 3 refine zk ?_); refine zt ?_; refine zns ?_; refine wp_true rfl ?_; refine zsr ?_; refine zw1 ?_; refine zw1 ?_; refine zns ?_; refine wp_ret ?_; refine seq_ret ?_; refine ret_of ?_; refine zr ?_; refine zr ?_; refine rk_nil ?_
    have e : t.create a = (0, 34, t) := by unfold Tb.create; rw [if_pos (show badA a by unfold badA; omega)]
    rw [e]
    exact ⟨rfl, S.drop hS⟩
  refine op1_faddr0 rfl rfl ?_; refine zh (S.g0 hS) ?_; refine wpO_cons ?_; refine op1_lss rfl rfl rfl ?_; refine zu ?_; refine zw1 ?_; refine wpO_cons ?_
  refine op1_dec rfl (fun h5 => ?_) (fun h5 => ?_)
  · refine op1_skip rfl ?_; refine zk ?_; refine zk ?_; refine zt ?_; refine zw1 ?_; (iterate 3 refine zk ?_); refine zt ?_; refine zns ?_; refine wp_true rfl ?_; refine zsr ?_; refine zw1 ?_; refine zw1 ?_; refine zns ?_; refine wp_ret ?_; refine seq_ret ?_; refine ret_of ?_; refine zr ?_; refine zr ?_; refine rk_nil ?_
    have e : t.create a = (0, 34, t) := by unfold Tb.create; rw [if_pos (show badA a by unfold badA; omega)]
    rw [e]
    exact ⟨rfl, S.drop hS⟩
  refine op1_faddr0 rfl rfl ?_; refine zh (S.g0 hS) ?_; refine wpO_cons ?_; refine op1_gtr rfl rfl rfl ?_; refine zu ?_; refine zw1 ?_; refine wpO_cons ?_
  refine op1_dec rfl (fun h6 => ?_) (fun h6 => ?_)
  · refine op1_skip rfl ?_; refine zk ?_; refine zk ?_; refine zt ?_; refine zns ?_; refine wp_true rfl ?_; refine zsr ?_; refine zw1 ?_; refine zw1 ?_; refine zns ?_; refine wp_ret ?_; refine seq_ret ?_; refine ret_of ?_; refine zr ?_; refine zr ?_; refine rk_nil ?_
    have e : t.create a = (0, 34, t) := by unfold Tb.create; rw [if_pos (show badA a by unfold badA; omega)]
    rw [e]
    exact ⟨rfl, S.drop hS⟩
  refine op1_faddr0 rfl rfl ?_; refine zh (S.g0 hS) ?_; refine wpO_cons ?_; refine op1_lss rfl rfl rfl ?_; refine zu ?_; refine zns ?_
  refine wp_dec rfl (fun h7 => ?_) (fun h7 => ?_)
  · refine zsr ?_; refine zw1 ?_; refine zw1 ?_; refine zns ?_; refine wp_ret ?_; refine seq_ret ?_; refine ret_of ?_; refine zr ?_; refine zr ?_; refine rk_nil ?_
    have e : t.create a = (0, 34, t) := by unfold Tb.create; rw [if_pos (show badA a by unfold badA; omega)]
    rw [e]
    exact ⟨rfl, S.drop hS⟩
  refine wp_skip ?_; refine seq_normal ?_; refine wp_seq ?_; refine zsr ?_; refine zw1 ?_; refine zn ?_; refine zf ?_; refine wpO_cons ?_
  have hng : ¬ badA a := by unfold badA; omega
  obtain ⟨a1, c1, a2, c2, hS1⟩ := openR (S.up1 hS)
  have hT := hS
  clear hS
  have hS := hS1
  clear hS1
  unfold rfC at hS
  have hlo := ht.osL
  have hlo2 := ht.lo
  refine op1_load rfl rfl (by exact S.g0 hS) rfl ?_; refine wpO_cons ?_; refine op1_len rfl rfl ?_; refine wpO_cons ?_; refine op1_geq rfl rfl rfl ?_; refine zns ?_
  refine wp_dec rfl (fun h8 => ?_) (fun h8 => ?_)
  · refine zsr ?_; refine zw1 ?_; refine zw1 ?_; refine zns ?_; refine wp_ret ?_; refine seq_ret ?_; refine ret_of ?_; refine zr ?_; refine zr ?_; refine rk_nil ?_
    have e : t.create a = (0, 18, t) := by unfold Tb.create; rw [if_neg hng, if_pos (by omega)]
    rw [e]
    exact ⟨rfl, S.k1 (closeR (S.dn3 (S.up3 hS)))⟩
  refine wp_skip ?_; refine seq_normal ?_; refine zsr ?_; refine zw1 ?_; refine zn ?_; refine zf ?_; refine zh (S.g0 hS) ?_; refine wpO_cons ?_; refine op1_add rfl rfl rfl (by exact wrap_i64 (by omega) (by omega)) ?_; refine zn ?_; refine zf ?_; refine wpO_cons ?_; (refine op1_store1S rfl rfl (by (conv => lhs; whnf) <;> rfl) rfl rfl (S.up0 hS) rfl ?_; intro H2 hS; replace hS := S.dn0 hS); refine zns ?_; refine wp_seq ?_; refine wp_regionD ?_; refine zd1 ?_; refine zd1 ?_; refine zm ?_; refine zg ?_; refine zj (S.g0 hS) ?_; refine zd1 ?_; refine zm ?_; refine zg ?_; refine zj (S.g0 hS) ?_; refine wpD_cons ?_; refine op1_load_6 rfl rfl (by exact S.g3 hS) rfl rfl ?_; refine wpD_cons ?_; refine op1_build rfl ?_; refine bk_one (by (conv => lhs; whnf) <;> rfl) rfl rfl rfl ?_; refine bk_agg rfl rfl rfl rfl ?_; refine bk_nil ?_; refine wpD_cons ?_; refine op1_bsliceS rfl hS ?_; refine bk_agg rfl rfl rfl rfl ?_; refine bk_nil ?_; intro p2 H3 hS; refine wpD_cons ?_; (refine op1_appBS rfl rfl (by (conv => lhs; whnf) <;> rfl) rfl (S.g0 hS) rfl rfl (S.up2 hS) (by omega) ?_; intro a3 c3 H4 hS; replace hS := S.dn2 hS; replace hS := S.drop hS); refine zm ?_; refine zg ?_; refine wpD_cons ?_; (refine op1_store1S rfl rfl (by (conv => lhs; whnf) <;> rfl) rfl rfl (S.up0 hS) rfl ?_; intro H5 hS; replace hS := S.dn0 hS); refine wpD_nil ?_; refine dk_of ?_ ?_; (iterate 4 refine chk_skip ?_); refine zx 12 ?_ ?_; refine zy 4 ?_ ?_; exact chk_load rfl (by exact S.g1 (by assumption)) rfl rfl; exact chkFs_nil; (iterate 3 refine chk_skip ?_); refine zx 8 ?_ ?_; refine zy 4 ?_ ?_; exact chk_load rfl (by exact S.g1 (by assumption)) rfl rfl; exact chkFs_nil; refine zx 7 ?_ ?_; refine zy 4 ?_ ?_; exact chk_loadN rfl (by exact S.g4 (by assumption)) rfl rfl rfl; exact chkFs_nil; (iterate 6 refine chk_skip ?_); exact chk_end; refine seq_normal ?_; refine zsr ?_; refine zw1 ?_; refine zn ?_; refine zf ?_; refine zh (S.g0 hS) ?_; refine zw1 ?_; refine zw1 ?_; refine zns ?_; refine wp_ret ?_; refine ret_of ?_; refine zr ?_; refine zr ?_; refine rk_nil ?_
  rw [show t.create a = (t.lo + 1, 0, t.addO a) by unfold Tb.create; rw [if_neg hng, if_neg (by omega)]]
  exact ⟨rfl, S.k1 (closeRO (t := t.addO a) (by unfold Tb.addO; rw [List.flatMap_append]; rfl) hS)⟩
theorem L73 {x : Ob} (hx : gGet t.os o = some x) (ht : TbOk t) (hS : S B H (refP p t :: As)) : wpF C 73 [ptrB p, .int .i64 o] H fun v H' => v = .bool (t.sweep o).1 ∧ S B H' (refP p (t.sweep o).2 :: As) := by
  refine wpF_ofW o73 rfl rfl ?_
  have e0 : t.sweep o = if 0 < x.links then (false, t) else if 0 < (t.opens o).length then (false, t) else (true, { t with os := gDel t.os o }) := by unfold Tb.sweep; rw [hx]
  rw [e0]
  clear e0
  refine zsr ?_; refine zw1 ?_; refine zns ?_; refine zsr ?_; refine zw1 ?_; refine zw1 ?_; refine wpO_cons ?_; refine op1_call2 rfl (by (conv => lhs; whnf) <;> rfl) (by (conv => lhs; whnf) <;> rfl) ?_
  refine wpF_mono (L68 (id := o) ht hS) ?_
  rintro _ H3 ⟨hS3, ⟨hx3, rfl⟩ | ⟨i, x2, hA, hi, rfl⟩⟩
  · rw [hx] at hx3
    cases hx3
  obtain rfl : x2 = x := by
    have := hA.is
    rw [hx] at this
    cases this
    rfl
  clear hS
  obtain ⟨a1, c1, a2, c2, hS⟩ := openR hS3
  clear hS3
  unfold rfC at hS
  unfold ptrB
  have hlo := ht.osL
  obtain ⟨b, off, cs, rfl, hg, hcl, hj, hN⟩ := eltR rowO_len (S.up1 hS) hA.get
  refine zw1 ?_; refine zns ?_; refine wp_seq ?_; refine zsr ?_; refine zw1 ?_; refine zn ?_; refine zf ?_; refine zh (S.g0 hS) ?_; refine zw1 ?_; refine wpO_cons ?_; refine op1_iaddr rfl rfl rfl (by omega) (by omega) ?_; refine wpO_cons ?_; refine op1_faddr rfl rfl ?_; refine wpO_cons ?_; refine op1_faddr rfl rfl ?_; refine wpO_cons ?_
  refine op1_load (v := .int .i64 x2.links) rfl rfl hg (hj 5 (by omega)) ?_
  refine wpO_cons ?_; refine op1_gtr rfl rfl rfl ?_; refine zw1 ?_; refine wpO_cons ?_
  refine op1_dec rfl (fun h1 => ?_) (fun h1 => ?_)
  · refine op1_skip rfl ?_; (iterate 4 refine zk ?_); refine zt ?_; refine zns ?_; refine wp_true rfl ?_; refine zsr ?_; refine zw1 ?_; refine zns ?_; refine wp_ret ?_; refine seq_ret ?_; refine ret_of ?_; refine zr ?_; refine rk_nil ?_
    rw [if_pos h1]
    exact ⟨rfl, closeR hS⟩
  rw [if_neg h1]
  refine op1_mov rfl (by (conv => lhs; whnf) <;> rfl) ?_; refine zw1 ?_; refine wpO_cons ?_; refine op1_call2 rfl (by (conv => lhs; whnf) <;> rfl) (by (conv => lhs; whnf) <;> rfl) ?_
  refine wpF_mono (L37 (o := o) ht (closeR hS)) ?_
  rintro v H2 hS2
  clear hS
  obtain ⟨sa, sc, rfl⟩ := S.shape1 hS2
  rw [show (i64s (t.opens o)).length = (t.opens o).length from by unfold i64s; rw [List.length_map]] at hS2 ⊢
  refine wpO_cons ?_; refine op1_len rfl rfl ?_; refine wpO_cons ?_; refine op1_gtr rfl rfl rfl ?_; refine zu ?_; refine zns ?_
  refine wp_dec rfl (fun h2 => ?_) (fun h2 => ?_)
  · refine zsr ?_; refine zw1 ?_; refine zns ?_; refine wp_ret ?_; refine seq_ret ?_; refine ret_of ?_; refine zr ?_; refine rk_nil ?_
    rw [if_pos (by omega)]
    exact ⟨rfl, S.k1 (S.up1 hS2)⟩
  rw [if_neg (by omega)]
  clear hg hcl hj hN
  obtain ⟨a1, c1, a2, c2, hS⟩ := openR (S.drop hS2)
  clear hS2
  unfold rfC at hS
  refine wp_skip ?_; refine seq_normal ?_; refine wp_seq ?_; refine wp_regionD ?_; refine zd1 ?_; refine wpD_cons ?_; refine op1_bsliceS rfl hS ?_; refine bk_nil ?_; intro p1 H1 hS; refine zd1 ?_; refine zm ?_; refine zg ?_; refine zj (S.g1 hS) ?_; refine zd1 ?_; refine wpD_cons ?_
  have hcap : t.os.length ≤ c1 := S.len_le (S.up2 hS)
  replace hS := S.slNew (l := 0) (es := 7) hS rfl
  have hT := hS
  refine op1_sliceD rfl rfl (RD.cons RD.head) (S.drop hS) (bnds_hi (by omega) (by omega)) (by omega) (by simp only [Int.toNat_natCast]; omega) ?_
  simp only [Int.toNat_natCast, Nat.zero_mul, List.drop_zero, Nat.sub_zero]
  intro a7 c7 hd7 hck7
  rw [fm_take rowO_len] at hd7
  refine zd1 ?_; refine zm ?_; refine zg ?_; refine zj (S.g1 hT) ?_; refine zd1 ?_; refine wpD_cons ?_; refine op1_add rfl rfl rfl (by exact wrap_i64 (by omega) (by omega)) ?_; refine wpD_cons ?_
  refine op1_sliceD rfl rfl (RD.cons RD.head) (S.drop hS) (bnds_lo (by omega) (by omega) hcap) (by omega) (Nat.le_refl _) ?_
  rw [show ((i : Int) + 1).toNat = i + 1 by omega]
  intro a8 c8 hd8 hck8
  rw [fm_drop rowO_len, List.take_of_length_le (Nat.le_of_eq (by rw [fm_len rowO_len, List.length_drop]))] at hd8
  obtain ⟨r7, hr7, _⟩ := hd7 _ (S.drop hS)
  have hl7 : (List.take i t.os).length = i := by rw [List.length_take]; omega
  refine wpD_cons ?_
  refine op1_appRS rfl rfl (by (conv => lhs; whnf) <;> rfl) rfl hr7 (by rw [fm_len rowO_len, hl7]) (fm_one rowO_one _) hS (by omega) ?_
  rw [List.nil_append, Nat.zero_add]
  intro a3 c3 H6 hS
  have hT2 := hS
  obtain ⟨r8, hr8, _⟩ := hd8 _ (S.drop hS)
  refine wpD_cons ?_
  refine op1_appRS rfl rfl (by (conv => lhs; whnf) <;> rfl) rfl hr8 (by rw [fm_len rowO_len, List.length_drop]) (fm_one rowO_one _) hS (by omega) ?_
  intro a4 c4 H7 hS
  rw [show i + (t.os.length - (i + 1)) = t.os.length - 1 by omega] at hS ⊢
  refine zm ?_; refine zg ?_; refine wpD_cons ?_; (refine op1_store1S rfl rfl (by (conv => lhs; whnf) <;> rfl) rfl rfl (S.up1 hS) rfl ?_; intro H4 hS; replace hS := S.dn1 hS); refine wpD_nil ?_; refine dk_of ?_ ?_; (iterate 5 refine chk_skip ?_); refine zx 15 ?_ ?_; refine zy 5 ?_ ?_; exact zq (S.g1 hT); exact chkFs_nil; refine chk_skip ?_; refine zx 13 ?_ ?_; refine zy 5 ?_ ?_
  · first | exact hck7 _ _ (S.drop hT) rfl | exact hck8 _ _ (S.drop hT) rfl | exact hck7 _ _ (S.drop hT2) rfl | exact hck8 _ _ (S.drop hT2) rfl
  exact chkFs_nil; (iterate 3 refine chk_skip ?_); refine zx 9 ?_ ?_; refine zy 5 ?_ ?_; exact zq (S.g1 hT); refine zy 4 ?_ ?_; exact zq (S.g1 hT2); exact chkFs_nil; (iterate 2 refine chk_skip ?_); refine zx 6 ?_ ?_; refine zy 5 ?_ ?_
  · first | exact hck7 _ _ (S.drop hT) rfl | exact hck8 _ _ (S.drop hT) rfl | exact hck7 _ _ (S.drop hT2) rfl | exact hck8 _ _ (S.drop hT2) rfl
  refine zy 4 ?_ ?_
  · first | exact hck7 _ _ (S.drop hT) rfl | exact hck8 _ _ (S.drop hT) rfl | exact hck7 _ _ (S.drop hT2) rfl | exact hck8 _ _ (S.drop hT2) rfl
  exact chkFs_nil; (iterate 5 refine chk_skip ?_); exact chk_end; refine seq_normal ?_
  refine zsr ?_; refine zw1 ?_; refine zns ?_; refine wp_ret ?_; refine ret_of ?_; refine zr ?_; refine rk_nil ?_
  exact ⟨rfl, closeRO (t := { t with os := gDel t.os o }) (by rw [← List.flatMap_append, hA.del]) (S.up1 (S.drop (S.up2 hS)))⟩
theorem L60 (ht : TbOk t) (hS : S B H (refP p t :: As)) : wpF C 60 [ptrB p, .int .i64 o] H fun v H' => v = .tuple ⟨[.bool (t.unlink o).1, .int .i64 (t.unlink o).2.1]⟩ ∧ S B H' (refP p (t.unlink o).2.2 :: As) := by
  refine wpF_ofW o60 rfl rfl ?_
  refine zsr ?_; refine zw1 ?_; refine zw1 ?_; refine zns ?_; refine zsr ?_; refine zw1 ?_; refine zw1 ?_; refine wpO_cons ?_; refine op1_call2 rfl (by (conv => lhs; whnf) <;> rfl) (by (conv => lhs; whnf) <;> rfl) ?_
  refine wpF_mono (L68 (id := o) ht hS) ?_
  rintro _ H3 ⟨hS3, ⟨hx, rfl⟩ | ⟨i, x, hA, hi, rfl⟩⟩
  · clear hS
    have hS := hS3
    clear hS3
    refine zw1 ?_; refine zns ?_; refine wp_seq ?_; refine zsr ?_; refine zw1 ?_; refine wpO_cons ?_; refine op1_lss rfl rfl rfl ?_; refine zns ?_; refine wp_true rfl ?_; refine zsr ?_; refine zw1 ?_; refine zw1 ?_; refine zns ?_; refine wp_ret ?_; refine seq_ret ?_; refine ret_of ?_; refine zr ?_; refine zr ?_; refine rk_nil ?_
    exact ⟨by unfold Tb.unlink; rw [hx]; rfl, by unfold Tb.unlink; rw [hx]; exact hS⟩
  have hx := hA.is
  have e0 : t.unlink o = if x.links = 0 then (false, 35, t) else (((t.setO o { x with links := x.links - 1 }).sweep o).1, 0, ((t.setO o { x with links := x.links - 1 }).sweep o).2) := by unfold Tb.unlink; rw [hx]
  rw [e0]
  clear e0
  have hoR := ht.osR (o, x) (gGet_mem hx)
  have hr1 : 0 ≤ x.links ∧ x.links ≤ 9223372036854775807 := hoR.links
  clear hS
  obtain ⟨a1, c1, a2, c2, hS⟩ := openR hS3
  clear hS3
  unfold rfC at hS
  unfold ptrB
  have hlo := ht.osL
  obtain ⟨b, off, cs, rfl, hg, hcl, hj, hN⟩ := eltR rowO_len (S.up1 hS) hA.get
  refine zw1 ?_; refine zns ?_; refine wp_seq ?_; refine zsr ?_; refine zw1 ?_; refine wpO_cons ?_; refine op1_lss rfl rfl rfl ?_; refine zns ?_; refine wp_false rfl ?_; refine wp_skip ?_; refine seq_normal ?_; refine wp_seq ?_; refine zsr ?_; refine zw1 ?_; refine zn ?_; refine zf ?_; refine zh (S.g0 hS) ?_; refine zw1 ?_; refine wpO_cons ?_; refine op1_iaddr rfl rfl rfl (by omega) (by omega) ?_; refine wpO_cons ?_; refine op1_faddr rfl rfl ?_; refine wpO_cons ?_; refine op1_faddr rfl rfl ?_; refine wpO_cons ?_
  refine op1_load (v := .int .i64 x.links) rfl rfl hg (hj 5 (by omega)) ?_
  refine wpO_cons ?_; refine op1_eqlI rfl rfl rfl ?_; refine zns ?_
  refine wp_dec rfl (fun h1 => ?_) (fun h1 => ?_)
  · refine zsr ?_; refine zw1 ?_; refine zw1 ?_; refine zns ?_; refine wp_ret ?_; refine seq_ret ?_; refine ret_of ?_; refine zr ?_; refine zr ?_; refine rk_nil ?_
    rw [if_pos h1]
    exact ⟨rfl, closeR hS⟩
  rw [if_neg h1]
  refine wp_skip ?_; refine seq_normal ?_; refine zsr ?_; refine zw1 ?_; refine zn ?_; refine zf ?_; refine zh (S.g0 hS) ?_; refine zw1 ?_; refine wpO_cons ?_; refine op1_iaddr rfl rfl rfl (by omega) (by omega) ?_; refine wpO_cons ?_; refine op1_faddr rfl rfl ?_; refine wpO_cons ?_; refine op1_faddr rfl rfl ?_; refine wpO_cons ?_
  refine op1_load (v := .int .i64 x.links) rfl rfl hg (hj 5 (by omega)) ?_
  refine wpO_cons ?_; refine op1_sub rfl rfl rfl (by exact wrap_i64 (by omega) (by omega)) ?_; refine wpO_cons ?_; refine op1_iaddr rfl rfl rfl (by omega) (by omega) ?_; refine wpO_cons ?_; refine op1_faddr rfl rfl ?_; refine wpO_cons ?_; refine op1_faddr rfl rfl ?_; refine wpO_cons ?_
  refine op1_store1L (k := i * 7 + 5) rfl rfl rfl rfl rfl (S.up1 hS) (by omega) ?_
  have hT := hS
  clear hS
  intro H4 hS
  rw [fm_set rowO_len hA.get (by omega) (y' := (o, { x with links := x.links - 1 })) rfl, hA.set] at hS
  refine zns ?_; refine zsr ?_; refine zw1 ?_; refine zw1 ?_; refine wpO_cons ?_; refine op1_call2 rfl (by (conv => lhs; whnf) <;> rfl) (by (conv => lhs; whnf) <;> rfl) ?_
  have hx2 : gGet (t.setO o { x with links := x.links - 1 }).os o = some { x with links := x.links - 1 } := by
    unfold Tb.setO
    rw [gGet_set hx, if_pos rfl]
  refine wpF_mono (L73 hx2 (ht.setO ⟨hoR.mode, hoR.user, hoR.group, hoR.size, by simp only; omega⟩) (closeR (t := t.setO o { x with links := x.links - 1 }) (S.up1 hS))) ?_
  rintro _ H5 ⟨rfl, hS5⟩
  refine zw1 ?_; refine zw1 ?_; refine zns ?_; refine wp_ret ?_; refine ret_of ?_; refine zr ?_; refine zr ?_; refine rk_nil ?_
  exact ⟨rfl, hS5⟩
end
end Go.E.At
/- Attributes: the reference's Chmod, Chown. -/
namespace Go.E.At
open Go Go.E Go.Proofs.YtgbnjcmjioiclaaDoor.base Go.Proofs.YtgbnjcmjioiclaaDoor Go.Proofs
set_option linter.unusedVariables false
set_option linter.unusedSimpArgs false
set_option maxRecDepth 100000
section
variable {B H : AHeap} {As : List Asn} {t : Tb} {p : Nat} {id o : Int}
theorem L57 {c : Cr} {r : List Nat} {m : Int} (hc : CrOk B c r) (ht : TbOk t) (hS : S B H (refP p t :: As)) : wpF C 57 [ptrB p, .int .i64 o, .agg ⟨c.cells⟩, .int .i64 m] H fun v H' => v = .int .i64 (t.chmod o c m).1 ∧ S B H' (refP p (t.chmod o c m).2 :: As) := by
  refine wpF_ofW o57 rfl rfl ?_
  unfold Cr.cells
  refine zsr ?_; refine wpO_cons ?_; refine op1_boxNS rfl rfl rfl hS ?_; intro p1 H1 hS; refine zw1 ?_; refine zns ?_; refine zsr ?_; refine zw1 ?_; refine zw1 ?_; refine wpO_cons ?_; refine op1_call2 rfl (by (conv => lhs; whnf) <;> rfl) (by (conv => lhs; whnf) <;> rfl) ?_
  refine wpF_mono (L68 (id := o) ht (S.up1 hS)) ?_
  rintro _ H3 ⟨hS3, ⟨hx, rfl⟩ | ⟨i, x, hA, hi, rfl⟩⟩
  · clear hS
    have hS := hS3
    clear hS3
    refine zw1 ?_; refine zns ?_; refine wp_seq ?_; refine zsr ?_; refine zw1 ?_; refine wpO_cons ?_; refine op1_lss rfl rfl rfl ?_; refine zns ?_; refine wp_true rfl ?_; refine zsr ?_; refine zw1 ?_; refine zns ?_; refine wp_ret ?_; refine seq_ret ?_; refine ret_of ?_; refine zr ?_; refine rk_nil ?_
    exact ⟨by unfold Tb.chmod; rw [hx]; rfl, by unfold Tb.chmod; rw [hx]; exact S.k1 hS⟩
  have hoR := ht.osR (o, x) (gGet_mem hA.is)
  unfold ptrB
  clear hS
  obtain ⟨a1, c1, a2, c2, hS⟩ := openR hS3
  clear hS3
  unfold rfC at hS
  have hlo := ht.osL
  refine zw1 ?_; refine zns ?_; refine wp_seq ?_; refine zsr ?_; refine zw1 ?_; refine wpO_cons ?_; refine op1_lss rfl rfl rfl ?_; refine zns ?_; refine wp_false rfl ?_; refine wp_skip ?_; refine seq_normal ?_; refine wp_seq ?_; refine zsr ?_; refine zw1 ?_; refine wpO_cons ?_; refine op1_lss rfl rfl rfl ?_; refine zw1 ?_; refine wpO_cons ?_
  have e0 : t.chmod o c m = if m < 0 ∨ m > 4095 then (34, t) else if ¬ c.user = 0 ∧ ¬ c.user = x.user then (32, t)
    else (0, t.setO o { x with mode := if ¬ c.user = 0 ∧ ¬ c.mem x.group then bitAndNot .i64 m 1024 else m }) := by unfold Tb.chmod; rw [hA.is]
  rw [e0]
  clear e0
  refine op1_dec rfl (fun h1 => ?_) (fun h1 => ?_)
  · refine op1_skip rfl ?_; refine zk ?_; refine zt ?_; refine zns ?_; refine wp_true rfl ?_; refine zsr ?_; refine zw1 ?_; refine zns ?_; refine wp_ret ?_; refine seq_ret ?_; refine ret_of ?_; refine zr ?_; refine rk_nil ?_
    rw [if_pos (.inl h1)]
    exact ⟨rfl, S.k1 (closeR hS)⟩
  refine op1_mov rfl (by (conv => lhs; whnf) <;> rfl) ?_; refine wpO_cons ?_; refine op1_gtr rfl rfl rfl ?_; refine zu ?_; refine zns ?_
  refine wp_dec rfl (fun h2 => ?_) (fun h2 => ?_)
  · refine zsr ?_; refine zw1 ?_; refine zns ?_; refine wp_ret ?_; refine seq_ret ?_; refine ret_of ?_; refine zr ?_; refine rk_nil ?_
    rw [if_pos (.inr h2)]
    exact ⟨rfl, S.k1 (closeR hS)⟩
  rw [if_neg (by omega)]
  obtain ⟨b, off, cs, rfl, hg, hcl, hj, hN⟩ := eltR rowO_len (S.up1 hS) hA.get
  by_cases h3 : c.user = 0
  · rw [if_neg (fun h => h.1 h3)]
    rw [h3] at hS
    refine wp_skip ?_; refine seq_normal ?_; refine zsr ?_; refine zw1 ?_; refine zn ?_; refine zf ?_; refine zh (S.g0 hS) ?_; refine zw1 ?_; refine wpO_cons ?_; refine op1_iaddr rfl rfl rfl (by omega) (by omega) ?_; refine wpO_cons ?_; refine op1_faddr rfl rfl ?_; refine zw1 ?_; refine zns ?_; refine wp_seq ?_; refine wp_seq ?_; refine wp_regionD ?_; refine zg ?_; refine zj (S.g3 hS) ?_; refine wpD_cons ?_; refine op1_neqI_s rfl rfl rfl ?_; refine zd1 ?_; (iterate 7 refine zl ?_); refine wpD_cons ?_; refine op1_pick_f rfl rfl (by (conv => lhs; whnf) <;> rfl) ?_; refine wpD_nil ?_; refine dk_of ?_ ?_; refine chk_skip ?_; refine zx 11 ?_ ?_; refine zy 0 ?_ ?_; exact zq (S.g3 hS); exact chkFs_nil; (iterate 3 refine chk_skip ?_); refine chk_unw 7 rfl rfl rfl ?_; (iterate 3 refine chk_skip ?_); refine chk_unw 3 rfl rfl rfl ?_; (iterate 2 refine chk_skip ?_); exact chk_end; refine seq_normal ?_; refine wp_false rfl ?_; refine wp_skip ?_; refine seq_normal ?_; refine wp_seq ?_; refine wp_seq ?_; refine wp_regionD ?_; refine zg ?_; refine zj (S.g3 hS) ?_; refine wpD_cons ?_; refine op1_neqI_s rfl rfl rfl ?_; refine zd1 ?_; (iterate 7 refine zl ?_); refine wpD_cons ?_; refine op1_pick_f rfl rfl (by (conv => lhs; whnf) <;> rfl) ?_; refine wpD_nil ?_; refine dk_of ?_ ?_; refine chk_skip ?_; refine zx 11 ?_ ?_; refine zy 3 ?_ ?_; exact zq (S.g3 hS); exact chkFs_nil; (iterate 2 refine chk_skip ?_); refine chk_unw 8 rfl rfl rfl ?_; (iterate 3 refine chk_skip ?_); refine chk_unw 4 rfl rfl rfl ?_; (iterate 3 refine chk_skip ?_); exact chk_end; refine seq_normal ?_; refine wp_false rfl ?_; refine wp_skip ?_; refine seq_normal ?_; refine zsr ?_; refine zw1 ?_; refine zw1 ?_; refine zn ?_; refine wpO_cons ?_; refine op1_faddr rfl rfl ?_; refine wpO_cons ?_
    rw [if_neg (fun h => h.1 h3)]
    refine op1_store1L (k := i * 7 + 1) rfl rfl rfl rfl rfl (S.up1 hS) (by omega) ?_
    have hT := hS
    clear hS
    intro H5 hS
    rw [fm_set rowO_len hA.get (by omega) (y' := (o, { x with mode := m })) rfl, hA.set] at hS
    refine zns ?_; refine zsr ?_; refine zw1 ?_; refine zns ?_; refine wp_ret ?_; refine ret_of ?_; refine zr ?_; refine rk_nil ?_
    exact ⟨rfl, S.k1 (closeR (t := t.setO o { x with mode := m }) (S.up1 hS))⟩
  refine wp_skip ?_; refine seq_normal ?_; refine zsr ?_; refine zw1 ?_; refine zn ?_; refine zf ?_; refine zh (S.g0 hS) ?_; refine zw1 ?_; refine wpO_cons ?_; refine op1_iaddr rfl rfl rfl (by omega) (by omega) ?_; refine wpO_cons ?_; refine op1_faddr rfl rfl ?_; refine zw1 ?_; refine zns ?_; refine wp_seq ?_; refine wp_seq ?_; refine wp_regionD ?_; refine zg ?_; refine zj (S.g3 hS) ?_; refine wpD_cons ?_; refine op1_neqI rfl rfl rfl ?_; refine zd1 ?_; refine wpD_cons ?_
  refine op1_ndec rfl (fun _ => ?_) (fun h => absurd h h3)
  refine op1_faddr0 rfl rfl ?_; refine zj (S.g3 hS) ?_; refine zd1 ?_; refine zm ?_; refine wpD_cons ?_; refine op1_faddr rfl rfl ?_; refine wpD_cons ?_
  refine op1_load (v := .int .i64 x.user) rfl rfl hg (hj 2 (by omega)) ?_
  refine wpD_cons ?_; refine op1_neqI rfl rfl rfl ?_; refine wpD_cons ?_; refine op1_pick_t rfl rfl (by (conv => lhs; whnf) <;> rfl) ?_; refine wpD_nil ?_; refine dk_of ?_ ?_; refine chk_skip ?_; refine zx 11 ?_ ?_; refine zy 0 ?_ ?_; exact zq (S.g3 hS); exact chkFs_nil; (iterate 3 refine chk_skip ?_); refine zx 7 ?_ ?_; refine zy 0 ?_ ?_; exact zq (S.g3 hS); exact chkFs_nil; (iterate 3 refine chk_skip ?_); refine zx 3 ?_ ?_; refine zy 0 ?_ ?_
  · exact chk_load rfl hg (hj 2 (by omega)) rfl
  exact chkFs_nil; (iterate 2 refine chk_skip ?_); exact chk_end; refine seq_normal ?_
  refine wp_ndec rfl (fun h4 => ?_) (fun h4 => ?_)
  · refine zsr ?_; refine zw1 ?_; refine zns ?_; refine wp_ret ?_; refine seq_ret ?_; refine ret_of ?_; refine zr ?_; refine rk_nil ?_
    rw [if_pos ⟨h3, h4⟩]
    exact ⟨rfl, S.k1 (closeR hS)⟩
  rw [if_neg (fun h => h.2 h4)]
  refine wp_skip ?_; refine seq_normal ?_; refine wp_seq ?_; refine wp_seq ?_; refine wp_regionD ?_; refine zg ?_; refine zj (S.g3 hS) ?_; refine wpD_cons ?_; refine op1_neqI rfl rfl rfl ?_; refine zd1 ?_; refine wpD_cons ?_
  refine op1_ndec rfl (fun _ => ?_) (fun h => absurd h h3)
  refine op1_load_3 rfl rfl (by exact S.g3 hS) rfl rfl ?_; refine zd1 ?_; refine zm ?_; refine wpD_cons ?_; refine op1_faddr rfl rfl ?_; refine wpD_cons ?_
  refine op1_load (v := .int .i64 x.group) rfl rfl hg (hj 3 (by omega)) ?_
  refine wpD_cons ?_; refine op1_call2 rfl (by (conv => lhs; whnf) <;> rfl) (by (conv => lhs; whnf) <;> rfl) ?_
  refine wpF_mono (L40 (g := x.group) hc hS) ?_
  rintro _ H4 ⟨rfl, hS4⟩
  have hT := hS
  clear hS
  have hS := hS4
  clear hS4
  refine wpD_cons ?_; refine op1_not rfl rfl ?_; refine wpD_cons ?_; refine op1_pick_t rfl rfl (by (conv => lhs; whnf) <;> rfl) ?_; refine wpD_nil ?_; refine dk_of ?_ ?_; refine chk_skip ?_; refine zx 11 ?_ ?_; refine zy 3 ?_ ?_; exact zq (S.g3 hT); exact chkFs_nil; (iterate 2 refine chk_skip ?_); refine zx 8 ?_ ?_; refine zy 3 ?_ ?_; exact chk_loadN rfl (by exact S.g3 hT) rfl rfl rfl; exact chkFs_nil; (iterate 3 refine chk_skip ?_); refine zx 4 ?_ ?_; refine zy 3 ?_ ?_
  · exact chk_load rfl hg (hj 3 (by omega)) rfl
  exact chkFs_nil; (iterate 3 refine chk_skip ?_); exact chk_end; refine seq_normal ?_
  refine wp_ndec rfl (fun h5 => ?_) (fun h5 => ?_)
  · refine wp_region ?_; refine zw1 ?_; refine wpO_cons ?_; refine op1_andNot rfl rfl rfl ?_; refine zw1 ?_; refine zns ?_; refine zsr ?_; refine zw1 ?_; refine zw1 ?_; refine zn ?_; refine wpO_cons ?_; refine op1_faddr rfl rfl ?_; refine wpO_cons ?_
    rw [if_pos ⟨h3, h5⟩]
    refine op1_store1L (k := i * 7 + 1) rfl rfl rfl rfl rfl (S.up1 hS) (by omega) ?_
    have hT := hS
    clear hS
    intro H5 hS
    rw [fm_set rowO_len hA.get (by omega) (y' := (o, { x with mode := bitAndNot .i64 m 1024 })) rfl, hA.set] at hS
    refine zns ?_; refine zsr ?_; refine zw1 ?_; refine zns ?_; refine wp_ret ?_; refine ret_of ?_; refine zr ?_; refine rk_nil ?_
    exact ⟨rfl, S.k1 (closeR (t := t.setO o { x with mode := bitAndNot .i64 m 1024 }) (S.up1 hS))⟩
  · refine wp_skip ?_; refine seq_normal ?_; refine zsr ?_; refine zw1 ?_; refine zw1 ?_; refine zn ?_; refine wpO_cons ?_; refine op1_faddr rfl rfl ?_; refine wpO_cons ?_
    rw [if_neg (fun h => h.2 h5)]
    refine op1_store1L (k := i * 7 + 1) rfl rfl rfl rfl rfl (S.up1 hS) (by omega) ?_
    have hT := hS
    clear hS
    intro H5 hS
    rw [fm_set rowO_len hA.get (by omega) (y' := (o, { x with mode := m })) rfl, hA.set] at hS
    refine zns ?_; refine zsr ?_; refine zw1 ?_; refine zns ?_; refine wp_ret ?_; refine ret_of ?_; refine zr ?_; refine rk_nil ?_
    exact ⟨rfl, S.k1 (closeR (t := t.setO o { x with mode := m }) (S.up1 hS))⟩
theorem At.get2 {X : Type} {l : List (Int × X)} {k : Int} {i : Nat} {x : X} (h : At l k i x) (y : Int × X) : (l.set i y)[i]? = some y := by
  have := (List.getElem?_eq_some_iff.1 h.get).1
  rw [List.getElem?_set_self this]
theorem L58 {c : Cr} {r : List Nat} {u g : Int} (hc : CrOk B c r) (ht : TbOk t) (hS : S B H (refP p t :: As)) : wpF C 58 [ptrB p, .int .i64 o, .agg ⟨c.cells⟩, .int .i64 u, .int .i64 g] H fun v H' => v = .int .i64 (t.chown o c u g).1 ∧ S B H' (refP p (t.chown o c u g).2 :: As) := by
  refine wpF_ofW o58 rfl rfl ?_
  unfold Cr.cells
  refine zsr ?_; refine wpO_cons ?_; refine op1_boxNS rfl rfl rfl hS ?_; intro p1 H1 hS; refine zw1 ?_; refine zns ?_; refine zsr ?_; refine zw1 ?_; refine zw1 ?_; refine wpO_cons ?_; refine op1_call2 rfl (by (conv => lhs; whnf) <;> rfl) (by (conv => lhs; whnf) <;> rfl) ?_
  refine wpF_mono (L68 (id := o) ht (S.up1 hS)) ?_
  rintro _ H3 ⟨hS3, ⟨hx, rfl⟩ | ⟨i, x, hA, hi, rfl⟩⟩
  · clear hS
    have hS := hS3
    clear hS3
    refine zw1 ?_; refine zns ?_; refine wp_seq ?_; refine zsr ?_; refine zw1 ?_; refine wpO_cons ?_; refine op1_lss rfl rfl rfl ?_; refine zns ?_; refine wp_true rfl ?_; refine zsr ?_; refine zw1 ?_; refine zns ?_; refine wp_ret ?_; refine seq_ret ?_; refine ret_of ?_; refine zr ?_; refine rk_nil ?_
    exact ⟨by unfold Tb.chown; rw [hx]; rfl, by unfold Tb.chown; rw [hx]; exact S.k1 hS⟩
  have hoR := ht.osR (o, x) (gGet_mem hA.is)
  unfold ptrB
  clear hS
  obtain ⟨a1, c1, a2, c2, hS⟩ := openR hS3
  clear hS3
  unfold rfC at hS
  have hlo := ht.osL
  refine zw1 ?_; refine zns ?_; refine wp_seq ?_; refine zsr ?_; refine zw1 ?_; refine wpO_cons ?_; refine op1_lss rfl rfl rfl ?_; refine zns ?_; refine wp_false rfl ?_; refine wp_skip ?_; refine seq_normal ?_; refine zsr ?_; refine zw1 ?_; refine zn ?_; refine zf ?_; refine zh (S.g0 hS) ?_; refine zw1 ?_; refine wpO_cons ?_
  have e0 : t.chown o c u g = match x.chown c (if u < 0 then x.user else u) (if g < 0 then x.group else g) with | none => (32, t) | some y => (0, t.setO o y) := by unfold Tb.chown; rw [hA.is]; rfl
  rw [e0]
  clear e0
  obtain ⟨b, off, cs, rfl, hg, hcl, hj, hN⟩ := eltR rowO_len (S.up1 hS) hA.get
  refine op1_iaddr rfl rfl rfl (by omega) (by omega) ?_; refine wpO_cons ?_; refine op1_faddr rfl rfl ?_; refine zw1 ?_; refine zns ?_
  refine wp_cut [3] (fun vs H' => vs = [.int .i64 (if u < 0 then x.user else u)] ∧ H3 = H') ?_ ?_
  · refine zsr ?_; refine zw1 ?_; refine wpO_cons ?_; refine op1_lss rfl rfl rfl ?_; refine zns ?_
    refine wp_dec rfl (fun h1 => ?_) (fun h1 => ?_)
    · refine wp_region ?_; refine zw1 ?_; refine zn ?_; refine wpO_cons ?_; refine op1_faddr rfl rfl ?_; refine wpO_cons ?_
      refine op1_load (v := .int .i64 x.user) rfl rfl hg (hj 2 (by omega)) ?_
      refine zw1 ?_; refine wpO_nil ?_; refine cut1 (by (conv => lhs; whnf) <;> rfl) ?_
      exact ⟨by rw [if_pos h1], rfl⟩
    · refine wp_skip ?_; refine cut1 (by (conv => lhs; whnf) <;> rfl) ?_
      exact ⟨by rw [if_neg h1], rfl⟩
  rintro vs T4 H4 ⟨rfl, rfl⟩
  generalize (if u < 0 then x.user else u) = u2
  skip
  refine wp_cut [4] (fun vs H' => vs = [.int .i64 (if g < 0 then x.group else g)] ∧ H3 = H') ?_ ?_
  · refine zsr ?_; refine zw1 ?_; refine wpO_cons ?_; refine op1_lss rfl rfl rfl ?_; refine zns ?_
    refine wp_dec rfl (fun h1 => ?_) (fun h1 => ?_)
    · refine wp_region ?_; refine zw1 ?_; refine zn ?_; refine wpO_cons ?_; refine op1_faddr rfl rfl ?_; refine wpO_cons ?_
      refine op1_load (v := .int .i64 x.group) rfl rfl hg (hj 3 (by omega)) ?_
      refine zw1 ?_; refine wpO_nil ?_; refine cut1 (by (conv => lhs; whnf) <;> rfl) ?_
      exact ⟨by rw [if_pos h1], rfl⟩
    · refine wp_skip ?_; refine cut1 (by (conv => lhs; whnf) <;> rfl) ?_
      exact ⟨by rw [if_neg h1], rfl⟩
  rintro vs T4 H4 ⟨rfl, rfl⟩
  generalize (if g < 0 then x.group else g) = g2
  by_cases h3 : c.user = 0
  · rw [h3] at hS
    refine wp_seq ?_; refine wp_seq ?_; refine wp_regionD ?_; refine zg ?_; refine zj (S.g3 hS) ?_; refine wpD_cons ?_; refine op1_neqI_s rfl rfl rfl ?_; refine zd1 ?_; (iterate 29 refine zl ?_); refine wpD_cons ?_; refine op1_pick_f rfl rfl (by (conv => lhs; whnf) <;> rfl) ?_; refine wpD_nil ?_; refine dk_of ?_ ?_; refine chk_skip ?_; refine zx 33 ?_ ?_; refine zy 5 ?_ ?_; exact zq (S.g3 hS); exact chkFs_nil; (iterate 6 refine chk_skip ?_); refine chk_unw 26 rfl rfl rfl ?_; (iterate 3 refine chk_skip ?_); refine chk_unw 22 rfl rfl rfl ?_; (iterate 3 refine chk_skip ?_); refine chk_unw 18 rfl rfl rfl ?_; (iterate 7 refine chk_skip ?_); refine chk_unw 10 rfl rfl rfl ?_; (iterate 2 refine chk_skip ?_); refine chk_unw 7 rfl rfl rfl ?_; (iterate 6 refine chk_skip ?_); exact chk_end; refine seq_normal ?_; refine wp_false rfl ?_; refine wp_skip ?_; refine seq_normal ?_; refine zsr ?_; (iterate 4 refine zw1 ?_); refine zn ?_; refine wpO_cons ?_; refine op1_faddr rfl rfl ?_; refine wpO_cons ?_
    refine op1_store1L (k := i * 7 + 2) rfl rfl (by simp only [Int.toNat_natCast]; rfl) rfl rfl (S.up1 hS) (by omega) ?_
    have hT1 := hS
    clear hS
    intro H5 hS
    rw [fm_set rowO_len hA.get (by omega) (y' := (o, { x with user := u2 })) rfl] at hS
    refine zn ?_; refine wpO_cons ?_; refine op1_faddr rfl rfl ?_; refine wpO_cons ?_
    refine op1_store1L (k := i * 7 + 3) rfl rfl (by simp only [Int.toNat_natCast]; rfl) rfl rfl hS (by omega) ?_
    have hT2 := hS
    clear hS
    intro H6 hS
    rw [fm_set rowO_len (hA.get2 _) (by omega) (y' := (o, { x with user := u2, group := g2 })) rfl, List.set_set] at hS
    rw [hA.set] at hS
    refine zns ?_; refine wp_seq ?_; refine zsr ?_; refine zf ?_; refine zh (S.g3 hS) ?_; refine wpO_cons ?_; refine op1_neqI_s rfl rfl rfl ?_; refine zns ?_; refine wp_false rfl ?_; refine wp_skip ?_; refine seq_normal ?_; refine zsr ?_; refine zw1 ?_; refine zns ?_; refine wp_ret ?_; refine ret_of ?_; refine zr ?_; refine rk_nil ?_
    rw [show x.chown c u2 g2 = some { x with user := u2, group := g2 } from by unfold Ob.chown; rw [if_neg (fun h => h.1 h3), if_neg (fun h => h h3)]]
    exact ⟨rfl, S.k1 (closeR (t := t.setO o { x with user := u2, group := g2 }) (S.up1 hS))⟩
  refine wp_seq ?_; refine wp_seq ?_; refine wp_regionD ?_; refine zg ?_; refine zj (S.g3 hS) ?_; refine wpD_cons ?_; refine op1_neqI rfl rfl rfl ?_; refine zd1 ?_; refine wpD_cons ?_
  refine op1_ndec rfl (fun _ => ?_) (fun h => absurd h h3)
  refine op1_mov rfl (by (conv => lhs; whnf) <;> rfl) ?_; refine zd1 ?_; refine zm ?_; refine wpD_cons ?_; refine op1_faddr rfl rfl ?_; refine wpD_cons ?_
  refine op1_load (v := .int .i64 x.user) rfl rfl hg (hj 2 (by omega)) ?_
  by_cases h4 : u2 = x.user
  · subst h4
    refine wpD_cons ?_; refine op1_neqI_s rfl rfl rfl ?_; refine zd1 ?_; refine zg ?_; refine zj (S.g3 hS) ?_; refine zd1 ?_; refine zm ?_; refine wpD_cons ?_; refine op1_faddr rfl rfl ?_; refine wpD_cons ?_
    refine op1_load (v := .int .i64 x.user) rfl rfl hg (hj 2 (by omega)) ?_
    by_cases h5 : c.user = x.user
    · refine wpD_cons ?_; refine op1_neqI rfl rfl rfl ?_; refine wpD_cons ?_; refine op1_pick_f rfl rfl (by (conv => lhs; whnf) <;> rfl) ?_; refine zd1 ?_; refine wpD_cons ?_
      refine op1_ndec rfl (fun h => absurd h5 h) (fun _ => ?_)
      refine op1_mov rfl (by (conv => lhs; whnf) <;> rfl) ?_; refine zd1 ?_; refine zm ?_; refine wpD_cons ?_; refine op1_faddr rfl rfl ?_; refine wpD_cons ?_
      refine op1_load (v := .int .i64 x.group) rfl rfl hg (hj 3 (by omega)) ?_
      by_cases h6 : g2 = x.group
      · subst h6
        refine wpD_cons ?_; refine op1_neqI_s rfl rfl rfl ?_; refine zd1 ?_; (iterate 4 refine zl ?_); refine wpD_cons ?_; refine op1_pick_f rfl rfl (by (conv => lhs; whnf) <;> rfl) ?_; refine wpD_cons ?_; refine op1_pick_f rfl rfl (by (conv => lhs; whnf) <;> rfl) ?_; refine wpD_cons ?_; refine op1_pick_t rfl rfl (by (conv => lhs; whnf) <;> rfl) ?_; refine wpD_nil ?_; refine dk_of ?_ ?_; refine chk_skip ?_; refine zx 33 ?_ ?_; refine zy 5 ?_ ?_; exact zq (S.g3 hS); exact chkFs_nil; (iterate 6 refine chk_skip ?_); refine zx 26 ?_ ?_; refine zy 5 ?_ ?_
        · first | exact chk_load rfl hg (hj 2 (by omega)) rfl | exact chk_load rfl hg (hj 3 (by omega)) rfl
        exact chkFs_nil; (iterate 3 refine chk_skip ?_); refine zx 22 ?_ ?_; refine zy 5 ?_ ?_; exact zq (S.g3 hS); exact chkFs_nil; (iterate 3 refine chk_skip ?_); refine zx 18 ?_ ?_; refine zy 5 ?_ ?_
        · first | exact chk_load rfl hg (hj 2 (by omega)) rfl | exact chk_load rfl hg (hj 3 (by omega)) rfl
        exact chkFs_nil; (iterate 7 refine chk_skip ?_); refine zx 10 ?_ ?_; refine zy 5 ?_ ?_
        · first | exact chk_load rfl hg (hj 2 (by omega)) rfl | exact chk_load rfl hg (hj 3 (by omega)) rfl
        exact chkFs_nil; (iterate 2 refine chk_skip ?_); refine chk_unw 7 rfl rfl rfl ?_; (iterate 6 refine chk_skip ?_); exact chk_end; refine seq_normal ?_; refine wp_false rfl ?_; refine wp_skip ?_; refine seq_normal ?_
        refine zsr ?_; (iterate 4 refine zw1 ?_); refine zn ?_; refine wpO_cons ?_; refine op1_faddr rfl rfl ?_; refine wpO_cons ?_
        refine op1_store1L (k := i * 7 + 2) rfl rfl (by simp only [Int.toNat_natCast]; rfl) rfl rfl (S.up1 hS) (by omega) ?_
        have hT1 := hS
        clear hS
        intro H5 hS
        rw [fm_set rowO_len hA.get (by omega) (y' := (o, { x with user := x.user })) rfl] at hS
        refine zn ?_; refine wpO_cons ?_; refine op1_faddr rfl rfl ?_; refine wpO_cons ?_
        refine op1_store1L (k := i * 7 + 3) rfl rfl (by simp only [Int.toNat_natCast]; rfl) rfl rfl hS (by omega) ?_
        have hT2 := hS
        clear hS
        intro H6 hS
        rw [fm_set rowO_len (hA.get2 _) (by omega) (y' := (o, { x with user := x.user, group := x.group })) rfl, List.set_set] at hS
        refine zns ?_; refine wp_seq ?_; refine zsr ?_; refine zf ?_; refine zh (S.g3 hS) ?_; refine wpO_cons ?_; refine op1_neqI rfl rfl rfl ?_; refine zns ?_
        refine wp_ndec rfl (fun _ => ?_) (fun h => absurd h h3)
        refine wp_region ?_; refine zw1 ?_; refine zw1 ?_; refine zn ?_; refine wpO_cons ?_; refine op1_faddr rfl rfl ?_; refine wpO_cons ?_
        refine op1_loadL (k := i * 7 + 1) (v := .int .i64 x.mode) rfl rfl hS (by simp only [Int.toNat_natCast]; omega) (by omega) (by rw [fm_get rowO_len (hA.get2 _) (by omega)]; rfl) ?_
        refine wpO_cons ?_; refine op1_andNot rfl rfl rfl ?_; refine zn ?_; refine wpO_cons ?_; refine op1_faddr rfl rfl ?_; refine wpO_cons ?_
        refine op1_store1L (k := i * 7 + 1) rfl rfl (by simp only [Int.toNat_natCast]; rfl) rfl rfl hS (by omega) ?_
        have hT3 := hS
        clear hS
        intro H7 hS
        rw [fm_set rowO_len (hA.get2 _) (by omega) (y' := (o, { x with user := x.user, group := x.group, mode := bitAndNot .i64 x.mode 3072 })) rfl, List.set_set, hA.set] at hS
        refine zns ?_; refine zsr ?_; refine zw1 ?_; refine zns ?_; refine wp_ret ?_; refine ret_of ?_; refine zr ?_; refine rk_nil ?_
        rw [show x.chown c x.user x.group = some { x with user := x.user, group := x.group, mode := bitAndNot .i64 x.mode 3072 } from by unfold Ob.chown; rw [if_neg (by rintro ⟨_, h | h | h⟩ <;> first | exact h rfl | exact h h5 | exact h.1 rfl), if_pos h3]]
        exact ⟨rfl, S.k1 (closeR (t := t.setO o { x with user := x.user, group := x.group, mode := bitAndNot .i64 x.mode 3072 }) (S.up1 hS))⟩
      · refine wpD_cons ?_; refine op1_neqI rfl rfl rfl ?_; refine zd1 ?_; refine wpD_cons ?_
        refine op1_ndec rfl (fun _ => ?_) (fun h => absurd h h6)
        refine op1_load_3 rfl rfl (by exact S.g3 hS) rfl rfl ?_; refine zd1 ?_; refine wpD_cons ?_; refine op1_call2 rfl (by (conv => lhs; whnf) <;> rfl) (by (conv => lhs; whnf) <;> rfl) ?_
        refine wpF_mono (L40 (g := g2) hc hS) ?_
        rintro _ H4 ⟨rfl, hS4⟩
        have hT := hS
        clear hS
        have hS := hS4
        clear hS4
        by_cases h7 : c.mem g2
        · rw [decide_eq_true h7]
          refine wpD_cons ?_; refine op1_not_t rfl rfl ?_; refine wpD_cons ?_; refine op1_pick_t rfl rfl (by (conv => lhs; whnf) <;> rfl) ?_; refine wpD_cons ?_; refine op1_pick_f rfl rfl (by (conv => lhs; whnf) <;> rfl) ?_; refine wpD_cons ?_; refine op1_pick_t rfl rfl (by (conv => lhs; whnf) <;> rfl) ?_; refine wpD_nil ?_; refine dk_of ?_ ?_; refine chk_skip ?_; refine zx 33 ?_ ?_; refine zy 5 ?_ ?_; exact zq (S.g3 hT); exact chkFs_nil; (iterate 6 refine chk_skip ?_); refine zx 26 ?_ ?_; refine zy 5 ?_ ?_
          · first | exact chk_load rfl hg (hj 2 (by omega)) rfl | exact chk_load rfl hg (hj 3 (by omega)) rfl
          exact chkFs_nil; (iterate 3 refine chk_skip ?_); refine zx 22 ?_ ?_; refine zy 5 ?_ ?_; exact zq (S.g3 hT); exact chkFs_nil; (iterate 3 refine chk_skip ?_); refine zx 18 ?_ ?_; refine zy 5 ?_ ?_
          · first | exact chk_load rfl hg (hj 2 (by omega)) rfl | exact chk_load rfl hg (hj 3 (by omega)) rfl
          exact chkFs_nil; (iterate 7 refine chk_skip ?_); refine zx 10 ?_ ?_; refine zy 5 ?_ ?_
          · first | exact chk_load rfl hg (hj 2 (by omega)) rfl | exact chk_load rfl hg (hj 3 (by omega)) rfl
          exact chkFs_nil; (iterate 2 refine chk_skip ?_); refine zx 7 ?_ ?_; refine zy 5 ?_ ?_; exact chk_loadN rfl (by exact S.g3 hT) rfl rfl rfl; exact chkFs_nil; (iterate 6 refine chk_skip ?_); exact chk_end; refine seq_normal ?_; refine wp_false rfl ?_; refine wp_skip ?_; refine seq_normal ?_
          refine zsr ?_; (iterate 4 refine zw1 ?_); refine zn ?_; refine wpO_cons ?_; refine op1_faddr rfl rfl ?_; refine wpO_cons ?_
          refine op1_store1L (k := i * 7 + 2) rfl rfl (by simp only [Int.toNat_natCast]; rfl) rfl rfl (S.up1 hS) (by omega) ?_
          have hT1 := hS
          clear hS
          intro H5 hS
          rw [fm_set rowO_len hA.get (by omega) (y' := (o, { x with user := x.user })) rfl] at hS
          refine zn ?_; refine wpO_cons ?_; refine op1_faddr rfl rfl ?_; refine wpO_cons ?_
          refine op1_store1L (k := i * 7 + 3) rfl rfl (by simp only [Int.toNat_natCast]; rfl) rfl rfl hS (by omega) ?_
          have hT2 := hS
          clear hS
          intro H6 hS
          rw [fm_set rowO_len (hA.get2 _) (by omega) (y' := (o, { x with user := x.user, group := g2 })) rfl, List.set_set] at hS
          refine zns ?_; refine wp_seq ?_; refine zsr ?_; refine zf ?_; refine zh (S.g3 hS) ?_; refine wpO_cons ?_; refine op1_neqI rfl rfl rfl ?_; refine zns ?_
          refine wp_ndec rfl (fun _ => ?_) (fun h => absurd h h3)
          refine wp_region ?_; refine zw1 ?_; refine zw1 ?_; refine zn ?_; refine wpO_cons ?_; refine op1_faddr rfl rfl ?_; refine wpO_cons ?_
          refine op1_loadL (k := i * 7 + 1) (v := .int .i64 x.mode) rfl rfl hS (by simp only [Int.toNat_natCast]; omega) (by omega) (by rw [fm_get rowO_len (hA.get2 _) (by omega)]; rfl) ?_
          refine wpO_cons ?_; refine op1_andNot rfl rfl rfl ?_; refine zn ?_; refine wpO_cons ?_; refine op1_faddr rfl rfl ?_; refine wpO_cons ?_
          refine op1_store1L (k := i * 7 + 1) rfl rfl (by simp only [Int.toNat_natCast]; rfl) rfl rfl hS (by omega) ?_
          have hT3 := hS
          clear hS
          intro H7 hS
          rw [fm_set rowO_len (hA.get2 _) (by omega) (y' := (o, { x with user := x.user, group := g2, mode := bitAndNot .i64 x.mode 3072 })) rfl, List.set_set, hA.set] at hS
          refine zns ?_; refine zsr ?_; refine zw1 ?_; refine zns ?_; refine wp_ret ?_; refine ret_of ?_; refine zr ?_; refine rk_nil ?_
          rw [show x.chown c x.user g2 = some { x with user := x.user, group := g2, mode := bitAndNot .i64 x.mode 3072 } from by unfold Ob.chown; rw [if_neg (by rintro ⟨_, h | h | h⟩ <;> first | exact h rfl | exact h h5 | exact h.2 h7), if_pos h3]]
          exact ⟨rfl, S.k1 (closeR (t := t.setO o { x with user := x.user, group := g2, mode := bitAndNot .i64 x.mode 3072 }) (S.up1 hS))⟩
        · rw [decide_eq_false h7]
          refine wpD_cons ?_; refine op1_not_f rfl rfl ?_; refine wpD_cons ?_; refine op1_pick_t rfl rfl (by (conv => lhs; whnf) <;> rfl) ?_; refine wpD_cons ?_; refine op1_pick_f rfl rfl (by (conv => lhs; whnf) <;> rfl) ?_; refine wpD_cons ?_; refine op1_pick_t rfl rfl (by (conv => lhs; whnf) <;> rfl) ?_; refine wpD_nil ?_; refine dk_of ?_ ?_; refine chk_skip ?_; refine zx 33 ?_ ?_; refine zy 5 ?_ ?_; exact zq (S.g3 hT); exact chkFs_nil; (iterate 6 refine chk_skip ?_); refine zx 26 ?_ ?_; refine zy 5 ?_ ?_
          · first | exact chk_load rfl hg (hj 2 (by omega)) rfl | exact chk_load rfl hg (hj 3 (by omega)) rfl
          exact chkFs_nil; (iterate 3 refine chk_skip ?_); refine zx 22 ?_ ?_; refine zy 5 ?_ ?_; exact zq (S.g3 hT); exact chkFs_nil; (iterate 3 refine chk_skip ?_); refine zx 18 ?_ ?_; refine zy 5 ?_ ?_
          · first | exact chk_load rfl hg (hj 2 (by omega)) rfl | exact chk_load rfl hg (hj 3 (by omega)) rfl
          exact chkFs_nil; (iterate 7 refine chk_skip ?_); refine zx 10 ?_ ?_; refine zy 5 ?_ ?_
          · first | exact chk_load rfl hg (hj 2 (by omega)) rfl | exact chk_load rfl hg (hj 3 (by omega)) rfl
          exact chkFs_nil; (iterate 2 refine chk_skip ?_); refine zx 7 ?_ ?_; refine zy 5 ?_ ?_; exact chk_loadN rfl (by exact S.g3 hT) rfl rfl rfl; exact chkFs_nil; (iterate 6 refine chk_skip ?_); exact chk_end; refine seq_normal ?_; refine wp_true rfl ?_
          refine zsr ?_; refine zw1 ?_; refine zns ?_; refine wp_ret ?_; refine seq_ret ?_; refine ret_of ?_; refine zr ?_; refine rk_nil ?_
          rw [show x.chown c x.user g2 = none from if_pos ⟨h3, .inr (.inr ⟨h6, h7⟩)⟩]
          exact ⟨rfl, S.k1 (closeR hS)⟩
    · refine wpD_cons ?_; refine op1_neqI rfl rfl rfl ?_; refine wpD_cons ?_; refine op1_pick_f rfl rfl (by (conv => lhs; whnf) <;> rfl) ?_; refine zd1 ?_; refine wpD_cons ?_
      refine op1_ndec rfl (fun _ => ?_) (fun h => absurd h h5)
      refine op1_skip rfl ?_; (iterate 11 refine zl ?_); refine wpD_cons ?_; refine op1_pick_t rfl rfl (by (conv => lhs; whnf) <;> rfl) ?_; refine wpD_cons ?_; refine op1_pick_t rfl rfl (by (conv => lhs; whnf) <;> rfl) ?_; refine wpD_nil ?_; refine dk_of ?_ ?_; refine chk_skip ?_; refine zx 33 ?_ ?_; refine zy 5 ?_ ?_; exact zq (S.g3 hS); exact chkFs_nil; (iterate 6 refine chk_skip ?_); refine zx 26 ?_ ?_; refine zy 5 ?_ ?_
      · first | exact chk_load rfl hg (hj 2 (by omega)) rfl | exact chk_load rfl hg (hj 3 (by omega)) rfl
      exact chkFs_nil; (iterate 3 refine chk_skip ?_); refine zx 22 ?_ ?_; refine zy 5 ?_ ?_; exact zq (S.g3 hS); exact chkFs_nil; (iterate 3 refine chk_skip ?_); refine zx 18 ?_ ?_; refine zy 5 ?_ ?_
      · first | exact chk_load rfl hg (hj 2 (by omega)) rfl | exact chk_load rfl hg (hj 3 (by omega)) rfl
      exact chkFs_nil; (iterate 7 refine chk_skip ?_); refine chk_unw 10 rfl rfl rfl ?_; (iterate 2 refine chk_skip ?_); refine chk_unw 7 rfl rfl rfl ?_; (iterate 6 refine chk_skip ?_); exact chk_end; refine seq_normal ?_; refine wp_true rfl ?_
      refine zsr ?_; refine zw1 ?_; refine zns ?_; refine wp_ret ?_; refine seq_ret ?_; refine ret_of ?_; refine zr ?_; refine rk_nil ?_
      rw [show x.chown c x.user g2 = none from if_pos ⟨h3, .inr (.inl h5)⟩]
      exact ⟨rfl, S.k1 (closeR hS)⟩
  · refine wpD_cons ?_; refine op1_neqI rfl rfl rfl ?_; refine zd1 ?_; refine wpD_cons ?_
    refine op1_ndec rfl (fun _ => ?_) (fun h => absurd h h4)
    refine op1_skip rfl ?_; (iterate 6 refine zl ?_); refine wpD_cons ?_; refine op1_pick_t rfl rfl (by (conv => lhs; whnf) <;> rfl) ?_; refine zd1 ?_; (iterate 12 refine zl ?_); refine wpD_cons ?_; refine op1_pick_t rfl rfl (by (conv => lhs; whnf) <;> rfl) ?_; refine wpD_cons ?_; refine op1_pick_t rfl rfl (by (conv => lhs; whnf) <;> rfl) ?_; refine wpD_nil ?_; refine dk_of ?_ ?_; refine chk_skip ?_; refine zx 33 ?_ ?_; refine zy 5 ?_ ?_; exact zq (S.g3 hS); exact chkFs_nil; (iterate 6 refine chk_skip ?_); refine zx 26 ?_ ?_; refine zy 5 ?_ ?_
    · first | exact chk_load rfl hg (hj 2 (by omega)) rfl | exact chk_load rfl hg (hj 3 (by omega)) rfl
    exact chkFs_nil; (iterate 3 refine chk_skip ?_); refine chk_unw 22 rfl rfl rfl ?_; (iterate 3 refine chk_skip ?_); refine chk_unw 18 rfl rfl rfl ?_; (iterate 7 refine chk_skip ?_); refine chk_unw 10 rfl rfl rfl ?_; (iterate 2 refine chk_skip ?_); refine chk_unw 7 rfl rfl rfl ?_; (iterate 6 refine chk_skip ?_); exact chk_end; refine seq_normal ?_; refine wp_true rfl ?_
    refine zsr ?_; refine zw1 ?_; refine zns ?_; refine wp_ret ?_; refine seq_ret ?_; refine ret_of ?_; refine zr ?_; refine rk_nil ?_
    rw [show x.chown c u2 g2 = none from if_pos ⟨h3, .inl h4⟩]
    exact ⟨rfl, S.k1 (closeR hS)⟩
end
end Go.E.At
/- Attributes: the reference's Close, Open. -/
namespace Go.E.At
open Go Go.E Go.Proofs.YtgbnjcmjioiclaaDoor.base Go.Proofs.YtgbnjcmjioiclaaDoor Go.Proofs
set_option linter.unusedVariables false
set_option linter.unusedSimpArgs false
set_option maxRecDepth 100000
section
variable {B H : AHeap} {As : List Asn} {t : Tb} {p : Nat} {id o : Int}
theorem set_cut {X : Type} (l : List X) (i : Nat) (y : X) : (l.set i y).take i ++ (l.set i y).drop (i + 1) = l.take i ++ l.drop (i + 1) := by
  rw [List.take_set_of_le (Nat.le_refl _), List.drop_set_of_lt (by omega)]
theorem L52 (ht : TbOk t) (hS : S B H (refP p t :: As)) : wpF C 52 [ptrB p, .int .i64 id] H fun v H' => v = .tuple ⟨[.bool (t.close id).1, .int .i64 (t.close id).2.1]⟩ ∧ S B H' (refP p (t.close id).2.2 :: As) := by
  refine wpF_ofW o52 rfl rfl ?_
  refine zsr ?_; refine zw1 ?_; refine zw1 ?_; refine zns ?_; refine zsr ?_; refine zw1 ?_; refine zw1 ?_; refine wpO_cons ?_; refine op1_call2 rfl (by (conv => lhs; whnf) <;> rfl) (by (conv => lhs; whnf) <;> rfl) ?_
  refine wpF_mono (L69 (id := id) ht hS) ?_
  rintro _ H3 ⟨hS3, ⟨hx, rfl⟩ | ⟨i, k, hA, hi, rfl⟩⟩
  · clear hS
    have hS := hS3
    clear hS3
    refine zw1 ?_; refine zns ?_; refine wp_seq ?_; refine zsr ?_; refine zw1 ?_; refine wpO_cons ?_; refine op1_lss rfl rfl rfl ?_; refine zns ?_; refine wp_true rfl ?_; refine zsr ?_; refine zw1 ?_; refine zw1 ?_; refine zns ?_; refine wp_ret ?_; refine seq_ret ?_; refine ret_of ?_; refine zr ?_; refine zr ?_; refine rk_nil ?_
    exact ⟨by unfold Tb.close; rw [hx]; rfl, by unfold Tb.close; rw [hx]; exact hS⟩
  have hx := hA.is
  have e0 : t.close id = if 0 < k.refs - 1 then (false, 0, t.setB id { k with refs := k.refs - 1 })
    else ((Tb.sweep { t with bs := gDel t.bs id } k.obj).1, 0, (Tb.sweep { t with bs := gDel t.bs id } k.obj).2) := by unfold Tb.close; rw [hx]
  rw [e0]
  clear e0
  have hkR := ht.bsR (id, k) (gGet_mem hx)
  have hr3 : 1 ≤ k.refs ∧ k.refs ≤ 200 := hkR.refs
  obtain ⟨x, hxo⟩ := ht.has (id, k) (gGet_mem hx)
  have hxo : gGet t.os k.obj = some x := hxo
  clear hS
  obtain ⟨a1, c1, a2, c2, hS⟩ := openR hS3
  clear hS3
  unfold rfC at hS
  unfold ptrB
  have hlo := ht.bsL
  obtain ⟨b, off, cs, rfl, hg, hcl, hj, hN⟩ := eltR rowB_len (S.up2 hS) hA.get
  refine zw1 ?_; refine zns ?_; refine wp_seq ?_; refine zsr ?_; refine zw1 ?_; refine wpO_cons ?_; refine op1_lss rfl rfl rfl ?_; refine zns ?_; refine wp_false rfl ?_; refine wp_skip ?_; refine seq_normal ?_; refine zsr ?_; refine zw1 ?_; refine zn ?_; refine zf ?_; refine zh (S.g0 hS) ?_; refine zw1 ?_; refine wpO_cons ?_; refine op1_iaddr rfl rfl rfl (by omega) (by omega) ?_; refine wpO_cons ?_; refine op1_faddr rfl rfl ?_; refine wpO_cons ?_; refine op1_faddr rfl rfl ?_; refine wpO_cons ?_
  refine op1_load (v := .int .i64 k.refs) rfl rfl hg (hj 6 (by omega)) ?_
  refine wpO_cons ?_; refine op1_sub rfl rfl rfl (by exact wrap_i64 (by omega) (by omega)) ?_; refine wpO_cons ?_; refine op1_iaddr rfl rfl rfl (by omega) (by omega) ?_; refine wpO_cons ?_; refine op1_faddr rfl rfl ?_; refine wpO_cons ?_; refine op1_faddr rfl rfl ?_; refine wpO_cons ?_
  refine op1_store1L (k := i * 7 + 6) rfl rfl (by simp only [Int.toNat_natCast]; rfl) rfl rfl (S.up2 hS) (by omega) ?_
  clear hS
  intro H4 hS
  rw [fm_set rowB_len hA.get (by omega) (y' := (id, { k with refs := k.refs - 1 })) rfl] at hS
  have hS := S.dn2 hS
  have hge2 := hA.get2 (id, { k with refs := k.refs - 1 })
  refine zns ?_; refine wp_seq ?_; refine zsr ?_; refine zw1 ?_; refine zn ?_; refine zf ?_; refine zh (S.g0 hS) ?_; refine zw1 ?_; refine wpO_cons ?_; refine op1_iaddr rfl rfl rfl (by omega) (by omega) ?_; refine wpO_cons ?_; refine op1_faddr rfl rfl ?_; refine wpO_cons ?_; refine op1_faddr rfl rfl ?_; refine wpO_cons ?_
  refine op1_loadL (k := i * 7 + 6) (v := .int .i64 (k.refs - 1)) rfl rfl (S.up2 hS) (by simp only [Int.toNat_natCast]; omega) (by omega) (by rw [fm_get rowB_len hge2 (by omega)]; rfl) ?_
  refine wpO_cons ?_; refine op1_gtr rfl rfl rfl ?_; refine zns ?_
  refine wp_dec rfl (fun h1 => ?_) (fun h1 => ?_)
  · refine zsr ?_; refine zw1 ?_; refine zw1 ?_; refine zns ?_; refine wp_ret ?_; refine seq_ret ?_; refine ret_of ?_; refine zr ?_; refine zr ?_; refine rk_nil ?_
    rw [if_pos h1]
    rw [hA.set] at hS
    exact ⟨rfl, closeR (t := t.setB id { k with refs := k.refs - 1 }) hS⟩
  rw [if_neg h1]
  refine wp_skip ?_; refine seq_normal ?_; refine zsr ?_; refine zw1 ?_; refine zn ?_; refine zf ?_; refine zh (S.g0 hS) ?_; refine zw1 ?_; refine wpO_cons ?_; refine op1_iaddr rfl rfl rfl (by omega) (by omega) ?_; refine wpO_cons ?_; refine op1_faddr rfl rfl ?_; refine wpO_cons ?_; refine op1_faddr rfl rfl ?_; refine wpO_cons ?_
  refine op1_loadL (k := i * 7 + 1) (v := .int .i64 k.obj) rfl rfl (S.up2 hS) (by simp only [Int.toNat_natCast]; omega) (by omega) (by rw [fm_get rowB_len hge2 (by omega)]; rfl) ?_
  obtain ⟨L, hL⟩ : ∃ L, L = t.bs.set i (id, { k with refs := k.refs - 1 }) := ⟨_, rfl⟩
  have hLn : L.length = t.bs.length := by rw [hL, List.length_set]
  rw [← hL] at hS hge2
  rw [← hLn] at hS hlo hi
  refine zw1 ?_; refine zns ?_; refine wp_seq ?_; refine wp_regionD ?_; refine zd1 ?_; refine wpD_cons ?_; refine op1_bsliceS rfl hS ?_; refine bk_nil ?_; intro p1 H1 hS; refine zd1 ?_; refine zm ?_; refine zg ?_; refine zj (S.g1 hS) ?_; refine zd1 ?_; refine wpD_cons ?_
  have hcap : L.length ≤ c2 := S.len_le (S.up3 hS)
  replace hS := S.slNew (l := 0) (es := 7) hS rfl
  have hT := hS
  refine op1_sliceD rfl rfl (RD.cons (RD.cons RD.head)) (S.drop hS) (bnds_hi (by omega) (by omega)) (by omega) (by simp only [Int.toNat_natCast]; omega) ?_
  simp only [Int.toNat_natCast, Nat.zero_mul, List.drop_zero, Nat.sub_zero]
  intro a7 c7 hd7 hck7
  rw [fm_take rowB_len] at hd7
  refine zd1 ?_; refine zm ?_; refine zg ?_; refine zj (S.g1 hT) ?_; refine zd1 ?_; refine wpD_cons ?_; refine op1_add rfl rfl rfl (by exact wrap_i64 (by omega) (by omega)) ?_; refine wpD_cons ?_
  refine op1_sliceD rfl rfl (RD.cons (RD.cons RD.head)) (S.drop hS) (bnds_lo (by omega) (by omega) hcap) (by omega) (Nat.le_refl _) ?_
  rw [show ((i : Int) + 1).toNat = i + 1 by omega]
  intro a8 c8 hd8 hck8
  rw [fm_drop rowB_len, List.take_of_length_le (Nat.le_of_eq (by rw [fm_len rowB_len, List.length_drop]))] at hd8
  obtain ⟨r7, hr7, _⟩ := hd7 _ (S.drop hS)
  have hl7 : (List.take i L).length = i := by rw [List.length_take]; omega
  refine wpD_cons ?_
  refine op1_appRS rfl rfl (by (conv => lhs; whnf) <;> rfl) rfl hr7 (by rw [fm_len rowB_len, hl7]) (fm_one rowB_one _) hS (by omega) ?_
  rw [List.nil_append, Nat.zero_add]
  intro a3 c3 H6 hS
  have hT2 := hS
  obtain ⟨r8, hr8, _⟩ := hd8 _ (S.drop hS)
  refine wpD_cons ?_
  refine op1_appRS rfl rfl (by (conv => lhs; whnf) <;> rfl) rfl hr8 (by rw [fm_len rowB_len, List.length_drop]) (fm_one rowB_one _) hS (by omega) ?_
  intro a4 c4 H7 hS
  rw [show i + (L.length - (i + 1)) = L.length - 1 by omega] at hS ⊢
  refine zm ?_; refine zg ?_; refine wpD_cons ?_; (refine op1_store1S rfl rfl (by (conv => lhs; whnf) <;> rfl) rfl rfl (S.up1 hS) rfl ?_; intro H2 hS; replace hS := S.dn1 hS); refine wpD_nil ?_; refine dk_of ?_ ?_; (iterate 5 refine chk_skip ?_); refine zx 15 ?_ ?_; refine zy 5 ?_ ?_; exact zq (S.g1 hT); exact chkFs_nil; refine chk_skip ?_; refine zx 13 ?_ ?_; refine zy 5 ?_ ?_
  · first | exact hck7 _ _ (S.drop hT) rfl | exact hck8 _ _ (S.drop hT) rfl | exact hck7 _ _ (S.drop hT2) rfl | exact hck8 _ _ (S.drop hT2) rfl
  exact chkFs_nil; (iterate 3 refine chk_skip ?_); refine zx 9 ?_ ?_; refine zy 5 ?_ ?_; exact zq (S.g1 hT); refine zy 4 ?_ ?_; exact zq (S.g1 hT2); exact chkFs_nil; (iterate 2 refine chk_skip ?_); refine zx 6 ?_ ?_; refine zy 5 ?_ ?_
  · first | exact hck7 _ _ (S.drop hT) rfl | exact hck8 _ _ (S.drop hT) rfl | exact hck7 _ _ (S.drop hT2) rfl | exact hck8 _ _ (S.drop hT2) rfl
  refine zy 4 ?_ ?_
  · first | exact hck7 _ _ (S.drop hT) rfl | exact hck8 _ _ (S.drop hT) rfl | exact hck7 _ _ (S.drop hT2) rfl | exact hck8 _ _ (S.drop hT2) rfl
  exact chkFs_nil; (iterate 5 refine chk_skip ?_); exact chk_end; refine seq_normal ?_
  refine zsr ?_; refine zw1 ?_; refine zw1 ?_; refine wpO_cons ?_; refine op1_call2 rfl (by (conv => lhs; whnf) <;> rfl) (by (conv => lhs; whnf) <;> rfl) ?_
  have h9 := closeRB (t := { t with bs := gDel t.bs id }) (by rw [← List.flatMap_append, hL, set_cut, hA.del]) (S.dn2 (S.drop (S.up3 hS)))
  refine wpF_mono (L73 (t := { t with bs := gDel t.bs id }) hxo ht.delB h9) ?_
  rintro _ H9 ⟨rfl, hS9⟩
  refine zw1 ?_; refine zw1 ?_; refine zns ?_; refine wp_ret ?_; refine ret_of ?_; refine zr ?_; refine zr ?_; refine rk_nil ?_
  exact ⟨rfl, hS9⟩
theorem L50 {c : Cr} {b : Bk} {r : List Nat} (hB : Glob objs B) (hc : CrOk B c r) (ht : TbOk t) (hS : S B H (refP p t :: As)) : wpF C 50 [ptrB p, .int .i64 o, .agg ⟨c.cells⟩, .agg ⟨b.cells⟩] H fun v H' => v = .tuple ⟨[.int .i64 (t.opn o c b).1, .int .i64 (t.opn o c b).2.1]⟩ ∧ S B H' (refP p (t.opn o c b).2.2 :: As) := by
  refine wpF_ofW o50 rfl rfl ?_
  unfold Cr.cells Bk.cells
  refine zsr ?_; refine wpO_cons ?_; refine op1_boxNS rfl rfl rfl hS ?_; intro p1 H1 hS; refine wpO_cons ?_; refine op1_boxNS rfl rfl rfl hS ?_; intro p2 H2 hS; refine zw1 ?_; refine zw1 ?_; refine zns ?_; refine zsr ?_; refine zw1 ?_; refine zw1 ?_; refine wpO_cons ?_; refine op1_call2 rfl (by (conv => lhs; whnf) <;> rfl) (by (conv => lhs; whnf) <;> rfl) ?_
  refine wpF_mono (L68 (id := o) ht (S.up2 hS)) ?_
  rintro _ H3 ⟨hS3, ⟨hx, rfl⟩ | ⟨i, x, hA, hi, rfl⟩⟩
  · clear hS
    have hS := hS3
    clear hS3
    refine zw1 ?_; refine zns ?_; refine wp_seq ?_; refine zsr ?_; refine zw1 ?_; refine wpO_cons ?_; refine op1_lss rfl rfl rfl ?_; refine zns ?_; refine wp_true rfl ?_; refine zsr ?_; refine zw1 ?_; refine zw1 ?_; refine zns ?_; refine wp_ret ?_; refine seq_ret ?_; refine ret_of ?_; refine zr ?_; refine zr ?_; refine rk_nil ?_
    have e : t.opn o c b = (0, 22, t) := by unfold Tb.opn; rw [hx]
    rw [e]
    exact ⟨rfl, S.k2 hS⟩
  have hx := hA.is
  clear hS
  obtain ⟨a1, c1, a2, c2, hS⟩ := openR hS3
  clear hS3
  unfold rfC at hS
  unfold ptrB
  have hlo := ht.osL
  have hlo2 := ht.bsL
  obtain ⟨b1, off, cs, rfl, hg, hcl, hj, hN⟩ := eltR rowO_len (S.up1 hS) hA.get
  have hN2 : (cs.drop (off + i * 7 + 1)).take 6 = x.cells := hN
  refine zw1 ?_; refine zns ?_; refine wp_seq ?_; refine zsr ?_; refine zw1 ?_; refine wpO_cons ?_; refine op1_lss rfl rfl rfl ?_; refine zns ?_; refine wp_false rfl ?_; refine wp_skip ?_; refine seq_normal ?_; refine zsr ?_; refine zw1 ?_; refine zn ?_; refine zf ?_; refine zh (S.g0 hS) ?_; refine zw1 ?_; refine wpO_cons ?_; refine op1_iaddr rfl rfl rfl (by omega) (by omega) ?_; refine wpO_cons ?_; refine op1_faddr rfl rfl ?_; refine wpO_cons ?_
  refine op1_loadN rfl rfl hg (by simp only [Int.toNat_natCast]; omega) (by simp only [Int.toNat_natCast]; exact hN2) ?_
  unfold Ob.cells
  refine wpO_cons ?_; refine op1_allocS rfl hS ?_; intro p3 H4 hS; refine wpO_cons ?_; (refine op1_storeNS rfl rfl (by (conv => lhs; whnf) <;> rfl) rfl rfl (S.up0 hS) (Nat.le_of_ble_eq_true rfl) ?_; intro H5 hS; replace hS := S.dn0 hS); refine zns ?_; refine wp_seq ?_
  refine wp_cut [54] (fun vs H' => vs = [.bool (decide (badB b))] ∧ H5 = H') ?_ ?_
  · refine wp_region ?_; refine zf ?_; refine zh (S.g4 hS) ?_; refine wpO_cons ?_; refine op1_lss rfl rfl rfl ?_; refine zw1 ?_; refine wpO_cons ?_
    refine op1_dec rfl (fun h1 => ?_) (fun h1 => ?_)
    · refine op1_skip rfl ?_; refine zk ?_; refine zk ?_; refine zt ?_; refine zw1 ?_; (iterate 3 refine zk ?_); refine zt ?_; refine zw1 ?_; (iterate 3 refine zk ?_); refine zt ?_; refine zw1 ?_; (iterate 8 refine zk ?_); refine zt ?_; refine wpO_nil ?_; refine cut1 (by (conv => lhs; whnf) <;> rfl) ?_
      exact ⟨by rw [decide_eq_true (show badB b by unfold badB; omega)], rfl⟩
    refine op1_faddr0 rfl rfl ?_; refine zh (S.g4 hS) ?_; refine wpO_cons ?_; refine op1_gtr rfl rfl rfl ?_; refine zu ?_; refine zw1 ?_; refine wpO_cons ?_
    refine op1_dec rfl (fun h2 => ?_) (fun h2 => ?_)
    · refine op1_skip rfl ?_; refine zk ?_; refine zk ?_; refine zt ?_; refine zw1 ?_; (iterate 3 refine zk ?_); refine zt ?_; refine zw1 ?_; (iterate 8 refine zk ?_); refine zt ?_; refine wpO_nil ?_; refine cut1 (by (conv => lhs; whnf) <;> rfl) ?_
      exact ⟨by rw [decide_eq_true (show badB b by unfold badB; omega)], rfl⟩
    refine op1_faddr0 rfl rfl ?_; refine zh (S.g4 hS) ?_; refine wpO_cons ?_; refine op1_lss rfl rfl rfl ?_; refine zu ?_; refine zw1 ?_; refine wpO_cons ?_
    refine op1_dec rfl (fun h3 => ?_) (fun h3 => ?_)
    · refine op1_skip rfl ?_; refine zk ?_; refine zk ?_; refine zt ?_; refine zw1 ?_; (iterate 8 refine zk ?_); refine zt ?_; refine wpO_nil ?_; refine cut1 (by (conv => lhs; whnf) <;> rfl) ?_
      exact ⟨by rw [decide_eq_true (show badB b by unfold badB; omega)], rfl⟩
    refine op1_faddr0 rfl rfl ?_; refine zh (S.g4 hS) ?_; refine wpO_cons ?_; refine op1_gtr rfl rfl rfl ?_; refine zu ?_; refine zw1 ?_; refine wpO_cons ?_
    refine op1_dec rfl (fun h4 => ?_) (fun h4 => ?_)
    · refine op1_skip rfl ?_; (iterate 7 refine zk ?_); refine zt ?_; refine wpO_nil ?_; refine cut1 (by (conv => lhs; whnf) <;> rfl) ?_
      exact ⟨by rw [decide_eq_true (show badB b by unfold badB; omega)], rfl⟩
    refine op1_faddr0 rfl rfl ?_; refine zh (S.g4 hS) ?_; refine zw1 ?_; refine wpO_cons ?_
    refine op1_split rfl (fun h5 => ?_) (fun h5 => ?_)
    · refine op1_faddr0 rfl rfl ?_; refine zh (S.g4 hS) ?_; refine wpO_cons ?_; refine op1_and rfl rfl rfl ?_; refine wpO_cons ?_; refine op1_eqlI rfl rfl rfl ?_; refine zt ?_; refine zu ?_; refine wpO_nil ?_; refine cut1 (by (conv => lhs; whnf) <;> rfl) ?_
      refine ⟨?_, rfl⟩
      refine congrArg (fun z => [Value.bool z]) (decide_eq_decide.2 ?_)
      unfold badB
      constructor
      · exact fun h => .inr (.inr (.inr (.inr ⟨h5, h⟩)))
      · rintro (h | h | h | h | ⟨_, h⟩) <;> first | omega | exact h
    · refine op1_skip rfl ?_; (iterate 3 refine zk ?_); refine zu ?_; refine zu ?_; refine wpO_nil ?_; refine cut1 (by (conv => lhs; whnf) <;> rfl) ?_
      refine ⟨?_, rfl⟩
      rw [decide_eq_false (show ¬ badB b by unfold badB; rintro (h | h | h | h | ⟨h, _⟩) <;> first | omega | (rw [h5] at h; cases h))]
  rintro vs T4 H4 ⟨rfl, rfl⟩
  refine wp_dec rfl (fun h1 => ?_) (fun h1 => ?_)
  · refine zsr ?_; refine zw1 ?_; refine zw1 ?_; refine zns ?_; refine wp_ret ?_; refine seq_ret ?_; refine ret_of ?_; refine zr ?_; refine zr ?_; refine rk_nil ?_
    have e : t.opn o c b = (0, 14, t) := by unfold Tb.opn; rw [hx]; exact if_pos h1
    rw [e]
    exact ⟨rfl, S.k2 (closeR (S.drop hS))⟩
  refine wp_skip ?_; refine seq_normal ?_; refine wp_seq ?_
  refine wp_cut [62] (fun vs H' => vs = [.bool (decide (x.dir = true ∧ ¬ bitAnd .i64 b.acc 2 = 0))] ∧ H5 = H') ?_ ?_
  · refine wp_region ?_; refine zf ?_; refine zh (S.g0 hS) ?_; refine zw1 ?_; refine wpO_cons ?_
    refine op1_split rfl (fun h7 => ?_) (fun h7 => ?_)
    · refine op1_faddr0 rfl rfl ?_; refine zh (S.g4 hS) ?_; refine wpO_cons ?_; refine op1_and rfl rfl rfl ?_; refine wpO_cons ?_; refine op1_neqI rfl rfl rfl ?_; refine zt ?_; refine wpO_nil ?_; refine cut1 (by (conv => lhs; whnf) <;> rfl) ?_
      refine ⟨?_, rfl⟩
      rw [← decide_not]
      exact congrArg (fun z => [Value.bool z]) (decide_eq_decide.2 ⟨fun h => ⟨h7, h⟩, fun h => h.2⟩)
    · refine op1_skip rfl ?_; (iterate 3 refine zk ?_); refine zu ?_; refine wpO_nil ?_; refine cut1 (by (conv => lhs; whnf) <;> rfl) ?_
      exact ⟨by rw [decide_eq_false (fun h => by rw [h7] at h; cases h.1)], rfl⟩
  rintro vs T4 H4 ⟨rfl, rfl⟩
  refine wp_dec rfl (fun h2 => ?_) (fun h2 => ?_)
  · refine zsr ?_; refine zw1 ?_; refine zw1 ?_; refine zns ?_; refine wp_ret ?_; refine seq_ret ?_; refine ret_of ?_; refine zr ?_; refine zr ?_; refine rk_nil ?_
    have e : t.opn o c b = (0, 16, t) := by unfold Tb.opn; rw [hx]; exact (if_neg h1).trans (if_pos h2)
    rw [e]
    exact ⟨rfl, S.k2 (closeR (S.drop hS))⟩
  refine wp_skip ?_; refine seq_normal ?_; refine wp_seq ?_; refine zsr ?_; refine wpO_cons ?_; refine op1_load_6 rfl rfl (by exact S.g0 hS) rfl rfl ?_; refine wpO_cons ?_; refine op1_load_3 rfl rfl (by exact S.g5 hS) rfl rfl ?_; refine zf ?_; refine zh (S.g4 hS) ?_; refine wpO_cons ?_; refine op1_call3 rfl (by (conv => lhs; whnf) <;> rfl) (by (conv => lhs; whnf) <;> rfl) (by (conv => lhs; whnf) <;> rfl) ?_
  have hxm := ht.osR (o, x) (gGet_mem hx)
  have hxm2 := hxm.mode
  simp only at hxm2
  refine wpF_mono (L11 (x := x) (c := c) (want := b.acc) (by omega) hc hS) ?_
  rintro _ H6 ⟨rfl, hS6⟩
  have hT := hS
  clear hS
  have hS := hS6
  clear hS6
  cases ha : x.allowed c b.acc with
  | false =>
    refine wpO_cons ?_; refine op1_not_f rfl rfl ?_; refine zns ?_; refine wp_true rfl ?_; refine zsr ?_; refine zw1 ?_; refine zw1 ?_; refine zns ?_; refine wp_ret ?_; refine seq_ret ?_; refine ret_of ?_; refine zr ?_; refine zr ?_; refine rk_nil ?_
    have e : t.opn o c b = (0, 1, t) := by unfold Tb.opn; rw [hx]; exact (if_neg h1).trans ((if_neg h2).trans (if_pos ha))
    rw [e]
    exact ⟨rfl, S.k2 (closeR (S.drop hS))⟩
  | true =>
    refine wpO_cons ?_; refine op1_not_t rfl rfl ?_; refine zns ?_; refine wp_false rfl ?_; refine wp_skip ?_; refine seq_normal ?_; refine wp_seq ?_; refine zsr ?_; refine zw1 ?_; refine zns ?_; refine wp_block ?_
    have hS1 := S.drop (S.up4 (S.drop hS))
    clear hT hS hg hj hN hN2 hcl
    have hS := hS1
    clear hS1
    refine wp_loop [12] (fun k vs H' => ∃ j : Nat, vs = [.int .i64 j] ∧ k = t.bs.length - j ∧ j ≤ t.bs.length ∧ (∀ y ∈ t.bs.take j, conf o b.acc b.deny y.2 = false) ∧ S B H' (pto p (.cells [.slice (some ⟨b1, off, none⟩) t.os.length c1, .slice a2 t.bs.length c2, .int .i64 t.lo, .int .i64 t.lb] 0 false) :: sl 7 (.slice (some ⟨b1, off, none⟩) t.os.length c1) (t.os.flatMap rowO) :: sl 7 (.slice a2 t.bs.length c2) (t.bs.flatMap rowB) :: pto p2 (.cells [.int .i64 b.obj, .int .i64 b.acc, .int .i64 b.deny, .bool b.app, .int .i64 b.off, .int .i64 b.refs] 0 false) :: As)) ⟨_, 0, rfl, rfl, by omega, by simp, hS⟩ ?_
    clear hS
    rintro k vs T2 H2 ⟨j, rfl, rfl, hjl, hno, hS⟩
    refine wp_seq ?_; refine zsr ?_; refine zw1 ?_; refine zw1 ?_; refine zn ?_; refine zf ?_; refine zh (S.g0 hS) ?_; refine wpO_cons ?_; refine op1_len rfl rfl ?_; refine wpO_cons ?_; refine op1_lss rfl rfl rfl ?_; refine zns ?_
    refine wp_dec rfl (fun h4 => ?_) (fun h4 => ?_)
    · obtain ⟨y, hy⟩ : ∃ y, t.bs[j]? = some y := ⟨_, List.getElem?_eq_getElem (by omega)⟩
      obtain ⟨b5, off5, cs, rfl, hg, hcl, hj, hN⟩ := eltR rowB_len (S.up2 hS) hy
      have hN2 : (cs.drop (off5 + j * 7 + 1)).take 6 = y.2.cells := hN
      refine wp_skip ?_; refine seq_normal ?_; refine wp_seq ?_; refine wp_block ?_; refine zsr ?_; refine zw1 ?_; refine zn ?_; refine zf ?_; refine zh (S.g0 hS) ?_; refine zw1 ?_; refine wpO_cons ?_; refine op1_iaddr rfl rfl rfl (by omega) (by omega) ?_; refine wpO_cons ?_; refine op1_faddr rfl rfl ?_; refine wpO_cons ?_
      refine op1_loadN rfl rfl hg (by simp only [Int.toNat_natCast]; omega) (by simp only [Int.toNat_natCast]; exact hN2) ?_
      unfold Bk.cells
      refine wpO_cons ?_; refine op1_allocS rfl hS ?_; intro p4 H7 hS; refine wpO_cons ?_; (refine op1_storeNS rfl rfl (by (conv => lhs; whnf) <;> rfl) rfl rfl (S.up0 hS) (Nat.le_of_ble_eq_true rfl) ?_; intro H8 hS; replace hS := S.dn0 hS); refine zns ?_
      refine wp_cut [105] (fun vs H' => vs = [.bool (conf o b.acc b.deny y.2)] ∧ H8 = H') ?_ ?_
      · refine wp_region ?_; refine zf ?_; refine zh (S.g0 hS) ?_; refine zw1 ?_; refine wpO_cons ?_; refine op1_eqlI rfl rfl rfl ?_; refine zw1 ?_; refine wpO_cons ?_
        refine op1_dec rfl (fun h5 => ?_) (fun h5 => ?_)
        · refine op1_faddr0 rfl rfl ?_; refine zh (S.g0 hS) ?_; refine zf ?_; refine zh (S.g4 hS) ?_; refine wpO_cons ?_; refine op1_and rfl rfl rfl ?_; refine wpO_cons ?_; refine op1_neqI rfl rfl rfl ?_; refine zw1 ?_; refine wpO_cons ?_
          refine op1_ndec rfl (fun h6 => ?_) (fun h6 => ?_)
          · refine op1_skip rfl ?_; (iterate 5 refine zk ?_); refine zt ?_; refine zt ?_; refine wpO_nil ?_; refine cut1 (by (conv => lhs; whnf) <;> rfl) ?_
            exact ⟨by unfold conf; rw [decide_eq_true h5, decide_eq_true h6]; rfl, rfl⟩
          · refine op1_faddr0 rfl rfl ?_; refine zh (S.g4 hS) ?_; refine zf ?_; refine zh (S.g0 hS) ?_; refine wpO_cons ?_; refine op1_and rfl rfl rfl ?_; refine wpO_cons ?_; refine op1_neqI rfl rfl rfl ?_; refine zu ?_; refine zt ?_; refine wpO_nil ?_; refine cut1 (by (conv => lhs; whnf) <;> rfl) ?_
            refine ⟨?_, rfl⟩
            unfold conf
            rw [decide_eq_true h5, decide_eq_false (show ¬ ¬ bitAnd .i64 y.2.acc b.deny = 0 from fun h => h h6), bitAnd_comm b.acc, decide_not, Bool.true_and, Bool.false_or]
        · refine op1_skip rfl ?_; (iterate 13 refine zk ?_); refine zu ?_; refine wpO_nil ?_; refine cut1 (by (conv => lhs; whnf) <;> rfl) ?_
          exact ⟨by unfold conf; rw [decide_eq_false h5]; rfl, rfl⟩
      rintro vs T4 H4 ⟨rfl, rfl⟩
      cases hcf : conf o b.acc b.deny y.2 with
      | true =>
        refine wp_true rfl ?_; refine zsr ?_; refine zw1 ?_; refine zw1 ?_; refine zns ?_; refine wp_ret ?_; refine block_ret ?_; refine seq_ret ?_; refine iter_ret ?_; refine block_ret ?_; refine seq_ret ?_; refine ret_of ?_; refine zr ?_; refine zr ?_; refine rk_nil ?_
        have hpos : 0 < (t.bs.filter fun y => conf o b.acc b.deny y.2).length := List.length_pos_of_mem (List.mem_filter.2 ⟨List.mem_of_getElem? hy, hcf⟩)
        have e : t.opn o c b = (0, 5, t) := by unfold Tb.opn; rw [hx]; exact (if_neg h1).trans ((if_neg h2).trans ((if_neg (by rw [ha]; decide)).trans (if_pos hpos)))
        rw [e]
        exact ⟨rfl, S.k1 (closeR (S.drop hS))⟩
      | false =>
        refine wp_false rfl ?_; refine wp_skip ?_; refine block_normal ?_; refine seq_normal ?_; refine wp_region ?_; refine zw1 ?_; refine wpO_cons ?_; refine op1_add rfl rfl rfl (by exact wrap_i64 (by omega) (by omega)) ?_; refine zw1 ?_; refine wpO_nil ?_
        refine ⟨t.bs.length - (j + 1), by omega, j + 1, rfl, rfl, by omega, fun z hz => ?_, S.drop hS⟩
        rw [List.take_add_one, hy] at hz
        rcases List.mem_append.1 hz with h | h
        · exact hno z h
        · simp at h
          rw [h]
          exact hcf
    · rw [List.take_of_length_le (by omega)] at hno
      have hz : (t.bs.filter fun y => conf o b.acc b.deny y.2) = [] := List.filter_eq_nil_iff.2 fun y hy => by rw [hno y hy]; decide
      have hlo3 := ht.lb
      refine wp_exit ?_; refine seq_exit ?_; refine iter_exit ?_; refine block_exit ?_; refine seq_normal ?_; refine wp_seq ?_; refine zsr ?_; refine zw1 ?_; refine zn ?_; refine zf ?_; refine zh (S.g0 hS) ?_; refine wpO_cons ?_; refine op1_len rfl rfl ?_; refine wpO_cons ?_; refine op1_geq rfl rfl rfl ?_; refine zns ?_
      refine wp_dec rfl (fun h6 => ?_) (fun h6 => ?_)
      · refine zsr ?_; refine zw1 ?_; refine zw1 ?_; refine zns ?_; refine wp_ret ?_; refine seq_ret ?_; refine ret_of ?_; refine zr ?_; refine zr ?_; refine rk_nil ?_
        have e : t.opn o c b = (0, 18, t) := by unfold Tb.opn; rw [hx]; exact (if_neg h1).trans ((if_neg h2).trans ((if_neg (by rw [ha]; decide)).trans ((if_neg (by rw [hz]; decide)).trans (if_pos (by omega)))))
        rw [e]
        exact ⟨rfl, S.k1 (closeR hS)⟩
      rw [show t.opn o c b = (t.lb + 1, 0, t.addB ⟨o, b.acc, b.deny, b.app, 0, 1⟩) by unfold Tb.opn; rw [hx]; exact (if_neg h1).trans ((if_neg h2).trans ((if_neg (by rw [ha]; decide)).trans ((if_neg (by rw [hz]; decide)).trans (if_neg (by omega)))))]
      refine wp_skip ?_; refine seq_normal ?_; refine zsr ?_; refine zw1 ?_; refine zn ?_; refine zf ?_; refine zh (S.g0 hS) ?_; refine wpO_cons ?_; refine op1_add rfl rfl rfl (by exact wrap_i64 (by omega) (by omega)) ?_; refine zn ?_; refine zf ?_; refine wpO_cons ?_; (refine op1_store1S rfl rfl (by (conv => lhs; whnf) <;> rfl) rfl rfl (S.up0 hS) rfl ?_; intro H7 hS; replace hS := S.dn0 hS); refine zns ?_; refine wp_seq ?_; refine wp_regionD ?_; refine zd1 ?_; refine zd1 ?_; refine zm ?_; refine zg ?_; refine zj (S.g0 hS) ?_; refine zd1 ?_; refine zm ?_; refine zg ?_; refine zj (S.g0 hS) ?_; refine zd1 ?_; refine zg ?_; refine zj (S.g3 hS) ?_; refine zg ?_; refine zj (S.g3 hS) ?_; refine zg ?_; refine zj (S.g3 hS) ?_; refine wpD_cons ?_; refine op1_build rfl ?_; refine bk_one (by (conv => lhs; whnf) <;> rfl) rfl rfl rfl ?_; refine bk_one (by (conv => lhs; whnf) <;> rfl) rfl rfl rfl ?_; refine bk_one (by (conv => lhs; whnf) <;> rfl) rfl rfl rfl ?_; refine bk_one (by (conv => lhs; whnf) <;> rfl) rfl rfl rfl ?_; refine bk_one (by (conv => lhs; whnf) <;> rfl) rfl rfl rfl ?_; refine bk_nil ?_; refine wpD_cons ?_; refine op1_build rfl ?_; refine bk_one (by (conv => lhs; whnf) <;> rfl) rfl rfl rfl ?_; refine bk_agg rfl rfl rfl rfl ?_; refine bk_nil ?_; refine wpD_cons ?_; refine op1_bsliceS rfl hS ?_; refine bk_agg rfl rfl rfl rfl ?_; refine bk_nil ?_; intro p4 H8 hS; refine wpD_cons ?_; (refine op1_appBS rfl rfl (by (conv => lhs; whnf) <;> rfl) rfl (S.g0 hS) rfl rfl (S.up3 hS) (by omega) ?_; intro a1 c3 H9 hS; replace hS := S.dn3 hS; replace hS := S.drop hS); refine zm ?_; refine zg ?_; refine wpD_cons ?_; (refine op1_store1S rfl rfl (by (conv => lhs; whnf) <;> rfl) rfl rfl (S.up0 hS) rfl ?_; intro H10 hS; replace hS := S.dn0 hS); refine wpD_nil ?_; refine dk_of ?_ ?_; (iterate 4 refine chk_skip ?_); refine zx 19 ?_ ?_; refine zy 4 ?_ ?_; exact chk_load rfl (by exact S.g1 (by assumption)) rfl rfl; exact chkFs_nil; (iterate 3 refine chk_skip ?_); refine zx 15 ?_ ?_; refine zy 4 ?_ ?_; exact chk_load rfl (by exact S.g1 (by assumption)) rfl rfl; exact chkFs_nil; (iterate 2 refine chk_skip ?_); refine zx 12 ?_ ?_; refine zy 4 ?_ ?_; exact chk_load rfl (by exact S.g4 (by assumption)) rfl rfl; exact chkFs_nil; refine chk_skip ?_; refine zx 10 ?_ ?_; refine zy 4 ?_ ?_; exact chk_load rfl (by exact S.g4 (by assumption)) rfl rfl; exact chkFs_nil; refine chk_skip ?_; refine zx 8 ?_ ?_; refine zy 4 ?_ ?_; exact chk_load rfl (by exact S.g4 (by assumption)) rfl rfl; exact chkFs_nil; (iterate 7 refine chk_skip ?_); exact chk_end; refine seq_normal ?_; refine zsr ?_; refine zw1 ?_; refine zn ?_; refine zf ?_; refine zh (S.g0 hS) ?_; refine zw1 ?_; refine zw1 ?_; refine zns ?_; refine wp_ret ?_; refine ret_of ?_; refine zr ?_; refine zr ?_; refine rk_nil ?_
      exact ⟨rfl, S.k1 (closeRB (t := t.addB ⟨o, b.acc, b.deny, b.app, 0, 1⟩) (by unfold Tb.addB; rw [List.flatMap_append]; rfl) hS)⟩
end
end Go.E.At
