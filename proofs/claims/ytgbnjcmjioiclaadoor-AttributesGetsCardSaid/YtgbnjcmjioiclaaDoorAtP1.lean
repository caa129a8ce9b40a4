/- Attributes: Create, Attr, Open, Write. -/
import Derived.Test.YtgbnjcmjioiclaaDoorAtF1
namespace Go.E.At
open Go Go.E Go.Proofs.YtgbnjcmjioiclaaDoor.base Go.Proofs.YtgbnjcmjioiclaaDoor Go.Proofs
set_option linter.unusedVariables false
set_option linter.unusedSimpArgs false
set_option maxRecDepth 100000
theorem S.k1 {B H : AHeap} {a b : Asn} {As : List Asn} (h : S B H (a :: b :: As)) : S B H (a :: As) := S.drop (S.up1 h)
theorem S.k2 {B H : AHeap} {a b c : Asn} {As : List Asn} (h : S B H (a :: b :: c :: As)) : S B H (a :: As) := S.k1 (S.k1 h)
theorem S.k3 {B H : AHeap} {a b c d : Asn} {As : List Asn} (h : S B H (a :: b :: c :: d :: As)) : S B H (a :: As) := S.k2 (S.k1 h)
theorem S.k4 {B H : AHeap} {a b c d e : Asn} {As : List Asn} (h : S B H (a :: b :: c :: d :: e :: As)) : S B H (a :: As) := S.k3 (S.k1 h)
def badA (a : Ob) : Prop := a.mode < 0 ∨ a.mode > 4095 ∨ a.user < 0 ∨ a.group < 0 ∨ a.size < 0 ∨ a.size > 16384 ∨ a.links < 0
instance (a : Ob) : Decidable (badA a) := by unfold badA; infer_instance
def Tb.create (t : Tb) (a : Ob) : Int × Int × Tb := if badA a then (0, 34, t) else if 1000 ≤ t.os.length then (0, 18, t) else (t.lo + 1, 0, t.addO a)
def ob0 : Ob := ⟨0, 0, 0, 0, 0, false⟩
def bk0 : Bk := ⟨0, 0, 0, false, 0, 0⟩
def Tb.attr (t : Tb) (o : Int) : Ob × Int := match gGet t.os o with | none => (ob0, 22) | some x => (x, 0)
def badB (b : Bk) : Prop := b.acc < 1 ∨ b.acc > 3 ∨ b.deny < 0 ∨ b.deny > 3 ∨ (b.app = true ∧ bitAnd .i64 b.acc 2 = 0)
instance (b : Bk) : Decidable (badB b) := by unfold badB; infer_instance
def Tb.opn (t : Tb) (o : Int) (c : Cr) (b : Bk) : Int × Int × Tb :=
  match gGet t.os o with
  | none => (0, 22, t)
  | some a => if badB b then (0, 14, t) else if a.dir = true ∧ ¬ bitAnd .i64 b.acc 2 = 0 then (0, 16, t) else if a.allowed c b.acc = false then (0, 1, t)
    else if 0 < (t.bs.filter fun y => conf o b.acc b.deny y.2).length then (0, 5, t) else if 200 ≤ t.bs.length then (0, 18, t)
    else (t.lb + 1, 0, t.addB ⟨o, b.acc, b.deny, b.app, 0, 1⟩)
def Tb.write (t : Tb) (id n : Int) : Int × Int × Int × Tb :=
  match gGet t.bs id with
  | none => (0, 0, 3, t)
  | some k => if bitAnd .i64 k.acc 2 = 0 then (0, 0, 1, t) else if n < 0 then (0, 0, 34, t) else
    match gGet t.os k.obj with
    | none => (0, 0, 0, t)
    | some x =>
      let at_ := if k.app = true then x.size else k.off
      let put := max (min n (16384 - at_)) 0
      if 0 < n ∧ put = 0 then (0, 0, 25, t)
      else (at_, put, 0, t.set2 id { k with off := at_ + put } k.obj { x with size := max x.size (at_ + put) })
section
variable {B H : AHeap} {As : List Asn} {t : Tb} {p : Nat}
theorem L13 {a : Ob} (ht : TbOk t) (hS : S B H (repP p t :: As)) : wpF C 13 [ptrB p, .agg ⟨a.cells⟩] H fun v H' => v = .tuple ⟨[.int .i64 (t.create a).1, .int .i64 (t.create a).2.1]⟩ ∧ S B H' (repP p (t.create a).2.2 :: As) := by
  refine wpF_ofW o13 rfl rfl ?_
  unfold ptrB Ob.cells
  refine zsr ?_; refine wpO_cons ?_; refine op1_boxNS rfl rfl rfl hS ?_; intro p1 H1 hS; refine zw1 ?_; refine zw1 ?_; refine zns ?_; refine wp_seq ?_; refine wp_block ?_; refine zsr ?_; refine zw1 ?_; refine wpO_cons ?_; refine op1_bin_false rfl (by (conv => lhs; whnf) <;> rfl) (by (conv => lhs; whnf) <;> rfl) rfl ?_; refine zw1 ?_; refine zns ?_; refine wp_false rfl ?_; refine zsr ?_; refine zf ?_; refine zh (S.g0 hS) ?_; refine wpO_cons ?_; refine op1_lss rfl rfl rfl ?_; refine zw1 ?_; refine wpO_cons ?_
  refine op1_dec rfl (fun h1 => ?_) (fun h1 => ?_)
  · refine op1_skip rfl ?_; refine zk ?_; refine zk ?_; refine zt ?_; refine zw1 ?_; (iterate 3 refine zk ?_); refine zt ?_; refine zw1 ?_; (iterate 3 refine zk ?_); refine zt ?_; refine zw1 ?_; (iterate 3 refine zk ?_); refine zt ?_; refine zw1 ?_; (iterate 3 refine zk ?_); refine zt ?_; refine zw1 ?_; (iterate 3 refine zk ?_); refine zt ?_; refine zw1 ?_; refine zns ?_; refine wp_true rfl ?_; refine zsr ?_; refine zw1 ?_; refine zw1 ?_; refine zns ?_; refine wp_ret ?_; refine block_ret ?_; refine seq_ret ?_; refine ret_of ?_; refine zr ?_; refine zr ?_; refine rk_nil ?_
    have e : t.create a = (0, 34, t) := by unfold Tb.create; rw [if_pos (show badA a by unfold badA; omega)]
    rw [e]
    exact ⟨rfl, S.drop hS⟩
  refine op1_faddr0 rfl rfl ?_; refine zh (S.g0 hS) ?_; refine wpO_cons ?_; refine op1_gtr rfl rfl rfl ?_; refine zu ?_; refine zw1 ?_; refine wpO_cons ?_
  refine op1_dec rfl (fun h2 => ?_) (fun h2 => ?_)
  · refine op1_skip rfl ?_; refine zk ?_; refine zk ?_; refine zt ?_; refine zw1 ?_; (iterate 3 refine zk ?_); refine zt ?_; refine zw1 ?_; (iterate 3 refine zk ?_); refine zt ?_; refine zw1 ?_; (iterate 3 refine zk ?_); refine zt ?_; refine zw1 ?_; (iterate 3 refine zk ?_); refine zt ?_; refine zw1 ?_; refine zns ?_; refine wp_true rfl ?_; refine zsr ?_; refine zw1 ?_; refine zw1 ?_; refine zns ?_; refine wp_ret ?_; refine block_ret ?_; refine seq_ret ?_; refine ret_of ?_; refine zr ?_; refine zr ?_; refine rk_nil ?_
    have e : t.create a = (0, 34, t) := by unfold Tb.create; rw [if_pos (show badA a by unfold badA; omega)]
    rw [e]
    exact ⟨rfl, S.drop hS⟩
  refine op1_faddr0 rfl rfl ?_; refine zh (S.g0 hS) ?_; refine wpO_cons ?_; refine op1_lss rfl rfl rfl ?_; refine zu ?_; refine zw1 ?_; refine wpO_cons ?_
  refine op1_dec rfl (fun h3 => ?_) (fun h3 => ?_)
  · refine op1_skip rfl ?_; refine zk ?_; refine zk ?_; refine zt ?_; refine zw1 ?_; (iterate 3 refine zk ?_); refine zt ?_; refine zw1 ?_; (iterate 3 refine zk ?_); refine zt ?_; refine zw1 ?_; (iterate 3 refine zk ?_); refine zt ?_; refine zw1 ?_; refine zns ?_; refine wp_true rfl ?_; refine zsr ?_; refine zw1 ?_; refine zw1 ?_; refine zns ?_; refine wp_ret ?_; refine block_ret ?_; refine seq_ret ?_; refine ret_of ?_; refine zr ?_; refine zr ?_; refine rk_nil ?_
    have e : t.create a = (0, 34, t) := by unfold Tb.create; rw [if_pos (show badA a by unfold badA; omega)]
    rw [e]
    exact ⟨rfl, S.drop hS⟩
  refine op1_faddr0 rfl rfl ?_; refine zh (S.g0 hS) ?_; refine wpO_cons ?_; refine op1_lss rfl rfl rfl ?_; refine zu ?_; refine zw1 ?_; refine wpO_cons ?_
  refine op1_dec rfl (fun h4 => ?_) (fun h4 => ?_)
  · refine op1_skip rfl ?_; refine zk ?_; refine zk ?_; refine zt ?_; refine zw1 ?_; (iterate 3 refine zk ?_); refine zt ?_; refine zw1 ?_; (iterate 3 refine zk ?_); refine zt ?_; refine zw1 ?_; refine zns ?_; refine wp_true rfl ?_; refine zsr ?_; refine zw1 ?_; refine zw1 ?_; refine zns ?_; refine wp_ret ?_; refine block_ret ?_; refine seq_ret ?_; refine ret_of ?_; refine zr ?_; refine zr ?_; refine rk_nil ?_
    have e : t.create a = (0, 34, t) := by unfold Tb.create; rw [if_pos (show badA a by unfold badA; omega)]
    rw [e]
    exact ⟨rfl, S.drop hS⟩
  refine op1_faddr0 rfl rfl ?_; refine zh (S.g0 hS) ?_; refine wpO_cons ?_; refine op1_lss rfl rfl rfl ?_; refine zu ?_; refine zw1 ?_; refine wpO_cons ?_
  refine op1_dec rfl (fun h5 => ?_) (fun h5 => ?_)
  · refine op1_skip rfl ?_; refine zk ?_; refine zk ?_; refine zt ?_; refine zw1 ?_; (iterate 3 refine zk ?_); refine zt ?_; refine zw1 ?_; refine zns ?_; refine wp_true rfl ?_; refine zsr ?_; refine zw1 ?_; refine zw1 ?_; refine zns ?_; refine wp_ret ?_; refine block_ret ?_; refine seq_ret ?_; refine ret_of ?_; refine zr ?_; refine zr ?_; refine rk_nil ?_
    have e : t.create a = (0, 34, t) := by unfold Tb.create; rw [if_pos (show badA a by unfold badA; omega)]
    rw [e]
    exact ⟨rfl, S.drop hS⟩
  refine op1_faddr0 rfl rfl ?_; refine zh (S.g0 hS) ?_; refine wpO_cons ?_; refine op1_gtr rfl rfl rfl ?_; refine zu ?_; refine zw1 ?_; refine wpO_cons ?_
  refine op1_dec rfl (fun h6 => ?_) (fun h6 => ?_)
  · refine op1_skip rfl ?_; refine zk ?_; refine zk ?_; refine zt ?_; refine zw1 ?_; refine zns ?_; refine wp_true rfl ?_; refine zsr ?_; refine zw1 ?_; refine zw1 ?_; refine zns ?_; refine wp_ret ?_; refine block_ret ?_; refine seq_ret ?_; refine ret_of ?_; refine zr ?_; refine zr ?_; refine rk_nil ?_
    have e : t.create a = (0, 34, t) := by unfold Tb.create; rw [if_pos (show badA a by unfold badA; omega)]
    rw [e]
    exact ⟨rfl, S.drop hS⟩
  refine op1_faddr0 rfl rfl ?_; refine zh (S.g0 hS) ?_; refine wpO_cons ?_; refine op1_lss rfl rfl rfl ?_; refine zu ?_; refine zw1 ?_; refine zns ?_
  refine wp_dec rfl (fun h7 => ?_) (fun h7 => ?_)
  · refine zsr ?_; refine zw1 ?_; refine zw1 ?_; refine zns ?_; refine wp_ret ?_; refine block_ret ?_; refine seq_ret ?_; refine ret_of ?_; refine zr ?_; refine zr ?_; refine rk_nil ?_
    have e : t.create a = (0, 34, t) := by unfold Tb.create; rw [if_pos (show badA a by unfold badA; omega)]
    rw [e]
    exact ⟨rfl, S.drop hS⟩
  refine zsr ?_; refine zw1 ?_; refine zn ?_; refine zf ?_; refine wpO_cons ?_; refine op1_faddr rfl rfl ?_; refine wpO_cons ?_
  have hng : ¬ badA a := by unfold badA; omega
  obtain ⟨mo, ma, hS1⟩ := openP (S.up1 hS)
  obtain ⟨kv, R, hkl, hS2, hb⟩ := rgLen (S.up2 hS1)
  have hT := hS
  clear hS hS1
  have hS := S.up2 hS2
  clear hS2
  unfold tbC at hS
  refine op1_load rfl rfl (by exact S.g0 hS) rfl ?_; refine wpO_cons ?_
  refine op1_lenMS rfl rfl (S.up1 hS) ?_
  rw [hkl]
  refine wpO_cons ?_; refine op1_geq rfl rfl rfl ?_; refine zw1 ?_; refine zns ?_
  have hc := closeP (S.dn2 (hb _ _ (S.dn2 hS)))
  have hT := hS
  clear hS
  have hS := S.up1 hc
  clear hc
  refine wp_dec rfl (fun h8 => ?_) (fun h8 => ?_)
  · refine zsr ?_; refine zw1 ?_; refine zw1 ?_; refine zns ?_; refine wp_ret ?_; refine block_ret ?_; refine seq_ret ?_; refine ret_of ?_; refine zr ?_; refine zr ?_; refine rk_nil ?_
    have e : t.create a = (0, 18, t) := by unfold Tb.create; rw [if_neg hng, if_pos (by omega)]
    rw [e]
    exact ⟨rfl, S.drop hS⟩
  refine wp_skip ?_; refine block_normal ?_; refine seq_normal ?_; refine wp_seq ?_; refine wp_regionD ?_; refine zd1 ?_; refine zm ?_; refine zg ?_; refine wpD_cons ?_; refine op1_load_6 rfl rfl (by exact S.g0 hS) rfl rfl ?_; refine wpD_cons ?_; refine op1_call2 rfl (by (conv => lhs; whnf) <;> rfl) (by (conv => lhs; whnf) <;> rfl) ?_
  refine wpF_mono (L41 (x := a) ht (S.up1 hS)) ?_
  rintro _ H3 ⟨rfl, hS3⟩
  refine zd1 ?_; refine zd1 ?_; refine wpD_nil ?_; refine dk_of ?_ ?_; (iterate 3 refine chk_skip ?_); refine zx 4 ?_ ?_; refine zy 3 ?_ ?_; exact chk_loadN rfl (by exact S.g0 hS) rfl rfl rfl; exact chkFs_nil; (iterate 3 refine chk_skip ?_); exact chk_end; refine seq_normal ?_; refine wp_ret ?_; refine ret_of ?_; refine zr ?_; refine zr ?_; refine rk_nil ?_
  have e : t.create a = (t.lo + 1, 0, t.addO a) := by unfold Tb.create; rw [if_neg hng, if_neg (by omega)]
  rw [e]
  exact ⟨rfl, S.drop (S.up1 hS3)⟩
theorem L16 {o : Int} (hS : S B H (repP p t :: As)) : wpF C 16 [ptrB p, .int .i64 o] H fun v H' => v = .tuple ⟨[.agg ⟨(t.attr o).1.cells⟩, .int .i64 (t.attr o).2]⟩ ∧ S B H' (repP p t :: As) := by
  refine wpF_ofW o16 rfl rfl ?_
  unfold Tb.attr
  refine zsr ?_; refine wpO_cons ?_; refine op1_allocS rfl hS ?_; intro p1 H1 hS; refine zw1 ?_; refine zns ?_; refine zsr ?_; refine zw1 ?_; refine zw1 ?_; refine wpO_cons ?_; refine op1_call2 rfl (by (conv => lhs; whnf) <;> rfl) (by (conv => lhs; whnf) <;> rfl) ?_
  refine wpF_mono (L42 (id := o) (S.up1 hS)) ?_
  rintro _ H3 (⟨hx, rfl, hS3⟩ | ⟨x, pa, R, hx, rfl, hS3, hb⟩)
  · rw [hx]
    clear hS
    have hS := hS3
    clear hS3
    refine zw1 ?_; refine wpO_cons ?_; refine op1_extract rfl rfl rfl ?_; refine wpO_cons ?_; refine op1_extract rfl rfl rfl ?_; refine zw1 ?_; refine zw1 ?_; refine zns ?_; refine wp_seq ?_; refine zsr ?_; refine zw1 ?_; refine wpO_cons ?_; refine op1_neqI rfl rfl rfl ?_; refine zns ?_; refine wp_true rfl ?_; refine zsr ?_; refine wpO_cons ?_; refine op1_build rfl ?_; refine bk_nil ?_; refine zw1 ?_; refine wpO_cons ?_; (refine op1_storeNS rfl rfl (by (conv => lhs; whnf) <;> rfl) rfl rfl (S.up1 hS) (Nat.le_of_ble_eq_true rfl) ?_; intro H2 hS; replace hS := S.dn1 hS); refine zw1 ?_; refine zns ?_; refine wp_ret ?_; refine seq_ret ?_; refine ret_of ?_; refine rk_cellN rfl (by exact S.g1 hS) rfl rfl ?_; refine zr ?_; refine rk_nil ?_
    exact ⟨rfl, S.drop (S.up1 hS)⟩
  · rw [hx]
    clear hS
    unfold ptrB
    have hS := hS3
    clear hS3
    unfold Ob.cells at hS
    refine zw1 ?_; refine wpO_cons ?_; refine op1_extract rfl rfl rfl ?_; refine wpO_cons ?_; refine op1_extract rfl rfl rfl ?_; refine zw1 ?_; refine zw1 ?_; refine zns ?_; refine wp_seq ?_; refine zsr ?_; refine zw1 ?_; refine wpO_cons ?_; refine op1_neqI_s rfl rfl rfl ?_; refine zns ?_; refine wp_false rfl ?_; refine wp_skip ?_; refine seq_normal ?_; refine zsr ?_; refine zw1 ?_; refine zn ?_; refine wpO_cons ?_; refine op1_load_6 rfl rfl (by exact S.g0 hS) rfl rfl ?_; refine wpO_cons ?_; (refine op1_storeNS rfl rfl (by (conv => lhs; whnf) <;> rfl) rfl rfl (S.up2 hS) (Nat.le_of_ble_eq_true rfl) ?_; intro H2 hS; replace hS := S.dn2 hS); refine zw1 ?_; refine zns ?_; refine wp_ret ?_; refine ret_of ?_; refine rk_cellN rfl (by exact S.g2 hS) rfl rfl ?_; refine zr ?_; refine rk_nil ?_
    have h2 := hb _ _ x hS
    rw [Tb.setO_self hx] at h2
    exact ⟨rfl, S.drop (S.up1 h2)⟩
theorem L14 {o : Int} {c : Cr} {b : Bk} {r : List Nat} (hB : Glob objs B) (hc : CrOk B c r) (ht : TbOk t) (hS : S B H (repP p t :: As)) : wpF C 14 [ptrB p, .int .i64 o, .agg ⟨c.cells⟩, .agg ⟨b.cells⟩] H fun v H' => v = .tuple ⟨[.int .i64 (t.opn o c b).1, .int .i64 (t.opn o c b).2.1]⟩ ∧ S B H' (repP p (t.opn o c b).2.2 :: As) := by
  refine wpF_ofW o14 rfl rfl ?_
  unfold Cr.cells Bk.cells
  refine zsr ?_; refine wpO_cons ?_; refine op1_box1S rfl (by (conv => lhs; whnf) <;> rfl) rfl rfl hS ?_; intro p1 H1 hS; refine wpO_cons ?_; refine op1_boxNS rfl rfl rfl hS ?_; intro p2 H2 hS; refine wpO_cons ?_; refine op1_boxNS rfl rfl rfl hS ?_; intro p3 H3 hS; refine zw1 ?_; refine zw1 ?_; refine zns ?_; refine zsr ?_; refine zw1 ?_; refine zh (S.g2 hS) ?_; refine wpO_cons ?_; refine op1_call2 rfl (by (conv => lhs; whnf) <;> rfl) (by (conv => lhs; whnf) <;> rfl) ?_
  refine wpF_mono (L42 (id := o) (S.up3 hS)) ?_
  rintro _ H3 (⟨hx, rfl, hS3⟩ | ⟨x, pa, R, hx, rfl, hS3, hb⟩)
  · clear hS
    have hS := hS3
    clear hS3
    refine zw1 ?_; refine wpO_cons ?_; refine op1_extract rfl rfl rfl ?_; refine wpO_cons ?_; refine op1_extract rfl rfl rfl ?_; refine zw1 ?_; refine zw1 ?_; refine zns ?_; refine wp_seq ?_; refine wp_block ?_; refine zsr ?_; refine zw1 ?_; refine wpO_cons ?_; refine op1_neqI rfl rfl rfl ?_; refine zw1 ?_; refine zns ?_; refine wp_true rfl ?_; refine zsr ?_; refine zw1 ?_; refine zw1 ?_; refine zw1 ?_; refine zns ?_; refine wp_ret ?_; refine block_ret ?_; refine seq_ret ?_; refine ret_of ?_; refine zr ?_; refine zr ?_; refine rk_nil ?_
    have e : t.opn o c b = (0, 22, t) := by unfold Tb.opn; rw [hx]
    rw [e]
    exact ⟨rfl, S.k3 hS⟩
  clear hS
  unfold ptrB
  have hS := hS3
  clear hS3
  unfold Ob.cells at hS
  refine zw1 ?_; refine wpO_cons ?_; refine op1_extract rfl rfl rfl ?_; refine wpO_cons ?_; refine op1_extract rfl rfl rfl ?_; refine zw1 ?_; refine zw1 ?_; refine zns ?_; refine wp_seq ?_; refine wp_block ?_; refine zsr ?_; refine zw1 ?_; refine wpO_cons ?_; refine op1_neqI_s rfl rfl rfl ?_; refine zw1 ?_; refine zns ?_; refine wp_false rfl ?_; refine zsr ?_; refine zf ?_; refine zh (S.g2 hS) ?_; refine wpO_cons ?_; refine op1_lss rfl rfl rfl ?_; refine zw1 ?_; refine wpO_cons ?_
  refine op1_dec rfl (fun h1 => ?_) (fun h1 => ?_)
  · refine op1_skip rfl ?_; refine zk ?_; refine zk ?_; refine zt ?_; refine zw1 ?_; (iterate 3 refine zk ?_); refine zt ?_; refine zw1 ?_; (iterate 3 refine zk ?_); refine zt ?_; refine zw1 ?_; (iterate 8 refine zk ?_); refine zt ?_; refine zw1 ?_; refine zns ?_; refine wp_true rfl ?_; refine zsr ?_; refine zw1 ?_; refine zw1 ?_; refine zns ?_; refine wp_ret ?_; refine block_ret ?_; refine seq_ret ?_; refine ret_of ?_; refine zr ?_; refine zr ?_; refine rk_nil ?_
    have h9 := hb _ _ x hS
    rw [Tb.setO_self hx] at h9
    have e : t.opn o c b = (0, 14, t) := by unfold Tb.opn; rw [hx]; exact if_pos (by unfold badB; omega)
    rw [e]
    exact ⟨rfl, S.k3 h9⟩
  refine op1_faddr0 rfl rfl ?_; refine zh (S.g2 hS) ?_; refine wpO_cons ?_; refine op1_gtr rfl rfl rfl ?_; refine zu ?_; refine zw1 ?_; refine wpO_cons ?_
  refine op1_dec rfl (fun h2 => ?_) (fun h2 => ?_)
  · refine op1_skip rfl ?_; refine zk ?_; refine zk ?_; refine zt ?_; refine zw1 ?_; (iterate 3 refine zk ?_); refine zt ?_; refine zw1 ?_; (iterate 8 refine zk ?_); refine zt ?_; refine zw1 ?_; refine zns ?_; refine wp_true rfl ?_; refine zsr ?_; refine zw1 ?_; refine zw1 ?_; refine zns ?_; refine wp_ret ?_; refine block_ret ?_; refine seq_ret ?_; refine ret_of ?_; refine zr ?_; refine zr ?_; refine rk_nil ?_
    have h9 := hb _ _ x hS
    rw [Tb.setO_self hx] at h9
    have e : t.opn o c b = (0, 14, t) := by unfold Tb.opn; rw [hx]; exact if_pos (by unfold badB; omega)
    rw [e]
    exact ⟨rfl, S.k3 h9⟩
  refine op1_faddr0 rfl rfl ?_; refine zh (S.g2 hS) ?_; refine wpO_cons ?_; refine op1_lss rfl rfl rfl ?_; refine zu ?_; refine zw1 ?_; refine wpO_cons ?_
  refine op1_dec rfl (fun h3 => ?_) (fun h3 => ?_)
  · refine op1_skip rfl ?_; refine zk ?_; refine zk ?_; refine zt ?_; refine zw1 ?_; (iterate 8 refine zk ?_); refine zt ?_; refine zw1 ?_; refine zns ?_; refine wp_true rfl ?_; refine zsr ?_; refine zw1 ?_; refine zw1 ?_; refine zns ?_; refine wp_ret ?_; refine block_ret ?_; refine seq_ret ?_; refine ret_of ?_; refine zr ?_; refine zr ?_; refine rk_nil ?_
    have h9 := hb _ _ x hS
    rw [Tb.setO_self hx] at h9
    have e : t.opn o c b = (0, 14, t) := by unfold Tb.opn; rw [hx]; exact if_pos (by unfold badB; omega)
    rw [e]
    exact ⟨rfl, S.k3 h9⟩
  refine op1_faddr0 rfl rfl ?_; refine zh (S.g2 hS) ?_; refine wpO_cons ?_; refine op1_gtr rfl rfl rfl ?_; refine zu ?_; refine zw1 ?_; refine wpO_cons ?_
  refine op1_dec rfl (fun h4 => ?_) (fun h4 => ?_)
  · refine op1_skip rfl ?_; (iterate 7 refine zk ?_); refine zt ?_; refine zw1 ?_; refine zns ?_; refine wp_true rfl ?_; refine zsr ?_; refine zw1 ?_; refine zw1 ?_; refine zns ?_; refine wp_ret ?_; refine block_ret ?_; refine seq_ret ?_; refine ret_of ?_; refine zr ?_; refine zr ?_; refine rk_nil ?_
    have h9 := hb _ _ x hS
    rw [Tb.setO_self hx] at h9
    have e : t.opn o c b = (0, 14, t) := by unfold Tb.opn; rw [hx]; exact if_pos (by unfold badB; omega)
    rw [e]
    exact ⟨rfl, S.k3 h9⟩
  refine op1_faddr0 rfl rfl ?_; refine zh (S.g2 hS) ?_; refine zw1 ?_; refine wpO_cons ?_
  refine op1_split rfl (fun h5 => ?_) (fun h5 => ?_)
  · refine op1_faddr0 rfl rfl ?_; refine zh (S.g2 hS) ?_; refine wpO_cons ?_; refine op1_and rfl rfl rfl ?_; refine wpO_cons ?_; refine op1_eqlI rfl rfl rfl ?_; refine zt ?_; refine zu ?_; refine zw1 ?_; refine zns ?_
    refine wp_dec rfl (fun h6 => ?_) (fun h6 => ?_)
    · refine zsr ?_; refine zw1 ?_; refine zw1 ?_; refine zns ?_; refine wp_ret ?_; refine block_ret ?_; refine seq_ret ?_; refine ret_of ?_; refine zr ?_; refine zr ?_; refine rk_nil ?_
      have h9 := hb _ _ x hS
      rw [Tb.setO_self hx] at h9
      have e : t.opn o c b = (0, 14, t) := by unfold Tb.opn; rw [hx]; exact if_pos (.inr (.inr (.inr (.inr ⟨h5, h6⟩))))
      rw [e]
      exact ⟨rfl, S.k3 h9⟩
    have hng : ¬ badB b := by unfold badB; rintro (h | h | h | h | ⟨_, h⟩) <;> first | omega | exact h6 h
    refine zsr ?_; refine zw1 ?_; refine zn ?_; refine zf ?_; refine zh (S.g0 hS) ?_; refine zw1 ?_; refine wpO_cons ?_
    refine op1_split rfl (fun h7 => ?_) (fun h7 => ?_)
    · refine op1_faddr0 rfl rfl ?_; refine zh (S.g2 hS) ?_; refine wpO_cons ?_; refine op1_and rfl rfl rfl ?_; refine wpO_cons ?_; refine op1_neqI rfl rfl rfl ?_; refine zt ?_; refine zw1 ?_; refine zns ?_
      refine wp_ndec rfl (fun h8 => ?_) (fun h8 => ?_)
      · refine zsr ?_; refine zw1 ?_; refine zw1 ?_; refine zns ?_; refine wp_ret ?_; refine block_ret ?_; refine seq_ret ?_; refine ret_of ?_; refine zr ?_; refine zr ?_; refine rk_nil ?_
        have h9 := hb _ _ x hS
        rw [Tb.setO_self hx] at h9
        have e : t.opn o c b = (0, 16, t) := by unfold Tb.opn; rw [hx]; exact (if_neg hng).trans (if_pos ⟨h7, h8⟩)
        rw [e]
        exact ⟨rfl, S.k3 h9⟩
      have hnd : ¬ (x.dir = true ∧ ¬ bitAnd .i64 b.acc 2 = 0) := fun h => h.2 h8
      refine wp_seq ?_; refine wp_regionD ?_; refine zd1 ?_; refine zm ?_; refine wpD_cons ?_; refine op1_load_6 rfl rfl (by exact S.g0 hS) rfl rfl ?_; refine wpD_cons ?_; refine op1_load_3 rfl rfl (by exact S.g3 hS) rfl rfl ?_; refine zg ?_; refine zj (S.g2 hS) ?_; refine wpD_cons ?_; refine op1_call3 rfl (by (conv => lhs; whnf) <;> rfl) (by (conv => lhs; whnf) <;> rfl) (by (conv => lhs; whnf) <;> rfl) ?_
      refine wpF_mono (L10 hB hc hS) ?_
      rintro _ H4 ⟨rfl, hS4⟩
      have hT := hS
      clear hS
      have hS := hS4
      clear hS4
      have h9 := hb _ _ x hS
      rw [Tb.setO_self hx] at h9
      cases ha : x.allowed c b.acc with
      | false =>
        refine wpD_cons ?_; refine op1_not_f rfl rfl ?_; refine zd1 ?_; refine wpD_nil ?_; refine dk_of ?_ ?_; (iterate 2 refine chk_skip ?_); refine zx 7 ?_ ?_; refine zy 3 ?_ ?_; exact chk_loadN rfl (by exact S.g0 hT) rfl rfl rfl; exact chkFs_nil; refine zx 6 ?_ ?_; refine zy 3 ?_ ?_; exact chk_loadN rfl (by exact S.g3 hT) rfl rfl rfl; exact chkFs_nil; refine chk_skip ?_; refine zx 4 ?_ ?_; refine zy 3 ?_ ?_; exact zq (S.g2 hT); exact chkFs_nil; (iterate 3 refine chk_skip ?_); exact chk_end; refine seq_normal ?_; refine wp_true rfl ?_; refine zsr ?_; refine zw1 ?_; refine zw1 ?_; refine zns ?_; refine wp_ret ?_; refine block_ret ?_; refine seq_ret ?_; refine ret_of ?_; refine zr ?_; refine zr ?_; refine rk_nil ?_
        have e : t.opn o c b = (0, 1, t) := by unfold Tb.opn; rw [hx]; exact (if_neg hng).trans ((if_neg hnd).trans (if_pos ha))
        rw [e]
        exact ⟨rfl, S.k3 h9⟩
      | true =>
        refine wpD_cons ?_; refine op1_not_t rfl rfl ?_; refine zd1 ?_; refine wpD_nil ?_; refine dk_of ?_ ?_; (iterate 2 refine chk_skip ?_); refine zx 7 ?_ ?_; refine zy 3 ?_ ?_; exact chk_loadN rfl (by exact S.g0 hT) rfl rfl rfl; exact chkFs_nil; refine zx 6 ?_ ?_; refine zy 3 ?_ ?_; exact chk_loadN rfl (by exact S.g3 hT) rfl rfl rfl; exact chkFs_nil; refine chk_skip ?_; refine zx 4 ?_ ?_; refine zy 3 ?_ ?_; exact zq (S.g2 hT); exact chkFs_nil; (iterate 3 refine chk_skip ?_); exact chk_end; refine seq_normal ?_; refine wp_false rfl ?_; refine wp_skip ?_; refine block_normal ?_; refine seq_normal ?_; refine zsr ?_; refine wpO_cons ?_; refine op1_mkfunc2 rfl (by (conv => lhs; whnf) <;> rfl) (by (conv => lhs; whnf) <;> rfl) ?_; refine zw1 ?_; refine zns ?_; refine wp_seq ?_; refine zsr ?_; refine zw1 ?_; refine zn ?_; refine zf ?_; refine zf ?_; refine zw1 ?_; refine wpO_cons ?_; refine op1_call2 rfl (by (conv => lhs; whnf) <;> rfl) (by (conv => lhs; whnf) <;> rfl) ?_
        have h10 := S.up1 (S.seps (L := [_, _]) (S.up3 (S.up1 h9)))
        refine wpF_mono (L44 (w := conf o b.acc b.deny) (E := seps [pto p1 (.cells [.int .i64 o] 0 false), pto p3 (.cells b.cells 0 false)]) ht (fun k b' H1 As1 h => L43 h) h10) ?_
        rintro v H5 hS5
        obtain ⟨sa, sc, rfl⟩ := S.shape1 hS5
        rw [show (i64s ((t.bs.filter fun y => conf o b.acc b.deny y.2).map (·.1))).length = (t.bs.filter fun y => conf o b.acc b.deny y.2).length from by unfold i64s; rw [List.length_map, List.length_map]] at hS5 ⊢
        have hT := hS
        clear hS
        have hS := S.unseps (S.up2 hS5)
        clear hS5
        refine wpO_cons ?_; refine op1_len rfl rfl ?_; refine wpO_cons ?_; refine op1_gtr rfl rfl rfl ?_; refine zns ?_
        refine wp_dec rfl (fun h11 => ?_) (fun h11 => ?_)
        · refine zsr ?_; refine zw1 ?_; refine zw1 ?_; refine zns ?_; refine wp_ret ?_; refine seq_ret ?_; refine ret_of ?_; refine zr ?_; refine zr ?_; refine rk_nil ?_
          have e : t.opn o c b = (0, 5, t) := by unfold Tb.opn; rw [hx]; exact (if_neg hng).trans ((if_neg hnd).trans ((if_neg (by rw [ha]; decide)).trans (if_pos (by omega))))
          rw [e]
          exact ⟨rfl, S.k4 (S.up3 hS)⟩
        obtain ⟨mo, ma, hS6⟩ := openP (S.up3 hS)
        obtain ⟨kv, RR, hkl, hS7, hbb⟩ := rgLen (S.up1 hS6)
        have hT := hS
        clear hS hS6
        have hS := S.up2 hS7
        clear hS7
        unfold tbC at hS
        refine wp_skip ?_; refine seq_normal ?_; refine wp_seq ?_; refine zsr ?_; refine zw1 ?_; refine zn ?_; refine zf ?_; refine zf ?_; refine zf ?_; refine zh (S.g0 hS) ?_; refine wpO_cons ?_
        refine op1_lenMS rfl rfl (S.up1 hS) ?_
        rw [hkl]
        refine wpO_cons ?_; refine op1_geq rfl rfl rfl ?_; refine zns ?_
        have hc2 := closeP (S.up1 (hbb _ _ (S.dn2 hS)))
        refine wp_dec rfl (fun h12 => ?_) (fun h12 => ?_)
        · refine zsr ?_; refine zw1 ?_; refine zw1 ?_; refine zns ?_; refine wp_ret ?_; refine seq_ret ?_; refine ret_of ?_; refine zr ?_; refine zr ?_; refine rk_nil ?_
          have e : t.opn o c b = (0, 18, t) := by unfold Tb.opn; rw [hx]; exact (if_neg hng).trans ((if_neg hnd).trans ((if_neg (by rw [ha]; decide)).trans ((if_neg (by omega)).trans (if_pos (by omega)))))
          rw [e]
          exact ⟨rfl, S.k4 hc2⟩
        refine wp_skip ?_; refine seq_normal ?_; refine wp_seq ?_; refine wp_regionD ?_; refine zd1 ?_; refine zm ?_; refine zg ?_; refine zg ?_; refine zj (S.g1 hc2) ?_; refine zg ?_; refine zj (S.g2 hc2) ?_; refine zg ?_; refine zj (S.g2 hc2) ?_; refine zg ?_; refine zj (S.g2 hc2) ?_; refine wpD_cons ?_; refine op1_build rfl ?_; refine bk_one (by (conv => lhs; whnf) <;> rfl) rfl rfl rfl ?_; refine bk_one (by (conv => lhs; whnf) <;> rfl) rfl rfl rfl ?_; refine bk_one (by (conv => lhs; whnf) <;> rfl) rfl rfl rfl ?_; refine bk_one (by (conv => lhs; whnf) <;> rfl) rfl rfl rfl ?_; refine bk_one (by (conv => lhs; whnf) <;> rfl) rfl rfl rfl ?_; refine bk_nil ?_; refine wpD_cons ?_; refine op1_call2 rfl (by (conv => lhs; whnf) <;> rfl) (by (conv => lhs; whnf) <;> rfl) ?_
        refine wpF_mono (L45 (x := ⟨o, b.acc, b.deny, b.app, 0, 1⟩) ht hc2) ?_
        rintro _ H6 ⟨rfl, hS8⟩
        refine zd1 ?_; refine zd1 ?_; refine wpD_nil ?_; refine dk_of ?_ ?_; (iterate 4 refine chk_skip ?_); refine zx 11 ?_ ?_; refine zy 3 ?_ ?_; exact zq (S.g1 hc2); exact chkFs_nil; refine chk_skip ?_; refine zx 9 ?_ ?_; refine zy 3 ?_ ?_; exact zq (S.g2 hc2); exact chkFs_nil; refine chk_skip ?_; refine zx 7 ?_ ?_; refine zy 3 ?_ ?_; exact zq (S.g2 hc2); exact chkFs_nil; refine chk_skip ?_; refine zx 5 ?_ ?_; refine zy 3 ?_ ?_; exact zq (S.g2 hc2); exact chkFs_nil; (iterate 4 refine chk_skip ?_); exact chk_end; refine seq_normal ?_; refine wp_ret ?_; refine ret_of ?_; refine zr ?_; refine zr ?_; refine rk_nil ?_
        have e : t.opn o c b = (t.lb + 1, 0, t.addB ⟨o, b.acc, b.deny, b.app, 0, 1⟩) := by unfold Tb.opn; rw [hx]; exact (if_neg hng).trans ((if_neg hnd).trans ((if_neg (by rw [ha]; decide)).trans ((if_neg (by omega)).trans (if_neg (by omega)))))
        rw [e]
        exact ⟨rfl, S.k4 hS8⟩
    · have hnd : ¬ (x.dir = true ∧ ¬ bitAnd .i64 b.acc 2 = 0) := fun h => by rw [h7] at h; cases h.1
      refine op1_skip rfl ?_; (iterate 3 refine zk ?_); refine zu ?_; refine zw1 ?_; refine zns ?_; refine wp_false rfl ?_; refine wp_seq ?_; refine wp_regionD ?_; refine zd1 ?_; refine zm ?_; refine wpD_cons ?_; refine op1_load_6 rfl rfl (by exact S.g0 hS) rfl rfl ?_; refine wpD_cons ?_; refine op1_load_3 rfl rfl (by exact S.g3 hS) rfl rfl ?_; refine zg ?_; refine zj (S.g2 hS) ?_; refine wpD_cons ?_; refine op1_call3 rfl (by (conv => lhs; whnf) <;> rfl) (by (conv => lhs; whnf) <;> rfl) (by (conv => lhs; whnf) <;> rfl) ?_
      refine wpF_mono (L10 hB hc hS) ?_
      rintro _ H4 ⟨rfl, hS4⟩
      have hT := hS
      clear hS
      have hS := hS4
      clear hS4
      have h9 := hb _ _ x hS
      rw [Tb.setO_self hx] at h9
      cases ha : x.allowed c b.acc with
      | false =>
        refine wpD_cons ?_; refine op1_not_f rfl rfl ?_; refine zd1 ?_; refine wpD_nil ?_; refine dk_of ?_ ?_; (iterate 2 refine chk_skip ?_); refine zx 7 ?_ ?_; refine zy 3 ?_ ?_; exact chk_loadN rfl (by exact S.g0 hT) rfl rfl rfl; exact chkFs_nil; refine zx 6 ?_ ?_; refine zy 3 ?_ ?_; exact chk_loadN rfl (by exact S.g3 hT) rfl rfl rfl; exact chkFs_nil; refine chk_skip ?_; refine zx 4 ?_ ?_; refine zy 3 ?_ ?_; exact zq (S.g2 hT); exact chkFs_nil; (iterate 3 refine chk_skip ?_); exact chk_end; refine seq_normal ?_; refine wp_true rfl ?_; refine zsr ?_; refine zw1 ?_; refine zw1 ?_; refine zns ?_; refine wp_ret ?_; refine block_ret ?_; refine seq_ret ?_; refine ret_of ?_; refine zr ?_; refine zr ?_; refine rk_nil ?_
        have e : t.opn o c b = (0, 1, t) := by unfold Tb.opn; rw [hx]; exact (if_neg hng).trans ((if_neg hnd).trans (if_pos ha))
        rw [e]
        exact ⟨rfl, S.k3 h9⟩
      | true =>
        refine wpD_cons ?_; refine op1_not_t rfl rfl ?_; refine zd1 ?_; refine wpD_nil ?_; refine dk_of ?_ ?_; (iterate 2 refine chk_skip ?_); refine zx 7 ?_ ?_; refine zy 3 ?_ ?_; exact chk_loadN rfl (by exact S.g0 hT) rfl rfl rfl; exact chkFs_nil; refine zx 6 ?_ ?_; refine zy 3 ?_ ?_; exact chk_loadN rfl (by exact S.g3 hT) rfl rfl rfl; exact chkFs_nil; refine chk_skip ?_; refine zx 4 ?_ ?_; refine zy 3 ?_ ?_; exact zq (S.g2 hT); exact chkFs_nil; (iterate 3 refine chk_skip ?_); exact chk_end; refine seq_normal ?_; refine wp_false rfl ?_; refine wp_skip ?_; refine block_normal ?_; refine seq_normal ?_; refine zsr ?_; refine wpO_cons ?_; refine op1_mkfunc2 rfl (by (conv => lhs; whnf) <;> rfl) (by (conv => lhs; whnf) <;> rfl) ?_; refine zw1 ?_; refine zns ?_; refine wp_seq ?_; refine zsr ?_; refine zw1 ?_; refine zn ?_; refine zf ?_; refine zf ?_; refine zw1 ?_; refine wpO_cons ?_; refine op1_call2 rfl (by (conv => lhs; whnf) <;> rfl) (by (conv => lhs; whnf) <;> rfl) ?_
        have h10 := S.up1 (S.seps (L := [_, _]) (S.up3 (S.up1 h9)))
        refine wpF_mono (L44 (w := conf o b.acc b.deny) (E := seps [pto p1 (.cells [.int .i64 o] 0 false), pto p3 (.cells b.cells 0 false)]) ht (fun k b' H1 As1 h => L43 h) h10) ?_
        rintro v H5 hS5
        obtain ⟨sa, sc, rfl⟩ := S.shape1 hS5
        rw [show (i64s ((t.bs.filter fun y => conf o b.acc b.deny y.2).map (·.1))).length = (t.bs.filter fun y => conf o b.acc b.deny y.2).length from by unfold i64s; rw [List.length_map, List.length_map]] at hS5 ⊢
        have hT := hS
        clear hS
        have hS := S.unseps (S.up2 hS5)
        clear hS5
        refine wpO_cons ?_; refine op1_len rfl rfl ?_; refine wpO_cons ?_; refine op1_gtr rfl rfl rfl ?_; refine zns ?_
        refine wp_dec rfl (fun h11 => ?_) (fun h11 => ?_)
        · refine zsr ?_; refine zw1 ?_; refine zw1 ?_; refine zns ?_; refine wp_ret ?_; refine seq_ret ?_; refine ret_of ?_; refine zr ?_; refine zr ?_; refine rk_nil ?_
          have e : t.opn o c b = (0, 5, t) := by unfold Tb.opn; rw [hx]; exact (if_neg hng).trans ((if_neg hnd).trans ((if_neg (by rw [ha]; decide)).trans (if_pos (by omega))))
          rw [e]
          exact ⟨rfl, S.k4 (S.up3 hS)⟩
        obtain ⟨mo, ma, hS6⟩ := openP (S.up3 hS)
        obtain ⟨kv, RR, hkl, hS7, hbb⟩ := rgLen (S.up1 hS6)
        have hT := hS
        clear hS hS6
        have hS := S.up2 hS7
        clear hS7
        unfold tbC at hS
        refine wp_skip ?_; refine seq_normal ?_; refine wp_seq ?_; refine zsr ?_; refine zw1 ?_; refine zn ?_; refine zf ?_; refine zf ?_; refine zf ?_; refine zh (S.g0 hS) ?_; refine wpO_cons ?_
        refine op1_lenMS rfl rfl (S.up1 hS) ?_
        rw [hkl]
        refine wpO_cons ?_; refine op1_geq rfl rfl rfl ?_; refine zns ?_
        have hc2 := closeP (S.up1 (hbb _ _ (S.dn2 hS)))
        refine wp_dec rfl (fun h12 => ?_) (fun h12 => ?_)
        · refine zsr ?_; refine zw1 ?_; refine zw1 ?_; refine zns ?_; refine wp_ret ?_; refine seq_ret ?_; refine ret_of ?_; refine zr ?_; refine zr ?_; refine rk_nil ?_
          have e : t.opn o c b = (0, 18, t) := by unfold Tb.opn; rw [hx]; exact (if_neg hng).trans ((if_neg hnd).trans ((if_neg (by rw [ha]; decide)).trans ((if_neg (by omega)).trans (if_pos (by omega)))))
          rw [e]
          exact ⟨rfl, S.k4 hc2⟩
        refine wp_skip ?_; refine seq_normal ?_; refine wp_seq ?_; refine wp_regionD ?_; refine zd1 ?_; refine zm ?_; refine zg ?_; refine zg ?_; refine zj (S.g1 hc2) ?_; refine zg ?_; refine zj (S.g2 hc2) ?_; refine zg ?_; refine zj (S.g2 hc2) ?_; refine zg ?_; refine zj (S.g2 hc2) ?_; refine wpD_cons ?_; refine op1_build rfl ?_; refine bk_one (by (conv => lhs; whnf) <;> rfl) rfl rfl rfl ?_; refine bk_one (by (conv => lhs; whnf) <;> rfl) rfl rfl rfl ?_; refine bk_one (by (conv => lhs; whnf) <;> rfl) rfl rfl rfl ?_; refine bk_one (by (conv => lhs; whnf) <;> rfl) rfl rfl rfl ?_; refine bk_one (by (conv => lhs; whnf) <;> rfl) rfl rfl rfl ?_; refine bk_nil ?_; refine wpD_cons ?_; refine op1_call2 rfl (by (conv => lhs; whnf) <;> rfl) (by (conv => lhs; whnf) <;> rfl) ?_
        refine wpF_mono (L45 (x := ⟨o, b.acc, b.deny, b.app, 0, 1⟩) ht hc2) ?_
        rintro _ H6 ⟨rfl, hS8⟩
        refine zd1 ?_; refine zd1 ?_; refine wpD_nil ?_; refine dk_of ?_ ?_; (iterate 4 refine chk_skip ?_); refine zx 11 ?_ ?_; refine zy 3 ?_ ?_; exact zq (S.g1 hc2); exact chkFs_nil; refine chk_skip ?_; refine zx 9 ?_ ?_; refine zy 3 ?_ ?_; exact zq (S.g2 hc2); exact chkFs_nil; refine chk_skip ?_; refine zx 7 ?_ ?_; refine zy 3 ?_ ?_; exact zq (S.g2 hc2); exact chkFs_nil; refine chk_skip ?_; refine zx 5 ?_ ?_; refine zy 3 ?_ ?_; exact zq (S.g2 hc2); exact chkFs_nil; (iterate 4 refine chk_skip ?_); exact chk_end; refine seq_normal ?_; refine wp_ret ?_; refine ret_of ?_; refine zr ?_; refine zr ?_; refine rk_nil ?_
        have e : t.opn o c b = (t.lb + 1, 0, t.addB ⟨o, b.acc, b.deny, b.app, 0, 1⟩) := by unfold Tb.opn; rw [hx]; exact (if_neg hng).trans ((if_neg hnd).trans ((if_neg (by rw [ha]; decide)).trans ((if_neg (by omega)).trans (if_neg (by omega)))))
        rw [e]
        exact ⟨rfl, S.k4 hS8⟩
  · have hng : ¬ badB b := by unfold badB; rintro (h | h | h | h | ⟨h, _⟩) <;> first | omega | (rw [h5] at h; cases h)
    refine op1_skip rfl ?_; (iterate 3 refine zk ?_); refine zu ?_; refine zu ?_; refine zw1 ?_; refine zns ?_; refine wp_false rfl ?_; refine zsr ?_; refine zw1 ?_; refine zn ?_; refine zf ?_; refine zh (S.g0 hS) ?_; refine zw1 ?_; refine wpO_cons ?_
    refine op1_split rfl (fun h7 => ?_) (fun h7 => ?_)
    · refine op1_faddr0 rfl rfl ?_; refine zh (S.g2 hS) ?_; refine wpO_cons ?_; refine op1_and rfl rfl rfl ?_; refine wpO_cons ?_; refine op1_neqI rfl rfl rfl ?_; refine zt ?_; refine zw1 ?_; refine zns ?_
      refine wp_ndec rfl (fun h8 => ?_) (fun h8 => ?_)
      · refine zsr ?_; refine zw1 ?_; refine zw1 ?_; refine zns ?_; refine wp_ret ?_; refine block_ret ?_; refine seq_ret ?_; refine ret_of ?_; refine zr ?_; refine zr ?_; refine rk_nil ?_
        have h9 := hb _ _ x hS
        rw [Tb.setO_self hx] at h9
        have e : t.opn o c b = (0, 16, t) := by unfold Tb.opn; rw [hx]; exact (if_neg hng).trans (if_pos ⟨h7, h8⟩)
        rw [e]
        exact ⟨rfl, S.k3 h9⟩
      have hnd : ¬ (x.dir = true ∧ ¬ bitAnd .i64 b.acc 2 = 0) := fun h => h.2 h8
      refine wp_seq ?_; refine wp_regionD ?_; refine zd1 ?_; refine zm ?_; refine wpD_cons ?_; refine op1_load_6 rfl rfl (by exact S.g0 hS) rfl rfl ?_; refine wpD_cons ?_; refine op1_load_3 rfl rfl (by exact S.g3 hS) rfl rfl ?_; refine zg ?_; refine zj (S.g2 hS) ?_; refine wpD_cons ?_; refine op1_call3 rfl (by (conv => lhs; whnf) <;> rfl) (by (conv => lhs; whnf) <;> rfl) (by (conv => lhs; whnf) <;> rfl) ?_
      refine wpF_mono (L10 hB hc hS) ?_
      rintro _ H4 ⟨rfl, hS4⟩
      have hT := hS
      clear hS
      have hS := hS4
      clear hS4
      have h9 := hb _ _ x hS
      rw [Tb.setO_self hx] at h9
      cases ha : x.allowed c b.acc with
      | false =>
        refine wpD_cons ?_; refine op1_not_f rfl rfl ?_; refine zd1 ?_; refine wpD_nil ?_; refine dk_of ?_ ?_; (iterate 2 refine chk_skip ?_); refine zx 7 ?_ ?_; refine zy 3 ?_ ?_; exact chk_loadN rfl (by exact S.g0 hT) rfl rfl rfl; exact chkFs_nil; refine zx 6 ?_ ?_; refine zy 3 ?_ ?_; exact chk_loadN rfl (by exact S.g3 hT) rfl rfl rfl; exact chkFs_nil; refine chk_skip ?_; refine zx 4 ?_ ?_; refine zy 3 ?_ ?_; exact zq (S.g2 hT); exact chkFs_nil; (iterate 3 refine chk_skip ?_); exact chk_end; refine seq_normal ?_; refine wp_true rfl ?_; refine zsr ?_; refine zw1 ?_; refine zw1 ?_; refine zns ?_; refine wp_ret ?_; refine block_ret ?_; refine seq_ret ?_; refine ret_of ?_; refine zr ?_; refine zr ?_; refine rk_nil ?_
        have e : t.opn o c b = (0, 1, t) := by unfold Tb.opn; rw [hx]; exact (if_neg hng).trans ((if_neg hnd).trans (if_pos ha))
        rw [e]
        exact ⟨rfl, S.k3 h9⟩
      | true =>
        refine wpD_cons ?_; refine op1_not_t rfl rfl ?_; refine zd1 ?_; refine wpD_nil ?_; refine dk_of ?_ ?_; (iterate 2 refine chk_skip ?_); refine zx 7 ?_ ?_; refine zy 3 ?_ ?_; exact chk_loadN rfl (by exact S.g0 hT) rfl rfl rfl; exact chkFs_nil; refine zx 6 ?_ ?_; refine zy 3 ?_ ?_; exact chk_loadN rfl (by exact S.g3 hT) rfl rfl rfl; exact chkFs_nil; refine chk_skip ?_; refine zx 4 ?_ ?_; refine zy 3 ?_ ?_; exact zq (S.g2 hT); exact chkFs_nil; (iterate 3 refine chk_skip ?_); exact chk_end; refine seq_normal ?_; refine wp_false rfl ?_; refine wp_skip ?_; refine block_normal ?_; refine seq_normal ?_; refine zsr ?_; refine wpO_cons ?_; refine op1_mkfunc2 rfl (by (conv => lhs; whnf) <;> rfl) (by (conv => lhs; whnf) <;> rfl) ?_; refine zw1 ?_; refine zns ?_; refine wp_seq ?_; refine zsr ?_; refine zw1 ?_; refine zn ?_; refine zf ?_; refine zf ?_; refine zw1 ?_; refine wpO_cons ?_; refine op1_call2 rfl (by (conv => lhs; whnf) <;> rfl) (by (conv => lhs; whnf) <;> rfl) ?_
        have h10 := S.up1 (S.seps (L := [_, _]) (S.up3 (S.up1 h9)))
        refine wpF_mono (L44 (w := conf o b.acc b.deny) (E := seps [pto p1 (.cells [.int .i64 o] 0 false), pto p3 (.cells b.cells 0 false)]) ht (fun k b' H1 As1 h => L43 h) h10) ?_
        rintro v H5 hS5
        obtain ⟨sa, sc, rfl⟩ := S.shape1 hS5
        rw [show (i64s ((t.bs.filter fun y => conf o b.acc b.deny y.2).map (·.1))).length = (t.bs.filter fun y => conf o b.acc b.deny y.2).length from by unfold i64s; rw [List.length_map, List.length_map]] at hS5 ⊢
        have hT := hS
        clear hS
        have hS := S.unseps (S.up2 hS5)
        clear hS5
        refine wpO_cons ?_; refine op1_len rfl rfl ?_; refine wpO_cons ?_; refine op1_gtr rfl rfl rfl ?_; refine zns ?_
        refine wp_dec rfl (fun h11 => ?_) (fun h11 => ?_)
        · refine zsr ?_; refine zw1 ?_; refine zw1 ?_; refine zns ?_; refine wp_ret ?_; refine seq_ret ?_; refine ret_of ?_; refine zr ?_; refine zr ?_; refine rk_nil ?_
          have e : t.opn o c b = (0, 5, t) := by unfold Tb.opn; rw [hx]; exact (if_neg hng).trans ((if_neg hnd).trans ((if_neg (by rw [ha]; decide)).trans (if_pos (by omega))))
          rw [e]
          exact ⟨rfl, S.k4 (S.up3 hS)⟩
        obtain ⟨mo, ma, hS6⟩ := openP (S.up3 hS)
        obtain ⟨kv, RR, hkl, hS7, hbb⟩ := rgLen (S.up1 hS6)
        have hT := hS
        clear hS hS6
        have hS := S.up2 hS7
        clear hS7
        unfold tbC at hS
        refine wp_skip ?_; refine seq_normal ?_; refine wp_seq ?_; refine zsr ?_; refine zw1 ?_; refine zn ?_; refine zf ?_; refine zf ?_; refine zf ?_; refine zh (S.g0 hS) ?_; refine wpO_cons ?_
        refine op1_lenMS rfl rfl (S.up1 hS) ?_
        rw [hkl]
        refine wpO_cons ?_; refine op1_geq rfl rfl rfl ?_; refine zns ?_
        have hc2 := closeP (S.up1 (hbb _ _ (S.dn2 hS)))
        refine wp_dec rfl (fun h12 => ?_) (fun h12 => ?_)
        · refine zsr ?_; refine zw1 ?_; refine zw1 ?_; refine zns ?_; refine wp_ret ?_; refine seq_ret ?_; refine ret_of ?_; refine zr ?_; refine zr ?_; refine rk_nil ?_
          have e : t.opn o c b = (0, 18, t) := by unfold Tb.opn; rw [hx]; exact (if_neg hng).trans ((if_neg hnd).trans ((if_neg (by rw [ha]; decide)).trans ((if_neg (by omega)).trans (if_pos (by omega)))))
          rw [e]
          exact ⟨rfl, S.k4 hc2⟩
        refine wp_skip ?_; refine seq_normal ?_; refine wp_seq ?_; refine wp_regionD ?_; refine zd1 ?_; refine zm ?_; refine zg ?_; refine zg ?_; refine zj (S.g1 hc2) ?_; refine zg ?_; refine zj (S.g2 hc2) ?_; refine zg ?_; refine zj (S.g2 hc2) ?_; refine zg ?_; refine zj (S.g2 hc2) ?_; refine wpD_cons ?_; refine op1_build rfl ?_; refine bk_one (by (conv => lhs; whnf) <;> rfl) rfl rfl rfl ?_; refine bk_one (by (conv => lhs; whnf) <;> rfl) rfl rfl rfl ?_; refine bk_one (by (conv => lhs; whnf) <;> rfl) rfl rfl rfl ?_; refine bk_one (by (conv => lhs; whnf) <;> rfl) rfl rfl rfl ?_; refine bk_one (by (conv => lhs; whnf) <;> rfl) rfl rfl rfl ?_; refine bk_nil ?_; refine wpD_cons ?_; refine op1_call2 rfl (by (conv => lhs; whnf) <;> rfl) (by (conv => lhs; whnf) <;> rfl) ?_
        refine wpF_mono (L45 (x := ⟨o, b.acc, b.deny, b.app, 0, 1⟩) ht hc2) ?_
        rintro _ H6 ⟨rfl, hS8⟩
        refine zd1 ?_; refine zd1 ?_; refine wpD_nil ?_; refine dk_of ?_ ?_; (iterate 4 refine chk_skip ?_); refine zx 11 ?_ ?_; refine zy 3 ?_ ?_; exact zq (S.g1 hc2); exact chkFs_nil; refine chk_skip ?_; refine zx 9 ?_ ?_; refine zy 3 ?_ ?_; exact zq (S.g2 hc2); exact chkFs_nil; refine chk_skip ?_; refine zx 7 ?_ ?_; refine zy 3 ?_ ?_; exact zq (S.g2 hc2); exact chkFs_nil; refine chk_skip ?_; refine zx 5 ?_ ?_; refine zy 3 ?_ ?_; exact zq (S.g2 hc2); exact chkFs_nil; (iterate 4 refine chk_skip ?_); exact chk_end; refine seq_normal ?_; refine wp_ret ?_; refine ret_of ?_; refine zr ?_; refine zr ?_; refine rk_nil ?_
        have e : t.opn o c b = (t.lb + 1, 0, t.addB ⟨o, b.acc, b.deny, b.app, 0, 1⟩) := by unfold Tb.opn; rw [hx]; exact (if_neg hng).trans ((if_neg hnd).trans ((if_neg (by rw [ha]; decide)).trans ((if_neg (by omega)).trans (if_neg (by omega)))))
        rw [e]
        exact ⟨rfl, S.k4 hS8⟩
    · have hnd : ¬ (x.dir = true ∧ ¬ bitAnd .i64 b.acc 2 = 0) := fun h => by rw [h7] at h; cases h.1
      refine op1_skip rfl ?_; (iterate 3 refine zk ?_); refine zu ?_; refine zw1 ?_; refine zns ?_; refine wp_false rfl ?_; refine wp_seq ?_; refine wp_regionD ?_; refine zd1 ?_; refine zm ?_; refine wpD_cons ?_; refine op1_load_6 rfl rfl (by exact S.g0 hS) rfl rfl ?_; refine wpD_cons ?_; refine op1_load_3 rfl rfl (by exact S.g3 hS) rfl rfl ?_; refine zg ?_; refine zj (S.g2 hS) ?_; refine wpD_cons ?_; refine op1_call3 rfl (by (conv => lhs; whnf) <;> rfl) (by (conv => lhs; whnf) <;> rfl) (by (conv => lhs; whnf) <;> rfl) ?_
      refine wpF_mono (L10 hB hc hS) ?_
      rintro _ H4 ⟨rfl, hS4⟩
      have hT := hS
      clear hS
      have hS := hS4
      clear hS4
      have h9 := hb _ _ x hS
      rw [Tb.setO_self hx] at h9
      cases ha : x.allowed c b.acc with
      | false =>
        refine wpD_cons ?_; refine op1_not_f rfl rfl ?_; refine zd1 ?_; refine wpD_nil ?_; refine dk_of ?_ ?_; (iterate 2 refine chk_skip ?_); refine zx 7 ?_ ?_; refine zy 3 ?_ ?_; exact chk_loadN rfl (by exact S.g0 hT) rfl rfl rfl; exact chkFs_nil; refine zx 6 ?_ ?_; refine zy 3 ?_ ?_; exact chk_loadN rfl (by exact S.g3 hT) rfl rfl rfl; exact chkFs_nil; refine chk_skip ?_; refine zx 4 ?_ ?_; refine zy 3 ?_ ?_; exact zq (S.g2 hT); exact chkFs_nil; (iterate 3 refine chk_skip ?_); exact chk_end; refine seq_normal ?_; refine wp_true rfl ?_; refine zsr ?_; refine zw1 ?_; refine zw1 ?_; refine zns ?_; refine wp_ret ?_; refine block_ret ?_; refine seq_ret ?_; refine ret_of ?_; refine zr ?_; refine zr ?_; refine rk_nil ?_
        have e : t.opn o c b = (0, 1, t) := by unfold Tb.opn; rw [hx]; exact (if_neg hng).trans ((if_neg hnd).trans (if_pos ha))
        rw [e]
        exact ⟨rfl, S.k3 h9⟩
      | true =>
        refine wpD_cons ?_; refine op1_not_t rfl rfl ?_; refine zd1 ?_; refine wpD_nil ?_; refine dk_of ?_ ?_; (iterate 2 refine chk_skip ?_); refine zx 7 ?_ ?_; refine zy 3 ?_ ?_; exact chk_loadN rfl (by exact S.g0 hT) rfl rfl rfl; exact chkFs_nil; refine zx 6 ?_ ?_; refine zy 3 ?_ ?_; exact chk_loadN rfl (by exact S.g3 hT) rfl rfl rfl; exact chkFs_nil; refine chk_skip ?_; refine zx 4 ?_ ?_; refine zy 3 ?_ ?_; exact zq (S.g2 hT); exact chkFs_nil; (iterate 3 refine chk_skip ?_); exact chk_end; refine seq_normal ?_; refine wp_false rfl ?_; refine wp_skip ?_; refine block_normal ?_; refine seq_normal ?_; refine zsr ?_; refine wpO_cons ?_; refine op1_mkfunc2 rfl (by (conv => lhs; whnf) <;> rfl) (by (conv => lhs; whnf) <;> rfl) ?_; refine zw1 ?_; refine zns ?_; refine wp_seq ?_; refine zsr ?_; refine zw1 ?_; refine zn ?_; refine zf ?_; refine zf ?_; refine zw1 ?_; refine wpO_cons ?_; refine op1_call2 rfl (by (conv => lhs; whnf) <;> rfl) (by (conv => lhs; whnf) <;> rfl) ?_
        have h10 := S.up1 (S.seps (L := [_, _]) (S.up3 (S.up1 h9)))
        refine wpF_mono (L44 (w := conf o b.acc b.deny) (E := seps [pto p1 (.cells [.int .i64 o] 0 false), pto p3 (.cells b.cells 0 false)]) ht (fun k b' H1 As1 h => L43 h) h10) ?_
        rintro v H5 hS5
        obtain ⟨sa, sc, rfl⟩ := S.shape1 hS5
        rw [show (i64s ((t.bs.filter fun y => conf o b.acc b.deny y.2).map (·.1))).length = (t.bs.filter fun y => conf o b.acc b.deny y.2).length from by unfold i64s; rw [List.length_map, List.length_map]] at hS5 ⊢
        have hT := hS
        clear hS
        have hS := S.unseps (S.up2 hS5)
        clear hS5
        refine wpO_cons ?_; refine op1_len rfl rfl ?_; refine wpO_cons ?_; refine op1_gtr rfl rfl rfl ?_; refine zns ?_
        refine wp_dec rfl (fun h11 => ?_) (fun h11 => ?_)
        · refine zsr ?_; refine zw1 ?_; refine zw1 ?_; refine zns ?_; refine wp_ret ?_; refine seq_ret ?_; refine ret_of ?_; refine zr ?_; refine zr ?_; refine rk_nil ?_
          have e : t.opn o c b = (0, 5, t) := by unfold Tb.opn; rw [hx]; exact (if_neg hng).trans ((if_neg hnd).trans ((if_neg (by rw [ha]; decide)).trans (if_pos (by omega))))
          rw [e]
          exact ⟨rfl, S.k4 (S.up3 hS)⟩
        obtain ⟨mo, ma, hS6⟩ := openP (S.up3 hS)
        obtain ⟨kv, RR, hkl, hS7, hbb⟩ := rgLen (S.up1 hS6)
        have hT := hS
        clear hS hS6
        have hS := S.up2 hS7
        clear hS7
        unfold tbC at hS
        refine wp_skip ?_; refine seq_normal ?_; refine wp_seq ?_; refine zsr ?_; refine zw1 ?_; refine zn ?_; refine zf ?_; refine zf ?_; refine zf ?_; refine zh (S.g0 hS) ?_; refine wpO_cons ?_
        refine op1_lenMS rfl rfl (S.up1 hS) ?_
        rw [hkl]
        refine wpO_cons ?_; refine op1_geq rfl rfl rfl ?_; refine zns ?_
        have hc2 := closeP (S.up1 (hbb _ _ (S.dn2 hS)))
        refine wp_dec rfl (fun h12 => ?_) (fun h12 => ?_)
        · refine zsr ?_; refine zw1 ?_; refine zw1 ?_; refine zns ?_; refine wp_ret ?_; refine seq_ret ?_; refine ret_of ?_; refine zr ?_; refine zr ?_; refine rk_nil ?_
          have e : t.opn o c b = (0, 18, t) := by unfold Tb.opn; rw [hx]; exact (if_neg hng).trans ((if_neg hnd).trans ((if_neg (by rw [ha]; decide)).trans ((if_neg (by omega)).trans (if_pos (by omega)))))
          rw [e]
          exact ⟨rfl, S.k4 hc2⟩
        refine wp_skip ?_; refine seq_normal ?_; refine wp_seq ?_; refine wp_regionD ?_; refine zd1 ?_; refine zm ?_; refine zg ?_; refine zg ?_; refine zj (S.g1 hc2) ?_; refine zg ?_; refine zj (S.g2 hc2) ?_; refine zg ?_; refine zj (S.g2 hc2) ?_; refine zg ?_; refine zj (S.g2 hc2) ?_; refine wpD_cons ?_; refine op1_build rfl ?_; refine bk_one (by (conv => lhs; whnf) <;> rfl) rfl rfl rfl ?_; refine bk_one (by (conv => lhs; whnf) <;> rfl) rfl rfl rfl ?_; refine bk_one (by (conv => lhs; whnf) <;> rfl) rfl rfl rfl ?_; refine bk_one (by (conv => lhs; whnf) <;> rfl) rfl rfl rfl ?_; refine bk_one (by (conv => lhs; whnf) <;> rfl) rfl rfl rfl ?_; refine bk_nil ?_; refine wpD_cons ?_; refine op1_call2 rfl (by (conv => lhs; whnf) <;> rfl) (by (conv => lhs; whnf) <;> rfl) ?_
        refine wpF_mono (L45 (x := ⟨o, b.acc, b.deny, b.app, 0, 1⟩) ht hc2) ?_
        rintro _ H6 ⟨rfl, hS8⟩
        refine zd1 ?_; refine zd1 ?_; refine wpD_nil ?_; refine dk_of ?_ ?_; (iterate 4 refine chk_skip ?_); refine zx 11 ?_ ?_; refine zy 3 ?_ ?_; exact zq (S.g1 hc2); exact chkFs_nil; refine chk_skip ?_; refine zx 9 ?_ ?_; refine zy 3 ?_ ?_; exact zq (S.g2 hc2); exact chkFs_nil; refine chk_skip ?_; refine zx 7 ?_ ?_; refine zy 3 ?_ ?_; exact zq (S.g2 hc2); exact chkFs_nil; refine chk_skip ?_; refine zx 5 ?_ ?_; refine zy 3 ?_ ?_; exact zq (S.g2 hc2); exact chkFs_nil; (iterate 4 refine chk_skip ?_); exact chk_end; refine seq_normal ?_; refine wp_ret ?_; refine ret_of ?_; refine zr ?_; refine zr ?_; refine rk_nil ?_
        have e : t.opn o c b = (t.lb + 1, 0, t.addB ⟨o, b.acc, b.deny, b.app, 0, 1⟩) := by unfold Tb.opn; rw [hx]; exact (if_neg hng).trans ((if_neg hnd).trans ((if_neg (by rw [ha]; decide)).trans ((if_neg (by omega)).trans (if_neg (by omega)))))
        rw [e]
        exact ⟨rfl, S.k4 hS8⟩
end
end Go.E.At
/- Attributes: Write. -/
namespace Go.E.At
open Go Go.E Go.Proofs.YtgbnjcmjioiclaaDoor.base Go.Proofs.YtgbnjcmjioiclaaDoor Go.Proofs
set_option linter.unusedVariables false
set_option linter.unusedSimpArgs false
set_option maxRecDepth 100000
section
variable {B H : AHeap} {As : List Asn} {t : Tb} {p : Nat}
theorem L15 {id n : Int} (hn : -9223372036854775808 ≤ n ∧ n ≤ 9223372036854775807) (ht : TbOk t) (hS : S B H (repP p t :: As)) : wpF C 15 [ptrB p, .int .i64 id, .int .i64 n] H fun v H' => v = .tuple ⟨[.int .i64 (t.write id n).1, .int .i64 (t.write id n).2.1, .int .i64 (t.write id n).2.2.1]⟩ ∧ S B H' (repP p (t.write id n).2.2.2 :: As) := by
  refine wpF_ofW o15 rfl rfl ?_
  refine zsr ?_; refine zw1 ?_; refine zw1 ?_; refine zw1 ?_; refine zns ?_; refine zsr ?_; refine zw1 ?_; refine zw1 ?_; refine zw1 ?_; refine wpO_cons ?_; refine op1_call4 rfl (by (conv => lhs; whnf) <;> rfl) (by (conv => lhs; whnf) <;> rfl) (by (conv => lhs; whnf) <;> rfl) (by (conv => lhs; whnf) <;> rfl) ?_
  refine wpF_mono (L46 (id := id) ht hS) ?_
  rintro _ H3 (⟨e, he, hne, rfl, hS3⟩ | ⟨k, x, pb, pa, R, hx, hxo, hacc, hn0, rfl, hS3, hb⟩)
  · refine zw1 ?_; refine wpO_cons ?_; refine op1_extract rfl rfl rfl ?_; refine wpO_cons ?_; refine op1_extract rfl rfl rfl ?_; refine wpO_cons ?_; refine op1_extract rfl rfl rfl ?_; refine zw1 ?_; refine zw1 ?_; refine zw1 ?_; refine zns ?_; refine wp_seq ?_; refine zsr ?_; refine zw1 ?_; refine wpO_cons ?_; refine op1_neqI rfl rfl rfl ?_; refine zns ?_
    refine wp_ndec rfl (fun h => ?_) (fun h => absurd h hne)
    refine zsr ?_; (iterate 4 refine zw1 ?_); refine zns ?_; refine wp_ret ?_; refine seq_ret ?_; refine ret_of ?_; refine zr ?_; refine zr ?_; refine zr ?_; refine rk_nil ?_
    have e : t.write id n = (0, 0, e, t) := by unfold Tb.write; rw [he]; cases hx : gGet t.bs id with | none => rfl | some k => (rw [hx] at he; simp only [] at he ⊢; split at he <;> simp_all)
    rw [e]
    exact ⟨rfl, hS3⟩
  have hT := hS
  clear hS
  have hS := hS3
  clear hS3
  unfold ptrB
  unfold Bk.cells Ob.cells at hS
  have hoR := ht.osR (k.obj, x) (gGet_mem hxo)
  have hkR := ht.bsR (id, k) (gGet_mem hx)
  have h1 : 0 ≤ x.size ∧ x.size ≤ 16384 := hoR.size
  have h2 : 0 ≤ k.off ∧ k.off ≤ 16384 := hkR.off
  refine zw1 ?_; refine wpO_cons ?_; refine op1_extract rfl rfl rfl ?_; refine wpO_cons ?_; refine op1_extract rfl rfl rfl ?_; refine wpO_cons ?_; refine op1_extract rfl rfl rfl ?_; refine zw1 ?_; refine zw1 ?_; refine zw1 ?_; refine zns ?_; refine wp_seq ?_; refine zsr ?_; refine zw1 ?_; refine wpO_cons ?_; refine op1_neqI_s rfl rfl rfl ?_; refine zns ?_; refine wp_false rfl ?_; refine wp_skip ?_; refine seq_normal ?_; refine zsr ?_; refine zw1 ?_; refine zn ?_; refine zf ?_; refine zh (S.g0 hS) ?_; refine zw1 ?_; refine zns ?_; refine wp_seq ?_; refine zsr ?_; refine zw1 ?_; refine zn ?_; refine zf ?_; refine zh (S.g0 hS) ?_; refine zns ?_
  cases happ : k.app with
  | true =>
    refine wp_true rfl ?_; refine wp_region ?_; refine zw1 ?_; refine zn ?_; refine zf ?_; refine zh (S.g1 hS) ?_; refine zw1 ?_; refine zns ?_; refine zsr ?_; refine zw1 ?_; refine zw1 ?_; refine wpO_cons ?_; refine op1_sub rfl rfl rfl (by exact wrap_i64 (by omega) (by omega)) ?_; refine wpO_cons ?_; refine op1_min rfl rfl rfl ?_; refine wpO_cons ?_; refine op1_max rfl rfl rfl ?_; refine zw1 ?_; refine zns ?_; refine wp_seq ?_; refine zsr ?_; refine zw1 ?_; refine wpO_cons ?_; refine op1_gtr rfl rfl rfl ?_; refine zw1 ?_; refine wpO_cons ?_
    refine op1_dec rfl (fun h3 => ?_) (fun h3 => ?_)
    · refine op1_mov rfl (by (conv => lhs; whnf) <;> rfl) ?_; refine wpO_cons ?_; refine op1_eqlI rfl rfl rfl ?_; refine zt ?_; refine zns ?_
      refine wp_dec rfl (fun h4 => ?_) (fun h4 => ?_)
      · refine zsr ?_; refine zw1 ?_; refine zw1 ?_; refine zw1 ?_; refine zns ?_; refine wp_ret ?_; refine seq_ret ?_; refine ret_of ?_; refine zr ?_; refine zr ?_; refine zr ?_; refine rk_nil ?_
        have h9 := hb _ _ k x hS
        rw [Tb.set2_self hx hxo] at h9
        have e : t.write id n = (0, 0, 25, t) := by unfold Tb.write; rw [hx]; simp only [hxo]; rw [if_neg hacc, if_neg (by omega), happ, (show (if (true : Bool) = true then x.size else k.off) = x.size from rfl)]; exact if_pos ⟨h3, h4⟩
        rw [e]
        exact ⟨rfl, h9⟩
      have hns : ¬ (0 < n ∧ max (min n (16384 - x.size)) 0 = 0) := fun h => h4 h.2
      refine wp_skip ?_; refine seq_normal ?_; refine zsr ?_; refine zw1 ?_; refine zw1 ?_; refine zw1 ?_; refine wpO_cons ?_; refine op1_add rfl rfl rfl (by exact wrap_i64 (by omega) (by omega)) ?_; refine zn ?_; refine zf ?_; refine wpO_cons ?_; (refine op1_store1S rfl rfl (by (conv => lhs; whnf) <;> rfl) rfl rfl (S.up0 hS) rfl ?_; intro H1 hS; replace hS := S.dn0 hS); refine zns ?_; refine wp_seq ?_; refine wp_regionD ?_; refine zd1 ?_; refine zd1 ?_; refine zm ?_; refine zg ?_; refine zj (S.g1 hS) ?_; refine zd1 ?_; refine zm ?_; refine zg ?_; refine zj (S.g0 hS) ?_; refine wpD_cons ?_; refine op1_max rfl rfl rfl ?_; refine zm ?_; refine zg ?_; refine wpD_cons ?_; (refine op1_store1S rfl rfl (by (conv => lhs; whnf) <;> rfl) rfl rfl (S.up1 hS) rfl ?_; intro H2 hS; replace hS := S.dn1 hS); refine wpD_nil ?_; refine dk_of ?_ ?_; (iterate 4 refine chk_skip ?_); refine zx 9 ?_ ?_; refine zy 1 ?_ ?_; exact chk_load rfl (by exact S.g1 (by assumption)) rfl rfl; exact chkFs_nil; (iterate 3 refine chk_skip ?_); refine zx 5 ?_ ?_; refine zy 1 ?_ ?_; exact chk_load rfl (by exact S.g0 (by assumption)) rfl rfl; exact chkFs_nil; (iterate 4 refine chk_skip ?_); exact chk_end; refine seq_normal ?_; refine zsr ?_; (iterate 5 refine zw1 ?_); refine zns ?_; refine wp_ret ?_; refine ret_of ?_; refine zr ?_; refine zr ?_; refine zr ?_; refine rk_nil ?_
      have h9 := hb _ _ { k with off := x.size + max (min n (16384 - x.size)) 0 } { x with size := max x.size (x.size + max (min n (16384 - x.size)) 0) } hS
      have e : t.write id n = (x.size, max (min n (16384 - x.size)) 0, 0, t.set2 id { k with off := x.size + max (min n (16384 - x.size)) 0 } k.obj { x with size := max x.size (x.size + max (min n (16384 - x.size)) 0) }) := by unfold Tb.write; rw [hx]; simp only [hxo]; rw [if_neg hacc, if_neg (by omega), happ, (show (if (true : Bool) = true then x.size else k.off) = x.size from rfl)]; exact if_neg hns
      rw [e]
      exact ⟨rfl, h9⟩
    · have hns : ¬ (0 < n ∧ max (min n (16384 - x.size)) 0 = 0) := fun h => h3 h.1
      refine op1_skip rfl ?_; refine zk ?_; refine zu ?_; refine zns ?_; refine wp_false rfl ?_; refine wp_skip ?_; refine seq_normal ?_; refine zsr ?_; refine zw1 ?_; refine zw1 ?_; refine zw1 ?_; refine wpO_cons ?_; refine op1_add rfl rfl rfl (by exact wrap_i64 (by omega) (by omega)) ?_; refine zn ?_; refine zf ?_; refine wpO_cons ?_; (refine op1_store1S rfl rfl (by (conv => lhs; whnf) <;> rfl) rfl rfl (S.up0 hS) rfl ?_; intro H1 hS; replace hS := S.dn0 hS); refine zns ?_; refine wp_seq ?_; refine wp_regionD ?_; refine zd1 ?_; refine zd1 ?_; refine zm ?_; refine zg ?_; refine zj (S.g1 hS) ?_; refine zd1 ?_; refine zm ?_; refine zg ?_; refine zj (S.g0 hS) ?_; refine wpD_cons ?_; refine op1_max rfl rfl rfl ?_; refine zm ?_; refine zg ?_; refine wpD_cons ?_; (refine op1_store1S rfl rfl (by (conv => lhs; whnf) <;> rfl) rfl rfl (S.up1 hS) rfl ?_; intro H2 hS; replace hS := S.dn1 hS); refine wpD_nil ?_; refine dk_of ?_ ?_; (iterate 4 refine chk_skip ?_); refine zx 9 ?_ ?_; refine zy 1 ?_ ?_; exact chk_load rfl (by exact S.g1 (by assumption)) rfl rfl; exact chkFs_nil; (iterate 3 refine chk_skip ?_); refine zx 5 ?_ ?_; refine zy 1 ?_ ?_; exact chk_load rfl (by exact S.g0 (by assumption)) rfl rfl; exact chkFs_nil; (iterate 4 refine chk_skip ?_); exact chk_end; refine seq_normal ?_; refine zsr ?_; (iterate 5 refine zw1 ?_); refine zns ?_; refine wp_ret ?_; refine ret_of ?_; refine zr ?_; refine zr ?_; refine zr ?_; refine rk_nil ?_
      have h9 := hb _ _ { k with off := x.size + max (min n (16384 - x.size)) 0 } { x with size := max x.size (x.size + max (min n (16384 - x.size)) 0) } hS
      have e : t.write id n = (x.size, max (min n (16384 - x.size)) 0, 0, t.set2 id { k with off := x.size + max (min n (16384 - x.size)) 0 } k.obj { x with size := max x.size (x.size + max (min n (16384 - x.size)) 0) }) := by unfold Tb.write; rw [hx]; simp only [hxo]; rw [if_neg hacc, if_neg (by omega), happ, (show (if (true : Bool) = true then x.size else k.off) = x.size from rfl)]; exact if_neg hns
      rw [e]
      exact ⟨rfl, h9⟩
  | false =>
    refine wp_false rfl ?_; refine wp_skip ?_; refine seq_normal ?_; refine zsr ?_; refine zw1 ?_; refine zw1 ?_; refine wpO_cons ?_; refine op1_sub rfl rfl rfl (by exact wrap_i64 (by omega) (by omega)) ?_; refine wpO_cons ?_; refine op1_min rfl rfl rfl ?_; refine wpO_cons ?_; refine op1_max rfl rfl rfl ?_; refine zw1 ?_; refine zns ?_; refine wp_seq ?_; refine zsr ?_; refine zw1 ?_; refine wpO_cons ?_; refine op1_gtr rfl rfl rfl ?_; refine zw1 ?_; refine wpO_cons ?_
    refine op1_dec rfl (fun h3 => ?_) (fun h3 => ?_)
    · refine op1_mov rfl (by (conv => lhs; whnf) <;> rfl) ?_; refine wpO_cons ?_; refine op1_eqlI rfl rfl rfl ?_; refine zt ?_; refine zns ?_
      refine wp_dec rfl (fun h4 => ?_) (fun h4 => ?_)
      · refine zsr ?_; refine zw1 ?_; refine zw1 ?_; refine zw1 ?_; refine zns ?_; refine wp_ret ?_; refine seq_ret ?_; refine ret_of ?_; refine zr ?_; refine zr ?_; refine zr ?_; refine rk_nil ?_
        have h9 := hb _ _ k x hS
        rw [Tb.set2_self hx hxo] at h9
        have e : t.write id n = (0, 0, 25, t) := by unfold Tb.write; rw [hx]; simp only [hxo]; rw [if_neg hacc, if_neg (by omega), happ, (show (if (false : Bool) = true then x.size else k.off) = k.off from rfl)]; exact if_pos ⟨h3, h4⟩
        rw [e]
        exact ⟨rfl, h9⟩
      have hns : ¬ (0 < n ∧ max (min n (16384 - k.off)) 0 = 0) := fun h => h4 h.2
      refine wp_skip ?_; refine seq_normal ?_; refine zsr ?_; refine zw1 ?_; refine zw1 ?_; refine zw1 ?_; refine wpO_cons ?_; refine op1_add rfl rfl rfl (by exact wrap_i64 (by omega) (by omega)) ?_; refine zn ?_; refine zf ?_; refine wpO_cons ?_; (refine op1_store1S rfl rfl (by (conv => lhs; whnf) <;> rfl) rfl rfl (S.up0 hS) rfl ?_; intro H1 hS; replace hS := S.dn0 hS); refine zns ?_; refine wp_seq ?_; refine wp_regionD ?_; refine zd1 ?_; refine zd1 ?_; refine zm ?_; refine zg ?_; refine zj (S.g1 hS) ?_; refine zd1 ?_; refine zm ?_; refine zg ?_; refine zj (S.g0 hS) ?_; refine wpD_cons ?_; refine op1_max rfl rfl rfl ?_; refine zm ?_; refine zg ?_; refine wpD_cons ?_; (refine op1_store1S rfl rfl (by (conv => lhs; whnf) <;> rfl) rfl rfl (S.up1 hS) rfl ?_; intro H2 hS; replace hS := S.dn1 hS); refine wpD_nil ?_; refine dk_of ?_ ?_; (iterate 4 refine chk_skip ?_); refine zx 9 ?_ ?_; refine zy 1 ?_ ?_; exact chk_load rfl (by exact S.g1 (by assumption)) rfl rfl; exact chkFs_nil; (iterate 3 refine chk_skip ?_); refine zx 5 ?_ ?_; refine zy 1 ?_ ?_; exact chk_load rfl (by exact S.g0 (by assumption)) rfl rfl; exact chkFs_nil; (iterate 4 refine chk_skip ?_); exact chk_end; refine seq_normal ?_; refine zsr ?_; (iterate 5 refine zw1 ?_); refine zns ?_; refine wp_ret ?_; refine ret_of ?_; refine zr ?_; refine zr ?_; refine zr ?_; refine rk_nil ?_
      have h9 := hb _ _ { k with off := k.off + max (min n (16384 - k.off)) 0 } { x with size := max x.size (k.off + max (min n (16384 - k.off)) 0) } hS
      have e : t.write id n = (k.off, max (min n (16384 - k.off)) 0, 0, t.set2 id { k with off := k.off + max (min n (16384 - k.off)) 0 } k.obj { x with size := max x.size (k.off + max (min n (16384 - k.off)) 0) }) := by unfold Tb.write; rw [hx]; simp only [hxo]; rw [if_neg hacc, if_neg (by omega), happ, (show (if (false : Bool) = true then x.size else k.off) = k.off from rfl)]; exact if_neg hns
      rw [e]
      exact ⟨rfl, h9⟩
    · have hns : ¬ (0 < n ∧ max (min n (16384 - k.off)) 0 = 0) := fun h => h3 h.1
      refine op1_skip rfl ?_; refine zk ?_; refine zu ?_; refine zns ?_; refine wp_false rfl ?_; refine wp_skip ?_; refine seq_normal ?_; refine zsr ?_; refine zw1 ?_; refine zw1 ?_; refine zw1 ?_; refine wpO_cons ?_; refine op1_add rfl rfl rfl (by exact wrap_i64 (by omega) (by omega)) ?_; refine zn ?_; refine zf ?_; refine wpO_cons ?_; (refine op1_store1S rfl rfl (by (conv => lhs; whnf) <;> rfl) rfl rfl (S.up0 hS) rfl ?_; intro H1 hS; replace hS := S.dn0 hS); refine zns ?_; refine wp_seq ?_; refine wp_regionD ?_; refine zd1 ?_; refine zd1 ?_; refine zm ?_; refine zg ?_; refine zj (S.g1 hS) ?_; refine zd1 ?_; refine zm ?_; refine zg ?_; refine zj (S.g0 hS) ?_; refine wpD_cons ?_; refine op1_max rfl rfl rfl ?_; refine zm ?_; refine zg ?_; refine wpD_cons ?_; (refine op1_store1S rfl rfl (by (conv => lhs; whnf) <;> rfl) rfl rfl (S.up1 hS) rfl ?_; intro H2 hS; replace hS := S.dn1 hS); refine wpD_nil ?_; refine dk_of ?_ ?_; (iterate 4 refine chk_skip ?_); refine zx 9 ?_ ?_; refine zy 1 ?_ ?_; exact chk_load rfl (by exact S.g1 (by assumption)) rfl rfl; exact chkFs_nil; (iterate 3 refine chk_skip ?_); refine zx 5 ?_ ?_; refine zy 1 ?_ ?_; exact chk_load rfl (by exact S.g0 (by assumption)) rfl rfl; exact chkFs_nil; (iterate 4 refine chk_skip ?_); exact chk_end; refine seq_normal ?_; refine zsr ?_; (iterate 5 refine zw1 ?_); refine zns ?_; refine wp_ret ?_; refine ret_of ?_; refine zr ?_; refine zr ?_; refine zr ?_; refine rk_nil ?_
      have h9 := hb _ _ { k with off := k.off + max (min n (16384 - k.off)) 0 } { x with size := max x.size (k.off + max (min n (16384 - k.off)) 0) } hS
      have e : t.write id n = (k.off, max (min n (16384 - k.off)) 0, 0, t.set2 id { k with off := k.off + max (min n (16384 - k.off)) 0 } k.obj { x with size := max x.size (k.off + max (min n (16384 - k.off)) 0) }) := by unfold Tb.write; rw [hx]; simp only [hxo]; rw [if_neg hacc, if_neg (by omega), happ, (show (if (false : Bool) = true then x.size else k.off) = k.off from rfl)]; exact if_neg hns
      rw [e]
      exact ⟨rfl, h9⟩
end
end Go.E.At
/- Attributes: two appending blocks. -/
namespace Go.E.At
open Go Go.E Go.ChangeShapes Go.WideShapes Go.ChangeAt Go.RowKit Go.Proofs.YtgbnjcmjioiclaaDoor.base Go.Proofs.YtgbnjcmjioiclaaDoor Go.Proofs
set_option linter.unusedVariables false
set_option linter.unusedSimpArgs false
set_option maxRecDepth 100000
def tb0 : Tb := ⟨[], 0, [], 0⟩
theorem ok0 : TbOk tb0 := by constructor <;> simp [tb0]
end Go.E.At
/- Attributes: Block, Read, Seek, Dup, Truncate. -/
namespace Go.E.At
open Go Go.E Go.Proofs.YtgbnjcmjioiclaaDoor.base Go.Proofs.YtgbnjcmjioiclaaDoor Go.Proofs
set_option linter.unusedVariables false
set_option linter.unusedSimpArgs false
set_option maxRecDepth 100000
def Tb.setB (t : Tb) (id : Int) (k : Bk) : Tb := { t with bs := gSet t.bs id k }
theorem Tb.set2_B {t : Tb} {id o : Int} {k : Bk} {x : Ob} (h : gGet t.os o = some x) : t.set2 id k o x = t.setB id k := by unfold Tb.set2 Tb.setB; rw [gSet_self h]
theorem Tb.set2_O {t : Tb} {id o : Int} {k : Bk} {x : Ob} (h : gGet t.bs id = some k) : t.set2 id k o x = t.setO o x := by unfold Tb.set2 Tb.setO; rw [gSet_self h]
def Tb.blk (t : Tb) (id : Int) : Bk × Int := match gGet t.bs id with | none => (bk0, 3) | some k => (k, 0)
def Tb.dup (t : Tb) (id : Int) : Int × Tb := match gGet t.bs id with | none => (3, t) | some k => if 200 ≤ k.refs then (18, t) else (0, t.setB id { k with refs := k.refs + 1 })
def Tb.trunc (t : Tb) (id s : Int) : Int × Tb := match gGet t.bs id with
  | none => (3, t)
  | some k => if bitAnd .i64 k.acc 2 = 0 then (1, t) else match gGet t.os k.obj with
    | none => (0, t)
    | some x => if s < 0 ∨ s > 16384 then (34, t) else (0, t.setO k.obj { x with size := s })
def Tb.read (t : Tb) (id n : Int) : Int × Int × Int × Tb := match gGet t.bs id with
  | none => (0, 0, 3, t)
  | some k => if bitAnd .i64 k.acc 1 = 0 then (0, 0, 1, t) else if n < 0 then (0, 0, 34, t) else match gGet t.os k.obj with
    | none => (0, 0, 0, t)
    | some x => (k.off, max (min n (x.size - k.off)) 0, 0, t.setB id { k with off := k.off + max (min n (x.size - k.off)) 0 })
def Tb.seek (t : Tb) (id s w : Int) : Int × Int × Tb := match gGet t.bs id with
  | none => (0, 3, t)
  | some k => match gGet t.os k.obj with
    | none => (0, 0, t)
    | some x => if w < 0 ∨ w > 2 then (0, 14, t) else if s < -16384 ∨ s > 16384 then (0, 34, t)
      else if s + (if w = 0 then 0 else if w = 1 then k.off else x.size) < 0 ∨ s + (if w = 0 then 0 else if w = 1 then k.off else x.size) > 16384 then (0, 34, t)
      else (s + (if w = 0 then 0 else if w = 1 then k.off else x.size), 0, t.setB id { k with off := s + (if w = 0 then 0 else if w = 1 then k.off else x.size) })
section
variable {B H : AHeap} {As : List Asn} {t : Tb} {p : Nat} {id : Int}
theorem L22 (ht : TbOk t) (hS : S B H (repP p t :: As)) : wpF C 22 [ptrB p, .int .i64 id] H fun v H' => v = .tuple ⟨[.agg ⟨(t.blk id).1.cells⟩, .int .i64 (t.blk id).2]⟩ ∧ S B H' (repP p t :: As) := by
  refine wpF_ofW o22 rfl rfl ?_
  unfold Tb.blk
  refine zsr ?_; refine wpO_cons ?_; refine op1_allocS rfl hS ?_; intro p1 H1 hS; refine zw1 ?_; refine zns ?_; refine zsr ?_; refine zw1 ?_; refine zw1 ?_; refine wpO_cons ?_; refine op1_call2 rfl (by (conv => lhs; whnf) <;> rfl) (by (conv => lhs; whnf) <;> rfl) ?_
  refine wpF_mono (L64 (id := id) ht (S.up1 hS)) ?_
  rintro _ H3 (⟨hx, rfl, hS3⟩ | ⟨k, x, pb, pa, R, hx, hxo, rfl, hS3, hb⟩)
  · clear hS
    have hS := hS3
    clear hS3
    refine zw1 ?_; refine wpO_cons ?_; refine op1_extract rfl rfl rfl ?_; refine wpO_cons ?_; refine op1_extract rfl rfl rfl ?_; refine wpO_cons ?_; refine op1_extract rfl rfl rfl ?_; refine zw1 ?_; refine zw1 ?_; refine zw1 ?_; refine zns ?_; refine wp_seq ?_; refine zsr ?_; refine zw1 ?_; refine wpO_cons ?_; refine op1_neqI rfl rfl rfl ?_; refine zns ?_; refine wp_true rfl ?_; refine zsr ?_; refine wpO_cons ?_; refine op1_build rfl ?_; refine bk_nil ?_; refine zw1 ?_; refine wpO_cons ?_; (refine op1_storeNS rfl rfl (by (conv => lhs; whnf) <;> rfl) rfl rfl (S.up1 hS) (Nat.le_of_ble_eq_true rfl) ?_; intro H2 hS; replace hS := S.dn1 hS); refine zw1 ?_; refine zns ?_; refine wp_ret ?_; refine seq_ret ?_; refine ret_of ?_; refine rk_cellN rfl (by exact S.g1 hS) rfl rfl ?_; refine zr ?_; refine rk_nil ?_
    exact ⟨by rw [hx]; rfl, S.k1 hS⟩
  have hkR := ht.bsR (id, k) (gGet_mem hx)
  have hoR := ht.osR (k.obj, x) (gGet_mem hxo)
  have hr1 : 0 ≤ x.size ∧ x.size ≤ 16384 := hoR.size
  have hr2 : 0 ≤ k.off ∧ k.off ≤ 16384 := hkR.off
  have hr3 : 1 ≤ k.refs ∧ k.refs ≤ 200 := hkR.refs
  unfold ptrB
  clear hS
  have hS := hS3
  clear hS3
  unfold Bk.cells Ob.cells at hS
  refine zw1 ?_; refine wpO_cons ?_; refine op1_extract rfl rfl rfl ?_; refine wpO_cons ?_; refine op1_extract rfl rfl rfl ?_; refine wpO_cons ?_; refine op1_extract rfl rfl rfl ?_; refine zw1 ?_; refine zw1 ?_; refine zw1 ?_; refine zns ?_; refine wp_seq ?_; refine zsr ?_; refine zw1 ?_; refine wpO_cons ?_; refine op1_neqI_s rfl rfl rfl ?_; refine zns ?_; refine wp_false rfl ?_; refine wp_skip ?_; refine seq_normal ?_; refine zsr ?_; refine zw1 ?_; refine zn ?_; refine wpO_cons ?_; refine op1_load_6 rfl rfl (by exact S.g0 hS) rfl rfl ?_; refine wpO_cons ?_; (refine op1_storeNS rfl rfl (by (conv => lhs; whnf) <;> rfl) rfl rfl (S.up3 hS) (Nat.le_of_ble_eq_true rfl) ?_; intro H2 hS; replace hS := S.dn3 hS); refine zw1 ?_; refine zns ?_; refine wp_ret ?_; refine ret_of ?_; refine rk_cellN rfl (by exact S.g3 hS) rfl rfl ?_; refine zr ?_; refine rk_nil ?_
  have h9 := hb _ _ k x hS
  rw [Tb.set2_self hx hxo] at h9
  exact ⟨by rw [hx]; rfl, S.k1 h9⟩
theorem L27 (ht : TbOk t) (hS : S B H (repP p t :: As)) : wpF C 27 [ptrB p, .int .i64 id] H fun v H' => v = .int .i64 (t.dup id).1 ∧ S B H' (repP p (t.dup id).2 :: As) := by
  refine wpF_ofW o27 rfl rfl ?_
  refine zsr ?_; refine zw1 ?_; refine zns ?_; refine zsr ?_; refine zw1 ?_; refine zw1 ?_; refine wpO_cons ?_; refine op1_call2 rfl (by (conv => lhs; whnf) <;> rfl) (by (conv => lhs; whnf) <;> rfl) ?_
  refine wpF_mono (L64 (id := id) ht (hS)) ?_
  rintro _ H3 (⟨hx, rfl, hS3⟩ | ⟨k, x, pb, pa, R, hx, hxo, rfl, hS3, hb⟩)
  · clear hS
    have hS := hS3
    clear hS3
    refine zw1 ?_; refine wpO_cons ?_; refine op1_extract rfl rfl rfl ?_; refine wpO_cons ?_; refine op1_extract rfl rfl rfl ?_; refine wpO_cons ?_; refine op1_extract rfl rfl rfl ?_; refine zw1 ?_; refine zw1 ?_; refine zw1 ?_; refine zns ?_; refine wp_seq ?_; refine zsr ?_; refine zw1 ?_; refine wpO_cons ?_; refine op1_neqI rfl rfl rfl ?_; refine zns ?_; refine wp_true rfl ?_; refine zsr ?_; refine zw1 ?_; refine zw1 ?_; refine zns ?_; refine wp_ret ?_; refine seq_ret ?_; refine ret_of ?_; refine zr ?_; refine rk_nil ?_
    exact ⟨by unfold Tb.dup; rw [hx]; rfl, by unfold Tb.dup; rw [hx]; exact hS⟩
  have hkR := ht.bsR (id, k) (gGet_mem hx)
  have hoR := ht.osR (k.obj, x) (gGet_mem hxo)
  have hr1 : 0 ≤ x.size ∧ x.size ≤ 16384 := hoR.size
  have hr2 : 0 ≤ k.off ∧ k.off ≤ 16384 := hkR.off
  have hr3 : 1 ≤ k.refs ∧ k.refs ≤ 200 := hkR.refs
  unfold ptrB
  clear hS
  have hS := hS3
  clear hS3
  unfold Bk.cells Ob.cells at hS
  refine zw1 ?_; refine wpO_cons ?_; refine op1_extract rfl rfl rfl ?_; refine wpO_cons ?_; refine op1_extract rfl rfl rfl ?_; refine wpO_cons ?_; refine op1_extract rfl rfl rfl ?_; refine zw1 ?_; refine zw1 ?_; refine zw1 ?_; refine zns ?_; refine wp_seq ?_; refine zsr ?_; refine zw1 ?_; refine wpO_cons ?_; refine op1_neqI_s rfl rfl rfl ?_; refine zns ?_; refine wp_false rfl ?_; refine wp_skip ?_; refine seq_normal ?_; refine wp_seq ?_; refine zsr ?_; refine zw1 ?_; refine zn ?_; refine zf ?_; refine zh (S.g0 hS) ?_; refine wpO_cons ?_; refine op1_geq rfl rfl rfl ?_; refine zns ?_
  refine wp_dec rfl (fun h1 => ?_) (fun h1 => ?_)
  · refine zsr ?_; refine zw1 ?_; refine zns ?_; refine wp_ret ?_; refine seq_ret ?_; refine ret_of ?_; refine zr ?_; refine rk_nil ?_
    have h9 := hb _ _ k x hS
    rw [Tb.set2_self hx hxo] at h9
    have e : t.dup id = (18, t) := by unfold Tb.dup; rw [hx]; exact if_pos h1
    rw [e]
    exact ⟨rfl, h9⟩
  · refine wp_skip ?_; refine seq_normal ?_; refine zsr ?_; refine zw1 ?_; refine zn ?_; refine zf ?_; refine zh (S.g0 hS) ?_; refine wpO_cons ?_; refine op1_add rfl rfl rfl (by exact wrap_i64 (by omega) (by omega)) ?_; refine zn ?_; refine zf ?_; refine wpO_cons ?_; (refine op1_store1S rfl rfl (by (conv => lhs; whnf) <;> rfl) rfl rfl (S.up0 hS) rfl ?_; intro H1 hS; replace hS := S.dn0 hS); refine zns ?_; refine zsr ?_; refine zw1 ?_; refine zns ?_; refine wp_ret ?_; refine ret_of ?_; refine zr ?_; refine rk_nil ?_
    have h9 := hb _ _ { k with refs := k.refs + 1 } x hS
    rw [Tb.set2_B hxo] at h9
    have e : t.dup id = (0, t.setB id { k with refs := k.refs + 1 }) := by unfold Tb.dup; rw [hx]; exact if_neg h1
    rw [e]
    exact ⟨rfl, h9⟩
theorem L28 {s : Int} (ht : TbOk t) (hS : S B H (repP p t :: As)) : wpF C 28 [ptrB p, .int .i64 id, .int .i64 s] H fun v H' => v = .int .i64 (t.trunc id s).1 ∧ S B H' (repP p (t.trunc id s).2 :: As) := by
  refine wpF_ofW o28 rfl rfl ?_
  refine zsr ?_; refine zw1 ?_; refine zns ?_; refine zsr ?_; refine zw1 ?_; refine zw1 ?_; refine wpO_cons ?_; refine op1_call4 rfl (by (conv => lhs; whnf) <;> rfl) (by (conv => lhs; whnf) <;> rfl) (by (conv => lhs; whnf) <;> rfl) (by (conv => lhs; whnf) <;> rfl) ?_
  refine wpF_mono (L46 (id := id) ht hS) ?_
  rintro _ H3 (⟨e, he, hne, rfl, hS3⟩ | ⟨k, x, pb, pa, R, hx, hxo, hacc, hn0, rfl, hS3, hb⟩)
  · refine zw1 ?_; refine wpO_cons ?_; refine op1_extract rfl rfl rfl ?_; refine wpO_cons ?_; refine op1_extract rfl rfl rfl ?_; refine wpO_cons ?_; refine op1_extract rfl rfl rfl ?_; refine zw1 ?_; refine zw1 ?_; refine zw1 ?_; refine zns ?_; refine wp_seq ?_; refine zsr ?_; refine zw1 ?_; refine wpO_cons ?_; refine op1_neqI rfl rfl rfl ?_; refine zns ?_
    refine wp_ndec rfl (fun h => ?_) (fun h => absurd h hne)
    refine zsr ?_; refine zw1 ?_; refine zw1 ?_; refine zns ?_; refine wp_ret ?_; refine seq_ret ?_; refine ret_of ?_; refine zr ?_; refine rk_nil ?_
    exact ⟨by rw [show t.trunc id s = (e, t) from by unfold Tb.trunc; rw [he]; cases hx : gGet t.bs id with | none => rfl | some k => (rw [hx] at he; simp only [] at he ⊢; split at he <;> simp_all)]; rfl, by rw [show t.trunc id s = (e, t) from by unfold Tb.trunc; rw [he]; cases hx : gGet t.bs id with | none => rfl | some k => (rw [hx] at he; simp only [] at he ⊢; split at he <;> simp_all)]; exact hS3⟩
  have hkR := ht.bsR (id, k) (gGet_mem hx)
  have hoR := ht.osR (k.obj, x) (gGet_mem hxo)
  have hr1 : 0 ≤ x.size ∧ x.size ≤ 16384 := hoR.size
  have hr2 : 0 ≤ k.off ∧ k.off ≤ 16384 := hkR.off
  have hT := hS
  clear hS
  have hS := hS3
  clear hS3
  unfold ptrB
  unfold Bk.cells Ob.cells at hS
  refine zw1 ?_; refine wpO_cons ?_; refine op1_extract rfl rfl rfl ?_; refine wpO_cons ?_; refine op1_extract rfl rfl rfl ?_; refine wpO_cons ?_; refine op1_extract rfl rfl rfl ?_; refine zw1 ?_; refine zw1 ?_; refine zw1 ?_; refine zns ?_; refine wp_seq ?_; refine zsr ?_; refine zw1 ?_; refine wpO_cons ?_; refine op1_neqI_s rfl rfl rfl ?_; refine zns ?_; refine wp_false rfl ?_; refine wp_skip ?_; refine seq_normal ?_; refine wp_seq ?_; refine zsr ?_; refine zw1 ?_; refine wpO_cons ?_; refine op1_lss rfl rfl rfl ?_; refine zw1 ?_; refine wpO_cons ?_
  have e0 : t.trunc id s = if s < 0 ∨ s > 16384 then (34, t) else (0, t.setO k.obj { x with size := s }) := by unfold Tb.trunc; rw [hx]; simp only [hxo]; rw [if_neg hacc]
  rw [e0]
  clear e0
  refine op1_dec rfl (fun h1 => ?_) (fun h1 => ?_)
  · refine op1_skip rfl ?_; refine zk ?_; refine zt ?_; refine zns ?_; refine wp_true rfl ?_; refine zsr ?_; refine zw1 ?_; refine zns ?_; refine wp_ret ?_; refine seq_ret ?_; refine ret_of ?_; refine zr ?_; refine rk_nil ?_
    have h9 := hb _ _ k x hS
    rw [Tb.set2_self hx hxo] at h9
    rw [if_pos (.inl h1)]
    exact ⟨rfl, h9⟩
  refine op1_mov rfl (by (conv => lhs; whnf) <;> rfl) ?_; refine wpO_cons ?_; refine op1_gtr rfl rfl rfl ?_; refine zu ?_; refine zns ?_
  refine wp_dec rfl (fun h2 => ?_) (fun h2 => ?_)
  · refine zsr ?_; refine zw1 ?_; refine zns ?_; refine wp_ret ?_; refine seq_ret ?_; refine ret_of ?_; refine zr ?_; refine rk_nil ?_
    have h9 := hb _ _ k x hS
    rw [Tb.set2_self hx hxo] at h9
    rw [if_pos (.inr h2)]
    exact ⟨rfl, h9⟩
  · refine wp_skip ?_; refine seq_normal ?_; refine zsr ?_; refine zw1 ?_; refine zw1 ?_; refine zn ?_; refine zf ?_; refine wpO_cons ?_; (refine op1_store1S rfl rfl (by (conv => lhs; whnf) <;> rfl) rfl rfl (S.up1 hS) rfl ?_; intro H1 hS; replace hS := S.dn1 hS); refine zns ?_; refine zsr ?_; refine zw1 ?_; refine zns ?_; refine wp_ret ?_; refine ret_of ?_; refine zr ?_; refine rk_nil ?_
    have h9 := hb _ _ k { x with size := s } hS
    rw [Tb.set2_O hx] at h9
    rw [if_neg (by omega)]
    exact ⟨rfl, h9⟩
theorem L24 {n : Int} (hn : -9223372036854775808 ≤ n ∧ n ≤ 9223372036854775807) (ht : TbOk t) (hS : S B H (repP p t :: As)) : wpF C 24 [ptrB p, .int .i64 id, .int .i64 n] H fun v H' => v = .tuple ⟨[.int .i64 (t.read id n).1, .int .i64 (t.read id n).2.1, .int .i64 (t.read id n).2.2.1]⟩ ∧ S B H' (repP p (t.read id n).2.2.2 :: As) := by
  refine wpF_ofW o24 rfl rfl ?_
  refine zsr ?_; refine zw1 ?_; refine zw1 ?_; refine zw1 ?_; refine zns ?_; refine zsr ?_; refine zw1 ?_; refine zw1 ?_; refine zw1 ?_; refine wpO_cons ?_; refine op1_call4 rfl (by (conv => lhs; whnf) <;> rfl) (by (conv => lhs; whnf) <;> rfl) (by (conv => lhs; whnf) <;> rfl) (by (conv => lhs; whnf) <;> rfl) ?_
  refine wpF_mono (L46 (id := id) ht hS) ?_
  rintro _ H3 (⟨e, he, hne, rfl, hS3⟩ | ⟨k, x, pb, pa, R, hx, hxo, hacc, hn0, rfl, hS3, hb⟩)
  · refine zw1 ?_; refine wpO_cons ?_; refine op1_extract rfl rfl rfl ?_; refine wpO_cons ?_; refine op1_extract rfl rfl rfl ?_; refine wpO_cons ?_; refine op1_extract rfl rfl rfl ?_; refine zw1 ?_; refine zw1 ?_; refine zw1 ?_; refine zns ?_; refine wp_seq ?_; refine zsr ?_; refine zw1 ?_; refine wpO_cons ?_; refine op1_neqI rfl rfl rfl ?_; refine zns ?_
    refine wp_ndec rfl (fun h => ?_) (fun h => absurd h hne)
    refine zsr ?_; (iterate 4 refine zw1 ?_); refine zns ?_; refine wp_ret ?_; refine seq_ret ?_; refine ret_of ?_; refine zr ?_; refine zr ?_; refine zr ?_; refine rk_nil ?_
    exact ⟨by rw [show t.read id n = (0, 0, e, t) from by unfold Tb.read; rw [he]; cases hx : gGet t.bs id with | none => rfl | some k => (rw [hx] at he; simp only [] at he ⊢; split at he <;> simp_all)]; rfl, by rw [show t.read id n = (0, 0, e, t) from by unfold Tb.read; rw [he]; cases hx : gGet t.bs id with | none => rfl | some k => (rw [hx] at he; simp only [] at he ⊢; split at he <;> simp_all)]; exact hS3⟩
  have hkR := ht.bsR (id, k) (gGet_mem hx)
  have hoR := ht.osR (k.obj, x) (gGet_mem hxo)
  have hr1 : 0 ≤ x.size ∧ x.size ≤ 16384 := hoR.size
  have hr2 : 0 ≤ k.off ∧ k.off ≤ 16384 := hkR.off
  have hT := hS
  clear hS
  have hS := hS3
  clear hS3
  unfold ptrB
  unfold Bk.cells Ob.cells at hS
  refine zw1 ?_; refine wpO_cons ?_; refine op1_extract rfl rfl rfl ?_; refine wpO_cons ?_; refine op1_extract rfl rfl rfl ?_; refine wpO_cons ?_; refine op1_extract rfl rfl rfl ?_; refine zw1 ?_; refine zw1 ?_; refine zw1 ?_; refine zns ?_; refine wp_seq ?_; refine zsr ?_; refine zw1 ?_; refine wpO_cons ?_; refine op1_neqI_s rfl rfl rfl ?_; refine zns ?_; refine wp_false rfl ?_; refine wp_skip ?_; refine seq_normal ?_; refine zsr ?_; refine zw1 ?_; refine zn ?_; refine zf ?_; refine zh (S.g0 hS) ?_; refine zw1 ?_; refine zns ?_; refine zsr ?_; refine zw1 ?_; refine zw1 ?_; refine zn ?_; refine zf ?_; refine zh (S.g1 hS) ?_; refine zw1 ?_; refine wpO_cons ?_; refine op1_sub rfl rfl rfl (by exact wrap_i64 (by omega) (by omega)) ?_; refine wpO_cons ?_; refine op1_min rfl rfl rfl ?_; refine wpO_cons ?_; refine op1_max rfl rfl rfl ?_; refine zw1 ?_; refine zns ?_; refine zsr ?_; refine zw1 ?_; refine zn ?_; refine zf ?_; refine zh (S.g0 hS) ?_; refine zw1 ?_; refine wpO_cons ?_; refine op1_add rfl rfl rfl (by exact wrap_i64 (by omega) (by omega)) ?_; refine zn ?_; refine zf ?_; refine wpO_cons ?_; (refine op1_store1S rfl rfl (by (conv => lhs; whnf) <;> rfl) rfl rfl (S.up0 hS) rfl ?_; intro H1 hS; replace hS := S.dn0 hS); refine zns ?_; refine zsr ?_; (iterate 5 refine zw1 ?_); refine zns ?_; refine wp_ret ?_; refine ret_of ?_; refine zr ?_; refine zr ?_; refine zr ?_; refine rk_nil ?_
  have h9 := hb _ _ { k with off := k.off + max (min n (x.size - k.off)) 0 } x hS
  rw [Tb.set2_B hxo] at h9
  have e : t.read id n = (k.off, max (min n (x.size - k.off)) 0, 0, t.setB id { k with off := k.off + max (min n (x.size - k.off)) 0 }) := by unfold Tb.read; rw [hx]; simp only [hxo]; rw [if_neg hacc, if_neg (by omega)]
  rw [e]
  exact ⟨rfl, h9⟩
def Tb.sk (t : Tb) (id : Int) (k : Bk) (a : Int) : Int × Int × Tb := if a < 0 ∨ a > 16384 then (0, 34, t) else (a, 0, t.setB id { k with off := a })
theorem L25 {s w : Int} (ht : TbOk t) (hS : S B H (repP p t :: As)) : wpF C 25 [ptrB p, .int .i64 id, .int .i64 s, .int .i64 w] H fun v H' => v = .tuple ⟨[.int .i64 (t.seek id s w).1, .int .i64 (t.seek id s w).2.1]⟩ ∧ S B H' (repP p (t.seek id s w).2.2 :: As) := by
  refine wpF_ofW o25 rfl rfl ?_
  refine zsr ?_; refine zw1 ?_; refine zw1 ?_; refine zns ?_; refine zsr ?_; refine zw1 ?_; refine zw1 ?_; refine wpO_cons ?_; refine op1_call2 rfl (by (conv => lhs; whnf) <;> rfl) (by (conv => lhs; whnf) <;> rfl) ?_
  refine wpF_mono (L64 (id := id) ht (hS)) ?_
  rintro _ H3 (⟨hx, rfl, hS3⟩ | ⟨k, x, pb, pa, R, hx, hxo, rfl, hS3, hb⟩)
  · clear hS
    have hS := hS3
    clear hS3
    refine zw1 ?_; refine wpO_cons ?_; refine op1_extract rfl rfl rfl ?_; refine wpO_cons ?_; refine op1_extract rfl rfl rfl ?_; refine wpO_cons ?_; refine op1_extract rfl rfl rfl ?_; refine zw1 ?_; refine zw1 ?_; refine zw1 ?_; refine zns ?_; refine wp_seq ?_; refine wp_block ?_; refine zsr ?_; refine zw1 ?_; refine wpO_cons ?_; refine op1_neqI rfl rfl rfl ?_; refine zw1 ?_; refine zns ?_; refine wp_true rfl ?_; refine zsr ?_; refine zw1 ?_; refine zw1 ?_; refine zw1 ?_; refine zns ?_; refine wp_ret ?_; refine block_ret ?_; refine seq_ret ?_; refine ret_of ?_; refine zr ?_; refine zr ?_; refine rk_nil ?_
    exact ⟨by unfold Tb.seek; rw [hx]; rfl, by unfold Tb.seek; rw [hx]; exact hS⟩
  have hkR := ht.bsR (id, k) (gGet_mem hx)
  have hoR := ht.osR (k.obj, x) (gGet_mem hxo)
  have hr1 : 0 ≤ x.size ∧ x.size ≤ 16384 := hoR.size
  have hr2 : 0 ≤ k.off ∧ k.off ≤ 16384 := hkR.off
  have hr3 : 1 ≤ k.refs ∧ k.refs ≤ 200 := hkR.refs
  unfold ptrB
  clear hS
  have hS := hS3
  clear hS3
  unfold Bk.cells Ob.cells at hS
  refine zw1 ?_; refine wpO_cons ?_; refine op1_extract rfl rfl rfl ?_; refine wpO_cons ?_; refine op1_extract rfl rfl rfl ?_; refine wpO_cons ?_; refine op1_extract rfl rfl rfl ?_; refine zw1 ?_; refine zw1 ?_; refine zw1 ?_; refine zns ?_; refine wp_seq ?_; refine wp_block ?_; refine zsr ?_; refine zw1 ?_; refine wpO_cons ?_; refine op1_neqI_s rfl rfl rfl ?_; refine zw1 ?_; refine zns ?_; refine wp_false rfl ?_; refine zsr ?_; refine zw1 ?_; refine wpO_cons ?_; refine op1_lss rfl rfl rfl ?_; refine zw1 ?_; refine wpO_cons ?_
  have e0 : t.seek id s w = if w < 0 ∨ w > 2 then (0, 14, t) else if s < -16384 ∨ s > 16384 then (0, 34, t) else t.sk id k (s + (if w = 0 then 0 else if w = 1 then k.off else x.size)) := by unfold Tb.seek Tb.sk; rw [hx]; simp only [hxo]
  rw [e0]
  clear e0
  refine op1_dec rfl (fun h1 => ?_) (fun h1 => ?_)
  · refine op1_skip rfl ?_; refine zk ?_; refine zt ?_; refine zw1 ?_; refine zns ?_; refine wp_true rfl ?_; refine zsr ?_; refine zw1 ?_; refine zw1 ?_; refine zns ?_; refine wp_ret ?_; refine block_ret ?_; refine seq_ret ?_; refine ret_of ?_; refine zr ?_; refine zr ?_; refine rk_nil ?_
    have h9 := hb _ _ k x hS
    rw [Tb.set2_self hx hxo] at h9
    rw [if_pos (.inl h1)]
    exact ⟨rfl, h9⟩
  refine op1_mov rfl (by (conv => lhs; whnf) <;> rfl) ?_; refine wpO_cons ?_; refine op1_gtr rfl rfl rfl ?_; refine zu ?_; refine zw1 ?_; refine zns ?_
  refine wp_dec rfl (fun h2 => ?_) (fun h2 => ?_)
  · refine zsr ?_; refine zw1 ?_; refine zw1 ?_; refine zns ?_; refine wp_ret ?_; refine block_ret ?_; refine seq_ret ?_; refine ret_of ?_; refine zr ?_; refine zr ?_; refine rk_nil ?_
    have h9 := hb _ _ k x hS
    rw [Tb.set2_self hx hxo] at h9
    rw [if_pos (.inr h2)]
    exact ⟨rfl, h9⟩
  rw [if_neg (show ¬ (w < 0 ∨ w > 2) by omega)]
  refine zsr ?_; refine zw1 ?_; refine wpO_cons ?_; refine op1_lss rfl rfl rfl ?_; refine zw1 ?_; refine wpO_cons ?_
  refine op1_dec rfl (fun h3 => ?_) (fun h3 => ?_)
  · refine op1_skip rfl ?_; refine zk ?_; refine zt ?_; refine zw1 ?_; refine zns ?_; refine wp_true rfl ?_; refine zsr ?_; refine zw1 ?_; refine zw1 ?_; refine zns ?_; refine wp_ret ?_; refine block_ret ?_; refine seq_ret ?_; refine ret_of ?_; refine zr ?_; refine zr ?_; refine rk_nil ?_
    have h9 := hb _ _ k x hS
    rw [Tb.set2_self hx hxo] at h9
    rw [if_pos (.inl h3)]
    exact ⟨rfl, h9⟩
  refine op1_mov rfl (by (conv => lhs; whnf) <;> rfl) ?_; refine wpO_cons ?_; refine op1_gtr rfl rfl rfl ?_; refine zu ?_; refine zw1 ?_; refine zns ?_
  refine wp_dec rfl (fun h4 => ?_) (fun h4 => ?_)
  · refine zsr ?_; refine zw1 ?_; refine zw1 ?_; refine zns ?_; refine wp_ret ?_; refine block_ret ?_; refine seq_ret ?_; refine ret_of ?_; refine zr ?_; refine zr ?_; refine rk_nil ?_
    have h9 := hb _ _ k x hS
    rw [Tb.set2_self hx hxo] at h9
    rw [if_pos (.inr h4)]
    exact ⟨rfl, h9⟩
  rw [if_neg (show ¬ (s < -16384 ∨ s > 16384) by omega)]
  unfold Tb.sk
  have hw : w = 0 ∨ w = 1 ∨ w = 2 := by omega
  rcases hw with rfl | rfl | rfl
  · rw [show (if (0 : Int) = 0 then 0 else if (0 : Int) = 1 then k.off else x.size) = 0 from rfl]
    refine wp_skip ?_; refine block_normal ?_; refine seq_normal ?_; refine wp_seq ?_; refine wp_regionD ?_; refine zd1 ?_; refine zd1 ?_; refine zm ?_; refine zg ?_; refine zj (S.g0 hS) ?_; refine zd1 ?_; refine zm ?_; refine zg ?_; refine zj (S.g1 hS) ?_; refine wpD_cons ?_; refine op1_build rfl ?_; refine bk_one (by (conv => lhs; whnf) <;> rfl) rfl rfl rfl ?_; refine bk_one (by (conv => lhs; whnf) <;> rfl) rfl rfl rfl ?_; refine bk_one (by (conv => lhs; whnf) <;> rfl) rfl rfl rfl ?_; refine bk_nil ?_; refine zd1 ?_; refine wpD_cons ?_
    refine op1_idxArr (v := .int .i64 (0)) rfl rfl rfl (by decide) (by decide) rfl ?_
    refine wpD_cons ?_; refine op1_add rfl rfl rfl (by exact wrap_i64 (by omega) (by omega)) ?_; refine zd1 ?_; refine wpD_nil ?_; refine dk_of ?_ ?_; (iterate 4 refine chk_skip ?_); refine zx 10 ?_ ?_; refine zy 0 ?_ ?_; exact zq (S.g0 hS); exact chkFs_nil; (iterate 3 refine chk_skip ?_); refine zx 6 ?_ ?_; refine zy 0 ?_ ?_; exact zq (S.g1 hS); exact chkFs_nil; (iterate 5 refine chk_skip ?_); exact chk_end; refine seq_normal ?_; refine wp_seq ?_; refine zsr ?_; refine zw1 ?_; refine wpO_cons ?_; refine op1_lss rfl rfl rfl ?_; refine zw1 ?_; refine wpO_cons ?_
    refine op1_dec rfl (fun h5 => ?_) (fun h5 => ?_)
    · refine op1_skip rfl ?_; refine zk ?_; refine zt ?_; refine zns ?_; refine wp_true rfl ?_; refine zsr ?_; refine zw1 ?_; refine zw1 ?_; refine zns ?_; refine wp_ret ?_; refine seq_ret ?_; refine ret_of ?_; refine zr ?_; refine zr ?_; refine rk_nil ?_
      have h9 := hb _ _ k x hS
      rw [Tb.set2_self hx hxo] at h9
      rw [if_pos (.inl h5)]
      exact ⟨rfl, h9⟩
    refine op1_mov rfl (by (conv => lhs; whnf) <;> rfl) ?_; refine wpO_cons ?_; refine op1_gtr rfl rfl rfl ?_; refine zu ?_; refine zns ?_
    refine wp_dec rfl (fun h6 => ?_) (fun h6 => ?_)
    · refine zsr ?_; refine zw1 ?_; refine zw1 ?_; refine zns ?_; refine wp_ret ?_; refine seq_ret ?_; refine ret_of ?_; refine zr ?_; refine zr ?_; refine rk_nil ?_
      have h9 := hb _ _ k x hS
      rw [Tb.set2_self hx hxo] at h9
      rw [if_pos (.inr h6)]
      exact ⟨rfl, h9⟩
    · refine wp_skip ?_; refine seq_normal ?_; refine zsr ?_; refine zw1 ?_; refine zw1 ?_; refine zn ?_; refine zf ?_; refine wpO_cons ?_; (refine op1_store1S rfl rfl (by (conv => lhs; whnf) <;> rfl) rfl rfl (S.up0 hS) rfl ?_; intro H1 hS; replace hS := S.dn0 hS); refine zns ?_; refine zsr ?_; refine zw1 ?_; refine zw1 ?_; refine zw1 ?_; refine zns ?_; refine wp_ret ?_; refine ret_of ?_; refine zr ?_; refine zr ?_; refine rk_nil ?_
      have h9 := hb _ _ { k with off := s + 0 } x hS
      rw [Tb.set2_B hxo] at h9
      rw [if_neg (by omega)]
      exact ⟨rfl, h9⟩
  · rw [show (if (1 : Int) = 0 then 0 else if (1 : Int) = 1 then k.off else x.size) = k.off from rfl]
    refine wp_skip ?_; refine block_normal ?_; refine seq_normal ?_; refine wp_seq ?_; refine wp_regionD ?_; refine zd1 ?_; refine zd1 ?_; refine zm ?_; refine zg ?_; refine zj (S.g0 hS) ?_; refine zd1 ?_; refine zm ?_; refine zg ?_; refine zj (S.g1 hS) ?_; refine wpD_cons ?_; refine op1_build rfl ?_; refine bk_one (by (conv => lhs; whnf) <;> rfl) rfl rfl rfl ?_; refine bk_one (by (conv => lhs; whnf) <;> rfl) rfl rfl rfl ?_; refine bk_one (by (conv => lhs; whnf) <;> rfl) rfl rfl rfl ?_; refine bk_nil ?_; refine zd1 ?_; refine wpD_cons ?_
    refine op1_idxArr (v := .int .i64 (k.off)) rfl rfl rfl (by decide) (by decide) rfl ?_
    refine wpD_cons ?_; refine op1_add rfl rfl rfl (by exact wrap_i64 (by omega) (by omega)) ?_; refine zd1 ?_; refine wpD_nil ?_; refine dk_of ?_ ?_; (iterate 4 refine chk_skip ?_); refine zx 10 ?_ ?_; refine zy 0 ?_ ?_; exact zq (S.g0 hS); exact chkFs_nil; (iterate 3 refine chk_skip ?_); refine zx 6 ?_ ?_; refine zy 0 ?_ ?_; exact zq (S.g1 hS); exact chkFs_nil; (iterate 5 refine chk_skip ?_); exact chk_end; refine seq_normal ?_; refine wp_seq ?_; refine zsr ?_; refine zw1 ?_; refine wpO_cons ?_; refine op1_lss rfl rfl rfl ?_; refine zw1 ?_; refine wpO_cons ?_
    refine op1_dec rfl (fun h5 => ?_) (fun h5 => ?_)
    · refine op1_skip rfl ?_; refine zk ?_; refine zt ?_; refine zns ?_; refine wp_true rfl ?_; refine zsr ?_; refine zw1 ?_; refine zw1 ?_; refine zns ?_; refine wp_ret ?_; refine seq_ret ?_; refine ret_of ?_; refine zr ?_; refine zr ?_; refine rk_nil ?_
      have h9 := hb _ _ k x hS
      rw [Tb.set2_self hx hxo] at h9
      rw [if_pos (.inl h5)]
      exact ⟨rfl, h9⟩
    refine op1_mov rfl (by (conv => lhs; whnf) <;> rfl) ?_; refine wpO_cons ?_; refine op1_gtr rfl rfl rfl ?_; refine zu ?_; refine zns ?_
    refine wp_dec rfl (fun h6 => ?_) (fun h6 => ?_)
    · refine zsr ?_; refine zw1 ?_; refine zw1 ?_; refine zns ?_; refine wp_ret ?_; refine seq_ret ?_; refine ret_of ?_; refine zr ?_; refine zr ?_; refine rk_nil ?_
      have h9 := hb _ _ k x hS
      rw [Tb.set2_self hx hxo] at h9
      rw [if_pos (.inr h6)]
      exact ⟨rfl, h9⟩
    · refine wp_skip ?_; refine seq_normal ?_; refine zsr ?_; refine zw1 ?_; refine zw1 ?_; refine zn ?_; refine zf ?_; refine wpO_cons ?_; (refine op1_store1S rfl rfl (by (conv => lhs; whnf) <;> rfl) rfl rfl (S.up0 hS) rfl ?_; intro H1 hS; replace hS := S.dn0 hS); refine zns ?_; refine zsr ?_; refine zw1 ?_; refine zw1 ?_; refine zw1 ?_; refine zns ?_; refine wp_ret ?_; refine ret_of ?_; refine zr ?_; refine zr ?_; refine rk_nil ?_
      have h9 := hb _ _ { k with off := s + k.off } x hS
      rw [Tb.set2_B hxo] at h9
      rw [if_neg (by omega)]
      exact ⟨rfl, h9⟩
  · rw [show (if (2 : Int) = 0 then 0 else if (2 : Int) = 1 then k.off else x.size) = x.size from rfl]
    refine wp_skip ?_; refine block_normal ?_; refine seq_normal ?_; refine wp_seq ?_; refine wp_regionD ?_; refine zd1 ?_; refine zd1 ?_; refine zm ?_; refine zg ?_; refine zj (S.g0 hS) ?_; refine zd1 ?_; refine zm ?_; refine zg ?_; refine zj (S.g1 hS) ?_; refine wpD_cons ?_; refine op1_build rfl ?_; refine bk_one (by (conv => lhs; whnf) <;> rfl) rfl rfl rfl ?_; refine bk_one (by (conv => lhs; whnf) <;> rfl) rfl rfl rfl ?_; refine bk_one (by (conv => lhs; whnf) <;> rfl) rfl rfl rfl ?_; refine bk_nil ?_; refine zd1 ?_; refine wpD_cons ?_
    refine op1_idxArr (v := .int .i64 (x.size)) rfl rfl rfl (by decide) (by decide) rfl ?_
    refine wpD_cons ?_; refine op1_add rfl rfl rfl (by exact wrap_i64 (by omega) (by omega)) ?_; refine zd1 ?_; refine wpD_nil ?_; refine dk_of ?_ ?_; (iterate 4 refine chk_skip ?_); refine zx 10 ?_ ?_; refine zy 0 ?_ ?_; exact zq (S.g0 hS); exact chkFs_nil; (iterate 3 refine chk_skip ?_); refine zx 6 ?_ ?_; refine zy 0 ?_ ?_; exact zq (S.g1 hS); exact chkFs_nil; (iterate 5 refine chk_skip ?_); exact chk_end; refine seq_normal ?_; refine wp_seq ?_; refine zsr ?_; refine zw1 ?_; refine wpO_cons ?_; refine op1_lss rfl rfl rfl ?_; refine zw1 ?_; refine wpO_cons ?_
    refine op1_dec rfl (fun h5 => ?_) (fun h5 => ?_)
    · refine op1_skip rfl ?_; refine zk ?_; refine zt ?_; refine zns ?_; refine wp_true rfl ?_; refine zsr ?_; refine zw1 ?_; refine zw1 ?_; refine zns ?_; refine wp_ret ?_; refine seq_ret ?_; refine ret_of ?_; refine zr ?_; refine zr ?_; refine rk_nil ?_
      have h9 := hb _ _ k x hS
      rw [Tb.set2_self hx hxo] at h9
      rw [if_pos (.inl h5)]
      exact ⟨rfl, h9⟩
    refine op1_mov rfl (by (conv => lhs; whnf) <;> rfl) ?_; refine wpO_cons ?_; refine op1_gtr rfl rfl rfl ?_; refine zu ?_; refine zns ?_
    refine wp_dec rfl (fun h6 => ?_) (fun h6 => ?_)
    · refine zsr ?_; refine zw1 ?_; refine zw1 ?_; refine zns ?_; refine wp_ret ?_; refine seq_ret ?_; refine ret_of ?_; refine zr ?_; refine zr ?_; refine rk_nil ?_
      have h9 := hb _ _ k x hS
      rw [Tb.set2_self hx hxo] at h9
      rw [if_pos (.inr h6)]
      exact ⟨rfl, h9⟩
    · refine wp_skip ?_; refine seq_normal ?_; refine zsr ?_; refine zw1 ?_; refine zw1 ?_; refine zn ?_; refine zf ?_; refine wpO_cons ?_; (refine op1_store1S rfl rfl (by (conv => lhs; whnf) <;> rfl) rfl rfl (S.up0 hS) rfl ?_; intro H1 hS; replace hS := S.dn0 hS); refine zns ?_; refine zsr ?_; refine zw1 ?_; refine zw1 ?_; refine zw1 ?_; refine zns ?_; refine wp_ret ?_; refine ret_of ?_; refine zr ?_; refine zr ?_; refine rk_nil ?_
      have h9 := hb _ _ { k with off := s + x.size } x hS
      rw [Tb.set2_B hxo] at h9
      rw [if_neg (by omega)]
      exact ⟨rfl, h9⟩
end
end Go.E.At
