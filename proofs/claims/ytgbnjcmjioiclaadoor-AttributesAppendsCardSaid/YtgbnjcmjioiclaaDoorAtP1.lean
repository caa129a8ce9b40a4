/- Attributes: Create, Attr, Open, Write. -/
import Derived.Test.YtgbnjcmjioiclaaDoorAtM
import Derived.Test.YtgbnjcmjioiclaaDoorAtL3
namespace Go.E.At
open Go Go.E Go.Proofs.YtgbnjcmjioiclaaDoor.base Go.Proofs.YtgbnjcmjioiclaaDoor Go.Proofs
set_option linter.unusedVariables false
set_option linter.unusedSimpArgs false
set_option maxRecDepth 100000
theorem S.k1 {B H : AHeap} {a b : Asn} {As : List Asn} (h : S B H (a :: b :: As)) : S B H (a :: As) := S.drop (S.up1 h)
theorem S.k2 {B H : AHeap} {a b c : Asn} {As : List Asn} (h : S B H (a :: b :: c :: As)) : S B H (a :: As) := S.k1 (S.k1 h)
theorem S.k3 {B H : AHeap} {a b c d : Asn} {As : List Asn} (h : S B H (a :: b :: c :: d :: As)) : S B H (a :: As) := S.k2 (S.k1 h)
theorem S.k4 {B H : AHeap} {a b c d e : Asn} {As : List Asn} (h : S B H (a :: b :: c :: d :: e :: As)) : S B H (a :: As) := S.k3 (S.k1 h)
def badA (a : Ob) : Prop := a.mode < 0 ∨ a.mode > 4095 ∨ a.user < 0 ∨ a.group < 0 ∨ a.size < 0 ∨ a.size > 16384 ∨ a.links < 0
instance (a : Ob) : Decidable (badA a) := by unfold badA; infer_instance
def Tb.create (t : Tb) (a : Ob) : Int × Int × Tb := if badA a then (0, 34, t) else if 1000 ≤ t.os.length then (0, 18, t) else (t.lo + 1, 0, t.addO a)
def ob0 : Ob := ⟨0, 0, 0, 0, 0, false⟩
def Tb.attr (t : Tb) (o : Int) : Ob × Int := match gGet t.os o with | none => (ob0, 22) | some x => (x, 0)
def badB (b : Bk) : Prop := b.acc < 1 ∨ b.acc > 3 ∨ b.deny < 0 ∨ b.deny > 3 ∨ (b.app = true ∧ bitAnd .i64 b.acc 2 = 0)
instance (b : Bk) : Decidable (badB b) := by unfold badB; infer_instance
def Tb.opn (t : Tb) (o : Int) (c : Cr) (b : Bk) : Int × Int × Tb :=
  match gGet t.os o with
  | none => (0, 22, t)
  | some a => if badB b then (0, 14, t) else if a.dir = true ∧ ¬ bitAnd .i64 b.acc 2 = 0 then (0, 16, t) else if a.allowed c b.acc = false then (0, 1, t)
    else if 0 < (t.bs.filter fun y => conf o b.acc b.deny y.2).length then (0, 5, t) else if 200 ≤ t.bs.length then (0, 18, t)
    else (t.lb + 1, 0, t.addB ⟨o, b.acc, b.deny, b.app, 0, 1⟩)
def Tb.write (t : Tb) (id n : Int) : Int × Int × Int × Tb :=
  match gGet t.bs id with
  | none => (0, 0, 3, t)
  | some k => if bitAnd .i64 k.acc 2 = 0 then (0, 0, 1, t) else if n < 0 then (0, 0, 34, t) else
    match gGet t.os k.obj with
    | none => (0, 0, 0, t)
    | some x =>
      let at_ := if k.app = true then x.size else k.off
      let put := max (min n (16384 - at_)) 0
      if 0 < n ∧ put = 0 then (0, 0, 25, t)
      else (at_, put, 0, t.set2 id { k with off := at_ + put } k.obj { x with size := max x.size (at_ + put) })
section
variable {B H : AHeap} {As : List Asn} {t : Tb} {p : Nat}
theorem L13 {a : Ob} (ht : TbOk t) (hS : S B H (repP p t :: As)) : wpF C 13 [ptrB p, .agg ⟨a.cells⟩] H fun v H' => v = .tuple ⟨[.int .i64 (t.create a).1, .int .i64 (t.create a).2.1]⟩ ∧ S B H' (repP p (t.create a).2.2 :: As) := by
  refine wpF_ofW o13 rfl rfl ?_
  unfold ptrB Ob.cells
  refine zsr ?_; refine wpO_cons ?_; refine op1_boxNS rfl rfl rfl hS ?_; intro p1 H1 hS; refine zw1 ?_; refine zw1 ?_; refine zns ?_; refine wp_seq ?_; refine wp_block ?_; refine zsr ?_; refine zw1 ?_; refine wpO_cons ?_; refine op1_bin_false rfl (by (conv => lhs; whnf) <;> rfl) (by (conv => lhs; whnf) <;> rfl) rfl ?_; refine zw1 ?_; refine zns ?_; refine wp_false rfl ?_; refine zsr ?_; refine zf ?_; refine zh (S.g0 hS) ?_; refine wpO_cons ?_; refine op1_lss rfl rfl rfl ?_; refine zw1 ?_; refine wpO_cons ?_
  refine op1_dec rfl (fun h1 => ?_) (fun h1 => ?_)
  · refine op1_skip rfl ?_; refine zk ?_; refine zk ?_; refine zt ?_; refine zw1 ?_; (iterate 3 refine zk ?_); refine zt ?_; refine zw1 ?_; (iterate 3 refine zk ?_); refine zt ?_; refine zw1 ?_; (iterate 3 refine zk ?_); refine zt ?_; refine zw1 ?_; (iterate 3 refine zk ?_); refine zt ?_; refine zw1 ?_; (iterate 3 refine zk ?_); refine zt ?_; refine zw1 ?_; refine zns ?_; refine wp_true rfl ?_; refine zsr ?_; refine zw1 ?_; refine zw1 ?_; refine zns ?_; refine wp_ret ?_; refine block_ret ?_; refine seq_ret ?_; refine ret_of ?_; refine zr ?_; refine zr ?_; refine rk_nil ?_
    have e : t.create a = (0, 34, t) := by unfold Tb.create; rw [if_pos (show badA a by unfold badA; omega)]
    rw [e]
    exact ⟨rfl, S.drop hS⟩
  refine op1_faddr0 rfl rfl ?_; refine zh (S.g0 hS) ?_; refine wpO_cons ?_; refine op1_gtr rfl rfl rfl ?_; refine zu ?_; refine zw1 ?_; refine wpO_cons ?_
  refine op1_dec rfl (fun h2 => ?_) (fun h2 => ?_)
  · refine op1_skip rfl ?_; refine zk ?_; refine zk ?_; refine zt ?_; refine zw1 ?_; (iterate 3 refine zk ?_); refine zt ?_; refine zw1 ?_; (iterate 3 refine zk ?_); refine zt ?_; refine zw1 ?_; (iterate 3 refine zk ?_); refine zt ?_; refine zw1 ?_; (iterate 3 refine zk ?_); refine zt ?_; refine zw1 ?_; refine zns ?_; refine wp_true rfl ?_; refine zsr ?_; refine zw1 ?_; refine zw1 ?_; refine zns ?_; refine wp_ret ?_; refine block_ret ?_; refine seq_ret ?_; refine ret_of ?_; refine zr ?_; refine zr ?_; refine rk_nil ?_
    have e : t.create a = (0, 34, t) := by unfold Tb.create; rw [if_pos (show badA a by unfold badA; omega)]
    rw [e]
    exact ⟨rfl, S.drop hS⟩
  refine op1_faddr0 rfl rfl ?_; refine zh (S.g0 hS) ?_; refine wpO_cons ?_; refine op1_lss rfl rfl rfl ?_; refine zu ?_; refine zw1 ?_; refine wpO_cons ?_
  refine op1_dec rfl (fun h3 => ?_) (fun h3 => ?_)
  · refine op1_skip rfl ?_; refine zk ?_; refine zk ?_; refine zt ?_; refine zw1 ?_; (iterate 3 refine zk ?_); refine zt ?_; refine zw1 ?_; (iterate 3 refine zk ?_); refine zt ?_; refine zw1 ?_; (iterate 3 refine zk ?_); refine zt ?_; refine zw1 ?_; refine zns ?_; refine wp_true rfl ?_; refine zsr ?_; refine zw1 ?_; refine zw1 ?_; refine zns ?_; refine wp_ret ?_; refine block_ret ?_; refine seq_ret ?_; refine ret_of ?_; refine zr ?_; refine zr ?_; refine rk_nil ?_
    have e : t.create a = (0, 34, t) := by unfold Tb.create; rw [if_pos (show badA a by unfold badA; omega)]
    rw [e]
    exact ⟨rfl, S.drop hS⟩
  refine op1_faddr0 rfl rfl ?_; refine zh (S.g0 hS) ?_; refine wpO_cons ?_; refine op1_lss rfl rfl rfl ?_; refine zu ?_; refine zw1 ?_; refine wpO_cons ?_
  refine op1_dec rfl (fun h4 => ?_) (fun h4 => ?_)
  · refine op1_skip rfl ?_; refine zk ?_; refine zk ?_; refine zt ?_; refine zw1 ?_; (iterate 3 refine zk ?_); refine zt ?_; refine zw1 ?_; (iterate 3 refine zk ?_); refine zt ?_; refine zw1 ?_; refine zns ?_; refine wp_true rfl ?_; refine zsr ?_; refine zw1 ?_; refine zw1 ?_; refine zns ?_; refine wp_ret ?_; refine block_ret ?_; refine seq_ret ?_; refine ret_of ?_; refine zr ?_; refine zr ?_; refine rk_nil ?_
    have e : t.create a = (0, 34, t) := by unfold Tb.create; rw [if_pos (show badA a by unfold badA; omega)]
    rw [e]
    exact ⟨rfl, S.drop hS⟩
  refine op1_faddr0 rfl rfl ?_; refine zh (S.g0 hS) ?_; refine wpO_cons ?_; refine op1_lss rfl rfl rfl ?_; refine zu ?_; refine zw1 ?_; refine wpO_cons ?_
  refine op1_dec rfl (fun h5 => ?_) (fun h5 => ?_)
  · refine op1_skip rfl ?_; refine zk ?_; refine zk ?_; refine zt ?_; refine zw1 ?_; (iterate 3 refine zk ?_); refine zt ?_; refine zw1 ?_; refine zns ?_; refine wp_true rfl ?_; refine zsr ?_; refine zw1 ?_; refine zw1 ?_; refine zns ?_; refine wp_ret ?_; refine block_ret ?_; refine seq_ret ?_; refine ret_of ?_; refine zr ?_; refine zr ?_; refine rk_nil ?_
    have e : t.create a = (0, 34, t) := by unfold Tb.create; rw [if_pos (show badA a by unfold badA; omega)]
    rw [e]
    exact ⟨rfl, S.drop hS⟩
  refine op1_faddr0 rfl rfl ?_; refine zh (S.g0 hS) ?_; refine wpO_cons ?_; refine op1_gtr rfl rfl rfl ?_; refine zu ?_; refine zw1 ?_; refine wpO_cons ?_
  refine op1_dec rfl (fun h6 => ?_) (fun h6 => ?_)
  · refine op1_skip rfl ?_; refine zk ?_; refine zk ?_; refine zt ?_; refine zw1 ?_; refine zns ?_; refine wp_true rfl ?_; refine zsr ?_; refine zw1 ?_; refine zw1 ?_; refine zns ?_; refine wp_ret ?_; refine block_ret ?_; refine seq_ret ?_; refine ret_of ?_; refine zr ?_; refine zr ?_; refine rk_nil ?_
    have e : t.create a = (0, 34, t) := by unfold Tb.create; rw [if_pos (show badA a by unfold badA; omega)]
    rw [e]
    exact ⟨rfl, S.drop hS⟩
  refine op1_faddr0 rfl rfl ?_; refine zh (S.g0 hS) ?_; refine wpO_cons ?_; refine op1_lss rfl rfl rfl ?_; refine zu ?_; refine zw1 ?_; refine zns ?_
  refine wp_dec rfl (fun h7 => ?_) (fun h7 => ?_)
  · refine zsr ?_; refine zw1 ?_; refine zw1 ?_; refine zns ?_; refine wp_ret ?_; refine block_ret ?_; refine seq_ret ?_; refine ret_of ?_; refine zr ?_; refine zr ?_; refine rk_nil ?_
    have e : t.create a = (0, 34, t) := by unfold Tb.create; rw [if_pos (show badA a by unfold badA; omega)]
    rw [e]
    exact ⟨rfl, S.drop hS⟩
  refine zsr ?_; refine zw1 ?_; refine zn ?_; refine zf ?_; refine wpO_cons ?_; refine op1_faddr rfl rfl ?_; refine wpO_cons ?_
  have hng : ¬ badA a := by unfold badA; omega
  obtain ⟨mo, ma, hS1⟩ := openP (S.up1 hS)
  obtain ⟨kv, R, hkl, hS2, hb⟩ := rgLen (S.up2 hS1)
  have hT := hS
  clear hS hS1
  have hS := S.up2 hS2
  clear hS2
  unfold tbC at hS
  refine op1_load rfl rfl (by exact S.g0 hS) rfl ?_; refine wpO_cons ?_
  refine op1_lenMS rfl rfl (S.up1 hS) ?_
  rw [hkl]
  refine wpO_cons ?_; refine op1_geq rfl rfl rfl ?_; refine zw1 ?_; refine zns ?_
  have hc := closeP (S.dn2 (hb _ _ (S.dn2 hS)))
  have hT := hS
  clear hS
  have hS := S.up1 hc
  clear hc
  refine wp_dec rfl (fun h8 => ?_) (fun h8 => ?_)
  · refine zsr ?_; refine zw1 ?_; refine zw1 ?_; refine zns ?_; refine wp_ret ?_; refine block_ret ?_; refine seq_ret ?_; refine ret_of ?_; refine zr ?_; refine zr ?_; refine rk_nil ?_
    have e : t.create a = (0, 18, t) := by unfold Tb.create; rw [if_neg hng, if_pos (by omega)]
    rw [e]
    exact ⟨rfl, S.drop hS⟩
  refine wp_skip ?_; refine block_normal ?_; refine seq_normal ?_; refine wp_seq ?_; refine wp_regionD ?_; refine zd1 ?_; refine zm ?_; refine zg ?_; refine wpD_cons ?_; refine op1_load_6 rfl rfl (by exact S.g0 hS) rfl rfl ?_; refine wpD_cons ?_; refine op1_call2 rfl (by (conv => lhs; whnf) <;> rfl) (by (conv => lhs; whnf) <;> rfl) ?_
  refine wpF_mono (L41 (x := a) ht (S.up1 hS)) ?_
  rintro _ H3 ⟨rfl, hS3⟩
  refine zd1 ?_; refine zd1 ?_; refine wpD_nil ?_; refine dk_of ?_ ?_; (iterate 3 refine chk_skip ?_); refine zx 4 ?_ ?_; refine zy 3 ?_ ?_; exact chk_loadN rfl (by exact S.g0 hS) rfl rfl rfl; exact chkFs_nil; (iterate 3 refine chk_skip ?_); exact chk_end; refine seq_normal ?_; refine wp_ret ?_; refine ret_of ?_; refine zr ?_; refine zr ?_; refine rk_nil ?_
  have e : t.create a = (t.lo + 1, 0, t.addO a) := by unfold Tb.create; rw [if_neg hng, if_neg (by omega)]
  rw [e]
  exact ⟨rfl, S.drop (S.up1 hS3)⟩
theorem L16 {o : Int} (hS : S B H (repP p t :: As)) : wpF C 16 [ptrB p, .int .i64 o] H fun v H' => v = .tuple ⟨[.agg ⟨(t.attr o).1.cells⟩, .int .i64 (t.attr o).2]⟩ ∧ S B H' (repP p t :: As) := by
  refine wpF_ofW o16 rfl rfl ?_
  unfold Tb.attr
  refine zsr ?_; refine wpO_cons ?_; refine op1_allocS rfl hS ?_; intro p1 H1 hS; refine zw1 ?_; refine zns ?_; refine zsr ?_; refine zw1 ?_; refine zw1 ?_; refine wpO_cons ?_; refine op1_call2 rfl (by (conv => lhs; whnf) <;> rfl) (by (conv => lhs; whnf) <;> rfl) ?_
  refine wpF_mono (L42 (id := o) (S.up1 hS)) ?_
  rintro _ H3 (⟨hx, rfl, hS3⟩ | ⟨x, pa, R, hx, rfl, hS3, hb⟩)
  · rw [hx]
    clear hS
    have hS := hS3
    clear hS3
    refine zw1 ?_; refine wpO_cons ?_; refine op1_extract rfl rfl rfl ?_; refine wpO_cons ?_; refine op1_extract rfl rfl rfl ?_; refine zw1 ?_; refine zw1 ?_; refine zns ?_; refine wp_seq ?_; refine zsr ?_; refine zw1 ?_; refine wpO_cons ?_; refine op1_neqI rfl rfl rfl ?_; refine zns ?_; refine wp_true rfl ?_; refine zsr ?_; refine wpO_cons ?_; refine op1_build rfl ?_; refine bk_nil ?_; refine zw1 ?_; refine wpO_cons ?_; (refine op1_storeNS rfl rfl (by (conv => lhs; whnf) <;> rfl) rfl rfl (S.up1 hS) (Nat.le_of_ble_eq_true rfl) ?_; intro H2 hS; replace hS := S.dn1 hS); refine zw1 ?_; refine zns ?_; refine wp_ret ?_; refine seq_ret ?_; refine ret_of ?_; refine rk_cellN rfl (by exact S.g1 hS) rfl rfl ?_; refine zr ?_; refine rk_nil ?_
    exact ⟨rfl, S.drop (S.up1 hS)⟩
  · rw [hx]
    clear hS
    unfold ptrB
    have hS := hS3
    clear hS3
    unfold Ob.cells at hS
    refine zw1 ?_; refine wpO_cons ?_; refine op1_extract rfl rfl rfl ?_; refine wpO_cons ?_; refine op1_extract rfl rfl rfl ?_; refine zw1 ?_; refine zw1 ?_; refine zns ?_; refine wp_seq ?_; refine zsr ?_; refine zw1 ?_; refine wpO_cons ?_; refine op1_neqI_s rfl rfl rfl ?_; refine zns ?_; refine wp_false rfl ?_; refine wp_skip ?_; refine seq_normal ?_; refine zsr ?_; refine zw1 ?_; refine zn ?_; refine wpO_cons ?_; refine op1_load_6 rfl rfl (by exact S.g0 hS) rfl rfl ?_; refine wpO_cons ?_; (refine op1_storeNS rfl rfl (by (conv => lhs; whnf) <;> rfl) rfl rfl (S.up2 hS) (Nat.le_of_ble_eq_true rfl) ?_; intro H2 hS; replace hS := S.dn2 hS); refine zw1 ?_; refine zns ?_; refine wp_ret ?_; refine ret_of ?_; refine rk_cellN rfl (by exact S.g2 hS) rfl rfl ?_; refine zr ?_; refine rk_nil ?_
    have h2 := hb _ _ x hS
    rw [Tb.setO_self hx] at h2
    exact ⟨rfl, S.drop (S.up1 h2)⟩
theorem L14 {o : Int} {c : Cr} {b : Bk} {r : List Nat} (hB : Glob objs B) (hc : CrOk B c r) (ht : TbOk t) (hS : S B H (repP p t :: As)) : wpF C 14 [ptrB p, .int .i64 o, .agg ⟨c.cells⟩, .agg ⟨b.cells⟩] H fun v H' => v = .tuple ⟨[.int .i64 (t.opn o c b).1, .int .i64 (t.opn o c b).2.1]⟩ ∧ S B H' (repP p (t.opn o c b).2.2 :: As) := by
  refine wpF_ofW o14 rfl rfl ?_
  unfold Cr.cells Bk.cells
  refine zsr ?_; refine wpO_cons ?_; refine op1_box1S rfl (by (conv => lhs; whnf) <;> rfl) rfl rfl hS ?_; intro p1 H1 hS; refine wpO_cons ?_; refine op1_boxNS rfl rfl rfl hS ?_; intro p2 H2 hS; refine wpO_cons ?_; refine op1_boxNS rfl rfl rfl hS ?_; intro p3 H3 hS; refine zw1 ?_; refine zw1 ?_; refine zns ?_; refine zsr ?_; refine zw1 ?_; refine zh (S.g2 hS) ?_; refine wpO_cons ?_; refine op1_call2 rfl (by (conv => lhs; whnf) <;> rfl) (by (conv => lhs; whnf) <;> rfl) ?_
  refine wpF_mono (L42 (id := o) (S.up3 hS)) ?_
  rintro _ H3 (⟨hx, rfl, hS3⟩ | ⟨x, pa, R, hx, rfl, hS3, hb⟩)
  · clear hS
    have hS := hS3
    clear hS3
    refine zw1 ?_; refine wpO_cons ?_; refine op1_extract rfl rfl rfl ?_; refine wpO_cons ?_; refine op1_extract rfl rfl rfl ?_; refine zw1 ?_; refine zw1 ?_; refine zns ?_; refine wp_seq ?_; refine wp_block ?_; refine zsr ?_; refine zw1 ?_; refine wpO_cons ?_; refine op1_neqI rfl rfl rfl ?_; refine zw1 ?_; refine zns ?_; refine wp_true rfl ?_; refine zsr ?_; refine zw1 ?_; refine zw1 ?_; refine zw1 ?_; refine zns ?_; refine wp_ret ?_; refine block_ret ?_; refine seq_ret ?_; refine ret_of ?_; refine zr ?_; refine zr ?_; refine rk_nil ?_
    have e : t.opn o c b = (0, 22, t) := by unfold Tb.opn; rw [hx]
    rw [e]
    exact ⟨rfl, S.k3 hS⟩
  clear hS
  unfold ptrB
  have hS := hS3
  clear hS3
  unfold Ob.cells at hS
  refine zw1 ?_; refine wpO_cons ?_; refine op1_extract rfl rfl rfl ?_; refine wpO_cons ?_; refine op1_extract rfl rfl rfl ?_; refine zw1 ?_; refine zw1 ?_; refine zns ?_; refine wp_seq ?_; refine wp_block ?_; refine zsr ?_; refine zw1 ?_; refine wpO_cons ?_; refine op1_neqI_s rfl rfl rfl ?_; refine zw1 ?_; refine zns ?_; refine wp_false rfl ?_; refine zsr ?_; refine zf ?_; refine zh (S.g2 hS) ?_; refine wpO_cons ?_; refine op1_lss rfl rfl rfl ?_; refine zw1 ?_; refine wpO_cons ?_
  refine op1_dec rfl (fun h1 => ?_) (fun h1 => ?_)
  · refine op1_skip rfl ?_; refine zk ?_; refine zk ?_; refine zt ?_; refine zw1 ?_; (iterate 3 refine zk ?_); refine zt ?_; refine zw1 ?_; (iterate 3 refine zk ?_); refine zt ?_; refine zw1 ?_; (iterate 8 refine zk ?_); refine zt ?_; refine zw1 ?_; refine zns ?_; refine wp_true rfl ?_; refine zsr ?_; refine zw1 ?_; refine zw1 ?_; refine zns ?_; refine wp_ret ?_; refine block_ret ?_; refine seq_ret ?_; refine ret_of ?_; refine zr ?_; refine zr ?_; refine rk_nil ?_
    have h9 := hb _ _ x hS
    rw [Tb.setO_self hx] at h9
    have e : t.opn o c b = (0, 14, t) := by unfold Tb.opn; rw [hx]; exact if_pos (by unfold badB; omega)
    rw [e]
    exact ⟨rfl, S.k3 h9⟩
  refine op1_faddr0 rfl rfl ?_; refine zh (S.g2 hS) ?_; refine wpO_cons ?_; refine op1_gtr rfl rfl rfl ?_; refine zu ?_; refine zw1 ?_; refine wpO_cons ?_
  refine op1_dec rfl (fun h2 => ?_) (fun h2 => ?_)
  · refine op1_skip rfl ?_; refine zk ?_; refine zk ?_; refine zt ?_; refine zw1 ?_; (iterate 3 refine zk ?_); refine zt ?_; refine zw1 ?_; (iterate 8 refine zk ?_); refine zt ?_; refine zw1 ?_; refine zns ?_; refine wp_true rfl ?_; refine zsr ?_; refine zw1 ?_; refine zw1 ?_; refine zns ?_; refine wp_ret ?_; refine block_ret ?_; refine seq_ret ?_; refine ret_of ?_; refine zr ?_; refine zr ?_; refine rk_nil ?_
    have h9 := hb _ _ x hS
    rw [Tb.setO_self hx] at h9
    have e : t.opn o c b = (0, 14, t) := by unfold Tb.opn; rw [hx]; exact if_pos (by unfold badB; omega)
    rw [e]
    exact ⟨rfl, S.k3 h9⟩
  refine op1_faddr0 rfl rfl ?_; refine zh (S.g2 hS) ?_; refine wpO_cons ?_; refine op1_lss rfl rfl rfl ?_; refine zu ?_; refine zw1 ?_; refine wpO_cons ?_
  refine op1_dec rfl (fun h3 => ?_) (fun h3 => ?_)
  · refine op1_skip rfl ?_; refine zk ?_; refine zk ?_; refine zt ?_; refine zw1 ?_; (iterate 8 refine zk ?_); refine zt ?_; refine zw1 ?_; refine zns ?_; refine wp_true rfl ?_; refine zsr ?_; refine zw1 ?_; refine zw1 ?_; refine zns ?_; refine wp_ret ?_; refine block_ret ?_; refine seq_ret ?_; refine ret_of ?_; refine zr ?_; refine zr ?_; refine rk_nil ?_
    have h9 := hb _ _ x hS
    rw [Tb.setO_self hx] at h9
    have e : t.opn o c b = (0, 14, t) := by unfold Tb.opn; rw [hx]; exact if_pos (by unfold badB; omega)
    rw [e]
    exact ⟨rfl, S.k3 h9⟩
  refine op1_faddr0 rfl rfl ?_; refine zh (S.g2 hS) ?_; refine wpO_cons ?_; refine op1_gtr rfl rfl rfl ?_; refine zu ?_; refine zw1 ?_; refine wpO_cons ?_
  refine op1_dec rfl (fun h4 => ?_) (fun h4 => ?_)
  · refine op1_skip rfl ?_; (iterate 7 refine zk ?_); refine zt ?_; refine zw1 ?_; refine zns ?_; refine wp_true rfl ?_; refine zsr ?_; refine zw1 ?_; refine zw1 ?_; refine zns ?_; refine wp_ret ?_; refine block_ret ?_; refine seq_ret ?_; refine ret_of ?_; refine zr ?_; refine zr ?_; refine rk_nil ?_
    have h9 := hb _ _ x hS
    rw [Tb.setO_self hx] at h9
    have e : t.opn o c b = (0, 14, t) := by unfold Tb.opn; rw [hx]; exact if_pos (by unfold badB; omega)
    rw [e]
    exact ⟨rfl, S.k3 h9⟩
  refine op1_faddr0 rfl rfl ?_; refine zh (S.g2 hS) ?_; refine zw1 ?_; refine wpO_cons ?_
  refine op1_split rfl (fun h5 => ?_) (fun h5 => ?_)
  · refine op1_faddr0 rfl rfl ?_; refine zh (S.g2 hS) ?_; refine wpO_cons ?_; refine op1_and rfl rfl rfl ?_; refine wpO_cons ?_; refine op1_eqlI rfl rfl rfl ?_; refine zt ?_; refine zu ?_; refine zw1 ?_; refine zns ?_
    refine wp_dec rfl (fun h6 => ?_) (fun h6 => ?_)
    · refine zsr ?_; refine zw1 ?_; refine zw1 ?_; refine zns ?_; refine wp_ret ?_; refine block_ret ?_; refine seq_ret ?_; refine ret_of ?_; refine zr ?_; refine zr ?_; refine rk_nil ?_
      have h9 := hb _ _ x hS
      rw [Tb.setO_self hx] at h9
      have e : t.opn o c b = (0, 14, t) := by unfold Tb.opn; rw [hx]; exact if_pos (.inr (.inr (.inr (.inr ⟨h5, h6⟩))))
      rw [e]
      exact ⟨rfl, S.k3 h9⟩
    have hng : ¬ badB b := by unfold badB; rintro (h | h | h | h | ⟨_, h⟩) <;> first | omega | exact h6 h
    refine zsr ?_; refine zw1 ?_; refine zn ?_; refine zf ?_; refine zh (S.g0 hS) ?_; refine zw1 ?_; refine wpO_cons ?_
    refine op1_split rfl (fun h7 => ?_) (fun h7 => ?_)
    · refine op1_faddr0 rfl rfl ?_; refine zh (S.g2 hS) ?_; refine wpO_cons ?_; refine op1_and rfl rfl rfl ?_; refine wpO_cons ?_; refine op1_neqI rfl rfl rfl ?_; refine zt ?_; refine zw1 ?_; refine zns ?_
      refine wp_ndec rfl (fun h8 => ?_) (fun h8 => ?_)
      · refine zsr ?_; refine zw1 ?_; refine zw1 ?_; refine zns ?_; refine wp_ret ?_; refine block_ret ?_; refine seq_ret ?_; refine ret_of ?_; refine zr ?_; refine zr ?_; refine rk_nil ?_
        have h9 := hb _ _ x hS
        rw [Tb.setO_self hx] at h9
        have e : t.opn o c b = (0, 16, t) := by unfold Tb.opn; rw [hx]; exact (if_neg hng).trans (if_pos ⟨h7, h8⟩)
        rw [e]
        exact ⟨rfl, S.k3 h9⟩
      have hnd : ¬ (x.dir = true ∧ ¬ bitAnd .i64 b.acc 2 = 0) := fun h => h.2 h8
      refine wp_seq ?_; refine wp_regionD ?_; refine zd1 ?_; refine zm ?_; refine wpD_cons ?_; refine op1_load_6 rfl rfl (by exact S.g0 hS) rfl rfl ?_; refine wpD_cons ?_; refine op1_load_3 rfl rfl (by exact S.g3 hS) rfl rfl ?_; refine zg ?_; refine zj (S.g2 hS) ?_; refine wpD_cons ?_; refine op1_call3 rfl (by (conv => lhs; whnf) <;> rfl) (by (conv => lhs; whnf) <;> rfl) (by (conv => lhs; whnf) <;> rfl) ?_
      refine wpF_mono (L10 hB hc hS) ?_
      rintro _ H4 ⟨rfl, hS4⟩
      have hT := hS
      clear hS
      have hS := hS4
      clear hS4
      have h9 := hb _ _ x hS
      rw [Tb.setO_self hx] at h9
      cases ha : x.allowed c b.acc with
      | false =>
        refine wpD_cons ?_; refine op1_not_f rfl rfl ?_; refine zd1 ?_; refine wpD_nil ?_; refine dk_of ?_ ?_; (iterate 2 refine chk_skip ?_); refine zx 7 ?_ ?_; refine zy 3 ?_ ?_; exact chk_loadN rfl (by exact S.g0 hT) rfl rfl rfl; exact chkFs_nil; refine zx 6 ?_ ?_; refine zy 3 ?_ ?_; exact chk_loadN rfl (by exact S.g3 hT) rfl rfl rfl; exact chkFs_nil; refine chk_skip ?_; refine zx 4 ?_ ?_; refine zy 3 ?_ ?_; exact zq (S.g2 hT); exact chkFs_nil; (iterate 3 refine chk_skip ?_); exact chk_end; refine seq_normal ?_; refine wp_true rfl ?_; refine zsr ?_; refine zw1 ?_; refine zw1 ?_; refine zns ?_; refine wp_ret ?_; refine block_ret ?_; refine seq_ret ?_; refine ret_of ?_; refine zr ?_; refine zr ?_; refine rk_nil ?_
        have e : t.opn o c b = (0, 1, t) := by unfold Tb.opn; rw [hx]; exact (if_neg hng).trans ((if_neg hnd).trans (if_pos ha))
        rw [e]
        exact ⟨rfl, S.k3 h9⟩
      | true =>
        refine wpD_cons ?_; refine op1_not_t rfl rfl ?_; refine zd1 ?_; refine wpD_nil ?_; refine dk_of ?_ ?_; (iterate 2 refine chk_skip ?_); refine zx 7 ?_ ?_; refine zy 3 ?_ ?_; exact chk_loadN rfl (by exact S.g0 hT) rfl rfl rfl; exact chkFs_nil; refine zx 6 ?_ ?_; refine zy 3 ?_ ?_; exact chk_loadN rfl (by exact S.g3 hT) rfl rfl rfl; exact chkFs_nil; refine chk_skip ?_; refine zx 4 ?_ ?_; refine zy 3 ?_ ?_; exact zq (S.g2 hT); exact chkFs_nil; (iterate 3 refine chk_skip ?_); exact chk_end; refine seq_normal ?_; refine wp_false rfl ?_; refine wp_skip ?_; refine block_normal ?_; refine seq_normal ?_; refine zsr ?_; refine wpO_cons ?_; refine op1_mkfunc2 rfl (by (conv => lhs; whnf) <;> rfl) (by (conv => lhs; whnf) <;> rfl) ?_; refine zw1 ?_; refine zns ?_; refine wp_seq ?_; refine zsr ?_; refine zw1 ?_; refine zn ?_; refine zf ?_; refine zf ?_; refine zw1 ?_; refine wpO_cons ?_; refine op1_call2 rfl (by (conv => lhs; whnf) <;> rfl) (by (conv => lhs; whnf) <;> rfl) ?_
        have h10 := S.up1 (S.seps (L := [_, _]) (S.up3 (S.up1 h9)))
        refine wpF_mono (L44 (w := conf o b.acc b.deny) (E := seps [pto p1 (.cells [.int .i64 o] 0 false), pto p3 (.cells b.cells 0 false)]) ht (fun k b' H1 As1 h => L43 h) h10) ?_
        rintro v H5 hS5
        obtain ⟨sa, sc, rfl⟩ := S.shape1 hS5
        rw [show (i64s ((t.bs.filter fun y => conf o b.acc b.deny y.2).map (·.1))).length = (t.bs.filter fun y => conf o b.acc b.deny y.2).length from by unfold i64s; rw [List.length_map, List.length_map]] at hS5 ⊢
        have hT := hS
        clear hS
        have hS := S.unseps (S.up2 hS5)
        clear hS5
        refine wpO_cons ?_; refine op1_len rfl rfl ?_; refine wpO_cons ?_; refine op1_gtr rfl rfl rfl ?_; refine zns ?_
        refine wp_dec rfl (fun h11 => ?_) (fun h11 => ?_)
        · refine zsr ?_; refine zw1 ?_; refine zw1 ?_; refine zns ?_; refine wp_ret ?_; refine seq_ret ?_; refine ret_of ?_; refine zr ?_; refine zr ?_; refine rk_nil ?_
          have e : t.opn o c b = (0, 5, t) := by unfold Tb.opn; rw [hx]; exact (if_neg hng).trans ((if_neg hnd).trans ((if_neg (by rw [ha]; decide)).trans (if_pos (by omega))))
          rw [e]
          exact ⟨rfl, S.k4 (S.up3 hS)⟩
        obtain ⟨mo, ma, hS6⟩ := openP (S.up3 hS)
        obtain ⟨kv, RR, hkl, hS7, hbb⟩ := rgLen (S.up1 hS6)
        have hT := hS
        clear hS hS6
        have hS := S.up2 hS7
        clear hS7
        unfold tbC at hS
        refine wp_skip ?_; refine seq_normal ?_; refine wp_seq ?_; refine zsr ?_; refine zw1 ?_; refine zn ?_; refine zf ?_; refine zf ?_; refine zf ?_; refine zh (S.g0 hS) ?_; refine wpO_cons ?_
        refine op1_lenMS rfl rfl (S.up1 hS) ?_
        rw [hkl]
        refine wpO_cons ?_; refine op1_geq rfl rfl rfl ?_; refine zns ?_
        have hc2 := closeP (S.up1 (hbb _ _ (S.dn2 hS)))
        refine wp_dec rfl (fun h12 => ?_) (fun h12 => ?_)
        · refine zsr ?_; refine zw1 ?_; refine zw1 ?_; refine zns ?_; refine wp_ret ?_; refine seq_ret ?_; refine ret_of ?_; refine zr ?_; refine zr ?_; refine rk_nil ?_
          have e : t.opn o c b = (0, 18, t) := by unfold Tb.opn; rw [hx]; exact (if_neg hng).trans ((if_neg hnd).trans ((if_neg (by rw [ha]; decide)).trans ((if_neg (by omega)).trans (if_pos (by omega)))))
          rw [e]
          exact ⟨rfl, S.k4 hc2⟩
        refine wp_skip ?_; refine seq_normal ?_; refine wp_seq ?_; refine wp_regionD ?_; refine zd1 ?_; refine zm ?_; refine zg ?_; refine zg ?_; refine zj (S.g1 hc2) ?_; refine zg ?_; refine zj (S.g2 hc2) ?_; refine zg ?_; refine zj (S.g2 hc2) ?_; refine zg ?_; refine zj (S.g2 hc2) ?_; refine wpD_cons ?_; refine op1_build rfl ?_; refine bk_one (by (conv => lhs; whnf) <;> rfl) rfl rfl rfl ?_; refine bk_one (by (conv => lhs; whnf) <;> rfl) rfl rfl rfl ?_; refine bk_one (by (conv => lhs; whnf) <;> rfl) rfl rfl rfl ?_; refine bk_one (by (conv => lhs; whnf) <;> rfl) rfl rfl rfl ?_; refine bk_one (by (conv => lhs; whnf) <;> rfl) rfl rfl rfl ?_; refine bk_nil ?_; refine wpD_cons ?_; refine op1_call2 rfl (by (conv => lhs; whnf) <;> rfl) (by (conv => lhs; whnf) <;> rfl) ?_
        refine wpF_mono (L45 (x := ⟨o, b.acc, b.deny, b.app, 0, 1⟩) ht hc2) ?_
        rintro _ H6 ⟨rfl, hS8⟩
        refine zd1 ?_; refine zd1 ?_; refine wpD_nil ?_; refine dk_of ?_ ?_; (iterate 4 refine chk_skip ?_); refine zx 11 ?_ ?_; refine zy 3 ?_ ?_; exact zq (S.g1 hc2); exact chkFs_nil; refine chk_skip ?_; refine zx 9 ?_ ?_; refine zy 3 ?_ ?_; exact zq (S.g2 hc2); exact chkFs_nil; refine chk_skip ?_; refine zx 7 ?_ ?_; refine zy 3 ?_ ?_; exact zq (S.g2 hc2); exact chkFs_nil; refine chk_skip ?_; refine zx 5 ?_ ?_; refine zy 3 ?_ ?_; exact zq (S.g2 hc2); exact chkFs_nil; (iterate 4 refine chk_skip ?_); exact chk_end; refine seq_normal ?_; refine wp_ret ?_; refine ret_of ?_; refine zr ?_; refine zr ?_; refine rk_nil ?_
        have e : t.opn o c b = (t.lb + 1, 0, t.addB ⟨o, b.acc, b.deny, b.app, 0, 1⟩) := by unfold Tb.opn; rw [hx]; exact (if_neg hng).trans ((if_neg hnd).trans ((if_neg (by rw [ha]; decide)).trans ((if_neg (by omega)).trans (if_neg (by omega)))))
        rw [e]
        exact ⟨rfl, S.k4 hS8⟩
    · have hnd : ¬ (x.dir = true ∧ ¬ bitAnd .i64 b.acc 2 = 0) := fun h => by rw [h7] at h; cases h.1
      refine op1_skip rfl ?_; (iterate 3 refine zk ?_); refine zu ?_; refine zw1 ?_; refine zns ?_; refine wp_false rfl ?_; refine wp_seq ?_; refine wp_regionD ?_; refine zd1 ?_; refine zm ?_; refine wpD_cons ?_; refine op1_load_6 rfl rfl (by exact S.g0 hS) rfl rfl ?_; refine wpD_cons ?_; refine op1_load_3 rfl rfl (by exact S.g3 hS) rfl rfl ?_; refine zg ?_; refine zj (S.g2 hS) ?_; refine wpD_cons ?_; refine op1_call3 rfl (by (conv => lhs; whnf) <;> rfl) (by (conv => lhs; whnf) <;> rfl) (by (conv => lhs; whnf) <;> rfl) ?_
      refine wpF_mono (L10 hB hc hS) ?_
      rintro _ H4 ⟨rfl, hS4⟩
      have hT := hS
      clear hS
      have hS := hS4
      clear hS4
      have h9 := hb _ _ x hS
      rw [Tb.setO_self hx] at h9
      cases ha : x.allowed c b.acc with
      | false =>
        refine wpD_cons ?_; refine op1_not_f rfl rfl ?_; refine zd1 ?_; refine wpD_nil ?_; refine dk_of ?_ ?_; (iterate 2 refine chk_skip ?_); refine zx 7 ?_ ?_; refine zy 3 ?_ ?_; exact chk_loadN rfl (by exact S.g0 hT) rfl rfl rfl; exact chkFs_nil; refine zx 6 ?_ ?_; refine zy 3 ?_ ?_; exact chk_loadN rfl (by exact S.g3 hT) rfl rfl rfl; exact chkFs_nil; refine chk_skip ?_; refine zx 4 ?_ ?_; refine zy 3 ?_ ?_; exact zq (S.g2 hT); exact chkFs_nil; (iterate 3 refine chk_skip ?_); exact chk_end; refine seq_normal ?_; refine wp_true rfl ?_; refine zsr ?_; refine zw1 ?_; refine zw1 ?_; refine zns ?_; refine wp_ret ?_; refine block_ret ?_; refine seq_ret ?_; refine ret_of ?_; refine zr ?_; refine zr ?_; refine rk_nil ?_
        have e : t.opn o c b = (0, 1, t) := by unfold Tb.opn; rw [hx]; exact (if_neg hng).trans ((if_neg hnd).trans (if_pos ha))
        rw [e]
        exact ⟨rfl, S.k3 h9⟩
      | true =>
        refine wpD_cons ?_; refine op1_not_t rfl rfl ?_; refine zd1 ?_; refine wpD_nil ?_; refine dk_of ?_ ?_; (iterate 2 refine chk_skip ?_); refine zx 7 ?_ ?_; refine zy 3 ?_ ?_; exact chk_loadN rfl (by exact S.g0 hT) rfl rfl rfl; exact chkFs_nil; refine zx 6 ?_ ?_; refine zy 3 ?_ ?_; exact chk_loadN rfl (by exact S.g3 hT) rfl rfl rfl; exact chkFs_nil; refine chk_skip ?_; refine zx 4 ?_ ?_; refine zy 3 ?_ ?_; exact zq (S.g2 hT); exact chkFs_nil; (iterate 3 refine chk_skip ?_); exact chk_end; refine seq_normal ?_; refine wp_false rfl ?_; refine wp_skip ?_; refine block_normal ?_; refine seq_normal ?_; refine zsr ?_; refine wpO_cons ?_; refine op1_mkfunc2 rfl (by (conv => lhs; whnf) <;> rfl) (by (conv => lhs; whnf) <;> rfl) ?_; refine zw1 ?_; refine zns ?_; refine wp_seq ?_; refine zsr ?_; refine zw1 ?_; refine zn ?_; refine zf ?_; refine zf ?_; refine zw1 ?_; refine wpO_cons ?_; refine op1_call2 rfl (by (conv => lhs; whnf) <;> rfl) (by (conv => lhs; whnf) <;> rfl) ?_
        have h10 := S.up1 (S.seps (L := [_, _]) (S.up3 (S.up1 h9)))
        refine wpF_mono (L44 (w := conf o b.acc b.deny) (E := seps [pto p1 (.cells [.int .i64 o] 0 false), pto p3 (.cells b.cells 0 false)]) ht (fun k b' H1 As1 h => L43 h) h10) ?_
        rintro v H5 hS5
        obtain ⟨sa, sc, rfl⟩ := S.shape1 hS5
        rw [show (i64s ((t.bs.filter fun y => conf o b.acc b.deny y.2).map (·.1))).length = (t.bs.filter fun y => conf o b.acc b.deny y.2).length from by unfold i64s; rw [List.length_map, List.length_map]] at hS5 ⊢
        have hT := hS
        clear hS
        have hS := S.unseps (S.up2 hS5)
        clear hS5
        refine wpO_cons ?_; refine op1_len rfl rfl ?_; refine wpO_cons ?_; refine op1_gtr rfl rfl rfl ?_; refine zns ?_
        refine wp_dec rfl (fun h11 => ?_) (fun h11 => ?_)
        · refine zsr ?_; refine zw1 ?_; refine zw1 ?_; refine zns ?_; refine wp_ret ?_; refine seq_ret ?_; refine ret_of ?_; refine zr ?_; refine zr ?_; refine rk_nil ?_
          have e : t.opn o c b = (0, 5, t) := by unfold Tb.opn; rw [hx]; exact (if_neg hng).trans ((if_neg hnd).trans ((if_neg (by rw [ha]; decide)).trans (if_pos (by omega))))
          rw [e]
          exact ⟨rfl, S.k4 (S.up3 hS)⟩
        obtain ⟨mo, ma, hS6⟩ := openP (S.up3 hS)
        obtain ⟨kv, RR, hkl, hS7, hbb⟩ := rgLen (S.up1 hS6)
        have hT := hS
        clear hS hS6
        have hS := S.up2 hS7
        clear hS7
        unfold tbC at hS
        refine wp_skip ?_; refine seq_normal ?_; refine wp_seq ?_; refine zsr ?_; refine zw1 ?_; refine zn ?_; refine zf ?_; refine zf ?_; refine zf ?_; refine zh (S.g0 hS) ?_; refine wpO_cons ?_
        refine op1_lenMS rfl rfl (S.up1 hS) ?_
        rw [hkl]
        refine wpO_cons ?_; refine op1_geq rfl rfl rfl ?_; refine zns ?_
        have hc2 := closeP (S.up1 (hbb _ _ (S.dn2 hS)))
        refine wp_dec rfl (fun h12 => ?_) (fun h12 => ?_)
        · refine zsr ?_; refine zw1 ?_; refine zw1 ?_; refine zns ?_; refine wp_ret ?_; refine seq_ret ?_; refine ret_of ?_; refine zr ?_; refine zr ?_; refine rk_nil ?_
          have e : t.opn o c b = (0, 18, t) := by unfold Tb.opn; rw [hx]; exact (if_neg hng).trans ((if_neg hnd).trans ((if_neg (by rw [ha]; decide)).trans ((if_neg (by omega)).trans (if_pos (by omega)))))
          rw [e]
          exact ⟨rfl, S.k4 hc2⟩
        refine wp_skip ?_; refine seq_normal ?_; refine wp_seq ?_; refine wp_regionD ?_; refine zd1 ?_; refine zm ?_; refine zg ?_; refine zg ?_; refine zj (S.g1 hc2) ?_; refine zg ?_; refine zj (S.g2 hc2) ?_; refine zg ?_; refine zj (S.g2 hc2) ?_; refine zg ?_; refine zj (S.g2 hc2) ?_; refine wpD_cons ?_; refine op1_build rfl ?_; refine bk_one (by (conv => lhs; whnf) <;> rfl) rfl rfl rfl ?_; refine bk_one (by (conv => lhs; whnf) <;> rfl) rfl rfl rfl ?_; refine bk_one (by (conv => lhs; whnf) <;> rfl) rfl rfl rfl ?_; refine bk_one (by (conv => lhs; whnf) <;> rfl) rfl rfl rfl ?_; refine bk_one (by (conv => lhs; whnf) <;> rfl) rfl rfl rfl ?_; refine bk_nil ?_; refine wpD_cons ?_; refine op1_call2 rfl (by (conv => lhs; whnf) <;> rfl) (by (conv => lhs; whnf) <;> rfl) ?_
        refine wpF_mono (L45 (x := ⟨o, b.acc, b.deny, b.app, 0, 1⟩) ht hc2) ?_
        rintro _ H6 ⟨rfl, hS8⟩
        refine zd1 ?_; refine zd1 ?_; refine wpD_nil ?_; refine dk_of ?_ ?_; (iterate 4 refine chk_skip ?_); refine zx 11 ?_ ?_; refine zy 3 ?_ ?_; exact zq (S.g1 hc2); exact chkFs_nil; refine chk_skip ?_; refine zx 9 ?_ ?_; refine zy 3 ?_ ?_; exact zq (S.g2 hc2); exact chkFs_nil; refine chk_skip ?_; refine zx 7 ?_ ?_; refine zy 3 ?_ ?_; exact zq (S.g2 hc2); exact chkFs_nil; refine chk_skip ?_; refine zx 5 ?_ ?_; refine zy 3 ?_ ?_; exact zq (S.g2 hc2); exact chkFs_nil; (iterate 4 refine chk_skip ?_); exact chk_end; refine seq_normal ?_; refine wp_ret ?_; refine ret_of ?_; refine zr ?_; refine zr ?_; refine rk_nil ?_
        have e : t.opn o c b = (t.lb + 1, 0, t.addB ⟨o, b.acc, b.deny, b.app, 0, 1⟩) := by unfold Tb.opn; rw [hx]; exact (if_neg hng).trans ((if_neg hnd).trans ((if_neg (by rw [ha]; decide)).trans ((if_neg (by omega)).trans (if_neg (by omega)))))
        rw [e]
        exact ⟨rfl, S.k4 hS8⟩
  · have hng : ¬ badB b := by unfold badB; rintro (h | h | h | h | ⟨h, _⟩) <;> first | omega | (rw [h5] at h; cases h)
    refine op1_skip rfl ?_; (iterate 3 refine zk ?_); refine zu ?_; refine zu ?_; refine zw1 ?_; refine zns ?_; refine wp_false rfl ?_; refine zsr ?_; refine zw1 ?_; refine zn ?_; refine zf ?_; refine zh (S.g0 hS) ?_; refine zw1 ?_; refine wpO_cons ?_
    refine op1_split rfl (fun h7 => ?_) (fun h7 => ?_)
    · refine op1_faddr0 rfl rfl ?_; refine zh (S.g2 hS) ?_; refine wpO_cons ?_; refine op1_and rfl rfl rfl ?_; refine wpO_cons ?_; refine op1_neqI rfl rfl rfl ?_; refine zt ?_; refine zw1 ?_; refine zns ?_
      refine wp_ndec rfl (fun h8 => ?_) (fun h8 => ?_)
      · refine zsr ?_; refine zw1 ?_; refine zw1 ?_; refine zns ?_; refine wp_ret ?_; refine block_ret ?_; refine seq_ret ?_; refine ret_of ?_; refine zr ?_; refine zr ?_; refine rk_nil ?_
        have h9 := hb _ _ x hS
        rw [Tb.setO_self hx] at h9
        have e : t.opn o c b = (0, 16, t) := by unfold Tb.opn; rw [hx]; exact (if_neg hng).trans (if_pos ⟨h7, h8⟩)
        rw [e]
        exact ⟨rfl, S.k3 h9⟩
      have hnd : ¬ (x.dir = true ∧ ¬ bitAnd .i64 b.acc 2 = 0) := fun h => h.2 h8
      refine wp_seq ?_; refine wp_regionD ?_; refine zd1 ?_; refine zm ?_; refine wpD_cons ?_; refine op1_load_6 rfl rfl (by exact S.g0 hS) rfl rfl ?_; refine wpD_cons ?_; refine op1_load_3 rfl rfl (by exact S.g3 hS) rfl rfl ?_; refine zg ?_; refine zj (S.g2 hS) ?_; refine wpD_cons ?_; refine op1_call3 rfl (by (conv => lhs; whnf) <;> rfl) (by (conv => lhs; whnf) <;> rfl) (by (conv => lhs; whnf) <;> rfl) ?_
      refine wpF_mono (L10 hB hc hS) ?_
      rintro _ H4 ⟨rfl, hS4⟩
      have hT := hS
      clear hS
      have hS := hS4
      clear hS4
      have h9 := hb _ _ x hS
      rw [Tb.setO_self hx] at h9
      cases ha : x.allowed c b.acc with
      | false =>
        refine wpD_cons ?_; refine op1_not_f rfl rfl ?_; refine zd1 ?_; refine wpD_nil ?_; refine dk_of ?_ ?_; (iterate 2 refine chk_skip ?_); refine zx 7 ?_ ?_; refine zy 3 ?_ ?_; exact chk_loadN rfl (by exact S.g0 hT) rfl rfl rfl; exact chkFs_nil; refine zx 6 ?_ ?_; refine zy 3 ?_ ?_; exact chk_loadN rfl (by exact S.g3 hT) rfl rfl rfl; exact chkFs_nil; refine chk_skip ?_; refine zx 4 ?_ ?_; refine zy 3 ?_ ?_; exact zq (S.g2 hT); exact chkFs_nil; (iterate 3 refine chk_skip ?_); exact chk_end; refine seq_normal ?_; refine wp_true rfl ?_; refine zsr ?_; refine zw1 ?_; refine zw1 ?_; refine zns ?_; refine wp_ret ?_; refine block_ret ?_; refine seq_ret ?_; refine ret_of ?_; refine zr ?_; refine zr ?_; refine rk_nil ?_
        have e : t.opn o c b = (0, 1, t) := by unfold Tb.opn; rw [hx]; exact (if_neg hng).trans ((if_neg hnd).trans (if_pos ha))
        rw [e]
        exact ⟨rfl, S.k3 h9⟩
      | true =>
        refine wpD_cons ?_; refine op1_not_t rfl rfl ?_; refine zd1 ?_; refine wpD_nil ?_; refine dk_of ?_ ?_; (iterate 2 refine chk_skip ?_); refine zx 7 ?_ ?_; refine zy 3 ?_ ?_; exact chk_loadN rfl (by exact S.g0 hT) rfl rfl rfl; exact chkFs_nil; refine zx 6 ?_ ?_; refine zy 3 ?_ ?_; exact chk_loadN rfl (by exact S.g3 hT) rfl rfl rfl; exact chkFs_nil; refine chk_skip ?_; refine zx 4 ?_ ?_; refine zy 3 ?_ ?_; exact zq (S.g2 hT); exact chkFs_nil; (iterate 3 refine chk_skip ?_); exact chk_end; refine seq_normal ?_; refine wp_false rfl ?_; refine wp_skip ?_; refine block_normal ?_; refine seq_normal ?_; refine zsr ?_; refine wpO_cons ?_; refine op1_mkfunc2 rfl (by (conv => lhs; whnf) <;> rfl) (by (conv => lhs; whnf) <;> rfl) ?_; refine zw1 ?_; refine zns ?_; refine wp_seq ?_; refine zsr ?_; refine zw1 ?_; refine zn ?_; refine zf ?_; refine zf ?_; refine zw1 ?_; refine wpO_cons ?_; refine op1_call2 rfl (by (conv => lhs; whnf) <;> rfl) (by (conv => lhs; whnf) <;> rfl) ?_
        have h10 := S.up1 (S.seps (L := [_, _]) (S.up3 (S.up1 h9)))
        refine wpF_mono (L44 (w := conf o b.acc b.deny) (E := seps [pto p1 (.cells [.int .i64 o] 0 false), pto p3 (.cells b.cells 0 false)]) ht (fun k b' H1 As1 h => L43 h) h10) ?_
        rintro v H5 hS5
        obtain ⟨sa, sc, rfl⟩ := S.shape1 hS5
        rw [show (i64s ((t.bs.filter fun y => conf o b.acc b.deny y.2).map (·.1))).length = (t.bs.filter fun y => conf o b.acc b.deny y.2).length from by unfold i64s; rw [List.length_map, List.length_map]] at hS5 ⊢
        have hT := hS
        clear hS
        have hS := S.unseps (S.up2 hS5)
        clear hS5
        refine wpO_cons ?_; refine op1_len rfl rfl ?_; refine wpO_cons ?_; refine op1_gtr rfl rfl rfl ?_; refine zns ?_
        refine wp_dec rfl (fun h11 => ?_) (fun h11 => ?_)
        · refine zsr ?_; refine zw1 ?_; refine zw1 ?_; refine zns ?_; refine wp_ret ?_; refine seq_ret ?_; refine ret_of ?_; refine zr ?_; refine zr ?_; refine rk_nil ?_
          have e : t.opn o c b = (0, 5, t) := by unfold Tb.opn; rw [hx]; exact (if_neg hng).trans ((if_neg hnd).trans ((if_neg (by rw [ha]; decide)).trans (if_pos (by omega))))
          rw [e]
          exact ⟨rfl, S.k4 (S.up3 hS)⟩
        obtain ⟨mo, ma, hS6⟩ := openP (S.up3 hS)
        obtain ⟨kv, RR, hkl, hS7, hbb⟩ := rgLen (S.up1 hS6)
        have hT := hS
        clear hS hS6
        have hS := S.up2 hS7
        clear hS7
        unfold tbC at hS
        refine wp_skip ?_; refine seq_normal ?_; refine wp_seq ?_; refine zsr ?_; refine zw1 ?_; refine zn ?_; refine zf ?_; refine zf ?_; refine zf ?_; refine zh (S.g0 hS) ?_; refine wpO_cons ?_
        refine op1_lenMS rfl rfl (S.up1 hS) ?_
        rw [hkl]
        refine wpO_cons ?_; refine op1_geq rfl rfl rfl ?_; refine zns ?_
        have hc2 := closeP (S.up1 (hbb _ _ (S.dn2 hS)))
        refine wp_dec rfl (fun h12 => ?_) (fun h12 => ?_)
        · refine zsr ?_; refine zw1 ?_; refine zw1 ?_; refine zns ?_; refine wp_ret ?_; refine seq_ret ?_; refine ret_of ?_; refine zr ?_; refine zr ?_; refine rk_nil ?_
          have e : t.opn o c b = (0, 18, t) := by unfold Tb.opn; rw [hx]; exact (if_neg hng).trans ((if_neg hnd).trans ((if_neg (by rw [ha]; decide)).trans ((if_neg (by omega)).trans (if_pos (by omega)))))
          rw [e]
          exact ⟨rfl, S.k4 hc2⟩
        refine wp_skip ?_; refine seq_normal ?_; refine wp_seq ?_; refine wp_regionD ?_; refine zd1 ?_; refine zm ?_; refine zg ?_; refine zg ?_; refine zj (S.g1 hc2) ?_; refine zg ?_; refine zj (S.g2 hc2) ?_; refine zg ?_; refine zj (S.g2 hc2) ?_; refine zg ?_; refine zj (S.g2 hc2) ?_; refine wpD_cons ?_; refine op1_build rfl ?_; refine bk_one (by (conv => lhs; whnf) <;> rfl) rfl rfl rfl ?_; refine bk_one (by (conv => lhs; whnf) <;> rfl) rfl rfl rfl ?_; refine bk_one (by (conv => lhs; whnf) <;> rfl) rfl rfl rfl ?_; refine bk_one (by (conv => lhs; whnf) <;> rfl) rfl rfl rfl ?_; refine bk_one (by (conv => lhs; whnf) <;> rfl) rfl rfl rfl ?_; refine bk_nil ?_; refine wpD_cons ?_; refine op1_call2 rfl (by (conv => lhs; whnf) <;> rfl) (by (conv => lhs; whnf) <;> rfl) ?_
        refine wpF_mono (L45 (x := ⟨o, b.acc, b.deny, b.app, 0, 1⟩) ht hc2) ?_
        rintro _ H6 ⟨rfl, hS8⟩
        refine zd1 ?_; refine zd1 ?_; refine wpD_nil ?_; refine dk_of ?_ ?_; (iterate 4 refine chk_skip ?_); refine zx 11 ?_ ?_; refine zy 3 ?_ ?_; exact zq (S.g1 hc2); exact chkFs_nil; refine chk_skip ?_; refine zx 9 ?_ ?_; refine zy 3 ?_ ?_; exact zq (S.g2 hc2); exact chkFs_nil; refine chk_skip ?_; refine zx 7 ?_ ?_; refine zy 3 ?_ ?_; exact zq (S.g2 hc2); exact chkFs_nil; refine chk_skip ?_; refine zx 5 ?_ ?_; refine zy 3 ?_ ?_; exact zq (S.g2 hc2); exact chkFs_nil; (iterate 4 refine chk_skip ?_); exact chk_end; refine seq_normal ?_; refine wp_ret ?_; refine ret_of ?_; refine zr ?_; refine zr ?_; refine rk_nil ?_
        have e : t.opn o c b = (t.lb + 1, 0, t.addB ⟨o, b.acc, b.deny, b.app, 0, 1⟩) := by unfold Tb.opn; rw [hx]; exact (if_neg hng).trans ((if_neg hnd).trans ((if_neg (by rw [ha]; decide)).trans ((if_neg (by omega)).trans (if_neg (by omega)))))
        rw [e]
        exact ⟨rfl, S.k4 hS8⟩
    · have hnd : ¬ (x.dir = true ∧ ¬ bitAnd .i64 b.acc 2 = 0) := fun h => by rw [h7] at h; cases h.1
      refine op1_skip rfl ?_; (iterate 3 refine zk ?_); refine zu ?_; refine zw1 ?_; refine zns ?_; refine wp_false rfl ?_; refine wp_seq ?_; refine wp_regionD ?_; refine zd1 ?_; refine zm ?_; refine wpD_cons ?_; refine op1_load_6 rfl rfl (by exact S.g0 hS) rfl rfl ?_; refine wpD_cons ?_; refine op1_load_3 rfl rfl (by exact S.g3 hS) rfl rfl ?_; refine zg ?_; refine zj (S.g2 hS) ?_; refine wpD_cons ?_; refine op1_call3 rfl (by (conv => lhs; whnf) <;> rfl) (by (conv => lhs; whnf) <;> rfl) (by (conv => lhs; whnf) <;> rfl) ?_
      refine wpF_mono (L10 hB hc hS) ?_
      rintro _ H4 ⟨rfl, hS4⟩
      have hT := hS
      clear hS
      have hS := hS4
      clear hS4
      have h9 := hb _ _ x hS
      rw [Tb.setO_self hx] at h9
      cases ha : x.allowed c b.acc with
      | false =>
        refine wpD_cons ?_; refine op1_not_f rfl rfl ?_; refine zd1 ?_; refine wpD_nil ?_; refine dk_of ?_ ?_; (iterate 2 refine chk_skip ?_); refine zx 7 ?_ ?_; refine zy 3 ?_ ?_; exact chk_loadN rfl (by exact S.g0 hT) rfl rfl rfl; exact chkFs_nil; refine zx 6 ?_ ?_; refine zy 3 ?_ ?_; exact chk_loadN rfl (by exact S.g3 hT) rfl rfl rfl; exact chkFs_nil; refine chk_skip ?_; refine zx 4 ?_ ?_; refine zy 3 ?_ ?_; exact zq (S.g2 hT); exact chkFs_nil; (iterate 3 refine chk_skip ?_); exact chk_end; refine seq_normal ?_; refine wp_true rfl ?_; refine zsr ?_; refine zw1 ?_; refine zw1 ?_; refine zns ?_; refine wp_ret ?_; refine block_ret ?_; refine seq_ret ?_; refine ret_of ?_; refine zr ?_; refine zr ?_; refine rk_nil ?_
        have e : t.opn o c b = (0, 1, t) := by unfold Tb.opn; rw [hx]; exact (if_neg hng).trans ((if_neg hnd).trans (if_pos ha))
        rw [e]
        exact ⟨rfl, S.k3 h9⟩
      | true =>
        refine wpD_cons ?_; refine op1_not_t rfl rfl ?_; refine zd1 ?_; refine wpD_nil ?_; refine dk_of ?_ ?_; (iterate 2 refine chk_skip ?_); refine zx 7 ?_ ?_; refine zy 3 ?_ ?_; exact chk_loadN rfl (by exact S.g0 hT) rfl rfl rfl; exact chkFs_nil; refine zx 6 ?_ ?_; refine zy 3 ?_ ?_; exact chk_loadN rfl (by exact S.g3 hT) rfl rfl rfl; exact chkFs_nil; refine chk_skip ?_; refine zx 4 ?_ ?_; refine zy 3 ?_ ?_; exact zq (S.g2 hT); exact chkFs_nil; (iterate 3 refine chk_skip ?_); exact chk_end; refine seq_normal ?_; refine wp_false rfl ?_; refine wp_skip ?_; refine block_normal ?_; refine seq_normal ?_; refine zsr ?_; refine wpO_cons ?_; refine op1_mkfunc2 rfl (by (conv => lhs; whnf) <;> rfl) (by (conv => lhs; whnf) <;> rfl) ?_; refine zw1 ?_; refine zns ?_; refine wp_seq ?_; refine zsr ?_; refine zw1 ?_; refine zn ?_; refine zf ?_; refine zf ?_; refine zw1 ?_; refine wpO_cons ?_; refine op1_call2 rfl (by (conv => lhs; whnf) <;> rfl) (by (conv => lhs; whnf) <;> rfl) ?_
        have h10 := S.up1 (S.seps (L := [_, _]) (S.up3 (S.up1 h9)))
        refine wpF_mono (L44 (w := conf o b.acc b.deny) (E := seps [pto p1 (.cells [.int .i64 o] 0 false), pto p3 (.cells b.cells 0 false)]) ht (fun k b' H1 As1 h => L43 h) h10) ?_
        rintro v H5 hS5
        obtain ⟨sa, sc, rfl⟩ := S.shape1 hS5
        rw [show (i64s ((t.bs.filter fun y => conf o b.acc b.deny y.2).map (·.1))).length = (t.bs.filter fun y => conf o b.acc b.deny y.2).length from by unfold i64s; rw [List.length_map, List.length_map]] at hS5 ⊢
        have hT := hS
        clear hS
        have hS := S.unseps (S.up2 hS5)
        clear hS5
        refine wpO_cons ?_; refine op1_len rfl rfl ?_; refine wpO_cons ?_; refine op1_gtr rfl rfl rfl ?_; refine zns ?_
        refine wp_dec rfl (fun h11 => ?_) (fun h11 => ?_)
        · refine zsr ?_; refine zw1 ?_; refine zw1 ?_; refine zns ?_; refine wp_ret ?_; refine seq_ret ?_; refine ret_of ?_; refine zr ?_; refine zr ?_; refine rk_nil ?_
          have e : t.opn o c b = (0, 5, t) := by unfold Tb.opn; rw [hx]; exact (if_neg hng).trans ((if_neg hnd).trans ((if_neg (by rw [ha]; decide)).trans (if_pos (by omega))))
          rw [e]
          exact ⟨rfl, S.k4 (S.up3 hS)⟩
        obtain ⟨mo, ma, hS6⟩ := openP (S.up3 hS)
        obtain ⟨kv, RR, hkl, hS7, hbb⟩ := rgLen (S.up1 hS6)
        have hT := hS
        clear hS hS6
        have hS := S.up2 hS7
        clear hS7
        unfold tbC at hS
        refine wp_skip ?_; refine seq_normal ?_; refine wp_seq ?_; refine zsr ?_; refine zw1 ?_; refine zn ?_; refine zf ?_; refine zf ?_; refine zf ?_; refine zh (S.g0 hS) ?_; refine wpO_cons ?_
        refine op1_lenMS rfl rfl (S.up1 hS) ?_
        rw [hkl]
        refine wpO_cons ?_; refine op1_geq rfl rfl rfl ?_; refine zns ?_
        have hc2 := closeP (S.up1 (hbb _ _ (S.dn2 hS)))
        refine wp_dec rfl (fun h12 => ?_) (fun h12 => ?_)
        · refine zsr ?_; refine zw1 ?_; refine zw1 ?_; refine zns ?_; refine wp_ret ?_; refine seq_ret ?_; refine ret_of ?_; refine zr ?_; refine zr ?_; refine rk_nil ?_
          have e : t.opn o c b = (0, 18, t) := by unfold Tb.opn; rw [hx]; exact (if_neg hng).trans ((if_neg hnd).trans ((if_neg (by rw [ha]; decide)).trans ((if_neg (by omega)).trans (if_pos (by omega)))))
          rw [e]
          exact ⟨rfl, S.k4 hc2⟩
        refine wp_skip ?_; refine seq_normal ?_; refine wp_seq ?_; refine wp_regionD ?_; refine zd1 ?_; refine zm ?_; refine zg ?_; refine zg ?_; refine zj (S.g1 hc2) ?_; refine zg ?_; refine zj (S.g2 hc2) ?_; refine zg ?_; refine zj (S.g2 hc2) ?_; refine zg ?_; refine zj (S.g2 hc2) ?_; refine wpD_cons ?_; refine op1_build rfl ?_; refine bk_one (by (conv => lhs; whnf) <;> rfl) rfl rfl rfl ?_; refine bk_one (by (conv => lhs; whnf) <;> rfl) rfl rfl rfl ?_; refine bk_one (by (conv => lhs; whnf) <;> rfl) rfl rfl rfl ?_; refine bk_one (by (conv => lhs; whnf) <;> rfl) rfl rfl rfl ?_; refine bk_one (by (conv => lhs; whnf) <;> rfl) rfl rfl rfl ?_; refine bk_nil ?_; refine wpD_cons ?_; refine op1_call2 rfl (by (conv => lhs; whnf) <;> rfl) (by (conv => lhs; whnf) <;> rfl) ?_
        refine wpF_mono (L45 (x := ⟨o, b.acc, b.deny, b.app, 0, 1⟩) ht hc2) ?_
        rintro _ H6 ⟨rfl, hS8⟩
        refine zd1 ?_; refine zd1 ?_; refine wpD_nil ?_; refine dk_of ?_ ?_; (iterate 4 refine chk_skip ?_); refine zx 11 ?_ ?_; refine zy 3 ?_ ?_; exact zq (S.g1 hc2); exact chkFs_nil; refine chk_skip ?_; refine zx 9 ?_ ?_; refine zy 3 ?_ ?_; exact zq (S.g2 hc2); exact chkFs_nil; refine chk_skip ?_; refine zx 7 ?_ ?_; refine zy 3 ?_ ?_; exact zq (S.g2 hc2); exact chkFs_nil; refine chk_skip ?_; refine zx 5 ?_ ?_; refine zy 3 ?_ ?_; exact zq (S.g2 hc2); exact chkFs_nil; (iterate 4 refine chk_skip ?_); exact chk_end; refine seq_normal ?_; refine wp_ret ?_; refine ret_of ?_; refine zr ?_; refine zr ?_; refine rk_nil ?_
        have e : t.opn o c b = (t.lb + 1, 0, t.addB ⟨o, b.acc, b.deny, b.app, 0, 1⟩) := by unfold Tb.opn; rw [hx]; exact (if_neg hng).trans ((if_neg hnd).trans ((if_neg (by rw [ha]; decide)).trans ((if_neg (by omega)).trans (if_neg (by omega)))))
        rw [e]
        exact ⟨rfl, S.k4 hS8⟩
end
end Go.E.At
/- Attributes: Write. -/
namespace Go.E.At
open Go Go.E Go.Proofs.YtgbnjcmjioiclaaDoor.base Go.Proofs.YtgbnjcmjioiclaaDoor Go.Proofs
set_option linter.unusedVariables false
set_option linter.unusedSimpArgs false
set_option maxRecDepth 100000
section
variable {B H : AHeap} {As : List Asn} {t : Tb} {p : Nat}
theorem L15 {id n : Int} (hn : -9223372036854775808 ≤ n ∧ n ≤ 9223372036854775807) (ht : TbOk t) (hS : S B H (repP p t :: As)) : wpF C 15 [ptrB p, .int .i64 id, .int .i64 n] H fun v H' => v = .tuple ⟨[.int .i64 (t.write id n).1, .int .i64 (t.write id n).2.1, .int .i64 (t.write id n).2.2.1]⟩ ∧ S B H' (repP p (t.write id n).2.2.2 :: As) := by
  refine wpF_ofW o15 rfl rfl ?_
  refine zsr ?_; refine zw1 ?_; refine zw1 ?_; refine zw1 ?_; refine zns ?_; refine zsr ?_; refine zw1 ?_; refine zw1 ?_; refine zw1 ?_; refine wpO_cons ?_; refine op1_call4 rfl (by (conv => lhs; whnf) <;> rfl) (by (conv => lhs; whnf) <;> rfl) (by (conv => lhs; whnf) <;> rfl) (by (conv => lhs; whnf) <;> rfl) ?_
  refine wpF_mono (L46 (id := id) ht hS) ?_
  rintro _ H3 (⟨e, he, hne, rfl, hS3⟩ | ⟨k, x, pb, pa, R, hx, hxo, hacc, hn0, rfl, hS3, hb⟩)
  · refine zw1 ?_; refine wpO_cons ?_; refine op1_extract rfl rfl rfl ?_; refine wpO_cons ?_; refine op1_extract rfl rfl rfl ?_; refine wpO_cons ?_; refine op1_extract rfl rfl rfl ?_; refine zw1 ?_; refine zw1 ?_; refine zw1 ?_; refine zns ?_; refine wp_seq ?_; refine zsr ?_; refine zw1 ?_; refine wpO_cons ?_; refine op1_neqI rfl rfl rfl ?_; refine zns ?_
    refine wp_ndec rfl (fun h => ?_) (fun h => absurd h hne)
    refine zsr ?_; (iterate 4 refine zw1 ?_); refine zns ?_; refine wp_ret ?_; refine seq_ret ?_; refine ret_of ?_; refine zr ?_; refine zr ?_; refine zr ?_; refine rk_nil ?_
    have e : t.write id n = (0, 0, e, t) := by unfold Tb.write; rw [he]; cases hx : gGet t.bs id with | none => rfl | some k => (rw [hx] at he; simp only [] at he ⊢; split at he <;> simp_all)
    rw [e]
    exact ⟨rfl, hS3⟩
  have hT := hS
  clear hS
  have hS := hS3
  clear hS3
  unfold ptrB
  unfold Bk.cells Ob.cells at hS
  have hoR := ht.osR (k.obj, x) (gGet_mem hxo)
  have hkR := ht.bsR (id, k) (gGet_mem hx)
  have h1 : 0 ≤ x.size ∧ x.size ≤ 16384 := hoR.size
  have h2 : 0 ≤ k.off ∧ k.off ≤ 16384 := hkR.off
  refine zw1 ?_; refine wpO_cons ?_; refine op1_extract rfl rfl rfl ?_; refine wpO_cons ?_; refine op1_extract rfl rfl rfl ?_; refine wpO_cons ?_; refine op1_extract rfl rfl rfl ?_; refine zw1 ?_; refine zw1 ?_; refine zw1 ?_; refine zns ?_; refine wp_seq ?_; refine zsr ?_; refine zw1 ?_; refine wpO_cons ?_; refine op1_neqI_s rfl rfl rfl ?_; refine zns ?_; refine wp_false rfl ?_; refine wp_skip ?_; refine seq_normal ?_; refine zsr ?_; refine zw1 ?_; refine zn ?_; refine zf ?_; refine zh (S.g0 hS) ?_; refine zw1 ?_; refine zns ?_; refine wp_seq ?_; refine zsr ?_; refine zw1 ?_; refine zn ?_; refine zf ?_; refine zh (S.g0 hS) ?_; refine zns ?_
  cases happ : k.app with
  | true =>
    refine wp_true rfl ?_; refine wp_region ?_; refine zw1 ?_; refine zn ?_; refine zf ?_; refine zh (S.g1 hS) ?_; refine zw1 ?_; refine zns ?_; refine zsr ?_; refine zw1 ?_; refine zw1 ?_; refine wpO_cons ?_; refine op1_sub rfl rfl rfl (by exact wrap_i64 (by omega) (by omega)) ?_; refine wpO_cons ?_; refine op1_min rfl rfl rfl ?_; refine wpO_cons ?_; refine op1_max rfl rfl rfl ?_; refine zw1 ?_; refine zns ?_; refine wp_seq ?_; refine zsr ?_; refine zw1 ?_; refine wpO_cons ?_; refine op1_gtr rfl rfl rfl ?_; refine zw1 ?_; refine wpO_cons ?_
    refine op1_dec rfl (fun h3 => ?_) (fun h3 => ?_)
    · refine op1_mov rfl (by (conv => lhs; whnf) <;> rfl) ?_; refine wpO_cons ?_; refine op1_eqlI rfl rfl rfl ?_; refine zt ?_; refine zns ?_
      refine wp_dec rfl (fun h4 => ?_) (fun h4 => ?_)
      · refine zsr ?_; refine zw1 ?_; refine zw1 ?_; refine zw1 ?_; refine zns ?_; refine wp_ret ?_; refine seq_ret ?_; refine ret_of ?_; refine zr ?_; refine zr ?_; refine zr ?_; refine rk_nil ?_
        have h9 := hb _ _ k x hS
        rw [Tb.set2_self hx hxo] at h9
        have e : t.write id n = (0, 0, 25, t) := by unfold Tb.write; rw [hx]; simp only [hxo]; rw [if_neg hacc, if_neg (by omega), happ, (show (if (true : Bool) = true then x.size else k.off) = x.size from rfl)]; exact if_pos ⟨h3, h4⟩
        rw [e]
        exact ⟨rfl, h9⟩
      have hns : ¬ (0 < n ∧ max (min n (16384 - x.size)) 0 = 0) := fun h => h4 h.2
      refine wp_skip ?_; refine seq_normal ?_; refine zsr ?_; refine zw1 ?_; refine zw1 ?_; refine zw1 ?_; refine wpO_cons ?_; refine op1_add rfl rfl rfl (by exact wrap_i64 (by omega) (by omega)) ?_; refine zn ?_; refine zf ?_; refine wpO_cons ?_; (refine op1_store1S rfl rfl (by (conv => lhs; whnf) <;> rfl) rfl rfl (S.up0 hS) rfl ?_; intro H1 hS; replace hS := S.dn0 hS); refine zns ?_; refine wp_seq ?_; refine wp_regionD ?_; refine zd1 ?_; refine zd1 ?_; refine zm ?_; refine zg ?_; refine zj (S.g1 hS) ?_; refine zd1 ?_; refine zm ?_; refine zg ?_; refine zj (S.g0 hS) ?_; refine wpD_cons ?_; refine op1_max rfl rfl rfl ?_; refine zm ?_; refine zg ?_; refine wpD_cons ?_; (refine op1_store1S rfl rfl (by (conv => lhs; whnf) <;> rfl) rfl rfl (S.up1 hS) rfl ?_; intro H2 hS; replace hS := S.dn1 hS); refine wpD_nil ?_; refine dk_of ?_ ?_; (iterate 4 refine chk_skip ?_); refine zx 9 ?_ ?_; refine zy 1 ?_ ?_; exact chk_load rfl (by exact S.g1 (by assumption)) rfl rfl; exact chkFs_nil; (iterate 3 refine chk_skip ?_); refine zx 5 ?_ ?_; refine zy 1 ?_ ?_; exact chk_load rfl (by exact S.g0 (by assumption)) rfl rfl; exact chkFs_nil; (iterate 4 refine chk_skip ?_); exact chk_end; refine seq_normal ?_; refine zsr ?_; (iterate 5 refine zw1 ?_); refine zns ?_; refine wp_ret ?_; refine ret_of ?_; refine zr ?_; refine zr ?_; refine zr ?_; refine rk_nil ?_
      have h9 := hb _ _ { k with off := x.size + max (min n (16384 - x.size)) 0 } { x with size := max x.size (x.size + max (min n (16384 - x.size)) 0) } hS
      have e : t.write id n = (x.size, max (min n (16384 - x.size)) 0, 0, t.set2 id { k with off := x.size + max (min n (16384 - x.size)) 0 } k.obj { x with size := max x.size (x.size + max (min n (16384 - x.size)) 0) }) := by unfold Tb.write; rw [hx]; simp only [hxo]; rw [if_neg hacc, if_neg (by omega), happ, (show (if (true : Bool) = true then x.size else k.off) = x.size from rfl)]; exact if_neg hns
      rw [e]
      exact ⟨rfl, h9⟩
    · have hns : ¬ (0 < n ∧ max (min n (16384 - x.size)) 0 = 0) := fun h => h3 h.1
      refine op1_skip rfl ?_; refine zk ?_; refine zu ?_; refine zns ?_; refine wp_false rfl ?_; refine wp_skip ?_; refine seq_normal ?_; refine zsr ?_; refine zw1 ?_; refine zw1 ?_; refine zw1 ?_; refine wpO_cons ?_; refine op1_add rfl rfl rfl (by exact wrap_i64 (by omega) (by omega)) ?_; refine zn ?_; refine zf ?_; refine wpO_cons ?_; (refine op1_store1S rfl rfl (by (conv => lhs; whnf) <;> rfl) rfl rfl (S.up0 hS) rfl ?_; intro H1 hS; replace hS := S.dn0 hS); refine zns ?_; refine wp_seq ?_; refine wp_regionD ?_; refine zd1 ?_; refine zd1 ?_; refine zm ?_; refine zg ?_; refine zj (S.g1 hS) ?_; refine zd1 ?_; refine zm ?_; refine zg ?_; refine zj (S.g0 hS) ?_; refine wpD_cons ?_; refine op1_max rfl rfl rfl ?_; refine zm ?_; refine zg ?_; refine wpD_cons ?_; (refine op1_store1S rfl rfl (by (conv => lhs; whnf) <;> rfl) rfl rfl (S.up1 hS) rfl ?_; intro H2 hS; replace hS := S.dn1 hS); refine wpD_nil ?_; refine dk_of ?_ ?_; (iterate 4 refine chk_skip ?_); refine zx 9 ?_ ?_; refine zy 1 ?_ ?_; exact chk_load rfl (by exact S.g1 (by assumption)) rfl rfl; exact chkFs_nil; (iterate 3 refine chk_skip ?_); refine zx 5 ?_ ?_; refine zy 1 ?_ ?_; exact chk_load rfl (by exact S.g0 (by assumption)) rfl rfl; exact chkFs_nil; (iterate 4 refine chk_skip ?_); exact chk_end; refine seq_normal ?_; refine zsr ?_; (iterate 5 refine zw1 ?_); refine zns ?_; refine wp_ret ?_; refine ret_of ?_; refine zr ?_; refine zr ?_; refine zr ?_; refine rk_nil ?_
      have h9 := hb _ _ { k with off := x.size + max (min n (16384 - x.size)) 0 } { x with size := max x.size (x.size + max (min n (16384 - x.size)) 0) } hS
      have e : t.write id n = (x.size, max (min n (16384 - x.size)) 0, 0, t.set2 id { k with off := x.size + max (min n (16384 - x.size)) 0 } k.obj { x with size := max x.size (x.size + max (min n (16384 - x.size)) 0) }) := by unfold Tb.write; rw [hx]; simp only [hxo]; rw [if_neg hacc, if_neg (by omega), happ, (show (if (true : Bool) = true then x.size else k.off) = x.size from rfl)]; exact if_neg hns
      rw [e]
      exact ⟨rfl, h9⟩
  | false =>
    refine wp_false rfl ?_; refine wp_skip ?_; refine seq_normal ?_; refine zsr ?_; refine zw1 ?_; refine zw1 ?_; refine wpO_cons ?_; refine op1_sub rfl rfl rfl (by exact wrap_i64 (by omega) (by omega)) ?_; refine wpO_cons ?_; refine op1_min rfl rfl rfl ?_; refine wpO_cons ?_; refine op1_max rfl rfl rfl ?_; refine zw1 ?_; refine zns ?_; refine wp_seq ?_; refine zsr ?_; refine zw1 ?_; refine wpO_cons ?_; refine op1_gtr rfl rfl rfl ?_; refine zw1 ?_; refine wpO_cons ?_
    refine op1_dec rfl (fun h3 => ?_) (fun h3 => ?_)
    · refine op1_mov rfl (by (conv => lhs; whnf) <;> rfl) ?_; refine wpO_cons ?_; refine op1_eqlI rfl rfl rfl ?_; refine zt ?_; refine zns ?_
      refine wp_dec rfl (fun h4 => ?_) (fun h4 => ?_)
      · refine zsr ?_; refine zw1 ?_; refine zw1 ?_; refine zw1 ?_; refine zns ?_; refine wp_ret ?_; refine seq_ret ?_; refine ret_of ?_; refine zr ?_; refine zr ?_; refine zr ?_; refine rk_nil ?_
        have h9 := hb _ _ k x hS
        rw [Tb.set2_self hx hxo] at h9
        have e : t.write id n = (0, 0, 25, t) := by unfold Tb.write; rw [hx]; simp only [hxo]; rw [if_neg hacc, if_neg (by omega), happ, (show (if (false : Bool) = true then x.size else k.off) = k.off from rfl)]; exact if_pos ⟨h3, h4⟩
        rw [e]
        exact ⟨rfl, h9⟩
      have hns : ¬ (0 < n ∧ max (min n (16384 - k.off)) 0 = 0) := fun h => h4 h.2
      refine wp_skip ?_; refine seq_normal ?_; refine zsr ?_; refine zw1 ?_; refine zw1 ?_; refine zw1 ?_; refine wpO_cons ?_; refine op1_add rfl rfl rfl (by exact wrap_i64 (by omega) (by omega)) ?_; refine zn ?_; refine zf ?_; refine wpO_cons ?_; (refine op1_store1S rfl rfl (by (conv => lhs; whnf) <;> rfl) rfl rfl (S.up0 hS) rfl ?_; intro H1 hS; replace hS := S.dn0 hS); refine zns ?_; refine wp_seq ?_; refine wp_regionD ?_; refine zd1 ?_; refine zd1 ?_; refine zm ?_; refine zg ?_; refine zj (S.g1 hS) ?_; refine zd1 ?_; refine zm ?_; refine zg ?_; refine zj (S.g0 hS) ?_; refine wpD_cons ?_; refine op1_max rfl rfl rfl ?_; refine zm ?_; refine zg ?_; refine wpD_cons ?_; (refine op1_store1S rfl rfl (by (conv => lhs; whnf) <;> rfl) rfl rfl (S.up1 hS) rfl ?_; intro H2 hS; replace hS := S.dn1 hS); refine wpD_nil ?_; refine dk_of ?_ ?_; (iterate 4 refine chk_skip ?_); refine zx 9 ?_ ?_; refine zy 1 ?_ ?_; exact chk_load rfl (by exact S.g1 (by assumption)) rfl rfl; exact chkFs_nil; (iterate 3 refine chk_skip ?_); refine zx 5 ?_ ?_; refine zy 1 ?_ ?_; exact chk_load rfl (by exact S.g0 (by assumption)) rfl rfl; exact chkFs_nil; (iterate 4 refine chk_skip ?_); exact chk_end; refine seq_normal ?_; refine zsr ?_; (iterate 5 refine zw1 ?_); refine zns ?_; refine wp_ret ?_; refine ret_of ?_; refine zr ?_; refine zr ?_; refine zr ?_; refine rk_nil ?_
      have h9 := hb _ _ { k with off := k.off + max (min n (16384 - k.off)) 0 } { x with size := max x.size (k.off + max (min n (16384 - k.off)) 0) } hS
      have e : t.write id n = (k.off, max (min n (16384 - k.off)) 0, 0, t.set2 id { k with off := k.off + max (min n (16384 - k.off)) 0 } k.obj { x with size := max x.size (k.off + max (min n (16384 - k.off)) 0) }) := by unfold Tb.write; rw [hx]; simp only [hxo]; rw [if_neg hacc, if_neg (by omega), happ, (show (if (false : Bool) = true then x.size else k.off) = k.off from rfl)]; exact if_neg hns
      rw [e]
      exact ⟨rfl, h9⟩
    · have hns : ¬ (0 < n ∧ max (min n (16384 - k.off)) 0 = 0) := fun h => h3 h.1
      refine op1_skip rfl ?_; refine zk ?_; refine zu ?_; refine zns ?_; refine wp_false rfl ?_; refine wp_skip ?_; refine seq_normal ?_; refine zsr ?_; refine zw1 ?_; refine zw1 ?_; refine zw1 ?_; refine wpO_cons ?_; refine op1_add rfl rfl rfl (by exact wrap_i64 (by omega) (by omega)) ?_; refine zn ?_; refine zf ?_; refine wpO_cons ?_; (refine op1_store1S rfl rfl (by (conv => lhs; whnf) <;> rfl) rfl rfl (S.up0 hS) rfl ?_; intro H1 hS; replace hS := S.dn0 hS); refine zns ?_; refine wp_seq ?_; refine wp_regionD ?_; refine zd1 ?_; refine zd1 ?_; refine zm ?_; refine zg ?_; refine zj (S.g1 hS) ?_; refine zd1 ?_; refine zm ?_; refine zg ?_; refine zj (S.g0 hS) ?_; refine wpD_cons ?_; refine op1_max rfl rfl rfl ?_; refine zm ?_; refine zg ?_; refine wpD_cons ?_; (refine op1_store1S rfl rfl (by (conv => lhs; whnf) <;> rfl) rfl rfl (S.up1 hS) rfl ?_; intro H2 hS; replace hS := S.dn1 hS); refine wpD_nil ?_; refine dk_of ?_ ?_; (iterate 4 refine chk_skip ?_); refine zx 9 ?_ ?_; refine zy 1 ?_ ?_; exact chk_load rfl (by exact S.g1 (by assumption)) rfl rfl; exact chkFs_nil; (iterate 3 refine chk_skip ?_); refine zx 5 ?_ ?_; refine zy 1 ?_ ?_; exact chk_load rfl (by exact S.g0 (by assumption)) rfl rfl; exact chkFs_nil; (iterate 4 refine chk_skip ?_); exact chk_end; refine seq_normal ?_; refine zsr ?_; (iterate 5 refine zw1 ?_); refine zns ?_; refine wp_ret ?_; refine ret_of ?_; refine zr ?_; refine zr ?_; refine zr ?_; refine rk_nil ?_
      have h9 := hb _ _ { k with off := k.off + max (min n (16384 - k.off)) 0 } { x with size := max x.size (k.off + max (min n (16384 - k.off)) 0) } hS
      have e : t.write id n = (k.off, max (min n (16384 - k.off)) 0, 0, t.set2 id { k with off := k.off + max (min n (16384 - k.off)) 0 } k.obj { x with size := max x.size (k.off + max (min n (16384 - k.off)) 0) }) := by unfold Tb.write; rw [hx]; simp only [hxo]; rw [if_neg hacc, if_neg (by omega), happ, (show (if (false : Bool) = true then x.size else k.off) = k.off from rfl)]; exact if_neg hns
      rw [e]
      exact ⟨rfl, h9⟩
end
end Go.E.At
/- Attributes: two appending blocks. -/
namespace Go.E.At
open Go Go.E Go.ChangeShapes Go.WideShapes Go.ChangeAt Go.RowKit Go.Proofs.YtgbnjcmjioiclaaDoor.base Go.Proofs.YtgbnjcmjioiclaaDoor Go.Proofs
set_option linter.unusedVariables false
set_option linter.unusedSimpArgs false
set_option maxRecDepth 100000
def ap (s : Int) : Ob := ⟨384, 0, 0, s, 0, false⟩
def bkA (o : Int) : Bk := ⟨1, 2, 0, true, o, 1⟩
def tb0 : Tb := ⟨[], 0, [], 0⟩
def tb1 (s : Int) : Tb := ⟨[], 0, [(1, ap s)], 1⟩
def tb2 (s : Int) : Tb := ⟨[(1, bkA 0)], 1, [(1, ap s)], 1⟩
def tb3 (s x y : Int) : Tb := ⟨[(1, bkA x), (2, bkA y)], 2, [(1, ap s)], 1⟩
def cr0 : Cr := ⟨0, 0, [], none, 0⟩
def bk2 : Bk := ⟨0, 2, 0, true, 0, 0⟩
theorem create0 (s : Int) : tb0.create (ap s) = if s < 0 ∨ s > 16384 then (0, 34, tb0) else (1, 0, tb1 s) := by
  unfold Tb.create badA ap tb0 tb1
  simp [Tb.addO, ap]
theorem and22 : bitAnd .i64 2 2 = 2 := by kernel_rfl
theorem and20 : bitAnd .i64 2 0 = 0 := by kernel_rfl
theorem and02 : bitAnd .i64 0 2 = 0 := by kernel_rfl
theorem and24 : bitAnd .i64 2 4 = 0 := by kernel_rfl
theorem bk2ok : ¬ badB bk2 := by unfold badB bk2; simp [and22]
theorem opn1 (s : Int) : (tb1 s).opn 1 cr0 bk2 = (1, 0, tb2 s) := by
  unfold Tb.opn
  simp only [tb1, gGet, if_true]
  rw [if_neg bk2ok]
  simp [ap, Ob.allowed, cr0, bk2, Tb.addB, tb2, bkA, okBits, and24]
theorem opn2 (s : Int) : (tb2 s).opn 1 cr0 bk2 = (2, 0, tb3 s 0 0) := by
  unfold Tb.opn
  simp only [tb2, gGet, if_true]
  rw [if_neg bk2ok]
  simp [ap, Ob.allowed, cr0, bk2, Tb.addB, tb3, bkA, okBits, conf, and20, and02, and24]
theorem wr1 {s x y n : Int} (hn : 0 ≤ n) (hs : 0 ≤ s ∧ s ≤ 16384) : (tb3 s x y).write 1 n = if 0 < n ∧ s = 16384 then (0, 0, 25, tb3 s x y) else (s, min n (16384 - s), 0, tb3 (s + min n (16384 - s)) (s + min n (16384 - s)) y) := by
  have e : max (min n (16384 - s)) 0 = min n (16384 - s) := by omega
  have e2 : max s (s + min n (16384 - s)) = s + min n (16384 - s) := by omega
  have e3 : (0 < n ∧ min n (16384 - s) = 0) ↔ (0 < n ∧ s = 16384) := by omega
  unfold Tb.write
  simp [tb3, gGet, bkA, and22, ap, e, e2, e3, Tb.set2, gSet, Int.not_lt.2 hn]
theorem wr2 {s x y n : Int} (hn : 0 ≤ n) (hs : 0 ≤ s ∧ s ≤ 16384) : (tb3 s x y).write 2 n = if 0 < n ∧ s = 16384 then (0, 0, 25, tb3 s x y) else (s, min n (16384 - s), 0, tb3 (s + min n (16384 - s)) x (s + min n (16384 - s))) := by
  have e : max (min n (16384 - s)) 0 = min n (16384 - s) := by omega
  have e2 : max s (s + min n (16384 - s)) = s + min n (16384 - s) := by omega
  have e3 : (0 < n ∧ min n (16384 - s) = 0) ↔ (0 < n ∧ s = 16384) := by omega
  unfold Tb.write
  simp [tb3, gGet, bkA, and22, ap, e, e2, e3, Tb.set2, gSet, Int.not_lt.2 hn]
theorem ok0 : TbOk tb0 := by constructor <;> simp [tb0]
theorem apR {s : Int} (hs : 0 ≤ s ∧ s ≤ 16384) : ObR (ap s) := by constructor <;> simp [ap] <;> omega
theorem bkR {x : Int} (hs : 0 ≤ x ∧ x ≤ 16384) : BkR (bkA x) := by constructor <;> simp [bkA] <;> omega
theorem ok1 {s : Int} (hs : 0 ≤ s ∧ s ≤ 16384) : TbOk (tb1 s) := by constructor <;> simp [tb1, apR hs]
theorem bk0R : BkR ⟨1, 2, 0, true, 0, 1⟩ := by constructor <;> decide
theorem ok2 {s : Int} (hs : 0 ≤ s ∧ s ≤ 16384) : TbOk (tb2 s) := by constructor <;> simp [tb2, apR hs, bk0R, gGet, bkA]
theorem ok3 {s x y : Int} (hs : 0 ≤ s ∧ s ≤ 16384) (hx : 0 ≤ x ∧ x ≤ 16384) (hy : 0 ≤ y ∧ y ≤ 16384) : TbOk (tb3 s x y) := by
  have h1 := bkR hx
  have h2 := bkR hy
  unfold bkA at h1 h2
  constructor <;> simp [tb3, apR hs, h1, h2, gGet, bkA]
theorem cr0ok (B : AHeap) : CrOk B cr0 [] := ⟨by decide, .nil, fun _ h => by cases h⟩
theorem L4 {B : AHeap} {s : Int} {a : Option Addr} {l : List Int} {c : Nat} {r : List Nat} (hB : Glob objs B) (hs : I64 s) (hl : l.length ≤ 9223372036854775807) (hd : RdS B 1 (.slice a l.length c) (u8s l) r) (hr : ∀ b ∈ r, b < B.next) (h8 : ∀ x ∈ l, 0 ≤ x ∧ x ≤ 255) :
    wpF C 4 [.int .i64 s, .slice a l.length c] B fun v _ => v = .bool true := by
  have hS := S.start B
  refine wpF_ofW o4 rfl rfl ?_
  refine zsr ?_; refine zw1 ?_; refine zns ?_; refine zsr ?_; refine wpO_cons ?_; refine op1_call0 rfl  ?_
  refine wpF_mono (L12 hS) ?_
  rintro _ H1 ⟨p, rfl, hS1⟩
  refine zw1 ?_; refine zns ?_; refine zsr ?_; refine zw1 ?_; refine zw1 ?_; refine wpO_cons ?_; refine op1_build rfl ?_; refine bk_one (by (conv => lhs; whnf) <;> rfl) rfl rfl rfl ?_; refine bk_one (by (conv => lhs; whnf) <;> rfl) rfl rfl rfl ?_; refine bk_nil ?_; refine wpO_cons ?_; refine op1_call2 rfl (by (conv => lhs; whnf) <;> rfl) (by (conv => lhs; whnf) <;> rfl) ?_
  have hC := L13 (a := ap s) ok0 hS1
  rw [create0] at hC
  refine wpF_mono hC ?_
  rintro _ H2 ⟨rfl, hS2⟩
  by_cases hbad : s < 0 ∨ s > 16384
  · rw [if_pos hbad] at hS2 ⊢
    rcases Int.lt_or_le s 0 with h1 | h1
    · refine zw1 ?_; refine wpO_cons ?_; refine op1_extract rfl rfl rfl ?_; refine wpO_cons ?_; refine op1_extract rfl rfl rfl ?_; refine zw1 ?_; refine zw1 ?_; refine zns ?_; refine wp_seq ?_; refine zsr ?_; refine zw1 ?_; refine wpO_cons ?_; refine op1_neqI rfl rfl rfl ?_; refine zw1 ?_; (iterate 3 refine zk ?_); refine zt ?_; refine zw1 ?_; refine zk ?_; refine zk ?_; refine zt ?_; refine zns ?_; refine wp_true rfl ?_; refine zsr ?_; refine wpO_cons ?_; refine op1_call0 rfl  ?_; refine wpF_known rfl (glob_of hB hS2) ?_; refine zw1 ?_; refine zw1 ?_; refine wpO_cons ?_; refine op1_neqI rfl rfl rfl ?_; refine zw1 ?_; refine wpO_cons ?_; refine op1_lss rfl rfl rfl ?_; refine zw1 ?_; refine wpO_cons ?_
      refine op1_dec rfl (fun h5 => ?_) (fun h5 => ?_)
      · refine op1_skip rfl ?_; refine zk ?_; refine zt ?_; refine wpO_cons ?_; refine op1_eqlB_s rfl rfl rfl rfl ?_; refine zt ?_; refine zw1 ?_; refine zns ?_; refine wp_ret ?_; refine seq_ret ?_; refine ret_of ?_; refine zr ?_; refine rk_nil ?_
        first | omega | (simp [resultV] <;> omega)
      · refine op1_mov rfl (by (conv => lhs; whnf) <;> rfl) ?_; refine wpO_cons ?_; refine op1_gtr rfl rfl rfl ?_; refine zu ?_; refine wpO_cons ?_; refine op1_eqlB rfl rfl rfl rfl ?_; refine zt ?_; refine zw1 ?_; refine zns ?_; refine wp_ret ?_; refine seq_ret ?_; refine ret_of ?_; refine zr ?_; refine rk_nil ?_
        first | omega | (simp [resultV] <;> omega)
    · have h2 : 16384 < s := by omega
      refine zw1 ?_; refine wpO_cons ?_; refine op1_extract rfl rfl rfl ?_; refine wpO_cons ?_; refine op1_extract rfl rfl rfl ?_; refine zw1 ?_; refine zw1 ?_; refine zns ?_; refine wp_seq ?_; refine zsr ?_; refine zw1 ?_; refine wpO_cons ?_; refine op1_neqI rfl rfl rfl ?_; refine zw1 ?_; (iterate 3 refine zk ?_); refine zt ?_; refine zw1 ?_; refine zk ?_; refine zk ?_; refine zt ?_; refine zns ?_; refine wp_true rfl ?_; refine zsr ?_; refine wpO_cons ?_; refine op1_call0 rfl  ?_; refine wpF_known rfl (glob_of hB hS2) ?_; refine zw1 ?_; refine zw1 ?_; refine wpO_cons ?_; refine op1_neqI rfl rfl rfl ?_; refine zw1 ?_; refine wpO_cons ?_; refine op1_lss rfl rfl rfl ?_; refine zw1 ?_; refine wpO_cons ?_
      refine op1_dec rfl (fun h5 => ?_) (fun h5 => ?_)
      · refine op1_skip rfl ?_; refine zk ?_; refine zt ?_; refine wpO_cons ?_; refine op1_eqlB_s rfl rfl rfl rfl ?_; refine zt ?_; refine zw1 ?_; refine zns ?_; refine wp_ret ?_; refine seq_ret ?_; refine ret_of ?_; refine zr ?_; refine rk_nil ?_
        first | omega | (simp [resultV] <;> omega)
      · refine op1_mov rfl (by (conv => lhs; whnf) <;> rfl) ?_; refine wpO_cons ?_; refine op1_gtr rfl rfl rfl ?_; refine zu ?_; refine wpO_cons ?_; refine op1_eqlB rfl rfl rfl rfl ?_; refine zt ?_; refine zw1 ?_; refine zns ?_; refine wp_ret ?_; refine seq_ret ?_; refine ret_of ?_; refine zr ?_; refine rk_nil ?_
        first | omega | (simp [resultV] <;> omega)
  · rw [if_neg hbad] at hS2 ⊢
    have hs2 : 0 ≤ s ∧ s ≤ 16384 := by omega
    refine zw1 ?_; refine wpO_cons ?_; refine op1_extract rfl rfl rfl ?_; refine wpO_cons ?_; refine op1_extract rfl rfl rfl ?_; refine zw1 ?_; refine zw1 ?_; refine zns ?_; refine wp_seq ?_; refine zsr ?_; refine zw1 ?_; refine wpO_cons ?_; refine op1_neqI_s rfl rfl rfl ?_; refine zw1 ?_; refine zw1 ?_; refine wpO_cons ?_; refine op1_len rfl rfl ?_; refine wpO_cons ?_; refine op1_gtr rfl rfl rfl ?_; refine zu ?_; refine zw1 ?_; refine wpO_cons ?_
    refine op1_dec rfl (fun h1 => ?_) (fun h1 => ?_)
    · refine op1_skip rfl ?_; refine zk ?_; refine zt ?_; refine zns ?_; refine wp_true rfl ?_; refine zsr ?_; refine wpO_cons ?_; refine op1_call0 rfl  ?_; refine wpF_known rfl (glob_of hB hS2) ?_; refine zw1 ?_; refine zw1 ?_; refine wpO_cons ?_; refine op1_neqI_s rfl rfl rfl ?_; refine zw1 ?_; refine wpO_cons ?_; refine op1_lss rfl rfl rfl ?_; refine zw1 ?_; refine wpO_cons ?_
      refine op1_dec rfl (fun h5 => ?_) (fun h5 => ?_)
      · refine op1_skip rfl ?_; refine zk ?_; refine zt ?_; refine wpO_cons ?_; refine op1_bin_false rfl (by (conv => lhs; whnf) <;> rfl) (by (conv => lhs; whnf) <;> rfl) rfl ?_; refine zt ?_; refine zw1 ?_; refine zns ?_; refine wp_ret ?_; refine seq_ret ?_; refine ret_of ?_; refine zr ?_; refine rk_nil ?_
        first | omega | (simp [resultV] <;> omega)
      · refine op1_mov rfl (by (conv => lhs; whnf) <;> rfl) ?_; refine wpO_cons ?_; refine op1_gtr rfl rfl rfl ?_; refine zu ?_; refine wpO_cons ?_; refine op1_eqlB rfl rfl rfl rfl ?_; refine zt ?_; refine zw1 ?_; refine zns ?_; refine wp_ret ?_; refine seq_ret ?_; refine ret_of ?_; refine zr ?_; refine rk_nil ?_
        first | omega | (simp [resultV] <;> omega)
    · refine op1_call0 rfl  ?_; refine wpF_known rfl (glob_of hB hS2) ?_; refine wpO_cons ?_; refine op1_not_t rfl rfl ?_; refine zu ?_; refine zns ?_; refine wp_false rfl ?_; refine wp_skip ?_; refine seq_normal ?_; refine zsr ?_; refine zw1 ?_; refine zw1 ?_; refine wpO_cons ?_; refine op1_build rfl ?_; refine bk_nil ?_; refine wpO_cons ?_; refine op1_build rfl ?_; refine bk_one (by (conv => lhs; whnf) <;> rfl) rfl rfl rfl ?_; refine bk_one (by (conv => lhs; whnf) <;> rfl) rfl rfl rfl ?_; refine bk_nil ?_; refine wpO_cons ?_; refine op1_call4 rfl (by (conv => lhs; whnf) <;> rfl) (by (conv => lhs; whnf) <;> rfl) (by (conv => lhs; whnf) <;> rfl) (by (conv => lhs; whnf) <;> rfl) ?_
      have hC2 := L14 (o := 1) (c := cr0) (b := bk2) hB (cr0ok B) (ok1 hs2) hS2
      rw [opn1] at hC2
      refine wpF_mono hC2 ?_
      rintro _ H3 ⟨rfl, hS3⟩
      have hC3 := L14 (o := 1) (c := cr0) (b := bk2) hB (cr0ok B) (ok2 hs2) hS3
      rw [opn2] at hC3
      refine zw1 ?_; refine wpO_cons ?_; refine op1_extract rfl rfl rfl ?_; refine wpO_cons ?_; refine op1_extract rfl rfl rfl ?_; refine zw1 ?_; refine zw1 ?_; refine zns ?_; refine zsr ?_; refine zw1 ?_; refine zw1 ?_; refine wpO_cons ?_; refine op1_build rfl ?_; refine bk_nil ?_; refine wpO_cons ?_; refine op1_build rfl ?_; refine bk_one (by (conv => lhs; whnf) <;> rfl) rfl rfl rfl ?_; refine bk_one (by (conv => lhs; whnf) <;> rfl) rfl rfl rfl ?_; refine bk_nil ?_; refine wpO_cons ?_; refine op1_call4 rfl (by (conv => lhs; whnf) <;> rfl) (by (conv => lhs; whnf) <;> rfl) (by (conv => lhs; whnf) <;> rfl) (by (conv => lhs; whnf) <;> rfl) ?_
      refine wpF_mono hC3 ?_
      rintro _ H4 ⟨rfl, hS4⟩
      have hi : S B H4 (repP p (tb3 s 0 0) :: []) := hS4
      clear hS hS1 hC hS2 hC2 hS3 hC3 hS4
      refine zw1 ?_; refine wpO_cons ?_; refine op1_extract rfl rfl rfl ?_; refine wpO_cons ?_; refine op1_extract rfl rfl rfl ?_; refine zw1 ?_; refine zw1 ?_; refine zns ?_; refine zsr ?_; refine zw1 ?_; refine zw1 ?_; refine zns ?_; refine wp_seq ?_; refine zsr ?_; refine zw1 ?_; refine wpO_cons ?_; refine op1_len rfl rfl ?_; refine zw1 ?_; refine zns ?_; refine wp_block ?_
      refine wp_loop [12, 71] (fun k vs H' => ∃ (i : Nat) (s x y : Int), vs = [.int .i64 s, .int .i64 i] ∧ k = l.length - i ∧ i ≤ l.length ∧ (0 ≤ s ∧ s ≤ 16384) ∧ (0 ≤ x ∧ x ≤ 16384) ∧ (0 ≤ y ∧ y ≤ 16384) ∧ S B H' [repP p (tb3 s x y)]) ⟨_, 0, s, 0, 0, rfl, rfl, by omega, hs2, by omega, by omega, hi⟩ ?_
      clear hi hs2 hbad hs
      rintro k vs T2 H5 ⟨i, s, x, y, rfl, rfl, hi, hs2, hx2, hy2, hS⟩
      refine zsr ?_; refine wpO_cons ?_; refine op1_lss rfl rfl rfl ?_; refine zns ?_; refine wp_seq ?_
      refine wp_dec rfl (fun h2 => ?_) (fun h2 => ?_)
      · obtain ⟨b, off, cs, e, ro, v, rfl, _, hg, hv, hx⟩ := (hd.frame fun b hb => hS.base b (hr b hb)).at1 (i := i) (by omega)
        obtain ⟨n, hn, rfl⟩ := u8s_get hx
        have hn8 := h8 n (List.mem_of_getElem? hn)
        refine wp_skip ?_; refine seq_normal ?_; refine wp_seq ?_; refine wp_block ?_; refine zsr ?_; refine zw1 ?_; refine wpO_cons ?_; refine op1_iaddr rfl rfl rfl (by omega) (by omega) ?_; refine wpO_cons ?_
        refine op1_load rfl rfl hg hv ?_
        refine zw1 ?_; refine zw1 ?_; refine zns ?_; refine zsr ?_; refine zw1 ?_; refine zw1 ?_; refine zns ?_; refine wp_seq ?_; refine zsr ?_; refine zw1 ?_; refine wpO_cons ?_; refine op1_rem rfl rfl rfl (by omega) ?_; refine wpO_cons ?_; refine op1_eqlI rfl rfl rfl ?_; refine zns ?_
        refine wp_dec rfl (fun h3 => ?_) (fun h3 => ?_)
        · refine wp_region ?_; refine zw1 ?_; refine zw1 ?_; refine zns ?_; refine zsr ?_; refine zw1 ?_; refine zw1 ?_; refine zw1 ?_; refine wpO_cons ?_; refine op1_convInt rfl rfl (by exact wrap_i64 (by omega) (by omega)) ?_; refine wpO_cons ?_; refine op1_call3 rfl (by (conv => lhs; whnf) <;> rfl) (by (conv => lhs; whnf) <;> rfl) (by (conv => lhs; whnf) <;> rfl) ?_
          have hw := L15 (id := 2) (n := n) (by omega) (ok3 hs2 hx2 hy2) hS
          rw [wr2 hn8.1 hs2] at hw
          by_cases hfull : 0 < n ∧ s = 16384
          · rw [if_pos hfull] at hw
            have hw2 : wpF C 15 [ptrB p, .int .i64 2, .int .i64 n] H5 fun v H' => v = .tuple ⟨[.int .i64 0, .int .i64 0, .int .i64 25]⟩ ∧ S B H' [repP p (tb3 s x y)] := hw
            clear hw
            refine wpF_mono hw2 ?_
            clear hw2
            rintro _ H6 ⟨rfl, hS6⟩
            refine zw1 ?_; refine wpO_cons ?_; refine op1_extract rfl rfl rfl ?_; refine wpO_cons ?_; refine op1_extract rfl rfl rfl ?_; refine wpO_cons ?_; refine op1_extract rfl rfl rfl ?_; refine zw1 ?_; refine zw1 ?_; refine zw1 ?_; refine zns ?_; refine wp_seq ?_; refine zsr ?_; refine zw1 ?_; refine wpO_cons ?_; refine op1_eqlI_s rfl rfl rfl ?_; refine zw1 ?_; refine zw1 ?_; refine wpO_cons ?_; refine op1_eqlI rfl rfl rfl ?_; refine zt ?_; refine zw1 ?_; refine wpO_cons ?_
            refine op1_dec rfl (fun h5 => ?_) (fun h5 => absurd hfull.2 h5)
            refine op1_mov rfl (by (conv => lhs; whnf) <;> rfl) ?_; refine wpO_cons ?_; refine op1_gtr rfl rfl rfl ?_; refine zt ?_; refine zns ?_
            refine wp_dec rfl (fun h6 => ?_) (fun h6 => absurd hfull.1 h6)
            refine wp_exit ?_; refine seq_exit ?_; refine block_exit ?_; refine seq_normal ?_; refine wp_region ?_; refine wpO_cons ?_; refine op1_add rfl rfl rfl (by exact wrap_i64 (by omega) (by omega)) ?_; refine zw1 ?_; refine wpO_nil ?_
            refine iter_normal ⟨l.length - (i + 1), by omega, i + 1, s, x, y, rfl, rfl, by omega, by omega, by omega, by omega, hS6⟩
          · rw [if_neg hfull] at hw
            have hw2 : wpF C 15 [ptrB p, .int .i64 2, .int .i64 n] H5 fun v H' => v = .tuple ⟨[.int .i64 s, .int .i64 (min n (16384 - s)), .int .i64 0]⟩ ∧ S B H' [repP p (tb3 (s + min n (16384 - s)) x (s + min n (16384 - s)))] := hw
            clear hw
            refine wpF_mono hw2 ?_
            clear hw2
            rintro _ H6 ⟨rfl, hS6⟩
            have hmin : 0 ≤ min n (16384 - s) ∧ s + min n (16384 - s) ≤ 16384 := by omega
            refine zw1 ?_; refine wpO_cons ?_; refine op1_extract rfl rfl rfl ?_; refine wpO_cons ?_; refine op1_extract rfl rfl rfl ?_; refine wpO_cons ?_; refine op1_extract rfl rfl rfl ?_; refine zw1 ?_; refine zw1 ?_; refine zw1 ?_; refine zns ?_; refine wp_seq ?_; refine zsr ?_; refine zw1 ?_; refine wpO_cons ?_; refine op1_eqlI rfl rfl rfl ?_; refine zw1 ?_; refine zk ?_; refine zk ?_; refine zu ?_; refine zw1 ?_; refine zk ?_; refine zk ?_; refine zu ?_; refine zns ?_; refine wp_false rfl ?_; refine wp_skip ?_; refine seq_normal ?_; refine wp_seq ?_; refine zsr ?_; refine zw1 ?_; refine wpO_cons ?_; refine op1_neqI_s rfl rfl rfl ?_; refine zw1 ?_; refine zw1 ?_; refine zw1 ?_; refine wpO_cons ?_; refine op1_neqI_s rfl rfl rfl ?_; refine zu ?_; refine zw1 ?_; refine zw1 ?_; refine zw1 ?_; refine wpO_cons ?_; refine op1_convInt rfl rfl (by exact wrap_i64 (by omega) (by omega)) ?_; refine zw1 ?_; refine wpO_cons ?_; refine op1_sub rfl rfl rfl (by exact wrap_i64 (by omega) (by omega)) ?_; refine wpO_cons ?_; refine op1_min rfl rfl rfl ?_; refine wpO_cons ?_; refine op1_neqI_s rfl rfl rfl ?_; refine zu ?_; refine zns ?_; refine wp_false rfl ?_; refine wp_skip ?_; refine seq_normal ?_; refine wp_region ?_; refine zw1 ?_; refine zw1 ?_; refine wpO_cons ?_; refine op1_add rfl rfl rfl (by exact wrap_i64 (by omega) (by omega)) ?_; refine zw1 ?_; refine wpO_nil ?_; refine block_normal ?_; refine seq_normal ?_; refine wp_region ?_; refine wpO_cons ?_; refine op1_add rfl rfl rfl (by exact wrap_i64 (by omega) (by omega)) ?_; refine zw1 ?_; refine wpO_nil ?_
            refine iter_normal ⟨l.length - (i + 1), by omega, i + 1, (s + min n (16384 - s)), x, (s + min n (16384 - s)), rfl, rfl, by omega, by omega, by omega, by omega, hS6⟩
        · refine wp_skip ?_; refine seq_normal ?_; refine zsr ?_; refine zw1 ?_; refine zw1 ?_; refine zw1 ?_; refine wpO_cons ?_; refine op1_convInt rfl rfl (by exact wrap_i64 (by omega) (by omega)) ?_; refine wpO_cons ?_; refine op1_call3 rfl (by (conv => lhs; whnf) <;> rfl) (by (conv => lhs; whnf) <;> rfl) (by (conv => lhs; whnf) <;> rfl) ?_
          have hw := L15 (id := 1) (n := n) (by omega) (ok3 hs2 hx2 hy2) hS
          rw [wr1 hn8.1 hs2] at hw
          by_cases hfull : 0 < n ∧ s = 16384
          · rw [if_pos hfull] at hw
            have hw2 : wpF C 15 [ptrB p, .int .i64 1, .int .i64 n] H5 fun v H' => v = .tuple ⟨[.int .i64 0, .int .i64 0, .int .i64 25]⟩ ∧ S B H' [repP p (tb3 s x y)] := hw
            clear hw
            refine wpF_mono hw2 ?_
            clear hw2
            rintro _ H6 ⟨rfl, hS6⟩
            refine zw1 ?_; refine wpO_cons ?_; refine op1_extract rfl rfl rfl ?_; refine wpO_cons ?_; refine op1_extract rfl rfl rfl ?_; refine wpO_cons ?_; refine op1_extract rfl rfl rfl ?_; refine zw1 ?_; refine zw1 ?_; refine zw1 ?_; refine zns ?_; refine wp_seq ?_; refine zsr ?_; refine zw1 ?_; refine wpO_cons ?_; refine op1_eqlI_s rfl rfl rfl ?_; refine zw1 ?_; refine zw1 ?_; refine wpO_cons ?_; refine op1_eqlI rfl rfl rfl ?_; refine zt ?_; refine zw1 ?_; refine wpO_cons ?_
            refine op1_dec rfl (fun h5 => ?_) (fun h5 => absurd hfull.2 h5)
            refine op1_mov rfl (by (conv => lhs; whnf) <;> rfl) ?_; refine wpO_cons ?_; refine op1_gtr rfl rfl rfl ?_; refine zt ?_; refine zns ?_
            refine wp_dec rfl (fun h6 => ?_) (fun h6 => absurd hfull.1 h6)
            refine wp_exit ?_; refine seq_exit ?_; refine block_exit ?_; refine seq_normal ?_; refine wp_region ?_; refine wpO_cons ?_; refine op1_add rfl rfl rfl (by exact wrap_i64 (by omega) (by omega)) ?_; refine zw1 ?_; refine wpO_nil ?_
            refine iter_normal ⟨l.length - (i + 1), by omega, i + 1, s, x, y, rfl, rfl, by omega, by omega, by omega, by omega, hS6⟩
          · rw [if_neg hfull] at hw
            have hw2 : wpF C 15 [ptrB p, .int .i64 1, .int .i64 n] H5 fun v H' => v = .tuple ⟨[.int .i64 s, .int .i64 (min n (16384 - s)), .int .i64 0]⟩ ∧ S B H' [repP p (tb3 (s + min n (16384 - s)) (s + min n (16384 - s)) y)] := hw
            clear hw
            refine wpF_mono hw2 ?_
            clear hw2
            rintro _ H6 ⟨rfl, hS6⟩
            have hmin : 0 ≤ min n (16384 - s) ∧ s + min n (16384 - s) ≤ 16384 := by omega
            refine zw1 ?_; refine wpO_cons ?_; refine op1_extract rfl rfl rfl ?_; refine wpO_cons ?_; refine op1_extract rfl rfl rfl ?_; refine wpO_cons ?_; refine op1_extract rfl rfl rfl ?_; refine zw1 ?_; refine zw1 ?_; refine zw1 ?_; refine zns ?_; refine wp_seq ?_; refine zsr ?_; refine zw1 ?_; refine wpO_cons ?_; refine op1_eqlI rfl rfl rfl ?_; refine zw1 ?_; refine zk ?_; refine zk ?_; refine zu ?_; refine zw1 ?_; refine zk ?_; refine zk ?_; refine zu ?_; refine zns ?_; refine wp_false rfl ?_; refine wp_skip ?_; refine seq_normal ?_; refine wp_seq ?_; refine zsr ?_; refine zw1 ?_; refine wpO_cons ?_; refine op1_neqI_s rfl rfl rfl ?_; refine zw1 ?_; refine zw1 ?_; refine zw1 ?_; refine wpO_cons ?_; refine op1_neqI_s rfl rfl rfl ?_; refine zu ?_; refine zw1 ?_; refine zw1 ?_; refine zw1 ?_; refine wpO_cons ?_; refine op1_convInt rfl rfl (by exact wrap_i64 (by omega) (by omega)) ?_; refine zw1 ?_; refine wpO_cons ?_; refine op1_sub rfl rfl rfl (by exact wrap_i64 (by omega) (by omega)) ?_; refine wpO_cons ?_; refine op1_min rfl rfl rfl ?_; refine wpO_cons ?_; refine op1_neqI_s rfl rfl rfl ?_; refine zu ?_; refine zns ?_; refine wp_false rfl ?_; refine wp_skip ?_; refine seq_normal ?_; refine wp_region ?_; refine zw1 ?_; refine zw1 ?_; refine wpO_cons ?_; refine op1_add rfl rfl rfl (by exact wrap_i64 (by omega) (by omega)) ?_; refine zw1 ?_; refine wpO_nil ?_; refine block_normal ?_; refine seq_normal ?_; refine wp_region ?_; refine wpO_cons ?_; refine op1_add rfl rfl rfl (by exact wrap_i64 (by omega) (by omega)) ?_; refine zw1 ?_; refine wpO_nil ?_
            refine iter_normal ⟨l.length - (i + 1), by omega, i + 1, (s + min n (16384 - s)), (s + min n (16384 - s)), y, rfl, rfl, by omega, by omega, by omega, by omega, hS6⟩
      · refine wp_exit ?_; refine seq_exit ?_; refine iter_exit ?_; refine block_exit ?_; refine seq_normal ?_; refine zsr ?_; refine zw1 ?_; refine zw1 ?_; refine wpO_cons ?_; refine op1_call2 rfl (by (conv => lhs; whnf) <;> rfl) (by (conv => lhs; whnf) <;> rfl) ?_
        refine wpF_mono (L16 (o := 1) hS) ?_
        rintro _ H6 ⟨rfl, hS6⟩
        have ea : (tb3 s x y).attr 1 = (ap s, 0) := by simp [Tb.attr, tb3, gGet]
        rw [ea]
        have hS := hS6
        unfold Ob.cells ap
        refine zw1 ?_; refine wpO_cons ?_; refine op1_extract rfl rfl rfl ?_; refine wpO_cons ?_; refine op1_extract rfl rfl rfl ?_; refine wpO_cons ?_; refine op1_allocS rfl hS ?_; intro p1 H7 hS; refine wpO_cons ?_; (refine op1_storeNS rfl rfl (by (conv => lhs; whnf) <;> rfl) rfl rfl (S.up0 hS) (Nat.le_of_ble_eq_true rfl) ?_; intro H8 hS; replace hS := S.dn0 hS); refine zw1 ?_; refine zns ?_; refine zsr ?_; refine zw1 ?_; refine wpO_cons ?_; refine op1_eqlI_s rfl rfl rfl ?_; refine zw1 ?_; refine zw1 ?_; refine wpO_cons ?_; refine op1_eqlI_s rfl rfl rfl ?_; refine zt ?_; refine zw1 ?_; refine zw1 ?_; refine wpO_cons ?_; refine op1_eqlI_s rfl rfl rfl ?_; refine zt ?_; refine zw1 ?_; refine zf ?_; refine zh (S.g0 hS) ?_; refine zw1 ?_; refine wpO_cons ?_; refine op1_eqlI_s rfl rfl rfl ?_; refine zt ?_; refine zw1 ?_; refine zns ?_; refine wp_ret ?_; refine ret_of ?_; refine zr ?_; refine rk_nil ?_
        rfl
theorem ut31 : Tryd.prog.underlying 31 = some (.slice 5) := by kernel_rfl
theorem ga2 : aggT Tryd.prog 2 = false := by kernel_rfl
theorem ga31 : aggT Tryd.prog 31 = false := by kernel_rfl
theorem arg_s2 {gs : List AObj} {n : Nat} {a : Value} (h : ∃ cells, a = argV Tryd.prog 2 cells ∧ OkA Tryd.prog gs (n + 1) 2 cells) : ∃ x, a = .int .i64 x ∧ I64 x := by
  obtain ⟨cells, rfl, h⟩ := h
  obtain ⟨x, rfl, hx⟩ := h.i64 ut2
  exact ⟨x, by unfold argV; rw [ga2]; rfl, hx⟩
theorem arg_u8 {gs : List AObj} {n : Nat} {a : Value} (h : ∃ cells, a = argV Tryd.prog 31 cells ∧ OkA Tryd.prog gs (n + 2) 31 cells) : ∃ (d : Option Addr) (l : List Int) (c : Nat) (r : List Nat), a = .slice d l.length c ∧ l.length ≤ 9223372036854775807 ∧ RdS (startH gs) 1 (.slice d l.length c) (u8s l) r ∧ (∀ b ∈ r, b < (startH gs).next) ∧ ∀ x ∈ l, 0 ≤ x ∧ x ≤ 255 := by
  obtain ⟨cells, rfl, h⟩ := h
  obtain ⟨d, l, c, r, rfl, h1, h2, h3, h4⟩ := h.byteS ut31 co5 ut5
  exact ⟨d, l, c, r, by unfold argV; rw [ga31]; rfl, h1, h2, h3, h4⟩
end Go.E.At
