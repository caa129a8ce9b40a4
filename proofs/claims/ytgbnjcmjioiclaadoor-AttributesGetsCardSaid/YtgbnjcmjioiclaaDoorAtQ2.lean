/- Attributes: Chmod, Chown, Link. -/
import Derived.Test.YtgbnjcmjioiclaaDoorAtP1
import Derived.Test.YtgbnjcmjioiclaaDoorAtF1
namespace Go.E.At
open Go Go.E Go.Proofs.YtgbnjcmjioiclaaDoor.base Go.Proofs.YtgbnjcmjioiclaaDoor Go.Proofs
set_option linter.unusedVariables false
set_option linter.unusedSimpArgs false
set_option maxRecDepth 100000
def Tb.link (t : Tb) (o : Int) : Int × Tb := match gGet t.os o with
  | none => (22, t)
  | some x => if 1000 ≤ x.links then (18, t) else (0, t.setO o { x with links := x.links + 1 })
def Tb.chmod (t : Tb) (o : Int) (c : Cr) (m : Int) : Int × Tb := match gGet t.os o with
  | none => (22, t)
  | some x => if m < 0 ∨ m > 4095 then (34, t) else if ¬ c.user = 0 ∧ ¬ c.user = x.user then (32, t)
    else (0, t.setO o { x with mode := if ¬ c.user = 0 ∧ ¬ c.mem x.group then bitAndNot .i64 m 1024 else m })
def Ob.chown (x : Ob) (c : Cr) (u g : Int) : Option Ob :=
  if ¬ c.user = 0 ∧ (¬ u = x.user ∨ ¬ c.user = x.user ∨ (¬ g = x.group ∧ ¬ c.mem g)) then none
  else some { x with user := u, group := g, mode := if ¬ c.user = 0 then bitAndNot .i64 x.mode 3072 else x.mode }
def Tb.chown (t : Tb) (o : Int) (c : Cr) (u g : Int) : Int × Tb := match gGet t.os o with
  | none => (22, t)
  | some x => match x.chown c (if u < 0 then x.user else u) (if g < 0 then x.group else g) with
    | none => (32, t)
    | some y => (0, t.setO o y)
section
variable {B H : AHeap} {As : List Asn} {t : Tb} {p : Nat} {o : Int}
theorem L31 (ht : TbOk t) (hS : S B H (repP p t :: As)) : wpF C 31 [ptrB p, .int .i64 o] H fun v H' => v = .int .i64 (t.link o).1 ∧ S B H' (repP p (t.link o).2 :: As) := by
  refine wpF_ofW o31 rfl rfl ?_
  refine zsr ?_; refine zw1 ?_; refine zns ?_; refine zsr ?_; refine zw1 ?_; refine zw1 ?_; refine wpO_cons ?_; refine op1_call2 rfl (by (conv => lhs; whnf) <;> rfl) (by (conv => lhs; whnf) <;> rfl) ?_
  refine wpF_mono (L42 (id := o) (hS)) ?_
  rintro _ H3 (⟨hx, rfl, hS3⟩ | ⟨x, pa, R, hx, rfl, hS3, hb⟩)
  · clear hS
    have hS := hS3
    clear hS3
    refine zw1 ?_; refine wpO_cons ?_; refine op1_extract rfl rfl rfl ?_; refine wpO_cons ?_; refine op1_extract rfl rfl rfl ?_; refine zw1 ?_; refine zw1 ?_; refine zns ?_; refine wp_seq ?_; refine zsr ?_; refine zw1 ?_; refine wpO_cons ?_; refine op1_neqI rfl rfl rfl ?_; refine zns ?_; refine wp_true rfl ?_; refine zsr ?_; refine zw1 ?_; refine zw1 ?_; refine zns ?_; refine wp_ret ?_; refine seq_ret ?_; refine ret_of ?_; refine zr ?_; refine rk_nil ?_
    exact ⟨by unfold Tb.link; rw [hx]; rfl, by unfold Tb.link; rw [hx]; exact hS⟩
  have hoR := ht.osR (o, x) (gGet_mem hx)
  have hr1 : 0 ≤ x.links ∧ x.links ≤ 9223372036854775807 := hoR.links
  unfold ptrB
  clear hS
  have hS := hS3
  clear hS3
  unfold Ob.cells at hS
  refine zw1 ?_; refine wpO_cons ?_; refine op1_extract rfl rfl rfl ?_; refine wpO_cons ?_; refine op1_extract rfl rfl rfl ?_; refine zw1 ?_; refine zw1 ?_; refine zns ?_; refine wp_seq ?_; refine zsr ?_; refine zw1 ?_; refine wpO_cons ?_; refine op1_neqI_s rfl rfl rfl ?_; refine zns ?_; refine wp_false rfl ?_; refine wp_skip ?_; refine seq_normal ?_; refine wp_seq ?_; refine zsr ?_; refine zw1 ?_; refine zn ?_; refine zf ?_; refine zh (S.g0 hS) ?_; refine wpO_cons ?_; refine op1_geq rfl rfl rfl ?_; refine zns ?_
  have e0 : t.link o = if 1000 ≤ x.links then (18, t) else (0, t.setO o { x with links := x.links + 1 }) := by unfold Tb.link; rw [hx]
  rw [e0]
  clear e0
  refine wp_dec rfl (fun h1 => ?_) (fun h1 => ?_)
  · refine zsr ?_; refine zw1 ?_; refine zns ?_; refine wp_ret ?_; refine seq_ret ?_; refine ret_of ?_; refine zr ?_; refine rk_nil ?_
    have h9 := hb _ _ x hS
    rw [Tb.setO_self hx] at h9
    rw [if_pos h1]
    exact ⟨rfl, h9⟩
  · refine wp_skip ?_; refine seq_normal ?_; refine zsr ?_; refine zw1 ?_; refine zn ?_; refine zf ?_; refine zh (S.g0 hS) ?_; refine wpO_cons ?_; refine op1_add rfl rfl rfl (by exact wrap_i64 (by omega) (by omega)) ?_; refine zn ?_; refine zf ?_; refine wpO_cons ?_; (refine op1_store1S rfl rfl (by (conv => lhs; whnf) <;> rfl) rfl rfl (S.up0 hS) rfl ?_; intro H1 hS; replace hS := S.dn0 hS); refine zns ?_; refine zsr ?_; refine zw1 ?_; refine zns ?_; refine wp_ret ?_; refine ret_of ?_; refine zr ?_; refine rk_nil ?_
    have h9 := hb _ _ { x with links := x.links + 1 } hS
    rw [if_neg h1]
    exact ⟨rfl, h9⟩
theorem L29 {c : Cr} {r : List Nat} {m : Int} (hc : CrOk B c r) (ht : TbOk t) (hS : S B H (repP p t :: As)) : wpF C 29 [ptrB p, .int .i64 o, .agg ⟨c.cells⟩, .int .i64 m] H fun v H' => v = .int .i64 (t.chmod o c m).1 ∧ S B H' (repP p (t.chmod o c m).2 :: As) := by
  refine wpF_ofW o29 rfl rfl ?_
  unfold Cr.cells
  refine zsr ?_; refine wpO_cons ?_; refine op1_boxNS rfl rfl rfl hS ?_; intro p1 H1 hS; refine zw1 ?_; refine zns ?_; refine zsr ?_; refine zw1 ?_; refine zw1 ?_; refine wpO_cons ?_; refine op1_call2 rfl (by (conv => lhs; whnf) <;> rfl) (by (conv => lhs; whnf) <;> rfl) ?_
  refine wpF_mono (L42 (id := o) (S.up1 hS)) ?_
  rintro _ H3 (⟨hx, rfl, hS3⟩ | ⟨x, pa, R, hx, rfl, hS3, hb⟩)
  · clear hS
    have hS := hS3
    clear hS3
    refine zw1 ?_; refine wpO_cons ?_; refine op1_extract rfl rfl rfl ?_; refine wpO_cons ?_; refine op1_extract rfl rfl rfl ?_; refine zw1 ?_; refine zw1 ?_; refine zns ?_; refine wp_seq ?_; refine wp_block ?_; refine zsr ?_; refine zw1 ?_; refine wpO_cons ?_; refine op1_neqI rfl rfl rfl ?_; refine zw1 ?_; refine zns ?_; refine wp_true rfl ?_; refine zsr ?_; refine zw1 ?_; refine zw1 ?_; refine zns ?_; refine wp_ret ?_; refine block_ret ?_; refine seq_ret ?_; refine ret_of ?_; refine zr ?_; refine rk_nil ?_
    exact ⟨by unfold Tb.chmod; rw [hx]; rfl, by unfold Tb.chmod; rw [hx]; exact S.k1 hS⟩
  have hoR := ht.osR (o, x) (gGet_mem hx)
  have hr1 : 0 ≤ x.links ∧ x.links ≤ 9223372036854775807 := hoR.links
  unfold ptrB
  clear hS
  have hS := hS3
  clear hS3
  unfold Ob.cells at hS
  refine zw1 ?_; refine wpO_cons ?_; refine op1_extract rfl rfl rfl ?_; refine wpO_cons ?_; refine op1_extract rfl rfl rfl ?_; refine zw1 ?_; refine zw1 ?_; refine zns ?_; refine wp_seq ?_; refine wp_block ?_; refine zsr ?_; refine zw1 ?_; refine wpO_cons ?_; refine op1_neqI_s rfl rfl rfl ?_; refine zw1 ?_; refine zns ?_; refine wp_false rfl ?_; refine zsr ?_; refine zw1 ?_; refine wpO_cons ?_; refine op1_lss rfl rfl rfl ?_; refine zw1 ?_; refine wpO_cons ?_
  have e0 : t.chmod o c m = if m < 0 ∨ m > 4095 then (34, t) else if ¬ c.user = 0 ∧ ¬ c.user = x.user then (32, t)
    else (0, t.setO o { x with mode := if ¬ c.user = 0 ∧ ¬ c.mem x.group then bitAndNot .i64 m 1024 else m }) := by unfold Tb.chmod; rw [hx]
  rw [e0]
  clear e0
  refine op1_dec rfl (fun h1 => ?_) (fun h1 => ?_)
  · refine op1_skip rfl ?_; refine zk ?_; refine zt ?_; refine zw1 ?_; refine zns ?_; refine wp_true rfl ?_; refine zsr ?_; refine zw1 ?_; refine zns ?_; refine wp_ret ?_; refine block_ret ?_; refine seq_ret ?_; refine ret_of ?_; refine zr ?_; refine rk_nil ?_
    rw [if_pos (.inl h1)]
    have h9 := hb _ _ x hS
    rw [Tb.setO_self hx] at h9
    exact ⟨rfl, S.k1 h9⟩
  refine op1_mov rfl (by (conv => lhs; whnf) <;> rfl) ?_; refine wpO_cons ?_; refine op1_gtr rfl rfl rfl ?_; refine zu ?_; refine zw1 ?_; refine zns ?_
  refine wp_dec rfl (fun h2 => ?_) (fun h2 => ?_)
  · refine zsr ?_; refine zw1 ?_; refine zns ?_; refine wp_ret ?_; refine block_ret ?_; refine seq_ret ?_; refine ret_of ?_; refine zr ?_; refine rk_nil ?_
    rw [if_pos (.inr h2)]
    have h9 := hb _ _ x hS
    rw [Tb.setO_self hx] at h9
    exact ⟨rfl, S.k1 h9⟩
  rw [if_neg (by omega)]
  by_cases h3 : c.user = 0
  · rw [if_neg (fun h => h.1 h3)]
    rw [h3] at hS
    refine wp_seq ?_; refine wp_regionD ?_; refine zg ?_; refine zj (S.g2 hS) ?_; refine wpD_cons ?_; refine op1_neqI_s rfl rfl rfl ?_; refine zd1 ?_; (iterate 7 refine zl ?_); refine wpD_cons ?_; refine op1_pick_f rfl rfl (by (conv => lhs; whnf) <;> rfl) ?_; refine zd1 ?_; refine wpD_nil ?_; refine dk_of ?_ ?_; refine chk_skip ?_; refine zx 12 ?_ ?_; refine zy 0 ?_ ?_; exact zq (S.g2 hS); exact chkFs_nil; (iterate 3 refine chk_skip ?_); refine chk_unw 8 rfl rfl rfl ?_; (iterate 3 refine chk_skip ?_); refine chk_unw 4 rfl rfl rfl ?_; (iterate 3 refine chk_skip ?_); exact chk_end; refine seq_normal ?_; refine wp_false rfl ?_; refine wp_skip ?_; refine block_normal ?_; refine seq_normal ?_; refine wp_seq ?_; refine wp_seq ?_; refine wp_regionD ?_; refine zg ?_; refine zj (S.g2 hS) ?_; refine wpD_cons ?_; refine op1_neqI_s rfl rfl rfl ?_; refine zd1 ?_; (iterate 7 refine zl ?_); refine wpD_cons ?_; refine op1_pick_f rfl rfl (by (conv => lhs; whnf) <;> rfl) ?_; refine wpD_nil ?_; refine dk_of ?_ ?_; refine chk_skip ?_; refine zx 11 ?_ ?_; refine zy 3 ?_ ?_; exact zq (S.g2 hS); exact chkFs_nil; (iterate 2 refine chk_skip ?_); refine chk_unw 8 rfl rfl rfl ?_; (iterate 3 refine chk_skip ?_); refine chk_unw 4 rfl rfl rfl ?_; (iterate 3 refine chk_skip ?_); exact chk_end; refine seq_normal ?_; refine wp_false rfl ?_; refine wp_skip ?_; refine seq_normal ?_; refine zsr ?_; refine zw1 ?_; refine zw1 ?_; refine zn ?_; refine zf ?_; refine wpO_cons ?_; (refine op1_store1S rfl rfl (by (conv => lhs; whnf) <;> rfl) rfl rfl (S.up0 hS) rfl ?_; intro H2 hS; replace hS := S.dn0 hS); refine zns ?_; refine zsr ?_; refine zw1 ?_; refine zns ?_; refine wp_ret ?_; refine ret_of ?_; refine zr ?_; refine rk_nil ?_
    have h9 := hb _ _ { x with mode := m } hS
    rw [if_neg (fun h => h.1 h3)]
    exact ⟨rfl, S.k1 h9⟩
  refine wp_seq ?_; refine wp_regionD ?_; refine zg ?_; refine zj (S.g2 hS) ?_; refine wpD_cons ?_; refine op1_neqI rfl rfl rfl ?_; refine zd1 ?_; refine wpD_cons ?_
  refine op1_ndec rfl (fun _ => ?_) (fun h => absurd h h3)
  refine op1_faddr0 rfl rfl ?_; refine zj (S.g2 hS) ?_; refine zd1 ?_; refine zm ?_; refine zg ?_; refine zj (S.g0 hS) ?_; refine wpD_cons ?_; refine op1_neqI rfl rfl rfl ?_; refine wpD_cons ?_; refine op1_pick_t rfl rfl (by (conv => lhs; whnf) <;> rfl) ?_; refine zd1 ?_; refine wpD_nil ?_; refine dk_of ?_ ?_; refine chk_skip ?_; refine zx 12 ?_ ?_; refine zy 0 ?_ ?_; exact zq (S.g2 hS); exact chkFs_nil; (iterate 3 refine chk_skip ?_); refine zx 8 ?_ ?_; refine zy 0 ?_ ?_; exact zq (S.g2 hS); exact chkFs_nil; (iterate 3 refine chk_skip ?_); refine zx 4 ?_ ?_; refine zy 0 ?_ ?_; exact zq (S.g0 hS); exact chkFs_nil; (iterate 3 refine chk_skip ?_); exact chk_end; refine seq_normal ?_
  refine wp_ndec rfl (fun h4 => ?_) (fun h4 => ?_)
  · refine zsr ?_; refine zw1 ?_; refine zns ?_; refine wp_ret ?_; refine block_ret ?_; refine seq_ret ?_; refine ret_of ?_; refine zr ?_; refine rk_nil ?_
    rw [if_pos ⟨h3, h4⟩]
    have h9 := hb _ _ x hS
    rw [Tb.setO_self hx] at h9
    exact ⟨rfl, S.k1 h9⟩
  · rw [if_neg (fun h => h.2 h4)]
    refine wp_skip ?_; refine block_normal ?_; refine seq_normal ?_; refine wp_seq ?_; refine wp_seq ?_; refine wp_regionD ?_; refine zg ?_; refine zj (S.g2 hS) ?_; refine wpD_cons ?_; refine op1_neqI rfl rfl rfl ?_; refine zd1 ?_; refine wpD_cons ?_
    refine op1_ndec rfl (fun _ => ?_) (fun h => absurd h h3)
    refine op1_load_3 rfl rfl (by exact S.g2 hS) rfl rfl ?_; refine zd1 ?_; refine zm ?_; refine zg ?_; refine zj (S.g0 hS) ?_; refine wpD_cons ?_; refine op1_call2 rfl (by (conv => lhs; whnf) <;> rfl) (by (conv => lhs; whnf) <;> rfl) ?_
    refine wpF_mono (L66 (g := x.group) hc hS) ?_
    rintro _ H4 ⟨rfl, hS4⟩
    have hT := hS
    clear hS
    have hS := hS4
    clear hS4
    refine wpD_cons ?_; refine op1_not rfl rfl ?_; refine wpD_cons ?_; refine op1_pick_t rfl rfl (by (conv => lhs; whnf) <;> rfl) ?_; refine wpD_nil ?_; refine dk_of ?_ ?_; refine chk_skip ?_; refine zx 11 ?_ ?_; refine zy 3 ?_ ?_; exact zq (S.g2 hT); exact chkFs_nil; (iterate 2 refine chk_skip ?_); refine zx 8 ?_ ?_; refine zy 3 ?_ ?_; exact chk_loadN rfl (by exact S.g2 hT) rfl rfl rfl; exact chkFs_nil; (iterate 3 refine chk_skip ?_); refine zx 4 ?_ ?_; refine zy 3 ?_ ?_; exact zq (S.g0 hT); exact chkFs_nil; (iterate 3 refine chk_skip ?_); exact chk_end; refine seq_normal ?_
    refine wp_ndec rfl (fun h5 => ?_) (fun h5 => ?_)
    · refine wp_region ?_; refine zw1 ?_; refine wpO_cons ?_; refine op1_andNot rfl rfl rfl ?_; refine zw1 ?_; refine zns ?_; refine zsr ?_; refine zw1 ?_; refine zw1 ?_; refine zn ?_; refine zf ?_; refine wpO_cons ?_; (refine op1_store1S rfl rfl (by (conv => lhs; whnf) <;> rfl) rfl rfl (S.up0 hS) rfl ?_; intro H2 hS; replace hS := S.dn0 hS); refine zns ?_; refine zsr ?_; refine zw1 ?_; refine zns ?_; refine wp_ret ?_; refine ret_of ?_; refine zr ?_; refine rk_nil ?_
      have h9 := hb _ _ { x with mode := bitAndNot .i64 m 1024 } hS
      rw [if_pos ⟨h3, h5⟩]
      exact ⟨rfl, S.k1 h9⟩
    · refine wp_skip ?_; refine seq_normal ?_; refine zsr ?_; refine zw1 ?_; refine zw1 ?_; refine zn ?_; refine zf ?_; refine wpO_cons ?_; (refine op1_store1S rfl rfl (by (conv => lhs; whnf) <;> rfl) rfl rfl (S.up0 hS) rfl ?_; intro H2 hS; replace hS := S.dn0 hS); refine zns ?_; refine zsr ?_; refine zw1 ?_; refine zns ?_; refine wp_ret ?_; refine ret_of ?_; refine zr ?_; refine rk_nil ?_
      have h9 := hb _ _ { x with mode := m } hS
      rw [if_neg (fun h => h.2 h5)]
      exact ⟨rfl, S.k1 h9⟩
theorem L30 {c : Cr} {r : List Nat} {u g : Int} (hc : CrOk B c r) (ht : TbOk t) (hS : S B H (repP p t :: As)) : wpF C 30 [ptrB p, .int .i64 o, .agg ⟨c.cells⟩, .int .i64 u, .int .i64 g] H fun v H' => v = .int .i64 (t.chown o c u g).1 ∧ S B H' (repP p (t.chown o c u g).2 :: As) := by
  refine wpF_ofW o30 rfl rfl ?_
  unfold Cr.cells
  refine zsr ?_; refine wpO_cons ?_; refine op1_boxNS rfl rfl rfl hS ?_; intro p1 H1 hS; refine zw1 ?_; refine zns ?_; refine zsr ?_; refine zw1 ?_; refine zw1 ?_; refine wpO_cons ?_; refine op1_call2 rfl (by (conv => lhs; whnf) <;> rfl) (by (conv => lhs; whnf) <;> rfl) ?_
  refine wpF_mono (L42 (id := o) (S.up1 hS)) ?_
  rintro _ H3 (⟨hx, rfl, hS3⟩ | ⟨x, pa, R, hx, rfl, hS3, hb⟩)
  · clear hS
    have hS := hS3
    clear hS3
    refine zw1 ?_; refine wpO_cons ?_; refine op1_extract rfl rfl rfl ?_; refine wpO_cons ?_; refine op1_extract rfl rfl rfl ?_; refine zw1 ?_; refine zw1 ?_; refine zns ?_; refine wp_seq ?_; refine zsr ?_; refine zw1 ?_; refine wpO_cons ?_; refine op1_neqI rfl rfl rfl ?_; refine zns ?_; refine wp_true rfl ?_; refine zsr ?_; refine zw1 ?_; refine zw1 ?_; refine zns ?_; refine wp_ret ?_; refine seq_ret ?_; refine ret_of ?_; refine zr ?_; refine rk_nil ?_
    exact ⟨by unfold Tb.chown; rw [hx]; rfl, by unfold Tb.chown; rw [hx]; exact S.k1 hS⟩
  have hoR := ht.osR (o, x) (gGet_mem hx)
  have hr1 : 0 ≤ x.links ∧ x.links ≤ 9223372036854775807 := hoR.links
  unfold ptrB
  clear hS
  have hS := hS3
  clear hS3
  unfold Ob.cells at hS
  refine zw1 ?_; refine wpO_cons ?_; refine op1_extract rfl rfl rfl ?_; refine wpO_cons ?_; refine op1_extract rfl rfl rfl ?_; refine zw1 ?_; refine zw1 ?_; refine zns ?_; refine wp_seq ?_; refine zsr ?_; refine zw1 ?_; refine wpO_cons ?_; refine op1_neqI_s rfl rfl rfl ?_; refine zns ?_; refine wp_false rfl ?_; refine wp_skip ?_; refine seq_normal ?_; refine wp_seq ?_; refine zsr ?_; refine zw1 ?_; refine wpO_cons ?_; refine op1_lss rfl rfl rfl ?_; refine zns ?_
  have e0 : t.chown o c u g = match x.chown c (if u < 0 then x.user else u) (if g < 0 then x.group else g) with | none => (32, t) | some y => (0, t.setO o y) := by unfold Tb.chown; rw [hx]
  rw [e0]
  clear e0
  refine wp_dec rfl (fun h1 => ?_) (fun h1 => ?_)
  · rw [if_pos h1]
    refine wp_region ?_; refine zw1 ?_; refine zn ?_; refine zf ?_; refine zh (S.g0 hS) ?_; refine zw1 ?_; refine zns ?_; refine wp_seq ?_; refine zsr ?_; refine zw1 ?_; refine wpO_cons ?_; refine op1_lss rfl rfl rfl ?_; refine zns ?_
    refine wp_dec rfl (fun h2 => ?_) (fun h2 => ?_)
    · rw [if_pos h2]
      by_cases h3 : c.user = 0
      · rw [h3] at hS
        refine wp_region ?_; refine zw1 ?_; refine zn ?_; refine zf ?_; refine zh (S.g0 hS) ?_; refine zw1 ?_; refine zns ?_; refine wp_seq ?_; refine zsr ?_; refine zf ?_; refine zh (S.g2 hS) ?_; refine wpO_cons ?_; refine op1_neqI_s rfl rfl rfl ?_; refine zns ?_; refine wp_false rfl ?_; refine wp_skip ?_; refine seq_normal ?_; refine zsr ?_; (iterate 4 refine zw1 ?_); refine zn ?_; refine zf ?_; refine wpO_cons ?_; (refine op1_store1S rfl rfl (by (conv => lhs; whnf) <;> rfl) rfl rfl (S.up0 hS) rfl ?_; intro H2 hS; replace hS := S.dn0 hS); refine zn ?_; refine zf ?_; refine wpO_cons ?_; (refine op1_store1S rfl rfl (by (conv => lhs; whnf) <;> rfl) rfl rfl (S.up0 hS) rfl ?_; intro H4 hS; replace hS := S.dn0 hS); refine zns ?_; refine zsr ?_; refine zw1 ?_; refine zns ?_; refine wp_ret ?_; refine ret_of ?_; refine zr ?_; refine rk_nil ?_
        have h9 := hb _ _ { x with user := x.user, group := x.group } hS
        rw [show x.chown c x.user x.group = some { x with user := x.user, group := x.group } from by unfold Ob.chown; rw [if_neg (fun h => h.1 h3), if_neg (fun h => h h3)]]
        exact ⟨rfl, S.k1 h9⟩
      refine wp_region ?_; refine zw1 ?_; refine zn ?_; refine zf ?_; refine zh (S.g0 hS) ?_; refine zw1 ?_; refine zns ?_; refine wp_seq ?_; refine zsr ?_; refine zf ?_; refine zh (S.g2 hS) ?_; refine wpO_cons ?_; refine op1_neqI rfl rfl rfl ?_; refine zns ?_
      refine wp_ndec rfl (fun _ => ?_) (fun h => absurd h h3)
      refine wp_seq ?_; refine wp_seq ?_; refine wp_regionD ?_; refine zd1 ?_; refine zd1 ?_; refine zm ?_; refine zg ?_; refine zj (S.g0 hS) ?_; refine wpD_cons ?_; refine op1_neqI_s rfl rfl rfl ?_; refine zd1 ?_; refine zg ?_; refine zj (S.g2 hS) ?_; refine zd1 ?_; refine zm ?_; refine zg ?_; refine zj (S.g0 hS) ?_; refine wpD_cons ?_; refine op1_neqI rfl rfl rfl ?_; refine wpD_cons ?_; refine op1_pick_f rfl rfl (by (conv => lhs; whnf) <;> rfl) ?_; refine zd1 ?_; refine wpD_cons ?_
      by_cases h5 : c.user = x.user
      · rw [show (!decide (c.user = x.user)) = false from by rw [decide_eq_true h5]; rfl]
        refine op1_mov rfl (by (conv => lhs; whnf) <;> rfl) ?_; refine zd1 ?_; refine zm ?_; refine zg ?_; refine zj (S.g0 hS) ?_; refine wpD_cons ?_; refine op1_neqI_s rfl rfl rfl ?_; refine zd1 ?_; (iterate 4 refine zl ?_); refine wpD_cons ?_; refine op1_pick_f rfl rfl (by (conv => lhs; whnf) <;> rfl) ?_; refine wpD_cons ?_; refine op1_pick_f rfl rfl (by (conv => lhs; whnf) <;> rfl) ?_; refine wpD_nil ?_; refine dk_of ?_ ?_; (iterate 4 refine chk_skip ?_); refine zx 25 ?_ ?_; refine zy 4 ?_ ?_; exact zq (S.g0 hS); exact chkFs_nil; (iterate 3 refine chk_skip ?_); refine zx 21 ?_ ?_; refine zy 4 ?_ ?_; exact zq (S.g2 hS); exact chkFs_nil; (iterate 3 refine chk_skip ?_); refine zx 17 ?_ ?_; refine zy 4 ?_ ?_; exact zq (S.g0 hS); exact chkFs_nil; (iterate 7 refine chk_skip ?_); refine zx 9 ?_ ?_; refine zy 4 ?_ ?_; exact zq (S.g0 hS); exact chkFs_nil; (iterate 2 refine chk_skip ?_); refine chk_unw 6 rfl rfl rfl ?_; (iterate 5 refine chk_skip ?_); exact chk_end; refine seq_normal ?_; refine wp_false rfl ?_; refine wp_skip ?_; refine seq_normal ?_; refine wp_region ?_; refine zw1 ?_; refine zn ?_; refine zf ?_; refine zh (S.g0 hS) ?_; refine wpO_cons ?_; refine op1_andNot rfl rfl rfl ?_; refine zn ?_; refine zf ?_; refine wpO_cons ?_; (refine op1_store1S rfl rfl (by (conv => lhs; whnf) <;> rfl) rfl rfl (S.up0 hS) rfl ?_; intro H2 hS; replace hS := S.dn0 hS); refine zns ?_; refine zsr ?_; (iterate 4 refine zw1 ?_); refine zn ?_; refine zf ?_; refine wpO_cons ?_; (refine op1_store1S rfl rfl (by (conv => lhs; whnf) <;> rfl) rfl rfl (S.up0 hS) rfl ?_; intro H4 hS; replace hS := S.dn0 hS); refine zn ?_; refine zf ?_; refine wpO_cons ?_; (refine op1_store1S rfl rfl (by (conv => lhs; whnf) <;> rfl) rfl rfl (S.up0 hS) rfl ?_; intro H5 hS; replace hS := S.dn0 hS); refine zns ?_; refine zsr ?_; refine zw1 ?_; refine zns ?_; refine wp_ret ?_; refine ret_of ?_; refine zr ?_; refine rk_nil ?_
        rw [show x.chown c x.user x.group = some { x with user := x.user, group := x.group, mode := bitAndNot .i64 x.mode 3072 } from by unfold Ob.chown; rw [if_neg (by rintro ⟨_, h | h | h⟩ <;> first | exact h rfl | exact h h5 | exact h.1 rfl), if_pos h3]]
        have h9 := hb _ _ { x with user := x.user, group := x.group, mode := bitAndNot .i64 x.mode 3072 } hS
        exact ⟨rfl, S.k1 h9⟩
      · rw [show (!decide (c.user = x.user)) = true from by rw [decide_eq_false h5]; rfl]
        refine op1_skip rfl ?_; (iterate 11 refine zl ?_); refine wpD_cons ?_; refine op1_pick_t rfl rfl (by (conv => lhs; whnf) <;> rfl) ?_; refine wpD_nil ?_; refine dk_of ?_ ?_; (iterate 4 refine chk_skip ?_); refine zx 25 ?_ ?_; refine zy 4 ?_ ?_; exact zq (S.g0 hS); exact chkFs_nil; (iterate 3 refine chk_skip ?_); refine zx 21 ?_ ?_; refine zy 4 ?_ ?_; exact zq (S.g2 hS); exact chkFs_nil; (iterate 3 refine chk_skip ?_); refine zx 17 ?_ ?_; refine zy 4 ?_ ?_; exact zq (S.g0 hS); exact chkFs_nil; (iterate 7 refine chk_skip ?_); refine chk_unw 9 rfl rfl rfl ?_; (iterate 2 refine chk_skip ?_); refine chk_unw 6 rfl rfl rfl ?_; (iterate 5 refine chk_skip ?_); exact chk_end; refine seq_normal ?_; refine wp_true rfl ?_; refine zsr ?_; refine zw1 ?_; refine zns ?_; refine wp_ret ?_; refine seq_ret ?_; refine seq_ret ?_; refine ret_of ?_; refine zr ?_; refine rk_nil ?_
        rw [show x.chown c x.user x.group = none from if_pos ⟨h3, .inr (.inl h5)⟩]
        have h9 := hb _ _ x hS
        rw [Tb.setO_self hx] at h9
        exact ⟨rfl, S.k1 h9⟩
    · rw [if_neg h2]
      by_cases h3 : c.user = 0
      · rw [h3] at hS
        refine wp_skip ?_; refine seq_normal ?_; refine wp_seq ?_; refine zsr ?_; refine zf ?_; refine zh (S.g2 hS) ?_; refine wpO_cons ?_; refine op1_neqI_s rfl rfl rfl ?_; refine zns ?_; refine wp_false rfl ?_; refine wp_skip ?_; refine seq_normal ?_; refine zsr ?_; (iterate 4 refine zw1 ?_); refine zn ?_; refine zf ?_; refine wpO_cons ?_; (refine op1_store1S rfl rfl (by (conv => lhs; whnf) <;> rfl) rfl rfl (S.up0 hS) rfl ?_; intro H2 hS; replace hS := S.dn0 hS); refine zn ?_; refine zf ?_; refine wpO_cons ?_; (refine op1_store1S rfl rfl (by (conv => lhs; whnf) <;> rfl) rfl rfl (S.up0 hS) rfl ?_; intro H4 hS; replace hS := S.dn0 hS); refine zns ?_; refine zsr ?_; refine zw1 ?_; refine zns ?_; refine wp_ret ?_; refine ret_of ?_; refine zr ?_; refine rk_nil ?_
        have h9 := hb _ _ { x with user := x.user, group := g } hS
        rw [show x.chown c x.user g = some { x with user := x.user, group := g } from by unfold Ob.chown; rw [if_neg (fun h => h.1 h3), if_neg (fun h => h h3)]]
        exact ⟨rfl, S.k1 h9⟩
      refine wp_skip ?_; refine seq_normal ?_; refine wp_seq ?_; refine zsr ?_; refine zf ?_; refine zh (S.g2 hS) ?_; refine wpO_cons ?_; refine op1_neqI rfl rfl rfl ?_; refine zns ?_
      refine wp_ndec rfl (fun _ => ?_) (fun h => absurd h h3)
      refine wp_seq ?_; refine wp_seq ?_; refine wp_regionD ?_; refine zd1 ?_; refine zd1 ?_; refine zm ?_; refine zg ?_; refine zj (S.g0 hS) ?_; refine wpD_cons ?_; refine op1_neqI_s rfl rfl rfl ?_; refine zd1 ?_; refine zg ?_; refine zj (S.g2 hS) ?_; refine zd1 ?_; refine zm ?_; refine zg ?_; refine zj (S.g0 hS) ?_; refine wpD_cons ?_; refine op1_neqI rfl rfl rfl ?_; refine wpD_cons ?_; refine op1_pick_f rfl rfl (by (conv => lhs; whnf) <;> rfl) ?_; refine zd1 ?_; refine wpD_cons ?_
      by_cases h5 : c.user = x.user
      · rw [show (!decide (c.user = x.user)) = false from by rw [decide_eq_true h5]; rfl]
        refine op1_mov rfl (by (conv => lhs; whnf) <;> rfl) ?_; refine zd1 ?_; refine zm ?_; refine zg ?_; refine zj (S.g0 hS) ?_; refine wpD_cons ?_; refine op1_neqI rfl rfl rfl ?_; refine zd1 ?_; refine wpD_cons ?_
        by_cases h6 : g = x.group
        · rw [show (!decide (g = x.group)) = false from by rw [decide_eq_true h6]; rfl]
          refine op1_skip rfl ?_; (iterate 3 refine zl ?_); refine wpD_cons ?_; refine op1_pick_f rfl rfl (by (conv => lhs; whnf) <;> rfl) ?_; refine wpD_cons ?_; refine op1_pick_f rfl rfl (by (conv => lhs; whnf) <;> rfl) ?_; refine wpD_nil ?_; refine dk_of ?_ ?_; (iterate 4 refine chk_skip ?_); refine zx 25 ?_ ?_; refine zy 4 ?_ ?_; exact zq (S.g0 hS); exact chkFs_nil; (iterate 3 refine chk_skip ?_); refine zx 21 ?_ ?_; refine zy 4 ?_ ?_; exact zq (S.g2 hS); exact chkFs_nil; (iterate 3 refine chk_skip ?_); refine zx 17 ?_ ?_; refine zy 4 ?_ ?_; exact zq (S.g0 hS); exact chkFs_nil; (iterate 7 refine chk_skip ?_); refine zx 9 ?_ ?_; refine zy 4 ?_ ?_; exact zq (S.g0 hS); exact chkFs_nil; (iterate 2 refine chk_skip ?_); refine chk_unw 6 rfl rfl rfl ?_; (iterate 5 refine chk_skip ?_); exact chk_end; refine seq_normal ?_; refine wp_false rfl ?_; refine wp_skip ?_; refine seq_normal ?_; refine wp_region ?_; refine zw1 ?_; refine zn ?_; refine zf ?_; refine zh (S.g0 hS) ?_; refine wpO_cons ?_; refine op1_andNot rfl rfl rfl ?_; refine zn ?_; refine zf ?_; refine wpO_cons ?_; (refine op1_store1S rfl rfl (by (conv => lhs; whnf) <;> rfl) rfl rfl (S.up0 hS) rfl ?_; intro H2 hS; replace hS := S.dn0 hS); refine zns ?_; refine zsr ?_; (iterate 4 refine zw1 ?_); refine zn ?_; refine zf ?_; refine wpO_cons ?_; (refine op1_store1S rfl rfl (by (conv => lhs; whnf) <;> rfl) rfl rfl (S.up0 hS) rfl ?_; intro H4 hS; replace hS := S.dn0 hS); refine zn ?_; refine zf ?_; refine wpO_cons ?_; (refine op1_store1S rfl rfl (by (conv => lhs; whnf) <;> rfl) rfl rfl (S.up0 hS) rfl ?_; intro H5 hS; replace hS := S.dn0 hS); refine zns ?_; refine zsr ?_; refine zw1 ?_; refine zns ?_; refine wp_ret ?_; refine ret_of ?_; refine zr ?_; refine rk_nil ?_
          rw [show x.chown c x.user g = some { x with user := x.user, group := g, mode := bitAndNot .i64 x.mode 3072 } from by unfold Ob.chown; rw [if_neg (by rintro ⟨_, h | h | h⟩ <;> first | exact h rfl | exact h h5 | exact h.1 h6), if_pos h3]]
          have h9 := hb _ _ { x with user := x.user, group := g, mode := bitAndNot .i64 x.mode 3072 } hS
          exact ⟨rfl, S.k1 h9⟩
        · rw [show (!decide (g = x.group)) = true from by rw [decide_eq_false h6]; rfl]
          refine op1_load_3 rfl rfl (by exact S.g2 hS) rfl rfl ?_; refine zd1 ?_; refine wpD_cons ?_; refine op1_call2 rfl (by (conv => lhs; whnf) <;> rfl) (by (conv => lhs; whnf) <;> rfl) ?_
          refine wpF_mono (L66 (g := g) hc hS) ?_
          rintro _ H4 ⟨rfl, hS4⟩
          have hT := hS
          clear hS
          have hS := hS4
          clear hS4
          by_cases h7 : c.mem g
          · rw [decide_eq_true h7]
            refine wpD_cons ?_; refine op1_not_t rfl rfl ?_; refine wpD_cons ?_; refine op1_pick_t rfl rfl (by (conv => lhs; whnf) <;> rfl) ?_; refine wpD_cons ?_; refine op1_pick_f rfl rfl (by (conv => lhs; whnf) <;> rfl) ?_; refine wpD_nil ?_; refine dk_of ?_ ?_; (iterate 4 refine chk_skip ?_); refine zx 25 ?_ ?_; refine zy 4 ?_ ?_; exact zq (S.g0 hT); exact chkFs_nil; (iterate 3 refine chk_skip ?_); refine zx 21 ?_ ?_; refine zy 4 ?_ ?_; exact zq (S.g2 hT); exact chkFs_nil; (iterate 3 refine chk_skip ?_); refine zx 17 ?_ ?_; refine zy 4 ?_ ?_; exact zq (S.g0 hT); exact chkFs_nil; (iterate 7 refine chk_skip ?_); refine zx 9 ?_ ?_; refine zy 4 ?_ ?_; exact zq (S.g0 hT); exact chkFs_nil; (iterate 2 refine chk_skip ?_); refine zx 6 ?_ ?_; refine zy 4 ?_ ?_; exact chk_loadN rfl (by exact S.g2 hT) rfl rfl rfl; exact chkFs_nil; (iterate 5 refine chk_skip ?_); exact chk_end; refine seq_normal ?_; refine wp_false rfl ?_; refine wp_skip ?_; refine seq_normal ?_; refine wp_region ?_; refine zw1 ?_; refine zn ?_; refine zf ?_; refine zh (S.g0 hS) ?_; refine wpO_cons ?_; refine op1_andNot rfl rfl rfl ?_; refine zn ?_; refine zf ?_; refine wpO_cons ?_; (refine op1_store1S rfl rfl (by (conv => lhs; whnf) <;> rfl) rfl rfl (S.up0 hS) rfl ?_; intro H2 hS; replace hS := S.dn0 hS); refine zns ?_; refine zsr ?_; (iterate 4 refine zw1 ?_); refine zn ?_; refine zf ?_; refine wpO_cons ?_; (refine op1_store1S rfl rfl (by (conv => lhs; whnf) <;> rfl) rfl rfl (S.up0 hS) rfl ?_; intro H5 hS; replace hS := S.dn0 hS); refine zn ?_; refine zf ?_; refine wpO_cons ?_; (refine op1_store1S rfl rfl (by (conv => lhs; whnf) <;> rfl) rfl rfl (S.up0 hS) rfl ?_; intro H6 hS; replace hS := S.dn0 hS); refine zns ?_; refine zsr ?_; refine zw1 ?_; refine zns ?_; refine wp_ret ?_; refine ret_of ?_; refine zr ?_; refine rk_nil ?_
            rw [show x.chown c x.user g = some { x with user := x.user, group := g, mode := bitAndNot .i64 x.mode 3072 } from by unfold Ob.chown; rw [if_neg (by rintro ⟨_, h | h | h⟩ <;> first | exact h rfl | exact h h5 | exact h.2 h7), if_pos h3]]
            have h9 := hb _ _ { x with user := x.user, group := g, mode := bitAndNot .i64 x.mode 3072 } hS
            exact ⟨rfl, S.k1 h9⟩
          · rw [decide_eq_false h7]
            refine wpD_cons ?_; refine op1_not_f rfl rfl ?_; refine wpD_cons ?_; refine op1_pick_t rfl rfl (by (conv => lhs; whnf) <;> rfl) ?_; refine wpD_cons ?_; refine op1_pick_f rfl rfl (by (conv => lhs; whnf) <;> rfl) ?_; refine wpD_nil ?_; refine dk_of ?_ ?_; (iterate 4 refine chk_skip ?_); refine zx 25 ?_ ?_; refine zy 4 ?_ ?_; exact zq (S.g0 hT); exact chkFs_nil; (iterate 3 refine chk_skip ?_); refine zx 21 ?_ ?_; refine zy 4 ?_ ?_; exact zq (S.g2 hT); exact chkFs_nil; (iterate 3 refine chk_skip ?_); refine zx 17 ?_ ?_; refine zy 4 ?_ ?_; exact zq (S.g0 hT); exact chkFs_nil; (iterate 7 refine chk_skip ?_); refine zx 9 ?_ ?_; refine zy 4 ?_ ?_; exact zq (S.g0 hT); exact chkFs_nil; (iterate 2 refine chk_skip ?_); refine zx 6 ?_ ?_; refine zy 4 ?_ ?_; exact chk_loadN rfl (by exact S.g2 hT) rfl rfl rfl; exact chkFs_nil; (iterate 5 refine chk_skip ?_); exact chk_end; refine seq_normal ?_; refine wp_true rfl ?_; refine zsr ?_; refine zw1 ?_; refine zns ?_; refine wp_ret ?_; refine seq_ret ?_; refine seq_ret ?_; refine ret_of ?_; refine zr ?_; refine rk_nil ?_
            rw [show x.chown c x.user g = none from if_pos ⟨h3, .inr (.inr ⟨h6, h7⟩)⟩]
            have h9 := hb _ _ x hS
            rw [Tb.setO_self hx] at h9
            exact ⟨rfl, S.k1 h9⟩
      · rw [show (!decide (c.user = x.user)) = true from by rw [decide_eq_false h5]; rfl]
        refine op1_skip rfl ?_; (iterate 11 refine zl ?_); refine wpD_cons ?_; refine op1_pick_t rfl rfl (by (conv => lhs; whnf) <;> rfl) ?_; refine wpD_nil ?_; refine dk_of ?_ ?_; (iterate 4 refine chk_skip ?_); refine zx 25 ?_ ?_; refine zy 4 ?_ ?_; exact zq (S.g0 hS); exact chkFs_nil; (iterate 3 refine chk_skip ?_); refine zx 21 ?_ ?_; refine zy 4 ?_ ?_; exact zq (S.g2 hS); exact chkFs_nil; (iterate 3 refine chk_skip ?_); refine zx 17 ?_ ?_; refine zy 4 ?_ ?_; exact zq (S.g0 hS); exact chkFs_nil; (iterate 7 refine chk_skip ?_); refine chk_unw 9 rfl rfl rfl ?_; (iterate 2 refine chk_skip ?_); refine chk_unw 6 rfl rfl rfl ?_; (iterate 5 refine chk_skip ?_); exact chk_end; refine seq_normal ?_; refine wp_true rfl ?_; refine zsr ?_; refine zw1 ?_; refine zns ?_; refine wp_ret ?_; refine seq_ret ?_; refine seq_ret ?_; refine ret_of ?_; refine zr ?_; refine rk_nil ?_
        rw [show x.chown c x.user g = none from if_pos ⟨h3, .inr (.inl h5)⟩]
        have h9 := hb _ _ x hS
        rw [Tb.setO_self hx] at h9
        exact ⟨rfl, S.k1 h9⟩
  · rw [if_neg h1]
    refine wp_skip ?_; refine seq_normal ?_; refine wp_seq ?_; refine zsr ?_; refine zw1 ?_; refine wpO_cons ?_; refine op1_lss rfl rfl rfl ?_; refine zns ?_
    refine wp_dec rfl (fun h2 => ?_) (fun h2 => ?_)
    · rw [if_pos h2]
      by_cases h3 : c.user = 0
      · rw [h3] at hS
        refine wp_region ?_; refine zw1 ?_; refine zn ?_; refine zf ?_; refine zh (S.g0 hS) ?_; refine zw1 ?_; refine zns ?_; refine wp_seq ?_; refine zsr ?_; refine zf ?_; refine zh (S.g2 hS) ?_; refine wpO_cons ?_; refine op1_neqI_s rfl rfl rfl ?_; refine zns ?_; refine wp_false rfl ?_; refine wp_skip ?_; refine seq_normal ?_; refine zsr ?_; (iterate 4 refine zw1 ?_); refine zn ?_; refine zf ?_; refine wpO_cons ?_; (refine op1_store1S rfl rfl (by (conv => lhs; whnf) <;> rfl) rfl rfl (S.up0 hS) rfl ?_; intro H2 hS; replace hS := S.dn0 hS); refine zn ?_; refine zf ?_; refine wpO_cons ?_; (refine op1_store1S rfl rfl (by (conv => lhs; whnf) <;> rfl) rfl rfl (S.up0 hS) rfl ?_; intro H4 hS; replace hS := S.dn0 hS); refine zns ?_; refine zsr ?_; refine zw1 ?_; refine zns ?_; refine wp_ret ?_; refine ret_of ?_; refine zr ?_; refine rk_nil ?_
        have h9 := hb _ _ { x with user := u, group := x.group } hS
        rw [show x.chown c u x.group = some { x with user := u, group := x.group } from by unfold Ob.chown; rw [if_neg (fun h => h.1 h3), if_neg (fun h => h h3)]]
        exact ⟨rfl, S.k1 h9⟩
      refine wp_region ?_; refine zw1 ?_; refine zn ?_; refine zf ?_; refine zh (S.g0 hS) ?_; refine zw1 ?_; refine zns ?_; refine wp_seq ?_; refine zsr ?_; refine zf ?_; refine zh (S.g2 hS) ?_; refine wpO_cons ?_; refine op1_neqI rfl rfl rfl ?_; refine zns ?_
      refine wp_ndec rfl (fun _ => ?_) (fun h => absurd h h3)
      refine wp_seq ?_; refine wp_seq ?_; refine wp_regionD ?_; refine zd1 ?_; refine zd1 ?_; refine zm ?_; refine zg ?_; refine zj (S.g0 hS) ?_; refine wpD_cons ?_; refine op1_neqI rfl rfl rfl ?_; refine zd1 ?_; refine wpD_cons ?_
      by_cases h4 : u = x.user
      · rw [show (!decide (u = x.user)) = false from by rw [decide_eq_true h4]; rfl]
        refine op1_faddr0 rfl rfl ?_; refine zj (S.g2 hS) ?_; refine zd1 ?_; refine zm ?_; refine zg ?_; refine zj (S.g0 hS) ?_; refine wpD_cons ?_; refine op1_neqI rfl rfl rfl ?_; refine wpD_cons ?_; refine op1_pick_f rfl rfl (by (conv => lhs; whnf) <;> rfl) ?_; refine zd1 ?_; refine wpD_cons ?_
        by_cases h5 : c.user = x.user
        · rw [show (!decide (c.user = x.user)) = false from by rw [decide_eq_true h5]; rfl]
          refine op1_mov rfl (by (conv => lhs; whnf) <;> rfl) ?_; refine zd1 ?_; refine zm ?_; refine zg ?_; refine zj (S.g0 hS) ?_; refine wpD_cons ?_; refine op1_neqI_s rfl rfl rfl ?_; refine zd1 ?_; (iterate 4 refine zl ?_); refine wpD_cons ?_; refine op1_pick_f rfl rfl (by (conv => lhs; whnf) <;> rfl) ?_; refine wpD_cons ?_; refine op1_pick_f rfl rfl (by (conv => lhs; whnf) <;> rfl) ?_; refine wpD_nil ?_; refine dk_of ?_ ?_; (iterate 4 refine chk_skip ?_); refine zx 25 ?_ ?_; refine zy 4 ?_ ?_; exact zq (S.g0 hS); exact chkFs_nil; (iterate 3 refine chk_skip ?_); refine zx 21 ?_ ?_; refine zy 4 ?_ ?_; exact zq (S.g2 hS); exact chkFs_nil; (iterate 3 refine chk_skip ?_); refine zx 17 ?_ ?_; refine zy 4 ?_ ?_; exact zq (S.g0 hS); exact chkFs_nil; (iterate 7 refine chk_skip ?_); refine zx 9 ?_ ?_; refine zy 4 ?_ ?_; exact zq (S.g0 hS); exact chkFs_nil; (iterate 2 refine chk_skip ?_); refine chk_unw 6 rfl rfl rfl ?_; (iterate 5 refine chk_skip ?_); exact chk_end; refine seq_normal ?_; refine wp_false rfl ?_; refine wp_skip ?_; refine seq_normal ?_; refine wp_region ?_; refine zw1 ?_; refine zn ?_; refine zf ?_; refine zh (S.g0 hS) ?_; refine wpO_cons ?_; refine op1_andNot rfl rfl rfl ?_; refine zn ?_; refine zf ?_; refine wpO_cons ?_; (refine op1_store1S rfl rfl (by (conv => lhs; whnf) <;> rfl) rfl rfl (S.up0 hS) rfl ?_; intro H2 hS; replace hS := S.dn0 hS); refine zns ?_; refine zsr ?_; (iterate 4 refine zw1 ?_); refine zn ?_; refine zf ?_; refine wpO_cons ?_; (refine op1_store1S rfl rfl (by (conv => lhs; whnf) <;> rfl) rfl rfl (S.up0 hS) rfl ?_; intro H4 hS; replace hS := S.dn0 hS); refine zn ?_; refine zf ?_; refine wpO_cons ?_; (refine op1_store1S rfl rfl (by (conv => lhs; whnf) <;> rfl) rfl rfl (S.up0 hS) rfl ?_; intro H5 hS; replace hS := S.dn0 hS); refine zns ?_; refine zsr ?_; refine zw1 ?_; refine zns ?_; refine wp_ret ?_; refine ret_of ?_; refine zr ?_; refine rk_nil ?_
          rw [show x.chown c u x.group = some { x with user := u, group := x.group, mode := bitAndNot .i64 x.mode 3072 } from by unfold Ob.chown; rw [if_neg (by rintro ⟨_, h | h | h⟩ <;> first | exact h h4 | exact h h5 | exact h.1 rfl), if_pos h3]]
          have h9 := hb _ _ { x with user := u, group := x.group, mode := bitAndNot .i64 x.mode 3072 } hS
          exact ⟨rfl, S.k1 h9⟩
        · rw [show (!decide (c.user = x.user)) = true from by rw [decide_eq_false h5]; rfl]
          refine op1_skip rfl ?_; (iterate 11 refine zl ?_); refine wpD_cons ?_; refine op1_pick_t rfl rfl (by (conv => lhs; whnf) <;> rfl) ?_; refine wpD_nil ?_; refine dk_of ?_ ?_; (iterate 4 refine chk_skip ?_); refine zx 25 ?_ ?_; refine zy 4 ?_ ?_; exact zq (S.g0 hS); exact chkFs_nil; (iterate 3 refine chk_skip ?_); refine zx 21 ?_ ?_; refine zy 4 ?_ ?_; exact zq (S.g2 hS); exact chkFs_nil; (iterate 3 refine chk_skip ?_); refine zx 17 ?_ ?_; refine zy 4 ?_ ?_; exact zq (S.g0 hS); exact chkFs_nil; (iterate 7 refine chk_skip ?_); refine chk_unw 9 rfl rfl rfl ?_; (iterate 2 refine chk_skip ?_); refine chk_unw 6 rfl rfl rfl ?_; (iterate 5 refine chk_skip ?_); exact chk_end; refine seq_normal ?_; refine wp_true rfl ?_; refine zsr ?_; refine zw1 ?_; refine zns ?_; refine wp_ret ?_; refine seq_ret ?_; refine seq_ret ?_; refine ret_of ?_; refine zr ?_; refine rk_nil ?_
          rw [show x.chown c u x.group = none from if_pos ⟨h3, .inr (.inl h5)⟩]
          have h9 := hb _ _ x hS
          rw [Tb.setO_self hx] at h9
          exact ⟨rfl, S.k1 h9⟩
      · rw [show (!decide (u = x.user)) = true from by rw [decide_eq_false h4]; rfl]
        refine op1_skip rfl ?_; (iterate 6 refine zl ?_); refine wpD_cons ?_; refine op1_pick_t rfl rfl (by (conv => lhs; whnf) <;> rfl) ?_; refine zd1 ?_; (iterate 12 refine zl ?_); refine wpD_cons ?_; refine op1_pick_t rfl rfl (by (conv => lhs; whnf) <;> rfl) ?_; refine wpD_nil ?_; refine dk_of ?_ ?_; (iterate 4 refine chk_skip ?_); refine zx 25 ?_ ?_; refine zy 4 ?_ ?_; exact zq (S.g0 hS); exact chkFs_nil; (iterate 3 refine chk_skip ?_); refine chk_unw 21 rfl rfl rfl ?_; (iterate 3 refine chk_skip ?_); refine chk_unw 17 rfl rfl rfl ?_; (iterate 7 refine chk_skip ?_); refine chk_unw 9 rfl rfl rfl ?_; (iterate 2 refine chk_skip ?_); refine chk_unw 6 rfl rfl rfl ?_; (iterate 5 refine chk_skip ?_); exact chk_end; refine seq_normal ?_; refine wp_true rfl ?_; refine zsr ?_; refine zw1 ?_; refine zns ?_; refine wp_ret ?_; refine seq_ret ?_; refine seq_ret ?_; refine ret_of ?_; refine zr ?_; refine rk_nil ?_
        rw [show x.chown c u x.group = none from if_pos ⟨h3, .inl h4⟩]
        have h9 := hb _ _ x hS
        rw [Tb.setO_self hx] at h9
        exact ⟨rfl, S.k1 h9⟩
    · rw [if_neg h2]
      by_cases h3 : c.user = 0
      · rw [h3] at hS
        refine wp_skip ?_; refine seq_normal ?_; refine wp_seq ?_; refine zsr ?_; refine zf ?_; refine zh (S.g2 hS) ?_; refine wpO_cons ?_; refine op1_neqI_s rfl rfl rfl ?_; refine zns ?_; refine wp_false rfl ?_; refine wp_skip ?_; refine seq_normal ?_; refine zsr ?_; (iterate 4 refine zw1 ?_); refine zn ?_; refine zf ?_; refine wpO_cons ?_; (refine op1_store1S rfl rfl (by (conv => lhs; whnf) <;> rfl) rfl rfl (S.up0 hS) rfl ?_; intro H2 hS; replace hS := S.dn0 hS); refine zn ?_; refine zf ?_; refine wpO_cons ?_; (refine op1_store1S rfl rfl (by (conv => lhs; whnf) <;> rfl) rfl rfl (S.up0 hS) rfl ?_; intro H4 hS; replace hS := S.dn0 hS); refine zns ?_; refine zsr ?_; refine zw1 ?_; refine zns ?_; refine wp_ret ?_; refine ret_of ?_; refine zr ?_; refine rk_nil ?_
        have h9 := hb _ _ { x with user := u, group := g } hS
        rw [show x.chown c u g = some { x with user := u, group := g } from by unfold Ob.chown; rw [if_neg (fun h => h.1 h3), if_neg (fun h => h h3)]]
        exact ⟨rfl, S.k1 h9⟩
      refine wp_skip ?_; refine seq_normal ?_; refine wp_seq ?_; refine zsr ?_; refine zf ?_; refine zh (S.g2 hS) ?_; refine wpO_cons ?_; refine op1_neqI rfl rfl rfl ?_; refine zns ?_
      refine wp_ndec rfl (fun _ => ?_) (fun h => absurd h h3)
      refine wp_seq ?_; refine wp_seq ?_; refine wp_regionD ?_; refine zd1 ?_; refine zd1 ?_; refine zm ?_; refine zg ?_; refine zj (S.g0 hS) ?_; refine wpD_cons ?_; refine op1_neqI rfl rfl rfl ?_; refine zd1 ?_; refine wpD_cons ?_
      by_cases h4 : u = x.user
      · rw [show (!decide (u = x.user)) = false from by rw [decide_eq_true h4]; rfl]
        refine op1_faddr0 rfl rfl ?_; refine zj (S.g2 hS) ?_; refine zd1 ?_; refine zm ?_; refine zg ?_; refine zj (S.g0 hS) ?_; refine wpD_cons ?_; refine op1_neqI rfl rfl rfl ?_; refine wpD_cons ?_; refine op1_pick_f rfl rfl (by (conv => lhs; whnf) <;> rfl) ?_; refine zd1 ?_; refine wpD_cons ?_
        by_cases h5 : c.user = x.user
        · rw [show (!decide (c.user = x.user)) = false from by rw [decide_eq_true h5]; rfl]
          refine op1_mov rfl (by (conv => lhs; whnf) <;> rfl) ?_; refine zd1 ?_; refine zm ?_; refine zg ?_; refine zj (S.g0 hS) ?_; refine wpD_cons ?_; refine op1_neqI rfl rfl rfl ?_; refine zd1 ?_; refine wpD_cons ?_
          by_cases h6 : g = x.group
          · rw [show (!decide (g = x.group)) = false from by rw [decide_eq_true h6]; rfl]
            refine op1_skip rfl ?_; (iterate 3 refine zl ?_); refine wpD_cons ?_; refine op1_pick_f rfl rfl (by (conv => lhs; whnf) <;> rfl) ?_; refine wpD_cons ?_; refine op1_pick_f rfl rfl (by (conv => lhs; whnf) <;> rfl) ?_; refine wpD_nil ?_; refine dk_of ?_ ?_; (iterate 4 refine chk_skip ?_); refine zx 25 ?_ ?_; refine zy 4 ?_ ?_; exact zq (S.g0 hS); exact chkFs_nil; (iterate 3 refine chk_skip ?_); refine zx 21 ?_ ?_; refine zy 4 ?_ ?_; exact zq (S.g2 hS); exact chkFs_nil; (iterate 3 refine chk_skip ?_); refine zx 17 ?_ ?_; refine zy 4 ?_ ?_; exact zq (S.g0 hS); exact chkFs_nil; (iterate 7 refine chk_skip ?_); refine zx 9 ?_ ?_; refine zy 4 ?_ ?_; exact zq (S.g0 hS); exact chkFs_nil; (iterate 2 refine chk_skip ?_); refine chk_unw 6 rfl rfl rfl ?_; (iterate 5 refine chk_skip ?_); exact chk_end; refine seq_normal ?_; refine wp_false rfl ?_; refine wp_skip ?_; refine seq_normal ?_; refine wp_region ?_; refine zw1 ?_; refine zn ?_; refine zf ?_; refine zh (S.g0 hS) ?_; refine wpO_cons ?_; refine op1_andNot rfl rfl rfl ?_; refine zn ?_; refine zf ?_; refine wpO_cons ?_; (refine op1_store1S rfl rfl (by (conv => lhs; whnf) <;> rfl) rfl rfl (S.up0 hS) rfl ?_; intro H2 hS; replace hS := S.dn0 hS); refine zns ?_; refine zsr ?_; (iterate 4 refine zw1 ?_); refine zn ?_; refine zf ?_; refine wpO_cons ?_; (refine op1_store1S rfl rfl (by (conv => lhs; whnf) <;> rfl) rfl rfl (S.up0 hS) rfl ?_; intro H4 hS; replace hS := S.dn0 hS); refine zn ?_; refine zf ?_; refine wpO_cons ?_; (refine op1_store1S rfl rfl (by (conv => lhs; whnf) <;> rfl) rfl rfl (S.up0 hS) rfl ?_; intro H5 hS; replace hS := S.dn0 hS); refine zns ?_; refine zsr ?_; refine zw1 ?_; refine zns ?_; refine wp_ret ?_; refine ret_of ?_; refine zr ?_; refine rk_nil ?_
            rw [show x.chown c u g = some { x with user := u, group := g, mode := bitAndNot .i64 x.mode 3072 } from by unfold Ob.chown; rw [if_neg (by rintro ⟨_, h | h | h⟩ <;> first | exact h h4 | exact h h5 | exact h.1 h6), if_pos h3]]
            have h9 := hb _ _ { x with user := u, group := g, mode := bitAndNot .i64 x.mode 3072 } hS
            exact ⟨rfl, S.k1 h9⟩
          · rw [show (!decide (g = x.group)) = true from by rw [decide_eq_false h6]; rfl]
            refine op1_load_3 rfl rfl (by exact S.g2 hS) rfl rfl ?_; refine zd1 ?_; refine wpD_cons ?_; refine op1_call2 rfl (by (conv => lhs; whnf) <;> rfl) (by (conv => lhs; whnf) <;> rfl) ?_
            refine wpF_mono (L66 (g := g) hc hS) ?_
            rintro _ H4 ⟨rfl, hS4⟩
            have hT := hS
            clear hS
            have hS := hS4
            clear hS4
            by_cases h7 : c.mem g
            · rw [decide_eq_true h7]
              refine wpD_cons ?_; refine op1_not_t rfl rfl ?_; refine wpD_cons ?_; refine op1_pick_t rfl rfl (by (conv => lhs; whnf) <;> rfl) ?_; refine wpD_cons ?_; refine op1_pick_f rfl rfl (by (conv => lhs; whnf) <;> rfl) ?_; refine wpD_nil ?_; refine dk_of ?_ ?_; (iterate 4 refine chk_skip ?_); refine zx 25 ?_ ?_; refine zy 4 ?_ ?_; exact zq (S.g0 hT); exact chkFs_nil; (iterate 3 refine chk_skip ?_); refine zx 21 ?_ ?_; refine zy 4 ?_ ?_; exact zq (S.g2 hT); exact chkFs_nil; (iterate 3 refine chk_skip ?_); refine zx 17 ?_ ?_; refine zy 4 ?_ ?_; exact zq (S.g0 hT); exact chkFs_nil; (iterate 7 refine chk_skip ?_); refine zx 9 ?_ ?_; refine zy 4 ?_ ?_; exact zq (S.g0 hT); exact chkFs_nil; (iterate 2 refine chk_skip ?_); refine zx 6 ?_ ?_; refine zy 4 ?_ ?_; exact chk_loadN rfl (by exact S.g2 hT) rfl rfl rfl; exact chkFs_nil; (iterate 5 refine chk_skip ?_); exact chk_end; refine seq_normal ?_; refine wp_false rfl ?_; refine wp_skip ?_; refine seq_normal ?_; refine wp_region ?_; refine zw1 ?_; refine zn ?_; refine zf ?_; refine zh (S.g0 hS) ?_; refine wpO_cons ?_; refine op1_andNot rfl rfl rfl ?_; refine zn ?_; refine zf ?_; refine wpO_cons ?_; (refine op1_store1S rfl rfl (by (conv => lhs; whnf) <;> rfl) rfl rfl (S.up0 hS) rfl ?_; intro H2 hS; replace hS := S.dn0 hS); refine zns ?_; refine zsr ?_; (iterate 4 refine zw1 ?_); refine zn ?_; refine zf ?_; refine wpO_cons ?_; (refine op1_store1S rfl rfl (by (conv => lhs; whnf) <;> rfl) rfl rfl (S.up0 hS) rfl ?_; intro H5 hS; replace hS := S.dn0 hS); refine zn ?_; refine zf ?_; refine wpO_cons ?_; (refine op1_store1S rfl rfl (by (conv => lhs; whnf) <;> rfl) rfl rfl (S.up0 hS) rfl ?_; intro H6 hS; replace hS := S.dn0 hS); refine zns ?_; refine zsr ?_; refine zw1 ?_; refine zns ?_; refine wp_ret ?_; refine ret_of ?_; refine zr ?_; refine rk_nil ?_
              rw [show x.chown c u g = some { x with user := u, group := g, mode := bitAndNot .i64 x.mode 3072 } from by unfold Ob.chown; rw [if_neg (by rintro ⟨_, h | h | h⟩ <;> first | exact h h4 | exact h h5 | exact h.2 h7), if_pos h3]]
              have h9 := hb _ _ { x with user := u, group := g, mode := bitAndNot .i64 x.mode 3072 } hS
              exact ⟨rfl, S.k1 h9⟩
            · rw [decide_eq_false h7]
              refine wpD_cons ?_; refine op1_not_f rfl rfl ?_; refine wpD_cons ?_; refine op1_pick_t rfl rfl (by (conv => lhs; whnf) <;> rfl) ?_; refine wpD_cons ?_; refine op1_pick_f rfl rfl (by (conv => lhs; whnf) <;> rfl) ?_; refine wpD_nil ?_; refine dk_of ?_ ?_; (iterate 4 refine chk_skip ?_); refine zx 25 ?_ ?_; refine zy 4 ?_ ?_; exact zq (S.g0 hT); exact chkFs_nil; (iterate 3 refine chk_skip ?_); refine zx 21 ?_ ?_; refine zy 4 ?_ ?_; exact zq (S.g2 hT); exact chkFs_nil; (iterate 3 refine chk_skip ?_); refine zx 17 ?_ ?_; refine zy 4 ?_ ?_; exact zq (S.g0 hT); exact chkFs_nil; (iterate 7 refine chk_skip ?_); refine zx 9 ?_ ?_; refine zy 4 ?_ ?_; exact zq (S.g0 hT); exact chkFs_nil; (iterate 2 refine chk_skip ?_); refine zx 6 ?_ ?_; refine zy 4 ?_ ?_; exact chk_loadN rfl (by exact S.g2 hT) rfl rfl rfl; exact chkFs_nil; (iterate 5 refine chk_skip ?_); exact chk_end; refine seq_normal ?_; refine wp_true rfl ?_; refine zsr ?_; refine zw1 ?_; refine zns ?_; refine wp_ret ?_; refine seq_ret ?_; refine seq_ret ?_; refine ret_of ?_; refine zr ?_; refine rk_nil ?_
              rw [show x.chown c u g = none from if_pos ⟨h3, .inr (.inr ⟨h6, h7⟩)⟩]
              have h9 := hb _ _ x hS
              rw [Tb.setO_self hx] at h9
              exact ⟨rfl, S.k1 h9⟩
        · rw [show (!decide (c.user = x.user)) = true from by rw [decide_eq_false h5]; rfl]
          refine op1_skip rfl ?_; (iterate 11 refine zl ?_); refine wpD_cons ?_; refine op1_pick_t rfl rfl (by (conv => lhs; whnf) <;> rfl) ?_; refine wpD_nil ?_; refine dk_of ?_ ?_; (iterate 4 refine chk_skip ?_); refine zx 25 ?_ ?_; refine zy 4 ?_ ?_; exact zq (S.g0 hS); exact chkFs_nil; (iterate 3 refine chk_skip ?_); refine zx 21 ?_ ?_; refine zy 4 ?_ ?_; exact zq (S.g2 hS); exact chkFs_nil; (iterate 3 refine chk_skip ?_); refine zx 17 ?_ ?_; refine zy 4 ?_ ?_; exact zq (S.g0 hS); exact chkFs_nil; (iterate 7 refine chk_skip ?_); refine chk_unw 9 rfl rfl rfl ?_; (iterate 2 refine chk_skip ?_); refine chk_unw 6 rfl rfl rfl ?_; (iterate 5 refine chk_skip ?_); exact chk_end; refine seq_normal ?_; refine wp_true rfl ?_; refine zsr ?_; refine zw1 ?_; refine zns ?_; refine wp_ret ?_; refine seq_ret ?_; refine seq_ret ?_; refine ret_of ?_; refine zr ?_; refine rk_nil ?_
          rw [show x.chown c u g = none from if_pos ⟨h3, .inr (.inl h5)⟩]
          have h9 := hb _ _ x hS
          rw [Tb.setO_self hx] at h9
          exact ⟨rfl, S.k1 h9⟩
      · rw [show (!decide (u = x.user)) = true from by rw [decide_eq_false h4]; rfl]
        refine op1_skip rfl ?_; (iterate 6 refine zl ?_); refine wpD_cons ?_; refine op1_pick_t rfl rfl (by (conv => lhs; whnf) <;> rfl) ?_; refine zd1 ?_; (iterate 12 refine zl ?_); refine wpD_cons ?_; refine op1_pick_t rfl rfl (by (conv => lhs; whnf) <;> rfl) ?_; refine wpD_nil ?_; refine dk_of ?_ ?_; (iterate 4 refine chk_skip ?_); refine zx 25 ?_ ?_; refine zy 4 ?_ ?_; exact zq (S.g0 hS); exact chkFs_nil; (iterate 3 refine chk_skip ?_); refine chk_unw 21 rfl rfl rfl ?_; (iterate 3 refine chk_skip ?_); refine chk_unw 17 rfl rfl rfl ?_; (iterate 7 refine chk_skip ?_); refine chk_unw 9 rfl rfl rfl ?_; (iterate 2 refine chk_skip ?_); refine chk_unw 6 rfl rfl rfl ?_; (iterate 5 refine chk_skip ?_); exact chk_end; refine seq_normal ?_; refine wp_true rfl ?_; refine zsr ?_; refine zw1 ?_; refine zns ?_; refine wp_ret ?_; refine seq_ret ?_; refine seq_ret ?_; refine ret_of ?_; refine zr ?_; refine rk_nil ?_
        rw [show x.chown c u g = none from if_pos ⟨h3, .inl h4⟩]
        have h9 := hb _ _ x hS
        rw [Tb.setO_self hx] at h9
        exact ⟨rfl, S.k1 h9⟩
end
end Go.E.At
/- Attributes: the table stays well formed. -/
namespace Go.E.At
open Go Go.E Go.Proofs.YtgbnjcmjioiclaaDoor.base Go.Proofs.YtgbnjcmjioiclaaDoor Go.Proofs
set_option linter.unusedVariables false
set_option linter.unusedSimpArgs false
set_option maxRecDepth 100000
theorem gSet_mem {X : Type} {l : List (Int × X)} {k : Int} {x : X} {y : Int × X} (h : y ∈ gSet l k x) : y ∈ l ∨ (y.1 ∈ l.map (·.1) ∧ y = (k, x)) := by
  induction l with
  | nil => cases h
  | cons p l ih =>
    unfold gSet at h
    split at h
    · rename_i e
      rcases List.mem_cons.1 h with rfl | h
      · exact .inr ⟨by simp, by rw [e]⟩
      · exact .inl (List.mem_cons_of_mem _ h)
    · rcases List.mem_cons.1 h with rfl | h
      · exact .inl (by simp)
      · rcases ih h with h | ⟨h1, h2⟩
        · exact .inl (List.mem_cons_of_mem _ h)
        · exact .inr ⟨by simp at h1 ⊢; exact .inr h1, h2⟩
theorem gDel_sub {X : Type} (l : List (Int × X)) (k : Int) : List.Sublist (gDel l k) l := by
  induction l with
  | nil => exact List.Sublist.refl _
  | cons p l ih =>
    unfold gDel
    split
    · exact List.sublist_cons_self _ _
    · exact ih.cons_cons _
theorem gGet_some {X : Type} {l : List (Int × X)} {k : Int} : (∃ x, gGet l k = some x) ↔ k ∈ l.map (·.1) := by
  cases h : gGet l k with
  | none => exact ⟨fun ⟨_, h⟩ => (by cases h), fun hm => absurd hm (gGet_none.1 h)⟩
  | some x => exact ⟨fun _ => List.mem_map_of_mem (f := (·.1)) (gGet_mem h), fun _ => ⟨x, rfl⟩⟩
theorem TbOk.setO {t : Tb} {o : Int} {x : Ob} (ht : TbOk t) (hx : ObR x) : TbOk (t.setO o x) where
  os := by unfold Tb.setO; rw [gSet_keys]; exact ht.os
  bs := ht.bs
  osB := fun y hy => by
    have h1 : y.1 ∈ (gSet t.os o x).map (·.1) := List.mem_map_of_mem (f := (·.1)) hy
    rw [gSet_keys] at h1
    obtain ⟨z, hz, e⟩ := List.mem_map.1 h1
    rw [← e]
    exact ht.osB z hz
  bsB := ht.bsB
  lo := ht.lo
  lb := ht.lb
  osR := fun y hy => by
    rcases gSet_mem hy with h | ⟨_, rfl⟩
    · exact ht.osR y h
    · exact hx
  bsR := ht.bsR
  has := fun y hy => by
    have h := gGet_some.1 (ht.has y hy)
    exact gGet_some.2 (by unfold Tb.setO; rw [gSet_keys]; exact h)
  osL := by unfold Tb.setO; rw [gSet_len]; exact ht.osL
  bsL := ht.bsL
theorem TbOk.setB {t : Tb} {id : Int} {k k' : Bk} (ht : TbOk t) (hk : gGet t.bs id = some k) (ho : k'.obj = k.obj) (hx : BkR k') : TbOk (t.setB id k') where
  os := ht.os
  bs := by unfold Tb.setB; rw [gSet_keys]; exact ht.bs
  osB := ht.osB
  bsB := fun y hy => by
    have h1 : y.1 ∈ (gSet t.bs id k').map (·.1) := List.mem_map_of_mem (f := (·.1)) hy
    rw [gSet_keys] at h1
    obtain ⟨z, hz, e⟩ := List.mem_map.1 h1
    rw [← e]
    exact ht.bsB z hz
  lo := ht.lo
  lb := ht.lb
  osR := ht.osR
  bsR := fun y hy => by
    rcases gSet_mem hy with h | ⟨_, rfl⟩
    · exact ht.bsR y h
    · exact hx
  has := fun y hy => by
    rcases gSet_mem hy with h | ⟨_, rfl⟩
    · exact ht.has y h
    · have := ht.has _ (gGet_mem hk)
      rw [show (id, k').2.obj = k.obj from ho]
      exact this
  osL := ht.osL
  bsL := by unfold Tb.setB; rw [gSet_len]; exact ht.bsL
theorem TbOk.set2 {t : Tb} {id o : Int} {k k' : Bk} {x : Ob} (ht : TbOk t) (hk : gGet t.bs id = some k) (ho : k'.obj = k.obj) (hx : BkR k') (hy : ObR x) : TbOk (t.set2 id k' o x) := (ht.setB hk ho hx).setO hy
theorem TbOk.delB {t : Tb} {id : Int} (ht : TbOk t) : TbOk { t with bs := gDel t.bs id } where
  os := ht.os
  bs := ht.bs.sublist ((gDel_sub _ _).map _)
  osB := ht.osB
  bsB := fun y hy => ht.bsB y ((gDel_sub _ _).mem hy)
  lo := ht.lo
  lb := ht.lb
  osR := ht.osR
  bsR := fun y hy => ht.bsR y ((gDel_sub _ _).mem hy)
  has := fun y hy => ht.has y ((gDel_sub _ _).mem hy)
  osL := ht.osL
  bsL := Nat.le_trans (gDel_sub _ _).length_le ht.bsL
theorem gDel_get {X : Type} {l : List (Int × X)} {k j : Int} (h : j ≠ k) : gGet (gDel l k) j = gGet l j := by
  induction l with
  | nil => rfl
  | cons p l ih =>
    unfold gDel
    split
    · rename_i e
      rw [gGet, if_neg (by rw [← e]; exact h)]
    · rename_i e
      unfold gGet
      rw [ih]
theorem TbOk.delO {t : Tb} {o : Int} (ht : TbOk t) (hn : (t.opens o).length = 0) : TbOk { t with os := gDel t.os o } where
  os := ht.os.sublist ((gDel_sub _ _).map _)
  bs := ht.bs
  osB := fun y hy => ht.osB y ((gDel_sub _ _).mem hy)
  bsB := ht.bsB
  lo := ht.lo
  lb := ht.lb
  osR := fun y hy => ht.osR y ((gDel_sub _ _).mem hy)
  bsR := ht.bsR
  has := fun y hy => by
    obtain ⟨x, hx⟩ := ht.has y hy
    refine ⟨x, (gDel_get fun e => ?_).trans hx⟩
    have hm : y.1 ∈ t.opens o := by
      show y.1 ∈ (t.bs.filter fun y => decide (y.2.obj = o)).map (·.1)
      have hf : y ∈ t.bs.filter (fun y => decide (y.2.obj = o)) := List.mem_filter.2 ⟨hy, decide_eq_true (p := y.2.obj = o) e⟩
      exact List.mem_map_of_mem (f := (·.1)) hf
    rw [List.eq_nil_of_length_eq_zero hn] at hm
    cases hm
  osL := Nat.le_trans (gDel_sub _ _).length_le ht.osL
  bsL := ht.bsL
theorem TbOk.addO {t : Tb} {x : Ob} (ht : TbOk t) (hl : t.lo < 1000000) (hx : ObR x) (hn : t.os.length < 1000) : TbOk (t.addO x) where
  os := by
    unfold Tb.addO
    rw [List.map_append, List.pairwise_append]
    refine ⟨ht.os, List.pairwise_singleton _ _, fun a ha b hb => ?_⟩
    obtain ⟨z, hz, rfl⟩ := List.mem_map.1 ha
    have := (ht.osB z hz).2
    simp at hb
    omega
  bs := ht.bs
  osB := fun y hy => by
    have h0 := ht.lo
    rcases List.mem_append.1 hy with h | h
    · have := ht.osB y h
      unfold Tb.addO
      exact ⟨this.1, by simp only; omega⟩
    · simp at h
      rw [h]
      unfold Tb.addO
      exact ⟨by simp only; omega, Int.le_refl _⟩
  bsB := ht.bsB
  lo := by have := ht.lo; unfold Tb.addO; simp only; omega
  lb := ht.lb
  osR := fun y hy => by
    rcases List.mem_append.1 hy with h | h
    · exact ht.osR y h
    · simp at h
      rw [h]
      exact hx
  bsR := ht.bsR
  has := fun y hy => by
    obtain ⟨z, hz⟩ := ht.has y hy
    refine gGet_some.2 ?_
    unfold Tb.addO
    rw [List.map_append]
    exact List.mem_append_left _ (gGet_some.1 ⟨z, hz⟩)
  osL := by unfold Tb.addO; rw [List.length_append]; simp; omega
  bsL := ht.bsL
theorem TbOk.addB {t : Tb} {k : Bk} {z : Ob} (ht : TbOk t) (hl : t.lb < 1000000) (hx : BkR k) (ho : gGet t.os k.obj = some z) (hn : t.bs.length < 200) : TbOk (t.addB k) where
  os := ht.os
  bs := by
    unfold Tb.addB
    rw [List.map_append, List.pairwise_append]
    refine ⟨ht.bs, List.pairwise_singleton _ _, fun a ha b hb => ?_⟩
    obtain ⟨z, hz, rfl⟩ := List.mem_map.1 ha
    have := (ht.bsB z hz).2
    simp at hb
    omega
  osB := ht.osB
  bsB := fun y hy => by
    have h0 := ht.lb
    rcases List.mem_append.1 hy with h | h
    · have := ht.bsB y h
      unfold Tb.addB
      exact ⟨this.1, by simp only; omega⟩
    · simp at h
      rw [h]
      unfold Tb.addB
      exact ⟨by simp only; omega, Int.le_refl _⟩
  lo := ht.lo
  lb := by have := ht.lb; unfold Tb.addB; simp only; omega
  osR := ht.osR
  bsR := fun y hy => by
    rcases List.mem_append.1 hy with h | h
    · exact ht.bsR y h
    · simp at h
      rw [h]
      exact hx
  has := fun y hy => by
    rcases List.mem_append.1 hy with h | h
    · exact ht.has y h
    · simp at h
      rw [h]
      exact ⟨z, ho⟩
  osL := ht.osL
  bsL := by unfold Tb.addB; rw [List.length_append]; simp; omega
end Go.E.At
/- Attributes: sweep, Unlink, Close. -/
namespace Go.E.At
open Go Go.E Go.Proofs.YtgbnjcmjioiclaaDoor.base Go.Proofs.YtgbnjcmjioiclaaDoor Go.Proofs
set_option linter.unusedVariables false
set_option linter.unusedSimpArgs false
set_option maxRecDepth 100000
def Tb.sweep (t : Tb) (o : Int) : Bool × Tb := match gGet t.os o with
  | none => (false, t)
  | some x => if 0 < x.links then (false, t) else if 0 < (t.opens o).length then (false, t) else (true, { t with os := gDel t.os o })
def Tb.unlink (t : Tb) (o : Int) : Bool × Int × Tb := match gGet t.os o with
  | none => (false, 22, t)
  | some x => if x.links = 0 then (false, 35, t) else (((t.setO o { x with links := x.links - 1 }).sweep o).1, 0, ((t.setO o { x with links := x.links - 1 }).sweep o).2)
def Tb.close (t : Tb) (id : Int) : Bool × Int × Tb := match gGet t.bs id with
  | none => (false, 3, t)
  | some k => if 0 < k.refs - 1 then (false, 0, t.setB id { k with refs := k.refs - 1 })
    else ((Tb.sweep { t with bs := gDel t.bs id } k.obj).1, 0, (Tb.sweep { t with bs := gDel t.bs id } k.obj).2)
section
variable {B H : AHeap} {As : List Asn} {t : Tb} {p : Nat} {o id : Int}
theorem L65 {x : Ob} (hx : gGet t.os o = some x) (ht : TbOk t) (hS : S B H (repP p t :: As)) : wpF C 65 [ptrB p, .int .i64 o] H fun v H' => v = .bool (t.sweep o).1 ∧ S B H' (repP p (t.sweep o).2 :: As) := by
  refine wpF_ofW o65 rfl rfl ?_
  obtain ⟨mo, ma, pa, kv, R, hk, hS1, hb⟩ := takeO hx hS
  clear hS
  have hS := hS1
  clear hS1
  have e0 : t.sweep o = if 0 < x.links then (false, t) else if 0 < (t.opens o).length then (false, t) else (true, { t with os := gDel t.os o }) := by unfold Tb.sweep; rw [hx]
  rw [e0]
  clear e0
  unfold tbC Ob.cells at hS
  unfold ptrB
  refine zsr ?_; refine zw1 ?_; refine zns ?_; refine wp_seq ?_; refine zsr ?_; refine zw1 ?_; refine zn ?_; refine zf ?_; refine wpO_cons ?_; refine op1_faddr rfl rfl ?_; refine zh (S.g0 hS) ?_; refine zw1 ?_; refine wpO_cons ?_
  refine op1_lookS1 keyI (k := o) rfl rfl rfl (S.up1 hS) ?_
  rw [hk]
  refine zn ?_; refine zf ?_; refine zh (S.g2 hS) ?_; refine wpO_cons ?_; refine op1_gtr rfl rfl rfl ?_; refine zw1 ?_; refine wpO_cons ?_
  have h9 := hb _ _ x (S.up1 (S.seps (L := [_, _, _, _]) (S.dn4 (S.up2 hS))))
  rw [Tb.setO_self hx] at h9
  refine op1_dec rfl (fun h1 => ?_) (fun h1 => ?_)
  · refine op1_skip rfl ?_; (iterate 4 refine zk ?_); refine zt ?_; refine zns ?_; refine wp_true rfl ?_; refine zsr ?_; refine zw1 ?_; refine zns ?_; refine wp_ret ?_; refine seq_ret ?_; refine ret_of ?_; refine zr ?_; refine rk_nil ?_
    rw [if_pos h1]
    exact ⟨rfl, h9⟩
  rw [if_neg h1]
  refine op1_mov rfl (by (conv => lhs; whnf) <;> rfl) ?_; refine zw1 ?_; refine wpO_cons ?_; refine op1_call2 rfl (by (conv => lhs; whnf) <;> rfl) (by (conv => lhs; whnf) <;> rfl) ?_
  refine wpF_mono (L21 (o := o) ht h9) ?_
  rintro v H2 hS2
  obtain ⟨sa, sc, rfl⟩ := S.shape1 hS2
  rw [show (i64s (t.opens o)).length = (t.opens o).length from by unfold i64s; rw [List.length_map]] at hS2 ⊢
  have hT := hS
  clear hS
  have hS := hS2
  clear hS2
  refine wpO_cons ?_; refine op1_len rfl rfl ?_; refine wpO_cons ?_; refine op1_gtr rfl rfl rfl ?_; refine zu ?_; refine zns ?_
  refine wp_dec rfl (fun h2 => ?_) (fun h2 => ?_)
  · refine zsr ?_; refine zw1 ?_; refine zns ?_; refine wp_ret ?_; refine seq_ret ?_; refine ret_of ?_; refine zr ?_; refine rk_nil ?_
    rw [if_pos (by omega)]
    exact ⟨rfl, S.k1 (S.up1 hS)⟩
  rw [if_neg (by omega)]
  clear hb hk hT
  obtain ⟨mo, ma, hS3⟩ := openP (S.up1 hS)
  obtain ⟨pa, kv, R, hk, _, hS4, _, hd⟩ := rgBorrow (S.up2 hS3) hx
  clear hS hS3
  have hS := S.up3 hS4
  clear hS4
  unfold tbC at hS
  refine wp_skip ?_; refine seq_normal ?_; refine zsr ?_; refine zw1 ?_; refine zn ?_; refine zf ?_; refine wpO_cons ?_; refine op1_faddr rfl rfl ?_; refine zh (S.g0 hS) ?_; refine zw1 ?_; refine wpO_cons ?_
  refine op1_delS keyI (k := o) rfl rfl rfl (S.up2 hS) ?_
  have hT := hS
  clear hS
  intro H3 hS
  refine zns ?_; refine zsr ?_; refine zw1 ?_; refine zns ?_; refine wp_ret ?_; refine ret_of ?_; refine zr ?_; refine rk_nil ?_
  have h5 := hd _ _ (S.up1 (S.up3 hS))
  have h6 := closeP (t := { t with os := gDel t.os o }) (S.up2 (S.up3 h5))
  exact ⟨rfl, S.k2 h6⟩
theorem L26 (ht : TbOk t) (hS : S B H (repP p t :: As)) : wpF C 26 [ptrB p, .int .i64 o] H fun v H' => v = .tuple ⟨[.bool (t.unlink o).1, .int .i64 (t.unlink o).2.1]⟩ ∧ S B H' (repP p (t.unlink o).2.2 :: As) := by
  refine wpF_ofW o26 rfl rfl ?_
  refine zsr ?_; refine zw1 ?_; refine zw1 ?_; refine zns ?_; refine zsr ?_; refine zw1 ?_; refine zw1 ?_; refine wpO_cons ?_; refine op1_call2 rfl (by (conv => lhs; whnf) <;> rfl) (by (conv => lhs; whnf) <;> rfl) ?_
  refine wpF_mono (L42 (id := o) hS) ?_
  rintro _ H3 (⟨hx, rfl, hS3⟩ | ⟨x, pa, R, hx, rfl, hS3, hb⟩)
  · clear hS
    have hS := hS3
    clear hS3
    refine zw1 ?_; refine wpO_cons ?_; refine op1_extract rfl rfl rfl ?_; refine wpO_cons ?_; refine op1_extract rfl rfl rfl ?_; refine zw1 ?_; refine zw1 ?_; refine zns ?_; refine wp_seq ?_; refine zsr ?_; refine zw1 ?_; refine wpO_cons ?_; refine op1_neqI rfl rfl rfl ?_; refine zns ?_; refine wp_true rfl ?_; refine zsr ?_; refine zw1 ?_; refine zw1 ?_; refine zw1 ?_; refine zns ?_; refine wp_ret ?_; refine seq_ret ?_; refine ret_of ?_; refine zr ?_; refine zr ?_; refine rk_nil ?_
    exact ⟨by unfold Tb.unlink; rw [hx]; rfl, by unfold Tb.unlink; rw [hx]; exact hS⟩
  have e0 : t.unlink o = if x.links = 0 then (false, 35, t) else (((t.setO o { x with links := x.links - 1 }).sweep o).1, 0, ((t.setO o { x with links := x.links - 1 }).sweep o).2) := by unfold Tb.unlink; rw [hx]
  rw [e0]
  clear e0
  have hoR := ht.osR (o, x) (gGet_mem hx)
  have hr1 : 0 ≤ x.links ∧ x.links ≤ 9223372036854775807 := hoR.links
  unfold ptrB
  clear hS
  have hS := hS3
  clear hS3
  unfold Ob.cells at hS
  refine zw1 ?_; refine wpO_cons ?_; refine op1_extract rfl rfl rfl ?_; refine wpO_cons ?_; refine op1_extract rfl rfl rfl ?_; refine zw1 ?_; refine zw1 ?_; refine zns ?_; refine wp_seq ?_; refine zsr ?_; refine zw1 ?_; refine wpO_cons ?_; refine op1_neqI_s rfl rfl rfl ?_; refine zns ?_; refine wp_false rfl ?_; refine wp_skip ?_; refine seq_normal ?_; refine wp_seq ?_; refine zsr ?_; refine zw1 ?_; refine zn ?_; refine zf ?_; refine zh (S.g0 hS) ?_; refine wpO_cons ?_; refine op1_eqlI rfl rfl rfl ?_; refine zns ?_
  refine wp_dec rfl (fun h1 => ?_) (fun h1 => ?_)
  · refine zsr ?_; refine zw1 ?_; refine zw1 ?_; refine zns ?_; refine wp_ret ?_; refine seq_ret ?_; refine ret_of ?_; refine zr ?_; refine zr ?_; refine rk_nil ?_
    have h9 := hb _ _ x hS
    rw [Tb.setO_self hx] at h9
    rw [if_pos h1]
    exact ⟨rfl, h9⟩
  rw [if_neg h1]
  refine wp_skip ?_; refine seq_normal ?_; refine zsr ?_; refine zw1 ?_; refine zn ?_; refine zf ?_; refine zh (S.g0 hS) ?_; refine wpO_cons ?_; refine op1_sub rfl rfl rfl (by exact wrap_i64 (by omega) (by omega)) ?_; refine zn ?_; refine zf ?_; refine wpO_cons ?_; (refine op1_store1S rfl rfl (by (conv => lhs; whnf) <;> rfl) rfl rfl (S.up0 hS) rfl ?_; intro H1 hS; replace hS := S.dn0 hS); refine zns ?_; refine zsr ?_; refine zw1 ?_; refine zw1 ?_; refine wpO_cons ?_; refine op1_call2 rfl (by (conv => lhs; whnf) <;> rfl) (by (conv => lhs; whnf) <;> rfl) ?_
  have h9 := hb _ _ { x with links := x.links - 1 } hS
  have hx2 : gGet (t.setO o { x with links := x.links - 1 }).os o = some { x with links := x.links - 1 } := by
    unfold Tb.setO
    rw [gGet_set hx, if_pos rfl]
  refine wpF_mono (L65 hx2 (ht.setO ⟨hoR.mode, hoR.user, hoR.group, hoR.size, by simp only; omega⟩) h9) ?_
  rintro _ H4 ⟨rfl, hS4⟩
  refine zw1 ?_; refine zw1 ?_; refine zns ?_; refine wp_ret ?_; refine ret_of ?_; refine zr ?_; refine zr ?_; refine rk_nil ?_
  exact ⟨rfl, hS4⟩
structure TkB (B : AHeap) (p : Nat) (t : Tb) (id : Int) (k : Bk) (x : Ob) (mo ma pb pa : Nat) (kb ka : List (Int × Value)) (Rb Ra : Asn) : Prop where
  kbe : kvGet kb id = some (ptrB pb)
  kae : kvGet ka k.obj = some (ptrB pa)
  back : ∀ H2 As2 k', S B H2 (pto p (.cells (tbC t mo ma) 0 false) :: pto pb (.cells (Bk.cells k') 0 false) :: pto pa (.cells x.cells 0 false) :: im encI mo kb :: im encI ma ka :: Rb :: Ra :: As2) → S B H2 (repP p (t.setB id k') :: As2)
  del : ∀ H2 As2, S B H2 (pto p (.cells (tbC t mo ma) 0 false) :: pto pa (.cells x.cells 0 false) :: im encI mo (kvDel kb id) :: im encI ma ka :: Rb :: Ra :: As2) → S B H2 (repP p { t with bs := gDel t.bs id } :: As2)
theorem takeD {k : Bk} {x : Ob} (hk : gGet t.bs id = some k) (hx : gGet t.os k.obj = some x) (h : S B H (repP p t :: As)) : ∃ mo ma pb pa kb ka Rb Ra,
    S B H (pto p (.cells (tbC t mo ma) 0 false) :: pto pb (.cells k.cells 0 false) :: pto pa (.cells x.cells 0 false) :: im encI mo kb :: im encI ma ka :: Rb :: Ra :: As) ∧ TkB B p t id k x mo ma pb pa kb ka Rb Ra := by
  obtain ⟨mo, ma, h1⟩ := openP h
  obtain ⟨pb, kb, Rb, hkb, _, h2, hb, hd⟩ := rgBorrow (S.up1 h1) hk
  obtain ⟨pa, ka, Ra, hka, _, h3, hbb, _⟩ := rgBorrow (S.up4 h2) hx
  refine ⟨mo, ma, pb, pa, kb, ka, Rb, Ra, ?_, hkb, hka, ?_, ?_⟩
  · exact (S.up6 (S.up5 (S.up3 (S.up5 (S.up2 (S.up5 h3))))))
  · intro H2 As2 k' h4
    have h6 := hbb H2 _ x (S.up6 (S.up6 (S.up6 (S.up3 (S.up4 (S.up5 h4))))))
    rw [gSet_self hx] at h6
    have h7 := hb H2 _ k' (S.up3 (S.up3 (S.up3 h6)))
    exact closeP (t := t.setB id k') (S.up2 h7)
  · intro H2 As2 h4
    have h6 := hbb H2 _ x (S.up5 (S.up5 (S.up5 (S.up3 (S.up4 h4)))))
    rw [gSet_self hx] at h6
    have h7 := hd H2 _ (S.up2 (S.up2 h6))
    exact closeP (t := { t with bs := gDel t.bs id }) (S.up2 h7)
theorem L64d (ht : TbOk t) (h : S B H (repP p t :: As)) : wpF C 64 [ptrB p, .int .i64 id] H fun v H' => (gGet t.bs id = none ∧ v = .tuple ⟨[.pointer none, .pointer none, .int .i64 3]⟩ ∧ S B H' (repP p t :: As)) ∨
    ∃ k x mo ma pb pa kb ka Rb Ra, gGet t.bs id = some k ∧ gGet t.os k.obj = some x ∧ v = .tuple ⟨[ptrB pb, ptrB pa, .int .i64 0]⟩ ∧ TkB B p t id k x mo ma pb pa kb ka Rb Ra ∧
      S B H' (pto p (.cells (tbC t mo ma) 0 false) :: pto pb (.cells k.cells 0 false) :: pto pa (.cells x.cells 0 false) :: im encI mo kb :: im encI ma ka :: Rb :: Ra :: As) := by
  refine wpF_ofW o64 rfl rfl ?_
  unfold ptrB
  cases hx : gGet t.bs id with
  | none =>
    obtain ⟨mo, ma, kv, R, hk, hS, hb⟩ := noneB hx h
    unfold tbC at hS
    refine zsr ?_; refine zw1 ?_; refine zw1 ?_; refine zw1 ?_; refine zns ?_; refine wp_seq ?_; refine zsr ?_; refine zw1 ?_; refine wpO_cons ?_; refine op1_bin_false rfl (by (conv => lhs; whnf) <;> rfl) (by (conv => lhs; whnf) <;> rfl) rfl ?_; refine zns ?_; refine wp_false rfl ?_; refine wp_skip ?_; refine seq_normal ?_; refine zsr ?_; refine zw1 ?_; refine zn ?_; refine zf ?_; refine zf ?_; refine zf ?_; refine zh (S.g0 hS) ?_; refine zw1 ?_; refine wpO_cons ?_
    refine op1_lookS keyI (k := id) rfl rfl rfl (S.up1 hS) ?_
    rw [hk]
    refine zw1 ?_; refine wpO_cons ?_; refine op1_extract rfl rfl rfl ?_; refine wpO_cons ?_; refine op1_extract rfl rfl rfl ?_; refine zw1 ?_; refine zw1 ?_; refine zns ?_; refine wp_seq ?_; refine zsr ?_; refine zw1 ?_; refine wpO_cons ?_; refine op1_not_f rfl rfl ?_; refine zns ?_; refine wp_true rfl ?_; refine zsr ?_; refine zw1 ?_; refine zw1 ?_; refine zw1 ?_; refine zns ?_; refine wp_ret ?_; refine seq_ret ?_; refine ret_of ?_; refine zr ?_; refine zr ?_; refine zr ?_; refine rk_nil ?_
    exact .inl ⟨rfl, rfl, hb _ _ hS⟩
  | some k =>
    obtain ⟨x, hxo⟩ := ht.has (id, k) (gGet_mem hx)
    obtain ⟨mo, ma, pb, pa, kb, ka, Rb, Ra, hS, hb⟩ := takeD hx hxo h
    have hk := hb.kbe
    have hka := hb.kae
    unfold tbC Bk.cells at hS
    refine zsr ?_; refine zw1 ?_; refine zw1 ?_; refine zw1 ?_; refine zns ?_; refine wp_seq ?_; refine zsr ?_; refine zw1 ?_; refine wpO_cons ?_; refine op1_bin_false rfl (by (conv => lhs; whnf) <;> rfl) (by (conv => lhs; whnf) <;> rfl) rfl ?_; refine zns ?_; refine wp_false rfl ?_; refine wp_skip ?_; refine seq_normal ?_; refine zsr ?_; refine zw1 ?_; refine zn ?_; refine zf ?_; refine zf ?_; refine zf ?_; refine zh (S.g0 hS) ?_; refine zw1 ?_; refine wpO_cons ?_
    refine op1_lookS keyI (k := id) rfl rfl rfl (S.up3 hS) ?_
    rw [hk]
    refine zw1 ?_; refine wpO_cons ?_; refine op1_extract rfl rfl rfl ?_; refine wpO_cons ?_; refine op1_extract rfl rfl rfl ?_; refine zw1 ?_; refine zw1 ?_; refine zns ?_; refine wp_seq ?_; refine zsr ?_; refine zw1 ?_; refine wpO_cons ?_; refine op1_not_t rfl rfl ?_; refine zns ?_; refine wp_false rfl ?_; refine wp_skip ?_; refine seq_normal ?_; refine wp_seq ?_; refine wp_regionD ?_; refine zd1 ?_; refine zd1 ?_; refine zm ?_; refine zg ?_; refine wpD_cons ?_; refine op1_faddr rfl rfl ?_; refine zj (S.g0 hS) ?_; refine zd1 ?_; refine zm ?_; refine zg ?_; refine zj (S.g1 hS) ?_; refine wpD_cons ?_
    refine op1_lookS1 keyI (k := k.obj) rfl rfl rfl (S.up4 hS) ?_
    rw [hka]
    refine zd1 ?_; refine zd1 ?_; refine zd1 ?_; refine wpD_nil ?_; refine dk_of ?_ ?_; (iterate 5 refine chk_skip ?_); refine zx 9 ?_ ?_; refine zy 0 ?_ ?_; exact zq (S.g0 hS); exact chkFs_nil; (iterate 3 refine chk_skip ?_); refine zx 5 ?_ ?_; refine zy 0 ?_ ?_; exact zq (S.g1 hS); exact chkFs_nil; refine zx 4 ?_ ?_; refine zy 0 ?_ ?_
    · exact chk_lookS1 keyI (k := k.obj) rfl rfl (S.up4 hS) (by rw [hka]; rfl)
    exact chkFs_nil; (iterate 3 refine chk_skip ?_); exact chk_end; refine seq_normal ?_; refine wp_ret ?_; refine ret_of ?_; refine zr ?_; refine zr ?_; refine zr ?_; refine rk_nil ?_
    exact .inr ⟨k, x, mo, ma, pb, pa, kb, ka, Rb, Ra, rfl, hxo, rfl, hb, hS⟩
theorem L23 (ht : TbOk t) (hS : S B H (repP p t :: As)) : wpF C 23 [ptrB p, .int .i64 id] H fun v H' => v = .tuple ⟨[.bool (t.close id).1, .int .i64 (t.close id).2.1]⟩ ∧ S B H' (repP p (t.close id).2.2 :: As) := by
  refine wpF_ofW o23 rfl rfl ?_
  refine zsr ?_; refine zw1 ?_; refine zw1 ?_; refine zns ?_; refine zsr ?_; refine zw1 ?_; refine zw1 ?_; refine wpO_cons ?_; refine op1_call2 rfl (by (conv => lhs; whnf) <;> rfl) (by (conv => lhs; whnf) <;> rfl) ?_
  refine wpF_mono (L64d (id := id) ht hS) ?_
  rintro _ H3 (⟨hx, rfl, hS3⟩ | ⟨k, x, mo, ma, pb, pa, kb, ka, Rb, Ra, hx, hxo, rfl, hb, hS3⟩)
  · clear hS
    have hS := hS3
    clear hS3
    refine zw1 ?_; refine wpO_cons ?_; refine op1_extract rfl rfl rfl ?_; refine wpO_cons ?_; refine op1_extract rfl rfl rfl ?_; refine wpO_cons ?_; refine op1_extract rfl rfl rfl ?_; refine zw1 ?_; refine zw1 ?_; refine zw1 ?_; refine zns ?_; refine wp_seq ?_; refine zsr ?_; refine zw1 ?_; refine wpO_cons ?_; refine op1_neqI rfl rfl rfl ?_; refine zns ?_; refine wp_true rfl ?_; refine zsr ?_; refine zw1 ?_; refine zw1 ?_; refine zw1 ?_; refine zns ?_; refine wp_ret ?_; refine seq_ret ?_; refine ret_of ?_; refine zr ?_; refine zr ?_; refine rk_nil ?_
    exact ⟨by unfold Tb.close; rw [hx]; rfl, by unfold Tb.close; rw [hx]; exact hS⟩
  have e0 : t.close id = if 0 < k.refs - 1 then (false, 0, t.setB id { k with refs := k.refs - 1 })
    else ((Tb.sweep { t with bs := gDel t.bs id } k.obj).1, 0, (Tb.sweep { t with bs := gDel t.bs id } k.obj).2) := by unfold Tb.close; rw [hx]
  rw [e0]
  clear e0
  have hkR := ht.bsR (id, k) (gGet_mem hx)
  have hr3 : 1 ≤ k.refs ∧ k.refs ≤ 200 := hkR.refs
  unfold ptrB
  clear hS
  have hS := hS3
  clear hS3
  unfold tbC Bk.cells at hS
  refine zw1 ?_; refine wpO_cons ?_; refine op1_extract rfl rfl rfl ?_; refine wpO_cons ?_; refine op1_extract rfl rfl rfl ?_; refine wpO_cons ?_; refine op1_extract rfl rfl rfl ?_; refine zw1 ?_; refine zw1 ?_; refine zw1 ?_; refine zns ?_; refine wp_seq ?_; refine zsr ?_; refine zw1 ?_; refine wpO_cons ?_; refine op1_neqI_s rfl rfl rfl ?_; refine zns ?_; refine wp_false rfl ?_; refine wp_skip ?_; refine seq_normal ?_; refine wp_seq ?_; refine zsr ?_; refine zw1 ?_; refine zn ?_; refine zf ?_; refine zh (S.g1 hS) ?_; refine wpO_cons ?_; refine op1_sub rfl rfl rfl (by exact wrap_i64 (by omega) (by omega)) ?_; refine zn ?_; refine zf ?_; refine wpO_cons ?_; (refine op1_store1S rfl rfl (by (conv => lhs; whnf) <;> rfl) rfl rfl (S.up1 hS) rfl ?_; intro H1 hS; replace hS := S.dn1 hS); refine zns ?_; refine zsr ?_; refine zw1 ?_; refine zn ?_; refine zf ?_; refine zh (S.g1 hS) ?_; refine wpO_cons ?_; refine op1_gtr rfl rfl rfl ?_; refine zns ?_
  refine wp_dec rfl (fun h1 => ?_) (fun h1 => ?_)
  · refine zsr ?_; refine zw1 ?_; refine zw1 ?_; refine zns ?_; refine wp_ret ?_; refine seq_ret ?_; refine ret_of ?_; refine zr ?_; refine zr ?_; refine rk_nil ?_
    rw [if_pos h1]
    exact ⟨rfl, hb.back _ _ { k with refs := k.refs - 1 } hS⟩
  rw [if_neg h1]
  refine wp_skip ?_; refine seq_normal ?_; refine zsr ?_; refine zw1 ?_; refine zn ?_; refine zf ?_; refine zf ?_; refine zf ?_; refine zh (S.g0 hS) ?_; refine zw1 ?_; refine wpO_cons ?_
  refine op1_delS keyI (k := id) rfl rfl rfl (S.up3 hS) ?_
  have hT := hS
  clear hS
  intro H5 hS
  refine zns ?_; refine zsr ?_; refine zw1 ?_; refine zw1 ?_; refine zn ?_; refine zf ?_; refine zh (S.g2 hS) ?_; refine wpO_cons ?_; refine op1_call2 rfl (by (conv => lhs; whnf) <;> rfl) (by (conv => lhs; whnf) <;> rfl) ?_
  have h9 := hb.del _ _ (S.up5 (S.up6 (S.up3 (S.up6 (S.up6 (S.up6 hS))))))
  refine wpF_mono (L65 (t := { t with bs := gDel t.bs id }) hxo ht.delB h9) ?_
  rintro _ H6 ⟨rfl, hS6⟩
  refine zw1 ?_; refine zw1 ?_; refine zns ?_; refine wp_ret ?_; refine ret_of ?_; refine zr ?_; refine zr ?_; refine rk_nil ?_
  exact ⟨rfl, S.k1 hS6⟩
end
end Go.E.At
/- Attributes: one act on the plain table; what is kept; no two blocks conflict. -/
namespace Go.E.At
open Go Go.E Go.Proofs.YtgbnjcmjioiclaaDoor.base Go.Proofs.YtgbnjcmjioiclaaDoor Go.Proofs
set_option linter.unusedVariables false
set_option linter.unusedSimpArgs false
set_option maxRecDepth 100000
structure Ac where
  kind : Int
  n : Int
  m : Int
  k : Int
  off : Int
  attr : Ob
  blk : Bk
  cr : Cr
def Ac.cells (a : Ac) : List Value := [.int .u8 a.kind, .int .i64 a.n, .int .i64 a.m, .int .i64 a.k, .int .i64 a.off] ++ a.attr.cells ++ a.blk.cells ++ a.cr.cells
structure BkN (x : Bk) : Prop where
  obj : I64 x.obj
  acc : I64 x.acc
  deny : I64 x.deny
  off : I64 x.off
  refs : I64 x.refs
structure AcN (a : Ac) : Prop where
  kind : 0 ≤ a.kind ∧ a.kind ≤ 255
  n : I64 a.n
  m : I64 a.m
  k : I64 a.k
  off : I64 a.off
  attr : ObN a.attr
  blk : BkN a.blk
def Tb.act (t : Tb) (a : Ac) : Tb :=
  if a.kind.tmod 12 = 0 then (t.create a.attr).2.2
  else if a.kind.tmod 12 = 1 then (t.opn a.n a.cr a.blk).2.2
  else if a.kind.tmod 12 = 2 then (t.dup a.n).2
  else if a.kind.tmod 12 = 3 then (t.close a.n).2.2
  else if a.kind.tmod 12 = 4 then (t.read a.n a.m).2.2.2
  else if a.kind.tmod 12 = 5 then (t.write a.n a.m).2.2.2
  else if a.kind.tmod 12 = 6 then (t.seek a.n a.off a.m).2.2
  else if a.kind.tmod 12 = 7 then (t.trunc a.n a.off).2
  else if a.kind.tmod 12 = 8 then (t.chmod a.n a.cr a.m).2
  else if a.kind.tmod 12 = 9 then (t.chown a.n a.cr a.m a.k).2
  else if a.kind.tmod 12 = 10 then (t.link a.n).2
  else (t.unlink a.n).2.2
def Shr (t : Tb) : Prop := t.bs.Pairwise fun y z => y.2.obj = z.2.obj → bitAnd .i64 y.2.acc z.2.deny = 0 ∧ bitAnd .i64 z.2.acc y.2.deny = 0
structure Kp (n : Int) (t : Tb) : Prop where
  ok : TbOk t
  lo : t.lo ≤ n
  lb : t.lb ≤ n
  shr : Shr t
theorem andNot_r : ∀ x : Fin 4096, (0 ≤ bitAndNot .i64 x 1024 ∧ bitAndNot .i64 x 1024 ≤ 4095) ∧ (0 ≤ bitAndNot .i64 x 3072 ∧ bitAndNot .i64 x 3072 ≤ 4095) := by decide +kernel
theorem andNot_b {x : Int} (h : 0 ≤ x ∧ x ≤ 4095) : (0 ≤ bitAndNot .i64 x 1024 ∧ bitAndNot .i64 x 1024 ≤ 4095) ∧ (0 ≤ bitAndNot .i64 x 3072 ∧ bitAndNot .i64 x 3072 ≤ 4095) := by
  have := andNot_r ⟨x.toNat, by omega⟩
  rwa [show ((⟨x.toNat, by omega⟩ : Fin 4096).val : Int) = x by simp; omega] at this
section
variable {t : Tb} {n : Int}
theorem Kp.setO {o : Int} {x : Ob} (h : Kp n t) (hx : ObR x) : Kp n (t.setO o x) := ⟨h.ok.setO hx, h.lo, h.lb, h.shr⟩
theorem gSet_pw {X : Type} {R : (Int × X) → (Int × X) → Prop} {l : List (Int × X)} {k : Int} {x : X} (hl : l.Pairwise R) (h1 : ∀ y z, gGet l k = some y → R (k, y) z → R (k, x) z) (h2 : ∀ y z, gGet l k = some y → R z (k, y) → R z (k, x)) : (gSet l k x).Pairwise R := by
  induction l with
  | nil => exact .nil
  | cons p l ih =>
    obtain ⟨hp, hl⟩ := List.pairwise_cons.1 hl
    unfold gSet
    split
    · rename_i e
      have ep : p = (k, p.2) := by rw [e]
      refine List.pairwise_cons.2 ⟨fun z hz => ?_, hl⟩
      rw [← e]
      exact h1 p.2 z (by rw [gGet, if_pos e]) (ep ▸ hp z hz)
    · rename_i e
      have hg : ∀ y, gGet l k = some y → gGet (p :: l) k = some y := fun y h => by rw [gGet, if_neg e]; exact h
      refine List.pairwise_cons.2 ⟨fun z hz => ?_, ih hl (fun y z h => h1 y z (hg y h)) fun y z h => h2 y z (hg y h)⟩
      rcases gSet_mem hz with h | ⟨h, rfl⟩
      · exact hp z h
      · obtain ⟨y, hy⟩ := gGet_some.2 h
        exact h2 y p (hg y hy) (hp _ (gGet_mem hy))
theorem Kp.setB {id : Int} {k k' : Bk} (h : Kp n t) (hk : gGet t.bs id = some k) (ho : k'.obj = k.obj) (ha : k'.acc = k.acc) (hd : k'.deny = k.deny) (hx : BkR k') : Kp n (t.setB id k') := by
  refine ⟨h.ok.setB hk ho hx, h.lo, h.lb, ?_⟩
  unfold Shr Tb.setB
  refine gSet_pw h.shr (fun y z hy => ?_) fun y z hy => ?_
  · rw [hk] at hy; cases hy; simp only [ho, ha, hd]; exact fun h => h
  · rw [hk] at hy; cases hy; simp only [ho, ha, hd]; exact fun h => h
theorem Kp.set2 {id o : Int} {k k' : Bk} {x : Ob} (h : Kp n t) (hk : gGet t.bs id = some k) (ho : k'.obj = k.obj) (ha : k'.acc = k.acc) (hd : k'.deny = k.deny) (hx : BkR k') (hy : ObR x) : Kp n (t.set2 id k' o x) := (h.setB hk ho ha hd hx).setO hy
theorem Kp.delB {id : Int} (h : Kp n t) : Kp n { t with bs := gDel t.bs id } := ⟨h.ok.delB, h.lo, h.lb, h.shr.sublist (gDel_sub _ _)⟩
theorem Kp.delO {o : Int} (h : Kp n t) (hn : (t.opens o).length = 0) : Kp n { t with os := gDel t.os o } := ⟨h.ok.delO hn, h.lo, h.lb, h.shr⟩
theorem Kp.mono {m : Int} (h : Kp n t) (hm : n ≤ m) : Kp m t := ⟨h.ok, by have := h.lo; omega, by have := h.lb; omega, h.shr⟩
theorem Kp.create {a : Ob} (h : Kp n t) (hn : n < 1000000) (ha : ObN a) : Kp (n + 1) (t.create a).2.2 := by
  unfold Tb.create
  split
  · exact h.mono (by omega)
  rename_i hb
  split
  · exact h.mono (by omega)
  rename_i hl
  have h1 := h.lo
  unfold badA at hb
  have := ha.user; have := ha.group; have := ha.links
  refine ⟨h.ok.addO (by omega) ⟨?_, ?_, ?_, ?_, ?_⟩ (by omega), ?_, ?_, h.shr⟩
  · omega
  · unfold I64 at *; omega
  · unfold I64 at *; omega
  · omega
  · unfold I64 at *; omega
  · show t.lo + 1 ≤ n + 1
    omega
  · have := h.lb
    show t.lb ≤ n + 1
    omega
theorem bitAnd_comm (a b : Int) : bitAnd .i64 a b = bitAnd .i64 b a := by unfold bitAnd; rw [BitVec.and_comm]
theorem Kp.opn {o : Int} {c : Cr} {b : Bk} (h : Kp n t) (hn : n < 1000000) : Kp (n + 1) (t.opn o c b).2.2 := by
  unfold Tb.opn
  split
  · exact h.mono (by omega)
  rename_i a hx
  split
  · exact h.mono (by omega)
  rename_i hb
  split
  · exact h.mono (by omega)
  split
  · exact h.mono (by omega)
  split
  · exact h.mono (by omega)
  rename_i hc
  split
  · exact h.mono (by omega)
  rename_i hl
  have h1 := h.lb
  unfold badB at hb
  refine ⟨h.ok.addB (z := a) (by omega) ⟨by simp only; omega, by simp only; omega, ⟨Int.le_refl _, by simp only; omega⟩, ⟨Int.le_refl _, by simp only; omega⟩⟩ hx (by omega), ?_, ?_, ?_⟩
  · have := h.lo
    show t.lo ≤ n + 1
    omega
  · show t.lb + 1 ≤ n + 1
    omega
  · unfold Shr Tb.addB
    refine List.pairwise_append.2 ⟨h.shr, List.pairwise_singleton _ _, fun y hy z hz => ?_⟩
    simp only [List.mem_singleton] at hz
    subst hz
    simp only
    intro e
    have hf : y ∉ t.bs.filter fun y => conf o b.acc b.deny y.2 := by
      intro hm
      have := List.length_pos_of_mem hm
      exact hc this
    have hf : conf o b.acc b.deny y.2 = false := by
      cases hcf : conf o b.acc b.deny y.2 with
      | false => rfl
      | true => exact absurd (List.mem_filter.2 ⟨hy, hcf⟩) hf
    unfold conf at hf
    rw [decide_eq_true e, Bool.true_and, Bool.or_eq_false_iff] at hf
    obtain ⟨f1, f2⟩ := hf
    have f1 := of_decide_eq_false f1
    have f2 := of_decide_eq_false f2
    rw [bitAnd_comm b.acc]
    exact ⟨Classical.byContradiction f1, Classical.byContradiction f2⟩
theorem Kp.dup {id : Int} (h : Kp n t) : Kp n (t.dup id).2 := by
  unfold Tb.dup
  split
  · exact h
  rename_i k hk
  split
  · exact h
  have hr := h.ok.bsR _ (gGet_mem hk)
  have hrr := hr.refs
  simp only at hr hrr
  exact h.setB hk rfl rfl rfl ⟨hr.acc, hr.deny, hr.off, by simp only; omega⟩
theorem Kp.sweep {o : Int} (h : Kp n t) : Kp n (t.sweep o).2 := by
  unfold Tb.sweep
  split
  · exact h
  split
  · exact h
  split
  · exact h
  exact h.delO (by omega)
theorem Kp.close {id : Int} (h : Kp n t) : Kp n (t.close id).2.2 := by
  unfold Tb.close
  split
  · exact h
  rename_i k hk
  have hr := h.ok.bsR _ (gGet_mem hk)
  have hrr := hr.refs
  simp only at hr hrr
  split
  · exact h.setB hk rfl rfl rfl ⟨hr.acc, hr.deny, hr.off, by simp only; omega⟩
  · exact h.delB.sweep
theorem Kp.read {id m : Int} (h : Kp n t) : Kp n (t.read id m).2.2.2 := by
  unfold Tb.read
  split
  · exact h
  rename_i k hk
  split
  · exact h
  split
  · exact h
  split
  · exact h
  rename_i x hx
  have hr := h.ok.bsR _ (gGet_mem hk)
  have hs := (h.ok.osR _ (gGet_mem hx)).size
  have hoff := hr.off
  simp only at hr hs hoff
  exact h.setB hk rfl rfl rfl ⟨hr.acc, hr.deny, by simp only; omega, hr.refs⟩
theorem Kp.write {id m : Int} (h : Kp n t) : Kp n (t.write id m).2.2.2 := by
  unfold Tb.write
  split
  · exact h
  rename_i k hk
  split
  · exact h
  split
  · exact h
  rename_i hm
  split
  · exact h
  rename_i x hx
  have hr := h.ok.bsR _ (gGet_mem hk)
  have hxr := h.ok.osR _ (gGet_mem hx)
  have hs := hxr.size
  have hoff := hr.off
  simp only at hr hxr hs hoff
  have ha : 0 ≤ (if k.app = true then x.size else k.off) ∧ (if k.app = true then x.size else k.off) ≤ 16384 := by split <;> omega
  simp only
  generalize (if k.app = true then x.size else k.off) = q at ha
  split
  · exact h
  · refine h.set2 hk rfl rfl rfl ⟨hr.acc, hr.deny, by simp only; omega, hr.refs⟩ ⟨hxr.mode, hxr.user, hxr.group, by simp only; omega, hxr.links⟩
theorem Kp.seek {id s w : Int} (h : Kp n t) : Kp n (t.seek id s w).2.2 := by
  unfold Tb.seek
  split
  · exact h
  rename_i k hk
  split
  · exact h
  split
  · exact h
  split
  · exact h
  generalize (if w = 0 then 0 else if w = 1 then k.off else _) = q
  split
  · exact h
  rename_i hb
  have hr := h.ok.bsR _ (gGet_mem hk)
  exact h.setB hk rfl rfl rfl ⟨hr.acc, hr.deny, by simp only; omega, hr.refs⟩
theorem Kp.trunc {id s : Int} (h : Kp n t) : Kp n (t.trunc id s).2 := by
  unfold Tb.trunc
  split
  · exact h
  split
  · exact h
  split
  · exact h
  rename_i x hx
  split
  · exact h
  have hxr := h.ok.osR _ (gGet_mem hx)
  exact h.setO ⟨hxr.mode, hxr.user, hxr.group, by simp only; omega, hxr.links⟩
theorem Kp.chmod {o m : Int} {c : Cr} (h : Kp n t) : Kp n (t.chmod o c m).2 := by
  unfold Tb.chmod
  split
  · exact h
  rename_i x hx
  split
  · exact h
  rename_i hm
  split
  · exact h
  have hxr := h.ok.osR _ (gGet_mem hx)
  refine h.setO ⟨?_, hxr.user, hxr.group, hxr.size, hxr.links⟩
  simp only
  split
  · exact (andNot_b (by omega)).1
  · omega
theorem Kp.chown {o u g : Int} {c : Cr} (h : Kp n t) (hu : I64 u) (hg : I64 g) : Kp n (t.chown o c u g).2 := by
  unfold Tb.chown
  split
  · exact h
  rename_i x hx
  have hxr := h.ok.osR _ (gGet_mem hx)
  have h1 := hxr.user
  have h2 := hxr.group
  have h3 := hxr.mode
  simp only at hxr h1 h2 h3
  split
  · exact h
  rename_i y hy
  have hu2 : 0 ≤ (if u < 0 then x.user else u) ∧ (if u < 0 then x.user else u) ≤ 9223372036854775807 := by unfold I64 at hu; split <;> omega
  have hg2 : 0 ≤ (if g < 0 then x.group else g) ∧ (if g < 0 then x.group else g) ≤ 9223372036854775807 := by unfold I64 at hg; split <;> omega
  generalize (if u < 0 then x.user else u) = u2 at hy hu2
  generalize (if g < 0 then x.group else g) = g2 at hy hg2
  unfold Ob.chown at hy
  split at hy
  · cases hy
  rw [Option.some.injEq] at hy
  subst hy
  refine h.setO ⟨?_, ?_, ?_, hxr.size, hxr.links⟩
  · simp only
    split
    · exact (andNot_b h3).2
    · exact h3
  · exact hu2
  · exact hg2
theorem Kp.link {o : Int} (h : Kp n t) : Kp n (t.link o).2 := by
  unfold Tb.link
  split
  · exact h
  rename_i x hx
  split
  · exact h
  have hxr := h.ok.osR _ (gGet_mem hx)
  have h1 := hxr.links
  simp only at h1
  exact h.setO ⟨hxr.mode, hxr.user, hxr.group, hxr.size, by simp only; omega⟩
theorem Kp.unlink {o : Int} (h : Kp n t) : Kp n (t.unlink o).2.2 := by
  unfold Tb.unlink
  split
  · exact h
  rename_i x hx
  split
  · exact h
  have hxr := h.ok.osR _ (gGet_mem hx)
  have h1 := hxr.links
  simp only at h1
  exact Kp.sweep (h.setO (x := { x with links := x.links - 1 }) ⟨hxr.mode, hxr.user, hxr.group, hxr.size, by simp only; omega⟩)
theorem Kp.act {a : Ac} (h : Kp n t) (hn : n < 1000000) (ha : AcN a) : Kp (n + 1) (t.act a) := by
  have hm : ∀ {s : Tb}, Kp n s → Kp (n + 1) s := fun h => h.mono (by omega)
  unfold Tb.act
  split
  · exact h.create hn ha.attr
  split
  · exact h.opn hn
  split
  · exact hm h.dup
  split
  · exact hm h.close
  split
  · exact hm h.read
  split
  · exact hm h.write
  split
  · exact hm h.seek
  split
  · exact hm h.trunc
  split
  · exact hm h.chmod
  split
  · exact hm (h.chown ha.m ha.k)
  split
  · exact hm h.link
  · exact hm h.unlink
theorem kp0 : Kp 0 ⟨[], 0, [], 0⟩ := ⟨ok0, by decide, by decide, .nil⟩
end
end Go.E.At
