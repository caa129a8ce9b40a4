/- The table of frames: add, New. -/
import Derived.Test.YtlkgacbholklkaaFaF6
namespace Go.E.Fa
open Go Go.E Go.Proofs.Ytlkgacbholklkaa Go.Proofs
set_option linter.unusedVariables false
set_option linter.unusedSimpArgs false
set_option maxRecDepth 100000
def inR (p : Pl) (n : Int) : Bool := decide (p.first ≤ n ∧ n < p.first + p.count)
def rng (p : Pl) : List Int := consec p.first p.count.toNat
def Fm.added (M : Fm) (p : Pl) (i : Nat) (b : Int → Nat) : Fm :=
  { dom := M.dom ++ rng p, blk := fun n => if inR p n then b n else M.blk n, refs := fun n => if inR p n then 0 else M.refs n, pool := fun n => if inR p n then (i : Int) else M.pool n, dat := fun n => if inR p n then none else M.dat n }
def Tb.added (T : Tb) (p : Pl) (i : Nat) (b : Int → Nat) : Tb := { pls := T.pls, ix := T.ix ++ [(p.name, .int .i64 i)], m := T.m.added p i b }
def clash (dom : List Int) (p : Pl) : Bool := (rng p).any fun n => decide (n ∈ dom)
def addE (T : Tb) (p : Pl) : Int :=
  if 64 < p.name.size then 21 else if p.name.size = 0 then 9 else if (kvGet T.ix p.name).isSome = true then 38
  else if p.count < 1 ∨ p.first < 0 ∨ 4096 < p.count ∨ 4096 - p.count < p.first then 34
  else if clash T.m.dom p = true then 10 else 0
theorem inR_eq {nm : ByteArray} {fi c n : Int} {ge ke : Bool} : inR ⟨nm, fi, c, ge, ke⟩ n = decide (fi ≤ n ∧ n < fi + c) := rfl
theorem inR_succ {nm : ByteArray} {fi : Int} {j : Nat} {ge ke : Bool} {k : Int} (h : k ≠ fi + j) : inR ⟨nm, fi, (j + 1 : Nat), ge, ke⟩ k = inR ⟨nm, fi, j, ge, ke⟩ k := by
  rw [inR_eq, inR_eq, decide_eq_decide]; omega
theorem added_dom {M : Fm} {nm : ByteArray} {fi : Int} {j : Nat} {ge ke : Bool} {i : Nat} {b : Int → Nat} : (M.added ⟨nm, fi, j, ge, ke⟩ i b).dom = M.dom ++ consec fi j := rfl
theorem added_blk {M : Fm} {nm : ByteArray} {fi : Int} {j : Nat} {ge ke : Bool} {i pn : Nat} {b : Int → Nat} {k : Int} (h : k ≠ fi + j) :
    (M.added ⟨nm, fi, (j + 1 : Nat), ge, ke⟩ i (fun k => if k = fi + j then pn else b k)).blk k = (M.added ⟨nm, fi, j, ge, ke⟩ i b).blk k := by
  unfold Fm.added; simp only [inR_succ h, if_neg h]
theorem added_frA {M : Fm} {nm : ByteArray} {fi : Int} {j : Nat} {ge ke : Bool} {i pn : Nat} {b : Int → Nat} {k : Int} (h : k ≠ fi + j) :
    frA (M.added ⟨nm, fi, (j + 1 : Nat), ge, ke⟩ i (fun k => if k = fi + j then pn else b k)) k = frA (M.added ⟨nm, fi, j, ge, ke⟩ i b) k := by
  unfold frA Fm.added; simp only [inR_succ h, if_neg h]
theorem added_new {M : Fm} {nm : ByteArray} {fi : Int} {j : Nat} {ge ke : Bool} {i pn : Nat} {b : Int → Nat} :
    frA (M.added ⟨nm, fi, (j + 1 : Nat), ge, ke⟩ i (fun k => if k = fi + j then pn else b k)) (fi + j) = seps [pto pn (.cells (frC 0 i none) 0 false), pur True] := by
  have e : inR ⟨nm, fi, ((j + 1 : Nat) : Int), ge, ke⟩ (fi + j) = true := by rw [inR_eq, decide_eq_true_eq]; omega
  unfold frA Fm.added
  simp only [e, if_true, if_pos]
  rfl
theorem added_newblk {M : Fm} {nm : ByteArray} {fi : Int} {j : Nat} {ge ke : Bool} {i pn : Nat} {b : Int → Nat} :
    (M.added ⟨nm, fi, (j + 1 : Nat), ge, ke⟩ i (fun k => if k = fi + j then pn else b k)).blk (fi + j) = pn := by
  have e : inR ⟨nm, fi, ((j + 1 : Nat) : Int), ge, ke⟩ (fi + j) = true := by rw [inR_eq, decide_eq_true_eq]; omega
  unfold Fm.added
  simp only [e, if_true, if_pos]
theorem added_fkv {M : Fm} {nm : ByteArray} {fi : Int} {j : Nat} {ge ke : Bool} {i pn : Nat} {b : Int → Nat} (h : fi + j ∉ M.dom) :
    fkv (M.added ⟨nm, fi, (j + 1 : Nat), ge, ke⟩ i (fun k => if k = fi + j then pn else b k)) = fkv (M.added ⟨nm, fi, j, ge, ke⟩ i b) ++ [(fi + j, ptrV pn)] := by
  unfold fkv
  rw [added_dom, added_dom, consec_succ, ← List.append_assoc, List.map_append]
  congr 1
  · apply List.map_congr_left
    intro k hk
    rw [added_blk]
    rintro rfl
    rcases List.mem_append.1 hk with h1 | h1
    · exact h h1
    · rw [consec_mem] at h1; omega
  · simp only [List.map_cons, List.map_nil, added_newblk]
theorem added_map {M : Fm} {nm : ByteArray} {fi : Int} {j : Nat} {ge ke : Bool} {i pn : Nat} {b : Int → Nat} (h : fi + j ∉ M.dom) :
    (M.added ⟨nm, fi, (j + 1 : Nat), ge, ke⟩ i (fun k => if k = fi + j then pn else b k)).dom.map (frA (M.added ⟨nm, fi, (j + 1 : Nat), ge, ke⟩ i (fun k => if k = fi + j then pn else b k))) =
      (M.added ⟨nm, fi, j, ge, ke⟩ i b).dom.map (frA (M.added ⟨nm, fi, j, ge, ke⟩ i b)) ++ [seps [pto pn (.cells (frC 0 i none) 0 false), pur True]] := by
  rw [added_dom, added_dom, consec_succ, ← List.append_assoc, List.map_append]
  congr 1
  · apply List.map_congr_left
    intro k hk
    rw [added_frA]
    rintro rfl
    rcases List.mem_append.1 hk with h1 | h1
    · exact h h1
    · rw [consec_mem] at h1; omega
  · simp only [List.map_cons, List.map_nil, added_new]
theorem S.sepsAdd {B H : AHeap} {As L : List Asn} {X : Asn} (h : S B H (X :: seps L :: As)) : S B H (seps (L ++ [X]) :: As) := by
  have h1 := S.unseps (S.up1 h)
  refine S.seps (h1.perm ?_)
  rw [List.append_assoc]
  exact List.Perm.append_left L (List.Perm.refl _)
theorem added0 {M : Fm} {nm : ByteArray} {fi : Int} {ge ke : Bool} {i : Nat} {b : Int → Nat} : (M.added ⟨nm, fi, (0 : Nat), ge, ke⟩ i b) = M := by
  have e : ∀ n, inR ⟨nm, fi, ((0 : Nat) : Int), ge, ke⟩ n = false := by intro n; rw [inR_eq, decide_eq_false_iff_not]; omega
  unfold Fm.added
  simp only [e, Bool.false_eq_true, if_false]
  have : rng ⟨nm, fi, ((0 : Nat) : Int), ge, ke⟩ = [] := rfl
  rw [this, List.append_nil]

theorem L29 {B H : AHeap} {As : List Asn} {t i : Nat} {T : Tb} {p : Pl} (hsz : p.name.size ≤ 100000) (hib : i ≤ 100000) (hcb : -9223372036854775808 ≤ p.count ∧ p.count ≤ 9223372036854775807) (hS : S B H (repT t T :: As)) :
    wpF C 29 [ptrV t, .int .i64 i, .agg ⟨plC p⟩] H fun v H' => v = .int .i64 (addE T p) ∧ (addE T p = 0 → ∃ b, S B H' (repT t (T.added p i b) :: As)) ∧ (addE T p ≠ 0 → S B H' As) := by
  refine wpF_ofW o29 rfl rfl ?_
  obtain ⟨pv, m1, m2, hS⟩ := openT hS
  obtain ⟨nm, fi, ct, ge, ke⟩ := p
  simp only at hcb hsz
  unfold tabC at hS
  simp only [ptrV, plC]
  refine zsr ?_; refine wpO_cons ?_; refine op1_boxNS rfl rfl rfl hS ?_; intro p1 H1 hS; refine zw1 ?_; refine zns ?_; refine wp_seq ?_; refine wp_regionD ?_; refine zd1 ?_; refine zm ?_; refine zg ?_; refine zj (S.g1 hS) ?_; refine zg ?_; refine zj (S.g0 hS) ?_; refine wpD_cons ?_
  refine op1_lookS keyS rfl rfl rfl (S.up3 hS) ?_
  refine zd1 ?_; refine wpD_cons ?_; refine op1_extract rfl rfl rfl ?_; refine wpD_cons ?_; refine op1_extract rfl rfl rfl ?_; refine zd1 ?_; refine zd1 ?_; refine wpD_nil ?_; refine dk_of ?_ ?_; (iterate 3 refine chk_skip ?_); refine zx 9 ?_ ?_; refine zy 0 ?_ ?_; exact zq (S.g1 hS); exact chkFs_nil; refine chk_skip ?_; refine zx 7 ?_ ?_; refine zy 0 ?_ ?_; exact zq (S.g0 hS); exact chkFs_nil; refine zx 6 ?_ ?_; refine zy 0 ?_ ?_
  · exact chk_lookS keyS rfl rfl (S.up3 hS) rfl
  exact chkFs_nil; (iterate 5 refine chk_skip ?_); exact chk_end; refine seq_normal ?_; refine wp_seq ?_; refine wp_block ?_; refine zsr ?_; refine zf ?_; refine zh (S.g0 hS) ?_; refine wpO_cons ?_; refine op1_lenS rfl rfl ?_; refine wpO_cons ?_; refine op1_gtr rfl rfl rfl ?_; refine zw1 ?_; refine zns ?_
  refine wp_dec rfl (fun h1 => ?_) (fun h1 => ?_)
  · have e : addE T ⟨nm, fi, ct, ge, ke⟩ = 21 := by unfold addE; rw [if_pos (by show 64 < nm.size; omega)]
    refine zsr ?_; refine zw1 ?_; refine zns ?_; refine wp_ret ?_; refine block_ret ?_; refine seq_ret ?_; refine ret_of ?_; refine zr ?_; refine rk_nil ?_
    exact ⟨by rw [e]; rfl, fun h => absurd (e.symm.trans h) (by decide), fun _ => S.drop (S.drop (S.drop (S.drop (S.drop (S.drop hS)))))⟩
  refine zsr ?_; refine zf ?_; refine zh (S.g0 hS) ?_; refine wpO_cons ?_
  refine op1_eqlS0 rfl rfl rfl ?_
  refine zw1 ?_; refine zns ?_
  refine wp_dec rfl (fun h2 => ?_) (fun h2 => ?_)
  · have e : addE T ⟨nm, fi, ct, ge, ke⟩ = 9 := by unfold addE; rw [if_neg (by show ¬ 64 < nm.size; omega), if_pos (by exact h2)]
    refine zsr ?_; refine zw1 ?_; refine zns ?_; refine wp_ret ?_; refine block_ret ?_; refine seq_ret ?_; refine ret_of ?_; refine zr ?_; refine rk_nil ?_
    exact ⟨by rw [e]; rfl, fun h => absurd (e.symm.trans h) (by decide), fun _ => S.drop (S.drop (S.drop (S.drop (S.drop (S.drop hS)))))⟩
  refine zsr ?_; refine zw1 ?_; refine zw1 ?_; refine zns ?_
  refine wp_cond rfl (fun h3 => ?_) (fun h3 => ?_)
  · have h3' : (kvGet T.ix nm).isSome = true := h3
    have e : addE T ⟨nm, fi, ct, ge, ke⟩ = 38 := by unfold addE; rw [if_neg (by show ¬ 64 < nm.size; omega), if_neg (by exact h2), if_pos (by exact h3')]
    refine zsr ?_; refine zw1 ?_; refine zns ?_; refine wp_ret ?_; refine block_ret ?_; refine seq_ret ?_; refine ret_of ?_; refine zr ?_; refine rk_nil ?_
    exact ⟨by rw [e]; rfl, fun h => absurd (e.symm.trans h) (by decide), fun _ => S.drop (S.drop (S.drop (S.drop (S.drop (S.drop hS)))))⟩
  skip
  refine wp_cut [31] (fun vs H' => vs = [.bool (decide (ct < 1 ∨ fi < 0 ∨ 4096 < ct ∨ 4096 - ct < fi))] ∧ H1 = H') ?_ ?_
  · refine wp_region ?_; refine zf ?_; refine zh (S.g0 hS) ?_; refine wpO_cons ?_; refine op1_lss rfl rfl rfl ?_; refine zw1 ?_; refine wpO_cons ?_
    refine op1_dec rfl (fun g1 => ?_) (fun g1 => ?_)
    · refine op1_skip rfl ?_; refine zk ?_; refine zk ?_; refine zt ?_; refine zw1 ?_; (iterate 3 refine zk ?_); refine zt ?_; refine zw1 ?_; (iterate 6 refine zk ?_); refine zt ?_; refine zw1 ?_; refine wpO_nil ?_; refine cut1 (by (conv => lhs; whnf) <;> rfl) ?_
      exact ⟨bool_leaf ⟨fun _ => .inl g1, fun _ => rfl⟩, rfl⟩
    refine op1_faddr0 rfl rfl ?_; refine zh (S.g0 hS) ?_; refine wpO_cons ?_; refine op1_lss rfl rfl rfl ?_; refine zu ?_; refine zw1 ?_; refine wpO_cons ?_
    refine op1_dec rfl (fun g2 => ?_) (fun g2 => ?_)
    · refine op1_skip rfl ?_; refine zk ?_; refine zk ?_; refine zt ?_; refine zw1 ?_; (iterate 6 refine zk ?_); refine zt ?_; refine zw1 ?_; refine wpO_nil ?_; refine cut1 (by (conv => lhs; whnf) <;> rfl) ?_
      exact ⟨bool_leaf ⟨fun _ => .inr (.inl g2), fun _ => rfl⟩, rfl⟩
    refine op1_faddr0 rfl rfl ?_; refine zh (S.g0 hS) ?_; refine wpO_cons ?_; refine op1_gtr rfl rfl rfl ?_; refine zu ?_; refine zw1 ?_; refine wpO_cons ?_
    refine op1_dec rfl (fun g3 => ?_) (fun g3 => ?_)
    · refine op1_skip rfl ?_; (iterate 5 refine zk ?_); refine zt ?_; refine zw1 ?_; refine wpO_nil ?_; refine cut1 (by (conv => lhs; whnf) <;> rfl) ?_
      exact ⟨bool_leaf ⟨fun _ => .inr (.inr (.inl g3)), fun _ => rfl⟩, rfl⟩
    refine op1_faddr0 rfl rfl ?_; refine zh (S.g0 hS) ?_; refine zf ?_; refine zh (S.g0 hS) ?_; refine wpO_cons ?_; refine op1_sub rfl rfl rfl (by exact wrap_i64 (by omega) (by omega)) ?_; refine wpO_cons ?_; refine op1_gtr rfl rfl rfl ?_; refine zu ?_; refine zw1 ?_; refine wpO_nil ?_; refine cut1 (by (conv => lhs; whnf) <;> rfl) ?_
    exact ⟨by congr 2; rw [decide_eq_decide]; omega, rfl⟩
  rintro vs2 T2 H2 ⟨rfl, rfl⟩
  have hnone : kvGet T.ix nm = none := by
    exact Option.not_isSome_iff_eq_none.1 (by rw [show (kvGet T.ix nm).isSome = false from h3]; simp)
  have e0 : addE T ⟨nm, fi, ct, ge, ke⟩ = if ct < 1 ∨ fi < 0 ∨ 4096 < ct ∨ 4096 - ct < fi then 34 else if clash T.m.dom ⟨nm, fi, ct, ge, ke⟩ = true then 10 else 0 := by
    unfold addE; rw [if_neg (by show ¬ 64 < nm.size; omega), if_neg (by exact h2), if_neg (by show ¬ (kvGet T.ix nm).isSome = true; rw [hnone]; simp)]
  refine wp_dec rfl (fun h4 => ?_) (fun h4 => ?_)
  · rw [if_pos h4] at e0
    refine zsr ?_; refine zw1 ?_; refine zns ?_; refine wp_ret ?_; refine block_ret ?_; refine seq_ret ?_; refine ret_of ?_; refine zr ?_; refine rk_nil ?_
    exact ⟨by rw [e0]; rfl, fun h => absurd (e0.symm.trans h) (by decide), fun _ => S.drop (S.drop (S.drop (S.drop (S.drop (S.drop hS)))))⟩
  rw [if_neg h4] at e0
  refine wp_skip ?_; refine block_normal ?_; refine seq_normal ?_; refine wp_seq ?_; refine wp_regionD ?_; refine zd1 ?_; refine zm ?_; refine zg ?_; refine zj (S.g1 hS) ?_; refine zg ?_; refine zj (S.g0 hS) ?_; refine zd1 ?_; refine wpD_cons ?_
  refine op1_mapS keyS rfl rfl rfl rfl (S.up3 hS) ?_
  intro H3 hS
  rw [kvSet_new hnone] at hS
  refine wpD_nil ?_; refine dk_of ?_ ?_; (iterate 3 refine chk_skip ?_); refine zx 5 ?_ ?_; refine zy 1 ?_ ?_; exact chk_load rfl (by exact S.g1 (by assumption)) rfl rfl; exact chkFs_nil; refine chk_skip ?_; refine zx 3 ?_ ?_; refine zy 1 ?_ ?_; exact chk_load rfl (by exact S.g0 (by assumption)) rfl rfl; exact chkFs_nil; (iterate 2 refine chk_skip ?_); exact chk_end; refine seq_normal ?_; refine wp_seq ?_; refine zsr ?_; refine zf ?_; refine zh (S.g1 hS) ?_; refine zw1 ?_; refine zns ?_; refine wp_block ?_
  obtain ⟨c, rfl⟩ : ∃ c : Nat, ct = c := ⟨ct.toNat, by omega⟩
  refine wp_loop [9] (fun k vs H' => ∃ (j : Nat) (b : Int → Nat), vs = [.int .i64 (fi + j)] ∧ k = c - j ∧ j ≤ c ∧ (∀ n, fi ≤ n → n < fi + j → n ∉ T.m.dom) ∧
      S B H' (pto p1 (.cells [.string nm, .int .i64 fi, .int .i64 c, .bool ge, .bool ke] 0 false) :: pto t (.cells [pv, .map (some m1), .map (some m2)] 0 false) :: sl 5 pv (T.pls.flatMap plC) :: im enS m1 (T.ix ++ [(nm, .int .i64 i)]) :: im enI m2 (fkv (T.m.added ⟨nm, fi, j, ge, ke⟩ i b)) :: seps ((T.m.added ⟨nm, fi, j, ge, ke⟩ i b).dom.map (frA (T.m.added ⟨nm, fi, j, ge, ke⟩ i b))) :: As))
    ⟨_, 0, fun _ => 0, by show [Value.int .i64 fi] = [.int .i64 (fi + ((0 : Nat) : Int))]; rw [show fi + ((0 : Nat) : Int) = fi by omega], rfl, by omega, by intro n h1 h2; omega, ?_⟩ ?_
  · rw [added0]
    exact S.dn3 hS
  clear hS
  rintro k vs T' H4 ⟨j, b, rfl, rfl, hj, hfar, hS⟩
  refine wp_seq ?_; refine zsr ?_; refine zw1 ?_; refine zf ?_; refine zh (S.g0 hS) ?_; refine zf ?_; refine zh (S.g0 hS) ?_; refine wpO_cons ?_; refine op1_add rfl rfl rfl (by exact wrap_i64 (by omega) (by omega)) ?_; refine wpO_cons ?_; refine op1_lss rfl rfl rfl ?_; refine zns ?_
  refine wp_dec rfl (fun hlt => ?_) (fun hlt => ?_)
  · refine wp_skip ?_; refine seq_normal ?_; refine wp_seq ?_; refine wp_block ?_; refine wp_seq ?_; refine zsr ?_; refine zw1 ?_; refine zn ?_; refine zf ?_; refine zh (S.g1 hS) ?_; refine zw1 ?_; refine wpO_cons ?_
    refine op1_lookS1 keyI rfl rfl rfl (S.up4 hS) ?_
    rw [fkv_get, added_dom]
    by_cases hn : fi + j ∈ T.m.dom
    · rw [if_pos (List.mem_append_left _ hn), Option.getD_some]
      unfold ptrV
      have hcl : clash T.m.dom ⟨nm, fi, c, ge, ke⟩ = true := by
        unfold clash rng
        rw [List.any_eq_true]
        exact ⟨fi + j, consec_mem.2 (by simp only [Int.toNat_natCast]; omega), decide_eq_true hn⟩
      rw [if_pos hcl] at e0
      refine wpO_cons ?_; refine op1_bin_true rfl (by (conv => lhs; whnf) <;> rfl) (by (conv => lhs; whnf) <;> rfl) rfl ?_; refine zns ?_; refine wp_true rfl ?_; refine zsr ?_; refine zw1 ?_; refine zns ?_; refine wp_ret ?_; refine seq_ret ?_; refine block_ret ?_; refine seq_ret ?_; refine iter_ret ?_; refine block_ret ?_; refine seq_ret ?_; refine ret_of ?_; refine zr ?_; refine rk_nil ?_
      exact ⟨by rw [e0]; rfl, fun h => absurd (e0.symm.trans h) (by decide), fun _ => S.drop (S.drop (S.drop (S.drop (S.drop (S.drop hS)))))⟩
    · have hnn : fi + j ∉ T.m.dom ++ consec fi j := by
        intro h
        rcases List.mem_append.1 h with h1 | h1
        · exact hn h1
        · rw [consec_mem] at h1; omega
      rw [if_neg hnn, Option.getD_none]
      refine wpO_cons ?_; refine op1_bin_false rfl (by (conv => lhs; whnf) <;> rfl) (by (conv => lhs; whnf) <;> rfl) rfl ?_; refine zns ?_; refine wp_false rfl ?_; refine wp_skip ?_; refine seq_normal ?_; refine wp_region ?_; refine zw1 ?_; refine zn ?_; refine zf ?_; refine zh (S.g1 hS) ?_; refine zw1 ?_; refine zw1 ?_; refine wpO_cons ?_; refine op1_build rfl ?_; refine bk_one (by (conv => lhs; whnf) <;> rfl) rfl rfl rfl ?_; refine bk_nil ?_; refine wpO_cons ?_; refine op1_boxNS rfl rfl rfl hS ?_; intro p2 H2 hS; refine wpO_cons ?_
      refine op1_mapS (v := ptrV p2) keyI rfl rfl rfl rfl (S.up5 hS) ?_
      intro H5 hS
      rw [kvSet_new (by rw [fkv_get, added_dom, if_neg hnn])] at hS
      refine wpO_nil ?_; refine block_normal ?_; refine seq_normal ?_; refine wp_region ?_; refine zw1 ?_; refine wpO_cons ?_; refine op1_add rfl rfl rfl (by exact wrap_i64 (by omega) (by omega)) ?_; refine zw1 ?_; refine wpO_nil ?_
      refine ⟨c - (j + 1), by omega, j + 1, fun k => if k = fi + j then p2 else b k, by show [Value.int .i64 (fi + j + 1)] = [.int .i64 (fi + ((j + 1 : Nat) : Int))]; rw [show fi + ((j + 1 : Nat) : Int) = fi + j + 1 by omega], rfl, by omega, ?_, ?_⟩
      · intro n g1 g2 g3
        by_cases g4 : n = fi + j
        · exact hn (g4 ▸ g3)
        · exact hfar n g1 (by omega) g3
      · rw [added_fkv hn, added_map hn]
        have h6 := S.up1 (S.up6 (S.dn5 hS))
        exact S.dn5 (S.sepsAdd (S.seps (L := [_, pur True]) (S.up1 (S.pur trivial h6))))
  · obtain rfl : j = c := by omega
    have hcl : ¬ clash T.m.dom ⟨nm, fi, j, ge, ke⟩ = true := by
      unfold clash rng
      rw [List.any_eq_true]
      rintro ⟨n, h7, h8⟩
      rw [consec_mem] at h7
      simp only [Int.toNat_natCast] at h7
      exact hfar n h7.1 h7.2 (of_decide_eq_true h8)
    rw [if_neg hcl] at e0
    refine wp_exit ?_; refine seq_exit ?_; refine iter_exit ?_; refine block_exit ?_; refine seq_normal ?_; refine zsr ?_; refine zw1 ?_; refine zns ?_; refine wp_ret ?_; refine ret_of ?_; refine zr ?_; refine rk_nil ?_
    exact ⟨by rw [e0]; rfl, fun _ => ⟨b, closeT (pv := pv) (m1 := m1) (m2 := m2) (S.drop hS)⟩, fun h => absurd e0 h⟩
end Go.E.Fa
/- The table of frames: New. -/
namespace Go.E.Fa
open Go Go.E Go.Proofs.Ytlkgacbholklkaa Go.Proofs
set_option linter.unusedVariables false
set_option linter.unusedSimpArgs false
set_option maxRecDepth 100000
theorem rd_row {H : AHeap} {a : Option Addr} {l c i : Nat} {pls : List Pl} {p : Pl} {r : List Nat} (h : RdS H 5 (.slice a l c) (pls.flatMap plC) r) (hl : l = pls.length) (hp : pls[i]? = some p) :
    ∃ b off cs e ro, a = some ⟨b, off, none⟩ ∧ H.get b = .cells cs e ro ∧ off + i * 5 + 5 ≤ cs.length ∧ (cs.drop (off + i * 5)).take 5 = plC p := by
  have hi : i < pls.length := (List.getElem?_eq_some_iff.1 hp).1
  obtain ⟨b, off, cs, e, ro, rfl, _, hg, hlen, hv⟩ := h.at (i := i) (by omega)
  refine ⟨b, off, cs, e, ro, rfl, hg, by omega, ?_⟩
  have hcut := flatMap_cut plC_len hp
  apply List.ext_getElem?
  intro j
  by_cases hj : j < 5
  · rw [List.getElem?_take, if_pos hj, List.getElem?_drop, hv j hj, ← hcut, List.getElem?_take, if_pos hj, List.getElem?_drop]
  · rw [List.getElem?_eq_none (by rw [List.length_take]; omega), List.getElem?_eq_none (by rw [plC_len]; omega)]

theorem L28 {B H : AHeap} {As : List Asn} {a : Addr} {c : Nat} {pls : List Pl} (hl : pls.length ≤ 1000) (hd : RD B As 5 (.slice (some a) pls.length c) (pls.flatMap plC)) (hS : S B H As) :
    wpF C 28 [.slice (some a) pls.length c] H fun v H' => S B H' (sl 5 v (pls.flatMap plC) :: As) := by
  refine wpF_ofW o28 rfl rfl ?_
  refine zsr ?_; refine zw1 ?_; refine zns ?_; refine wp_seq ?_; refine zsr ?_; refine zw1 ?_; refine wpO_cons ?_; refine op1_bin_false rfl (by (conv => lhs; whnf) <;> rfl) (by (conv => lhs; whnf) <;> rfl) rfl ?_; refine zns ?_; refine wp_false rfl ?_; refine wp_skip ?_; refine seq_normal ?_; refine zsr ?_; refine wpO_cons ?_; refine op1_bsliceS rfl hS ?_; refine bk_nil ?_; intro p1 H1 hS; refine zw1 ?_; refine wpO_cons ?_
  replace hS := S.slNew (l := 0) (es := 5) hS rfl
  obtain ⟨r2, hr2, _⟩ := hd _ hS.drop
  refine op1_appRS rfl rfl (by (conv => lhs; whnf) <;> rfl) rfl hr2 (by rw [plC_flen]) (plC_one _) hS (by omega) ?_
  rw [List.nil_append, Nat.zero_add]
  intro a1 c1 H2 hS
  refine zw1 ?_; refine zns ?_; refine wp_ret ?_; refine ret_of ?_; refine zr ?_; refine rk_nil ?_
  exact hS

def addEv (ix : List (ByteArray × Value)) (dom : List Int) (p : Pl) : Int :=
  if 64 < p.name.size then 21 else if p.name.size = 0 then 9 else if (kvGet ix p.name).isSome = true then 38
  else if p.count < 1 ∨ p.first < 0 ∨ 4096 < p.count ∨ 4096 - p.count < p.first then 34
  else if clash dom p = true then 10 else 0
theorem addE_eq (T : Tb) (p : Pl) : addE T p = addEv T.ix T.m.dom p := rfl
def addsE : List Pl → List Pl → Int
  | _, [] => 0
  | l, p :: ps => if addEv (ixOf l) (l.flatMap rng) p ≠ 0 then addEv (ixOf l) (l.flatMap rng) p else addsE (l ++ [p]) ps
def newE (pls : List Pl) : Int := if pls.length = 0 then 9 else if 16 < pls.length then 18 else addsE [] pls

structure FreshM (l : List Pl) (M : Fm) : Prop where
  dom : M.dom = l.flatMap rng
  nd : M.dom.Nodup
  refs : ∀ n, M.refs n = 0
  dat : ∀ n, M.dat n = none
  pool : ∀ (i : Nat) p, l[i]? = some p → ∀ n, inR p n = true → M.pool n = i
  ok : ∀ p ∈ l, 1 ≤ p.count ∧ 0 ≤ p.first ∧ p.first + p.count ≤ 4096
structure Fresh (l : List Pl) (T : Tb) : Prop where
  ix : T.ix = ixOf l
  m : FreshM l T.m
theorem ixOf_snoc (l : List Pl) (p : Pl) : ixOf (l ++ [p]) = ixOf l ++ [(p.name, .int .i64 l.length)] := by
  unfold ixOf
  rw [List.zipIdx_append, List.map_append]
  simp
theorem consec_nd (a : Int) (n : Nat) : (consec a n).Nodup := by
  induction n with
  | zero => simp [consec]
  | succ n ih =>
    rw [consec_succ, List.nodup_append]
    refine ⟨ih, by simp, ?_⟩
    intro x hx y hy
    rw [List.mem_singleton] at hy
    rw [consec_mem] at hx
    omega
theorem rng_mem {p : Pl} {n : Int} (h : 0 ≤ p.count) : n ∈ rng p ↔ inR p n = true := by
  unfold rng inR
  rw [consec_mem, decide_eq_true_eq]
  omega
theorem addEv_ok {ix : List (ByteArray × Value)} {dom : List Int} {p : Pl} (h : addEv ix dom p = 0) : (1 ≤ p.count ∧ 0 ≤ p.first ∧ p.first + p.count ≤ 4096) ∧ clash dom p = false := by
  unfold addEv at h
  split at h; · omega
  split at h; · omega
  split at h; · omega
  split at h; · omega
  split at h; · omega
  rename_i h1 h2
  exact ⟨by omega, by simpa using h2⟩
theorem Fresh.step {l : List Pl} {T : Tb} {p : Pl} {b : Int → Nat} (h : Fresh l T) (he : addE T p = 0) : Fresh (l ++ [p]) (T.added p l.length b) := by
  obtain ⟨ho, hc⟩ := addEv_ok he
  have hno : ∀ n, inR p n = true → n ∉ T.m.dom := by
    intro n hn hd
    unfold clash at hc
    rw [List.any_eq_false] at hc
    exact hc n ((rng_mem (by omega)).2 hn) (decide_eq_true hd)
  refine ⟨?_, ?_, ?_, ?_, ?_, ?_, ?_⟩
  · show T.ix ++ [(p.name, .int .i64 l.length)] = _
    rw [ixOf_snoc, h.ix]
  · show T.m.dom ++ rng p = _
    rw [h.m.dom, List.flatMap_append]; simp
  · show (T.m.dom ++ rng p).Nodup
    rw [List.nodup_append]
    refine ⟨h.m.nd, consec_nd _ _, ?_⟩
    rintro x hx y hy rfl
    exact hno x ((rng_mem (by omega)).1 hy) hx
  · intro n
    show (if inR p n then (0 : Int) else T.m.refs n) = 0
    rw [h.m.refs]; simp
  · intro n
    show (if inR p n then none else T.m.dat n) = none
    rw [h.m.dat]; simp
  · intro i q hq n hn
    show (if inR p n = true then (l.length : Int) else T.m.pool n) = i
    rw [List.getElem?_append] at hq
    split at hq
    · rename_i hi
      have hqo := h.m.ok q (List.mem_of_getElem? hq)
      rw [if_neg]
      · exact h.m.pool i q hq n hn
      · intro hp
        refine hno n hp ?_
        rw [h.m.dom, List.mem_flatMap]
        exact ⟨q, List.mem_of_getElem? hq, (rng_mem (by omega)).2 hn⟩
    · rename_i hi
      have : i - l.length = 0 := by
        have := (List.getElem?_eq_some_iff.1 hq).1
        simp at this; omega
      rw [this] at hq
      simp only [List.getElem?_cons_zero, Option.some.injEq] at hq
      subst hq
      rw [if_pos hn]
      omega
  · intro q hq
    rcases List.mem_append.1 hq with h1 | h1
    · exact h.m.ok q h1
    · rw [List.mem_singleton] at h1; subst h1; exact ho
theorem Fresh.tbOk {T : Tb} (h : Fresh T.pls T) (hl : T.pls.length ≤ 16) : TbOk T := by
  refine ⟨⟨h.m.nd, fun n => by rw [h.m.refs]; omega⟩, ?_, hl, ?_, ?_⟩
  · intro p hp
    have ho := h.m.ok p hp
    refine ⟨ho.2.1, by omega, ho.2.2, ?_⟩
    intro n h1 h2
    rw [h.m.dom, List.mem_flatMap]
    exact ⟨p, hp, (rng_mem (by omega)).2 (by unfold inR; rw [decide_eq_true_eq]; omega)⟩
  · intro n hn
    rw [h.m.dom, List.mem_flatMap] at hn
    obtain ⟨p, hp, hn⟩ := hn
    obtain ⟨i, hi⟩ := List.mem_iff_getElem?.1 hp
    have ho := h.m.ok p hp
    rw [h.m.pool i p hi n ((rng_mem (by omega)).1 hn)]
    have := (List.getElem?_eq_some_iff.1 hi).1
    omega
  · intro n d hd
    rw [h.m.dat] at hd
    cases hd
def M0 : Fm := { dom := [], blk := fun _ => 0, refs := fun _ => 0, pool := fun _ => 0, dat := fun _ => none }
theorem fresh0 {pls : List Pl} : Fresh [] { pls := pls, ix := [], m := M0 } := ⟨rfl, rfl, by simp [M0], fun _ => rfl, fun _ => rfl, by simp, by simp⟩

theorem L10 {B H : AHeap} {As : List Asn} {a : Option Addr} {c : Nat} {pls : List Pl} (hl : pls.length ≤ 1000) (hb : ∀ p ∈ pls, p.name.size ≤ 1000 ∧ -9223372036854775808 ≤ p.count ∧ p.count ≤ 9223372036854775807)
    (hd : RD B As 5 (.slice a pls.length c) (pls.flatMap plC)) (hS : S B H As) :
    wpF C 10 [.slice a pls.length c] H fun v H' => (newE pls ≠ 0 → v = .tuple ⟨[.pointer none, .int .i64 (newE pls)]⟩ ∧ S B H' As) ∧
      (newE pls = 0 → ∃ t T, v = .tuple ⟨[ptrV t, .int .i64 0]⟩ ∧ T.pls = pls ∧ Fresh pls T ∧ S B H' (repT t T :: As)) := by
  refine wpF_ofW o10 rfl rfl ?_
  refine zsr ?_; refine zw1 ?_; refine zw1 ?_; refine zns ?_; refine wp_seq ?_; refine zsr ?_; refine zw1 ?_; refine wpO_cons ?_; refine op1_len rfl rfl ?_; refine wpO_cons ?_; refine op1_eqlI rfl rfl rfl ?_; refine zns ?_
  refine wp_dec rfl (fun h1 => ?_) (fun h1 => ?_)
  · have e : newE pls = 9 := by unfold newE; rw [if_pos (by omega)]
    rw [e]
    refine zsr ?_; refine zw1 ?_; refine zw1 ?_; refine zns ?_; refine wp_ret ?_; refine seq_ret ?_; refine ret_of ?_; refine zr ?_; refine zr ?_; refine rk_nil ?_
    exact ⟨fun _ => ⟨rfl, hS⟩, fun h => absurd h (by decide)⟩
  refine wp_skip ?_; refine seq_normal ?_; refine wp_seq ?_; refine zsr ?_; refine zw1 ?_; refine wpO_cons ?_; refine op1_len rfl rfl ?_; refine wpO_cons ?_; refine op1_gtr rfl rfl rfl ?_; refine zns ?_
  refine wp_dec rfl (fun h2 => ?_) (fun h2 => ?_)
  · have e : newE pls = 18 := by unfold newE; rw [if_neg (by omega), if_pos (by omega)]
    rw [e]
    refine zsr ?_; refine zw1 ?_; refine zw1 ?_; refine zns ?_; refine wp_ret ?_; refine seq_ret ?_; refine ret_of ?_; refine zr ?_; refine zr ?_; refine rk_nil ?_
    exact ⟨fun _ => ⟨rfl, hS⟩, fun h => absurd h (by decide)⟩
  have e : newE pls = addsE [] pls := by unfold newE; rw [if_neg (by omega), if_neg (by omega)]
  rw [e]
  obtain ⟨aa, rfl⟩ : ∃ z, a = some z := by
    obtain ⟨r, hr, _⟩ := hd _ hS
    obtain ⟨p, hp⟩ : ∃ p, pls[0]? = some p := ⟨pls[0]'(by omega), by simp⟩
    obtain ⟨b, off, _, _, _, rfl, _⟩ := rd_row hr rfl hp
    exact ⟨_, rfl⟩
  refine wp_skip ?_; refine seq_normal ?_; refine zsr ?_; refine zw1 ?_; refine wpO_cons ?_; refine op1_call1 rfl (by (conv => lhs; whnf) <;> rfl) ?_
  refine wpF_mono (L28 (by omega) hd hS) ?_
  rintro v1 H1 hS
  obtain ⟨ap, lp, cp, rfl, hpl2⟩ := S.shape hS
  refine wpO_cons ?_; refine op1_mkmapS rfl hS ?_; intro p1 H2 hS; refine wpO_cons ?_; refine op1_mkmapS rfl hS ?_; intro p2 H3 hS; refine wpO_cons ?_; refine op1_build rfl ?_; refine bk_one (by (conv => lhs; whnf) <;> rfl) rfl rfl rfl ?_; refine bk_one (by (conv => lhs; whnf) <;> rfl) rfl rfl rfl ?_; refine bk_one (by (conv => lhs; whnf) <;> rfl) rfl rfl rfl ?_; refine bk_nil ?_; refine wpO_cons ?_; refine op1_boxNS rfl rfl rfl hS ?_; intro p3 H4 hS; refine zw1 ?_; refine zns ?_; refine wp_seq ?_; refine zsr ?_; refine zw1 ?_; refine wpO_cons ?_; refine op1_len rfl rfl ?_; refine zw1 ?_; refine zns ?_; refine wp_block ?_
  refine wp_loop [22] (fun k vs H' => ∃ (i : Nat) (T : Tb), vs = [.int .i64 i] ∧ k = pls.length - i ∧ i ≤ pls.length ∧ addsE (pls.take i) (pls.drop i) = addsE [] pls ∧ T.pls = pls ∧ Fresh (pls.take i) T ∧
      S B H' (repT p3 T :: As)) ⟨_, 0, { pls := pls, ix := [], m := M0 }, rfl, rfl, by omega, by simp, rfl, by simpa using fresh0, ?_⟩ ?_
  · have h9 := S.imNew (enc := enS) (S.up2 (S.imNew (enc := enI) (S.up1 hS)))
    have h8 := S.seps (L := []) h9
    exact closeT (S.dn4 (S.up2 (S.up4 (S.up4 h8))))
  clear hS hpl2
  rintro k vs T' H4 ⟨i, T, rfl, rfl, hi, hae, hTp, hF, hS⟩
  refine zsr ?_; refine wpO_cons ?_; refine op1_lss rfl rfl rfl ?_; refine zns ?_; refine wp_seq ?_
  refine wp_dec rfl (fun hlt => ?_) (fun hlt => ?_)
  · obtain ⟨p, hp⟩ : ∃ p, pls[i]? = some p := ⟨pls[i]'(by omega), by simp⟩
    obtain ⟨r, hr, _⟩ := (RD.cons hd) _ hS
    obtain ⟨b, off, cs, e1, ro, h5, hg, hle, hrow⟩ := rd_row hr rfl hp
    cases h5
    refine wp_skip ?_; refine seq_normal ?_; refine wp_seq ?_; refine wp_block ?_; refine zsr ?_; refine zw1 ?_; refine wpO_cons ?_; refine op1_iaddr rfl rfl rfl (by omega) (by omega) ?_; refine wpO_cons ?_
    refine op1_loadN rfl rfl hg hle hrow ?_
    unfold plC
    refine wpO_cons ?_; refine op1_allocS rfl hS ?_; intro p4 H5 hS; refine zw1 ?_; refine wpO_cons ?_; (refine op1_storeNS rfl rfl (by (conv => lhs; whnf) <;> rfl) rfl rfl (S.up0 hS) (Nat.le_of_ble_eq_true rfl) ?_; intro H6 hS; replace hS := S.dn0 hS); refine zns ?_; refine zsr ?_; refine zw1 ?_; refine zw1 ?_; refine wpO_cons ?_; refine op1_load_5 rfl rfl (by exact S.g0 hS) rfl rfl ?_; refine wpO_cons ?_; refine op1_call3 rfl (by (conv => lhs; whnf) <;> rfl) (by (conv => lhs; whnf) <;> rfl) (by (conv => lhs; whnf) <;> rfl) ?_
    have hpb := hb p (List.mem_of_getElem? hp)
    refine wpF_mono (L29 (T := T) (p := p) (i := i) (by omega) (by omega) ⟨hpb.2.1, hpb.2.2⟩ (S.up1 hS)) ?_
    have hdr : pls.drop i = p :: pls.drop (i + 1) := by
      rw [List.drop_eq_getElem_cons (by omega)]
      congr 1
      rw [List.getElem?_eq_getElem (by omega)] at hp
      exact Option.some.inj hp
    have hev : addE T p = addEv (ixOf (pls.take i)) ((pls.take i).flatMap rng) p := by rw [addE_eq, hF.ix, hF.m.dom]
    rw [hdr, addsE, ← hev] at hae
    rintro _ H7 ⟨rfl, hok, hko⟩
    refine zw1 ?_; refine zns ?_; refine zsr ?_; refine zw1 ?_; refine wpO_cons ?_; refine op1_neqI rfl rfl rfl ?_; refine zns ?_
    refine wp_ndec rfl (fun he => ?_) (fun he => ?_)
    · rw [if_pos he] at hae
      rw [← hae]
      refine zsr ?_; refine zw1 ?_; refine zw1 ?_; refine zw1 ?_; refine zns ?_; refine wp_ret ?_; refine block_ret ?_; refine seq_ret ?_; refine iter_ret ?_; refine block_ret ?_; refine seq_ret ?_; refine ret_of ?_; refine zr ?_; refine zr ?_; refine rk_nil ?_
      exact ⟨fun _ => ⟨rfl, S.drop (hko he)⟩, fun h => absurd h he⟩
    · obtain ⟨b2, hS⟩ := hok he
      rw [if_neg (by simp [he])] at hae
      have htk : pls.take (i + 1) = pls.take i ++ [p] := by rw [List.take_add_one, hp]; rfl
      have hst := hF.step (b := b2) he
      rw [List.length_take, Nat.min_eq_left hi, ← htk] at hst
      refine wp_skip ?_; refine block_normal ?_; refine seq_normal ?_; refine wp_region ?_; refine wpO_cons ?_; refine op1_add rfl rfl rfl (by exact wrap_i64 (by omega) (by omega)) ?_; refine zw1 ?_; refine wpO_nil ?_
      exact ⟨pls.length - (i + 1), by omega, i + 1, T.added p i b2, rfl, rfl, by omega, by rw [htk]; exact hae, hTp, hst, S.drop (S.up1 hS)⟩
  · obtain rfl : i = pls.length := by omega
    rw [List.take_length] at hF
    rw [List.take_length, List.drop_length, addsE] at hae
    refine wp_exit ?_; refine seq_exit ?_; refine iter_exit ?_; refine block_exit ?_; refine seq_normal ?_; refine zsr ?_; refine zw1 ?_; refine zw1 ?_; refine zw1 ?_; refine zns ?_; refine wp_ret ?_; refine ret_of ?_; refine zr ?_; refine zr ?_; refine rk_nil ?_
    exact ⟨fun h => absurd hae.symm h, fun _ => ⟨_, T, rfl, hTp, hF, hS⟩⟩
end Go.E.Fa
/- The table of frames: Write, Read. -/
namespace Go.E.Fa
open Go Go.E Go.Proofs.Ytlkgacbholklkaa Go.Proofs
set_option linter.unusedVariables false
set_option linter.unusedSimpArgs false
set_option maxRecDepth 100000
def InPage (off n : Int) : Prop := 0 ≤ off ∧ 0 ≤ n ∧ n ≤ 64 ∧ off ≤ 64 - n
instance (off n : Int) : Decidable (InPage off n) := by unfold InPage; infer_instance
theorem RD.pto {B : AHeap} {As : List Asn} {b off l c es e : Nat} {cs : List Value} {ro : Bool} (hc : off + l * es ≤ cs.length) (he : e = 0 ∨ e = es) (hl : l ≤ c) :
    RD B (Go.E.pto b (.cells cs e ro) :: As) es (.slice (some ⟨b, off, none⟩) l c) ((cs.drop off).take (l * es)) := fun H h =>
  ⟨[b], RdS.blk h.get hc he hl, by
    intro b' hb'
    rw [List.mem_singleton] at hb'
    subst hb'
    exact h.lt.2⟩

end Go.E.Fa
/- The table of frames: Usage. -/
namespace Go.E.Fa
open Go Go.E Go.Proofs.Ytlkgacbholklkaa Go.Proofs
set_option linter.unusedVariables false
set_option linter.unusedSimpArgs false
set_option maxRecDepth 100000
def usF (rs : List (Nat × Nat)) : Nat := (rs.flatMap span).length
def usL (rs : List (Nat × Nat)) : Nat := rs.foldl (fun a x => max a (x.2 - x.1)) 0
theorem usF_snoc (rs : List (Nat × Nat)) (x : Nat × Nat) : usF (rs ++ [x]) = usF rs + (x.2 - x.1) := by unfold usF; simp [span]
theorem usL_snoc (rs : List (Nat × Nat)) (x : Nat × Nat) : usL (rs ++ [x]) = max (usL rs) (x.2 - x.1) := by unfold usL; simp
theorem usL_le (rs : List (Nat × Nat)) : usL rs ≤ usF rs := by
  suffices h : ∀ (n : Nat) (rs : List (Nat × Nat)), rs.length = n → usL rs ≤ usF rs from h _ rs rfl
  intro n
  induction n with
  | zero => intro rs h; rw [List.length_eq_zero_iff.1 h]; simp [usL, usF]
  | succ n ih =>
    intro rs h
    rcases List.eq_nil_or_concat rs with rfl | ⟨l, x, rfl⟩
    · simp at h
    · have := ih l (by simpa using h)
      rw [List.concat_eq_append, usL_snoc, usF_snoc]; omega
def runsOf (T : Tb) (p : Pl) : List (Nat × Nat) := runsP T.m p.first.toNat (p.first + p.count).toNat
def usageM (T : Tb) (s : ByteArray) : (Int × Int × Int) × Int := match nameIx T.pls s with
  | none => ((0, 0, 0), 22)
  | some i => ((usF (runsOf T (poolOf T i)), (poolOf T i).count - usF (runsOf T (poolOf T i)), usL (runsOf T (poolOf T i))), 0)
def usC (u : Int × Int × Int) : List Value := [.int .i64 u.1, .int .i64 u.2.1, .int .i64 u.2.2]
theorem usF_free {T : Tb} {p : Pl} (hp : PlOk T.m p) : usF (runsOf T p) = (freeP T.m p).length := by
  rw [← runsP_free T.m p hp, List.length_map]; rfl

theorem plC_cnt {l : List Pl} {i : Nat} {p : Pl} (h : l[i]? = some p) : (l.flatMap plC)[i * 5 + 2]? = some (.int .i64 p.count) := by
  have := flatMap_cut plC_len h
  have h2 : ((l.flatMap plC).drop (i * 5)).take 5 = plC p := this
  have h3 : (((l.flatMap plC).drop (i * 5)).take 5)[2]? = some (.int .i64 p.count) := by rw [h2]; rfl
  rw [List.getElem?_take, if_pos (by decide), List.getElem?_drop] at h3
  exact h3
theorem L19 {B H : AHeap} {As : List Asn} {t : Nat} {T : Tb} {s : ByteArray} (hT : TbOk T) (hix : T.ix = ixOf T.pls) (hS : S B H (repT t T :: As)) :
    wpF C 19 [ptrV t, .string s] H fun v H' => v = .tuple ⟨[.agg ⟨usC (usageM T s).1⟩, .int .i64 (usageM T s).2]⟩ ∧ S B H' (repT t T :: As) := by
  refine wpF_ofW o19 rfl rfl ?_
  unfold ptrV
  refine zsr ?_; refine wpO_cons ?_; refine op1_allocS rfl hS ?_; intro p1 H1 hS; refine zw1 ?_; refine zns ?_; refine wp_seq ?_; refine zsr ?_; refine zw1 ?_; refine wpO_cons ?_; refine op1_bin_false rfl (by (conv => lhs; whnf) <;> rfl) (by (conv => lhs; whnf) <;> rfl) rfl ?_; refine zns ?_; refine wp_false rfl ?_; refine wp_skip ?_; refine seq_normal ?_; refine zsr ?_; refine zw1 ?_; refine zn ?_; refine zf ?_; refine wpO_cons ?_
  obtain ⟨pv, m1, m2, hO⟩ := openT (S.up1 hS)
  unfold tabC at hO
  refine op1_load rfl rfl (by exact S.g0 hO) rfl ?_; refine zw1 ?_; refine wpO_cons ?_
  refine op1_lookS keyS rfl rfl rfl (S.up2 hO) ?_
  rw [hix, kvGet_ix]
  unfold usageM
  cases hn : nameIx T.pls s with
  | none =>
    refine zw1 ?_; refine wpO_cons ?_; refine op1_extract rfl rfl rfl ?_; refine wpO_cons ?_; refine op1_extract rfl rfl rfl ?_; refine zw1 ?_; refine zw1 ?_; refine zns ?_; refine wp_seq ?_; refine zsr ?_; refine zw1 ?_; refine wpO_cons ?_; refine op1_not_f rfl rfl ?_; refine zns ?_; refine wp_true rfl ?_; refine zsr ?_; refine wpO_cons ?_; refine op1_build rfl ?_; refine bk_nil ?_; refine wpO_cons ?_; (refine op1_storeNS rfl rfl (by (conv => lhs; whnf) <;> rfl) rfl rfl (S.up0 hS) (Nat.le_of_ble_eq_true rfl) ?_; intro H2 hS; replace hS := S.dn0 hS); refine zw1 ?_; refine zns ?_; refine wp_ret ?_; refine seq_ret ?_; refine ret_of ?_; refine rk_cellN rfl (by exact S.g0 hS) rfl rfl ?_; refine zr ?_; refine rk_nil ?_
    exact ⟨rfl, S.drop hS⟩
  | some j =>
    clear hO
    have hj := nameIx_lt hn
    obtain ⟨p, hp⟩ : ∃ p, T.pls[j]? = some p := ⟨T.pls[j]'hj, by simp⟩
    have hpo : poolOf T (j : Int) = p := by unfold poolOf; rw [Int.toNat_natCast, List.getD_eq_getElem?_getD, hp]; rfl
    have hpk := hT.pls p (List.mem_of_getElem? hp)
    simp only [hpo]
    refine zw1 ?_; refine wpO_cons ?_; refine op1_extract rfl rfl rfl ?_; refine wpO_cons ?_; refine op1_extract rfl rfl rfl ?_; refine zw1 ?_; refine zw1 ?_; refine zns ?_; refine wp_seq ?_; refine zsr ?_; refine zw1 ?_; refine wpO_cons ?_; refine op1_not_t rfl rfl ?_; refine zns ?_; refine wp_false rfl ?_; refine wp_skip ?_; refine seq_normal ?_; refine zsr ?_; refine wpO_cons ?_; refine op1_allocS rfl hS ?_; intro p2 H2 hS; refine zns ?_; refine wp_seq ?_; refine zsr ?_; refine zw1 ?_; refine zw1 ?_; refine zn ?_; refine zf ?_; refine wpO_cons ?_
    obtain ⟨pb, po, pc, m1, m2, hpc, hO⟩ := openT1 (S.up2 hS) (by omega)
    unfold tabC at hO
    refine op1_load rfl rfl (by exact S.g0 hO) rfl ?_; refine zw1 ?_; refine wpO_cons ?_; refine op1_iaddr rfl rfl rfl (by omega) (by omega) ?_; refine wpO_cons ?_
    refine op1_loadNL rfl rfl (S.up1 hO) rfl rfl (by omega) (flatMap_cut plC_len hp) ?_
    refine wpO_cons ?_; refine op1_call2 rfl (by (conv => lhs; whnf) <;> rfl) (by (conv => lhs; whnf) <;> rfl) ?_
    clear hO
    refine wpF_mono (L35 hS) ?_
    rintro _ H4 ⟨pb2, tb2, rfl, hS⟩
    refine zns ?_; refine wp_block ?_
    refine wp_rangeS rfl hS ?_
    intro l hl hk b H5 hS
    have hf1 := hpk.first
    have hf2 := hpk.count
    have hf3 := hpk.top
    refine wpF_mono (L49 (B := B) (t := t) (T := T) (p := p) (F := p.first.toNat) (E := (p.first + p.count).toNat) (by omega) (by omega) (by omega) (fun n h1 h2 => hpk.dom n (by omega) (by omega)) (by omega)
      (fun pre => pto b (.loop .ready none l [35, 36] (loopA Try.prog 19 0) (loopB Try.prog 19 0)) :: pto p2 (.cells [.int .i64 (usF pre), .int .i64 0, .int .i64 (usL pre)] 0 false) :: pto p1 (.cells [.int .i64 0, .int .i64 0, .int .i64 0] 0 false) :: As)
      (fun pre H => False) ?_ ?_) ?_
    · intro pre x post H hpp hS
      refine wp_roundS oY (S.up3 hS) cr19_0a cr19_0b rfl hk rfl hl ?_
      refine zsr ?_; refine zw1 ?_; refine zns ?_; refine wp_region ?_; refine zw1 ?_; refine wpO_nil ?_
      refine ⟨rfl, _, S.up3 hS, ?_⟩
      clear hS
      intro H6 hS
      have hxm := runs_mem _ (show x ∈ runsAt (frB T.m) (p.first + p.count).toNat p.first.toNat by show x ∈ runsP _ _ _; rw [hpp]; simp)
      have hpl : usF pre + (x.2 - x.1) ≤ 4096 := by
        have h1 := freeP_len hpk
        rw [← usF_free hpk] at h1
        have h2 : usF (runsOf T p) = usF pre + (x.2 - x.1) + usF post := by
          show usF (runsP T.m p.first.toNat (p.first + p.count).toNat) = _
          rw [hpp]
          unfold usF
          simp [span]
          omega
        omega
      have hul := usL_le pre
      refine wp_block ?_; refine zsr ?_; refine zf ?_; refine zh (S.g4 hS) ?_; refine zw1 ?_; refine zw1 ?_; refine wpO_cons ?_; refine op1_sub rfl rfl rfl (by exact wrap_i64 (by omega) (by omega)) ?_; refine wpO_cons ?_; refine op1_add rfl rfl rfl (by exact wrap_i64 (by omega) (by omega)) ?_; refine zf ?_; refine wpO_cons ?_; (refine op1_store1S rfl rfl (by (conv => lhs; whnf) <;> rfl) rfl rfl (S.up4 hS) rfl ?_; intro H3 hS; replace hS := S.dn4 hS); refine zns ?_; refine wp_region ?_; refine zf ?_; refine zh (S.g4 hS) ?_; refine zw1 ?_; refine zw1 ?_; refine wpO_cons ?_; refine op1_sub rfl rfl rfl (by exact wrap_i64 (by omega) (by omega)) ?_; refine wpO_cons ?_; refine op1_max rfl rfl rfl ?_; refine zf ?_; refine wpO_cons ?_; (refine op1_store1S rfl rfl (by (conv => lhs; whnf) <;> rfl) rfl rfl (S.up4 hS) rfl ?_; intro H7 hS; replace hS := S.dn4 hS); refine wpO_nil ?_; refine block_normal ?_
      refine ⟨_, hS, fun H8 hS => .inl ⟨rfl, ?_⟩⟩
      have e1 : ((usF (pre ++ [x]) : Nat) : Int) = (usF pre : Int) + ((x.2 : Int) - x.1) := by rw [usF_snoc]; omega
      have e2 : ((usL (pre ++ [x]) : Nat) : Int) = max (usL pre : Int) ((x.2 : Int) - x.1) := by rw [usL_snoc]; omega
      rw [e1, e2]
      exact S.dn3 hS
    · exact S.up1 (S.up3 (S.up2 (S.up5 hS)))
    · rintro v H6 (hS | ⟨_, _, _, _, hf⟩)
      · refine ⟨_, _, _, _, _, _, _, S.up3 hS, rfl, fun H7 hS => ?_⟩
        obtain ⟨pb3, po3, pc3, m13, m23, hpc3, hO⟩ := openT1 (S.up2 hS) (by omega)
        unfold tabC at hO
        clear hS
        have hS := hO
        clear hO
        refine block_normal ?_; refine seq_normal ?_; refine wp_seq ?_; refine wp_regionD ?_; refine zd1 ?_; refine zm ?_; refine zg ?_; refine zj (S.g0 hS) ?_; refine zd1 ?_; refine wpD_cons ?_; refine op1_iaddr rfl rfl rfl (by omega) (by omega) ?_; refine wpD_cons ?_; refine op1_faddr rfl rfl ?_; refine wpD_cons ?_
        have huf : usF (runsP T.m p.first.toNat (p.first + p.count).toNat) ≤ 4096 := by
          have h1 := freeP_len hpk
          rw [← usF_free hpk] at h1
          have h2 : usF (runsP T.m p.first.toNat (p.first + p.count).toNat) = usF (runsOf T p) := rfl
          omega
        have hS7 := hS
        refine op1_loadL (k := j * 5 + 2) rfl rfl (S.up1 hS) (by simp only [Int.toNat_natCast]; omega) (by omega) (plC_cnt hp) ?_
        refine zg ?_; refine zj (S.g7 hS7) ?_; refine wpD_cons ?_; refine op1_sub rfl rfl rfl (by exact wrap_i64 (by omega) (by omega)) ?_; refine zg ?_; refine wpD_cons ?_; (refine op1_store1S rfl rfl (by (conv => lhs; whnf) <;> rfl) rfl rfl (S.up7 hS) rfl ?_; intro H3 hS; replace hS := S.dn7 hS); refine wpD_nil ?_; refine dk_of ?_ ?_; (iterate 3 refine chk_skip ?_); refine zx 10 ?_ ?_; refine zy 1 ?_ ?_; exact zq (S.g0 hS7); exact chkFs_nil; (iterate 3 refine chk_skip ?_); refine zx 6 ?_ ?_; refine zy 1 ?_ ?_
        · exact chk_loadL (k := j * 5 + 2) rfl (S.up1 hS7) (by simp only [Int.toNat_natCast]; omega) (by omega) (plC_cnt hp) rfl
        exact chkFs_nil; refine chk_skip ?_; refine zx 4 ?_ ?_; refine zy 1 ?_ ?_; exact zq (S.g7 hS7); exact chkFs_nil; (iterate 3 refine chk_skip ?_); exact chk_end; refine seq_normal ?_; refine zsr ?_; refine wpO_cons ?_; refine op1_load_3 rfl rfl (by exact S.g7 hS) rfl rfl ?_; refine wpO_cons ?_; (refine op1_storeNS rfl rfl (by (conv => lhs; whnf) <;> rfl) rfl rfl (S.up8 hS) (Nat.le_of_ble_eq_true rfl) ?_; intro H8 hS; replace hS := S.dn8 hS); refine zw1 ?_; refine zns ?_; refine wp_ret ?_; refine ret_of ?_; refine rk_cellN rfl (by exact S.g8 hS) rfl rfl ?_; refine zr ?_; refine rk_nil ?_
        exact ⟨rfl, S.drop (S.up1 (S.drop (S.up1 (S.drop (S.up1 (S.drop (S.up1 (closeT hS))))))))⟩
      · exact hf.elim
end Go.E.Fa
