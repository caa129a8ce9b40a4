/- The reference's connection: what a segment brings. -/
import Derived.Test.YtamcfhhcmjagnaaStR1
namespace Go.E.St
open Go Go.E Go.Proofs.Ytamcfhhcmjagnaa Go.Proofs
set_option linter.unusedVariables false
set_option linter.unusedSimpArgs false
set_option maxRecDepth 100000
section
variable {B H : AHeap} {As : List Asn} {p : Nat} {s : Cn} {g : Sg}
theorem L84 {ad : Option Addr} {cd : Nat} (hol : s.out.length ≤ 4096) (hil : s.inc.length ≤ 4096) (hrc : 0 ≤ s.rcv ∧ s.rcv ≤ 4294967295) (hg : SgOk g) (hd : RD B As 1 (.slice ad g.data.length cd) (u8s g.data)) (hS : S B H (repD p s :: As)) :
    wpF C 84 [ptC p, .agg ⟨sgC g (.slice ad g.data.length cd)⟩] H fun v H' => S B H' (repD p (({ s with due := true } : Cn).take g) :: As) := by
  refine wpF_ofW o84 rfl rfl ?_
  obtain ⟨ao, co, ai, ci, ho, hi, hO⟩ := openD hS
  clear hS
  have hS := hO
  clear hO
  unfold rfC at hS
  unfold ptC sgC
  refine zsr ?_; refine wpO_cons ?_; refine op1_boxNS rfl rfl rfl hS ?_; intro p1 H1 hS; refine zns ?_; refine zsr ?_; refine zw1 ?_; refine zn ?_; refine zf ?_; refine wpO_cons ?_; (refine op1_store1S rfl rfl (by (conv => lhs; whnf) <;> rfl) rfl rfl (S.up1 hS) rfl ?_; intro H2 hS; replace hS := S.dn1 hS); refine zns ?_
  obtain ⟨t, ht⟩ : ∃ t : Cn, t = { s with due := true } := ⟨_, rfl⟩
  have h9 := closeD (s := { s with due := true }) (S.up3 (S.up3 (S.up3 hS)))
  rw [← ht] at h9 ⊢
  replace hol : t.out.length ≤ 4096 := by rw [ht]; exact hol
  replace hil : t.inc.length ≤ 4096 := by rw [ht]; exact hil
  replace hrc : 0 ≤ t.rcv ∧ t.rcv ≤ 4294967295 := by rw [ht]; exact hrc
  clear ho hi hS ht
  have hS := h9
  clear h9
  obtain ⟨ao, co, ai, ci, ho, hi, hO⟩ := openD hS
  clear hS
  have hS := hO
  clear hO
  unfold rfC at hS
  have hsq := hg.seq
  have hdl := hg.data
  obtain ⟨k0, hk0⟩ : ∃ z, z = t.skip0 g := ⟨_, rfl⟩
  have hk0b : 0 ≤ k0 ∧ k0 ≤ 4294967295 := by rw [hk0]; unfold Cn.skip0; rw [wrap_u32]; omega
  have hln : 0 ≤ lenS g ∧ lenS g ≤ 258 := by
    have := b2n_b (has g.fl 1)
    have := b2n_b (has g.fl 4)
    unfold lenS; omega
  have hS1 := hS
  refine wp_seq ?_; refine wp_regionD ?_; refine zd1 ?_; refine zm ?_; refine zg ?_; refine zj (S.g0 hS1) ?_; refine zg ?_; refine zj (S.g3 hS1) ?_; refine wpD_cons ?_
  refine op1_subW rfl rfl rfl ?_
  rw [show IntKind.u32.wrap (t.rcv - g.seq) = k0 from hk0.symm]
  have htk : ∀ h : t.ended = true ∨ before t.rcv g.seq = true ∨ lenS g ≤ k0, t.take g = t := fun h => by unfold Cn.take; rw [← hk0, if_pos h]
  have htn : ∀ h : ¬ (t.ended = true ∨ before t.rcv g.seq = true ∨ lenS g ≤ k0), t.take g = if t.tN g < (t.tDat g).length ∨ has g.fl 4 = false then t.tMid g else (t.tMid g).fin := fun h => by unfold Cn.take; rw [← hk0, if_neg h]
  refine zd1 ?_; refine wpD_nil ?_; refine dk_of ?_ ?_; (iterate 3 refine chk_skip ?_); refine zx 5 ?_ ?_; refine zy 0 ?_ ?_; exact zq (S.g0 hS1); exact chkFs_nil; refine chk_skip ?_; refine zx 3 ?_ ?_; refine zy 0 ?_ ?_; exact zq (S.g3 hS1); exact chkFs_nil; (iterate 2 refine chk_skip ?_); exact chk_end; refine seq_normal ?_
  refine wp_cutR [] (fun vs H' => vs = [] ∧ ¬ (t.ended = true ∨ before t.rcv g.seq = true ∨ lenS g ≤ k0) ∧ S B H' (pto p (.cells (rfC t (.slice ao t.out.length co) (.slice ai t.inc.length ci)) 0 false) :: sl 1 (.slice ao t.out.length co) (u8s t.out) :: sl 1 (.slice ai t.inc.length ci) (u8s t.inc) :: pto p1 (.cells [.int .i64 g.fl, .int .u32 g.seq, .int .u32 g.num, .int .i64 g.win, .slice ad g.data.length cd] 0 false) :: As)) ?_ ?_
  · refine wp_seq ?_; refine wp_regionD ?_; refine zd1 ?_; refine zm ?_; refine zg ?_; refine zj (S.g0 hS1) ?_; refine zg ?_; refine zj (S.g3 hS1) ?_; refine wpD_cons ?_; refine op1_call2 rfl (by (conv => lhs; whnf) <;> rfl) (by (conv => lhs; whnf) <;> rfl) ?_
    refine wpF_mono L11 ?_
    rintro _ H2 ⟨rfl, rfl⟩
    obtain ⟨bf, hbf⟩ : ∃ z, z = before t.rcv g.seq := ⟨_, rfl⟩
    rw [← hbf]
    cases bf
    rotate_left
    · rw [htk (.inr (.inl hbf.symm))]
      refine zd1 ?_; (iterate 5 refine zl ?_); refine wpD_cons ?_; refine op1_pick_t rfl rfl (by (conv => lhs; whnf) <;> rfl) ?_; refine zd1 ?_; (iterate 4 refine zl ?_); refine wpD_cons ?_; refine op1_pick_t rfl rfl (by (conv => lhs; whnf) <;> rfl) ?_; refine wpD_nil ?_; refine dk_of ?_ ?_; (iterate 3 refine chk_skip ?_); refine zx 17 ?_ ?_; refine zy 14 ?_ ?_; exact zq (S.g0 hS1); exact chkFs_nil; refine chk_skip ?_; refine zx 15 ?_ ?_; refine zy 14 ?_ ?_; exact zq (S.g3 hS1); exact chkFs_nil; (iterate 4 refine chk_skip ?_); refine chk_unw 10 rfl rfl rfl ?_; (iterate 7 refine chk_skip ?_); refine chk_unw 2 rfl rfl rfl ?_; refine chk_skip ?_; exact chk_end; refine seq_normal ?_; refine wp_true rfl ?_; refine wp_ret ?_
      refine cutR_ret ?_
      refine ret_of ?_; refine rk_nil ?_
      exact closeD (S.drop (S.up3 hS))
    refine zd1 ?_; refine zd1 ?_; refine wpD_cons ?_; refine op1_convInt rfl rfl (by exact wrap_i64 (by omega) (by omega)) ?_; refine wpD_cons ?_; refine op1_load_5 rfl rfl (by exact S.g3 hS1) rfl rfl ?_; refine wpD_cons ?_; refine op1_call1 rfl (by (conv => lhs; whnf) <;> rfl) ?_
    refine wpF_mono (L81 (g := g) hg.fl (by omega) hS) ?_
    clear hS
    rintro _ H3 ⟨rfl, hS⟩
    obtain ⟨en, hen⟩ : ∃ z, z = t.ended := ⟨_, rfl⟩
    refine wpD_cons ?_; refine op1_geq rfl rfl rfl ?_; refine wpD_cons ?_; refine op1_pick_f rfl rfl (by (conv => lhs; whnf) <;> rfl) ?_; refine zd1 ?_; refine wpD_cons ?_
    refine op1_dec rfl (fun h1 => ?_) (fun h1 => ?_)
    · rw [htk (.inr (.inr (by omega)))]
      refine op1_skip rfl ?_; (iterate 3 refine zl ?_); refine wpD_cons ?_; refine op1_pick_t rfl rfl (by (conv => lhs; whnf) <;> rfl) ?_; refine wpD_nil ?_; refine dk_of ?_ ?_; (iterate 3 refine chk_skip ?_); refine zx 17 ?_ ?_; refine zy 14 ?_ ?_; exact zq (S.g0 hS1); exact chkFs_nil; refine chk_skip ?_; refine zx 15 ?_ ?_; refine zy 14 ?_ ?_; exact zq (S.g3 hS1); exact chkFs_nil; (iterate 4 refine chk_skip ?_); refine zx 10 ?_ ?_; refine zy 9 ?_ ?_; exact chk_loadN rfl (by exact S.g3 hS1) rfl rfl rfl; exact chkFs_nil; (iterate 7 refine chk_skip ?_); refine chk_unw 2 rfl rfl rfl ?_; refine chk_skip ?_; exact chk_end; refine seq_normal ?_; refine wp_true rfl ?_; refine wp_ret ?_
      refine cutR_ret ?_
      refine ret_of ?_; refine rk_nil ?_
      exact closeD (S.drop (S.up3 hS))
    refine op1_mov rfl (by (conv => lhs; whnf) <;> rfl) ?_; refine zm ?_; refine zg ?_; refine zj (S.g0 hS) ?_; refine wpD_cons ?_; refine op1_pick_f rfl rfl (by (conv => lhs; whnf) <;> rfl) ?_; refine wpD_nil ?_; refine dk_of ?_ ?_; (iterate 3 refine chk_skip ?_); refine zx 17 ?_ ?_; refine zy 14 ?_ ?_; exact zq (S.g0 hS1); exact chkFs_nil; refine chk_skip ?_; refine zx 15 ?_ ?_; refine zy 14 ?_ ?_; exact zq (S.g3 hS1); exact chkFs_nil; (iterate 4 refine chk_skip ?_); refine zx 10 ?_ ?_; refine zy 9 ?_ ?_; exact chk_loadN rfl (by exact S.g3 hS1) rfl rfl rfl; exact chkFs_nil; (iterate 7 refine chk_skip ?_); refine zx 2 ?_ ?_; refine zy 0 ?_ ?_; exact zq (S.g0 hS); exact chkFs_nil; refine chk_skip ?_; exact chk_end; refine seq_normal ?_
    rw [← hen]
    cases en
    · refine wp_false rfl ?_; refine wp_skip ?_
      exact cutR0 ⟨rfl, (by rintro (h | h | h); cases h; cases h; omega), hS⟩
    · rw [htk (.inl hen.symm)]
      refine wp_true rfl ?_; refine wp_ret ?_
      refine cutR_ret ?_
      refine ret_of ?_; refine rk_nil ?_
      exact closeD (S.drop (S.up3 hS))
  clear hS htk
  rintro vs2 T2 H2 ⟨rfl, hno, hS⟩
  rw [htn hno]
  clear htn
  unfold rfC at hS
  obtain ⟨r1, hr1⟩ : ∃ z, z = t.tRcv g := ⟨_, rfl⟩
  obtain ⟨k1, hk1⟩ : ∃ z, z = t.tSkip g := ⟨_, rfl⟩
  refine zsr ?_; refine zf ?_; refine zh (S.g3 hS) ?_; refine zw1 ?_; refine zns ?_
  refine wp_cut [4] (fun vs H' => vs = [.int .u32 k1] ∧ S B H' (pto p (.cells (rfC { t with rcv := r1 } (.slice ao t.out.length co) (.slice ai t.inc.length ci)) 0 false) :: sl 1 (.slice ao t.out.length co) (u8s t.out) :: sl 1 (.slice ai t.inc.length ci) (u8s t.inc) :: pto p1 (.cells [.int .i64 g.fl, .int .u32 g.seq, .int .u32 g.num, .int .i64 g.win, .slice ad g.data.length cd] 0 false) :: As)) ?_ ?_
  · have hr2 : r1 = if has g.fl 1 = true ∧ k0 = 0 then IntKind.u32.wrap (t.rcv + 1) else t.rcv := by rw [hr1]; unfold Cn.tRcv; rw [← hk0]
    have hk2 : k1 = if has g.fl 1 = true ∧ k0 ≠ 0 then k0 - 1 else k0 := by rw [hk1]; unfold Cn.tSkip; rw [← hk0]
    refine zsr ?_; refine zf ?_; refine zh (S.g3 hS) ?_; refine wpO_cons ?_; refine op1_call2 rfl (by (conv => lhs; whnf) <;> rfl) (by (conv => lhs; whnf) <;> rfl) ?_
    refine wpF_mono (L40 (k := 1) hg.fl (by decide)) ?_
    rintro _ H3 ⟨rfl, rfl⟩
    obtain ⟨f1, hf1⟩ : ∃ z, z = has g.fl 1 := ⟨_, rfl⟩
    rw [← hf1] at hr2 hk2 ⊢
    cases f1
    · rw [if_neg (by simp)] at hr2 hk2
      refine zns ?_; refine wp_false rfl ?_; refine wp_skip ?_; refine cut1 (by (conv => lhs; whnf) <;> rfl) ?_
      rw [hr2, hk2]
      exact ⟨rfl, hS⟩
    · refine zns ?_; refine wp_true rfl ?_; refine zsr ?_; refine zw1 ?_; refine wpO_cons ?_; refine op1_eqlI rfl rfl rfl ?_; refine zns ?_
      refine wp_dec rfl (fun h1 => ?_) (fun h1 => ?_)
      · rw [if_pos ⟨rfl, h1⟩] at hr2
        rw [if_neg (by simp [h1])] at hk2
        refine wp_region ?_; refine zw1 ?_; refine zn ?_; refine zf ?_; refine zh (S.g0 hS) ?_; refine wpO_cons ?_
        refine op1_addW rfl rfl rfl ?_
        refine zn ?_; refine zf ?_; refine wpO_cons ?_; (refine op1_store1S rfl rfl (by (conv => lhs; whnf) <;> rfl) rfl rfl (S.up0 hS) rfl ?_; intro H3 hS; replace hS := S.dn0 hS); refine wpO_nil ?_; refine cut1 (by (conv => lhs; whnf) <;> rfl) ?_
        rw [hr2, hk2]
        exact ⟨rfl, hS⟩
      · rw [if_neg (by simp [h1])] at hr2
        rw [if_pos ⟨rfl, h1⟩] at hk2
        refine wp_region ?_; refine zw1 ?_; refine wpO_cons ?_
        refine op1_sub rfl rfl rfl (by rw [wrap_u32]; omega) ?_
        refine zw1 ?_; refine wpO_nil ?_; refine cut1 (by (conv => lhs; whnf) <;> rfl) ?_
        rw [hr2, hk2]
        exact ⟨rfl, hS⟩
  clear hS
  rintro vs3 T3 H3 ⟨rfl, hS⟩
  unfold rfC at hS
  dsimp only at hS
  have hk1b : 0 ≤ k1 ∧ k1 ≤ 4294967295 := by
    rw [hk1]; unfold Cn.tSkip; rw [← hk0]
    split <;> omega
  have hcap : g.data.length ≤ cd := by obtain ⟨_, hz, _⟩ := hd _ (S.drop (S.drop (S.drop (S.drop hS)))); exact hz.le_cap
  obtain ⟨dl, hdl2⟩ : ∃ z, z = (t.tDat g).length := ⟨_, rfl⟩
  have hdl9 : dl ≤ 256 := by rw [hdl2]; unfold Cn.tDat; rw [List.length_drop]; omega
  skip
  refine wp_cut [5] (fun vs H' => ∃ (a5 : Option Addr) (c5 : Nat), vs = [.slice a5 dl c5] ∧ dl ≤ c5 ∧ RD B As 1 (.slice a5 dl c5) (u8s (t.tDat g)) ∧ H3 = H') ?_ ?_
  · refine zsr ?_; refine zw1 ?_; refine wpO_cons ?_; refine op1_convInt rfl rfl (by exact wrap_i64 (by omega) (by omega)) ?_; refine zw1 ?_; refine wpO_cons ?_; refine op1_len rfl rfl ?_; refine wpO_cons ?_; refine op1_lss rfl rfl rfl ?_; refine zns ?_
    refine wp_dec rfl (fun h1 => ?_) (fun h1 => ?_)
    · refine wp_region ?_; refine zw1 ?_; refine zw1 ?_; refine wpO_cons ?_
      obtain ⟨m, rfl⟩ : ∃ z : Nat, k1 = (z : Int) := ⟨k1.toNat, by omega⟩
      refine op1_sliceD rfl rfl hd (S.drop (S.drop (S.drop (S.drop hS)))) (bnds_lo (by omega) (by omega) hcap) (by simp only [Int.toNat_natCast]; omega) (Nat.le_refl _) ?_
      simp only [Int.toNat_natCast, Nat.mul_one]
      intro a5 c5 hd5 hck5
      have hdt : t.tDat g = g.data.drop m := by unfold Cn.tDat; rw [← hk1]; congr 1; omega
      rw [u8s_drop, u8s_take, List.take_of_length_le (l := g.data.drop m) (by rw [List.length_drop]; omega), ← hdt] at hd5
      have hdl3 : g.data.length - m = dl := by rw [hdl2, hdt, List.length_drop]
      rw [hdl3] at hd5 ⊢
      clear hck5
      refine zw1 ?_; refine wpO_nil ?_; refine cut1 (by (conv => lhs; whnf) <;> rfl) ?_
      have hcap5 : dl ≤ c5 := by obtain ⟨_, hz, _⟩ := hd5 _ (S.drop (S.drop (S.drop (S.drop hS)))); exact hz.le_cap
      exact ⟨a5, c5, rfl, hcap5, hd5, rfl⟩
    · have hdt : t.tDat g = [] := by unfold Cn.tDat; rw [← hk1]; apply List.drop_eq_nil_of_le; omega
      rw [hdt] at hdl2
      subst hdl2
      rw [hdt]
      refine wp_region ?_; refine zw1 ?_; refine wpO_nil ?_; refine cut1 (by (conv => lhs; whnf) <;> rfl) ?_
      exact ⟨none, 0, rfl, Nat.le_refl _, RD.nil, rfl⟩
  rintro vs4 T4 H4 ⟨a5, c5, rfl, hcap5, hd6, rfl⟩
  refine zsr ?_; refine zw1 ?_; refine wpO_cons ?_; refine op1_len rfl rfl ?_; refine zw1 ?_; refine wpO_cons ?_; refine op1_call1 rfl (by (conv => lhs; whnf) <;> rfl) ?_
  refine wpF_mono (L78 (s := { t with rcv := r1 }) (by omega) hS) ?_
  rintro _ H4 ⟨rfl, rfl⟩
  refine wpO_cons ?_; refine op1_min rfl rfl rfl ?_; refine zw1 ?_; refine zns ?_; refine wp_seq ?_; refine wp_regionD ?_; refine zd1 ?_; refine wpD_cons ?_; refine op1_bsliceS rfl hS ?_; refine bk_nil ?_; intro p2 H4 hS; refine zd1 ?_; refine zm ?_; refine zg ?_; refine zj (S.g1 hS) ?_; refine zd1 ?_; refine zd1 ?_; refine wpD_cons ?_
  obtain ⟨n, hn⟩ : ∃ z : Nat, z = t.tN g := ⟨_, rfl⟩
  have hni : min (dl : Int) (4096 - (t.inc.length : Int)) = n := by rw [hn]; unfold Cn.tN; rw [← hdl2]; omega
  rw [hni]
  have hnl : n ≤ dl := by omega
  have hml : ((t.tDat g).take n).length = n := by rw [List.length_take, ← hdl2]; omega
  skip
  replace hS := S.slNew (l := 0) (es := 1) hS rfl
  have hT := hS
  refine op1_sliceD rfl rfl hd6 (S.drop (S.drop (S.drop (S.drop (S.drop hS))))) (bnds_hi (by omega) (by omega)) (by omega) (by simp only [Int.toNat_natCast]; omega) ?_
  simp only [Int.toNat_natCast, Nat.zero_mul, List.drop_zero, Nat.sub_zero, Nat.mul_one]
  intro a7 c7 hd7 hck
  rw [u8s_take] at hd7
  obtain ⟨r0, hr0, _⟩ := (RD.cons (RD.cons (RD.cons RD.head)) : RD B _ 1 (.slice ai t.inc.length ci) (u8s t.inc)) _ hS
  refine wpD_cons ?_
  refine op1_appRS rfl rfl (by (conv => lhs; whnf) <;> rfl) rfl hr0 (by simp) (u8s_one _) hS (by omega) ?_
  rw [List.nil_append, Nat.zero_add]
  intro a3 c3 H6 hS
  have hT2 := hS
  obtain ⟨r7, hr7, _⟩ := hd7 _ (S.drop (S.drop (S.drop (S.drop (S.drop hS)))))
  refine wpD_cons ?_
  refine op1_appRS rfl rfl (by (conv => lhs; whnf) <;> rfl) rfl hr7 (by simp [hml]) (u8s_one _) hS (by omega) ?_
  intro a2 c2 H5 hS
  rw [← u8s_append] at hS
  refine zm ?_; refine zg ?_; refine wpD_cons ?_; (refine op1_store1S rfl rfl (by (conv => lhs; whnf) <;> rfl) rfl rfl (S.up1 hS) rfl ?_; intro H7 hS; replace hS := S.dn1 hS); refine wpD_nil ?_; refine dk_of ?_ ?_; (iterate 5 refine chk_skip ?_); refine zx 9 ?_ ?_; refine zy 5 ?_ ?_; exact zq (S.g1 hT); exact chkFs_nil; (iterate 2 refine chk_skip ?_); refine zx 6 ?_ ?_; refine zy 5 ?_ ?_
  · exact hck _ _ (S.drop (S.drop (S.drop (S.drop (S.drop hT))))) rfl
  refine zy 4 ?_ ?_
  · exact hck _ _ (S.drop (S.drop (S.drop (S.drop (S.drop hT2))))) rfl
  exact chkFs_nil; (iterate 5 refine chk_skip ?_); exact chk_end; refine seq_normal ?_; refine zsr ?_; refine zw1 ?_; refine zn ?_; refine zf ?_; refine zh (S.g1 hS) ?_; refine zw1 ?_; refine wpO_cons ?_
  refine op1_convInt rfl rfl (by rw [wrap_u32]; omega) ?_
  refine wpO_cons ?_
  refine op1_addW rfl rfl rfl ?_
  have hmid : t.tMid g = { t with rcv := IntKind.u32.wrap (r1 + n), inc := t.inc ++ (t.tDat g).take n } := by unfold Cn.tMid; rw [← hr1, ← hn]
  rw [← hn, ← hdl2, hmid]
  clear hck hT hT2 hd7 hr7 hr0 hd6 hmid
  have hil2 : (t.inc ++ (t.tDat g).take n).length = t.inc.length + n := by rw [List.length_append, hml]
  refine zn ?_; refine zf ?_; refine wpO_cons ?_; (refine op1_store1S rfl rfl (by (conv => lhs; whnf) <;> rfl) rfl rfl (S.up1 hS) rfl ?_; intro H8 hS; replace hS := S.dn1 hS); refine zns ?_; refine wp_seq ?_; refine zsr ?_; refine zw1 ?_; refine zw1 ?_; refine wpO_cons ?_; refine op1_len rfl rfl ?_; refine wpO_cons ?_; refine op1_lss rfl rfl rfl ?_; refine zw1 ?_; refine wpO_cons ?_
  refine op1_dec rfl (fun h1 => ?_) (fun h1 => ?_)
  · rw [if_pos (.inl (by omega))]
    refine op1_skip rfl ?_; (iterate 3 refine zk ?_); refine zt ?_; refine zns ?_; refine wp_true rfl ?_; refine wp_ret ?_; refine seq_ret ?_; refine ret_of ?_; refine rk_nil ?_
    exact S.drop (S.up1 (closeD (s := { t with rcv := IntKind.u32.wrap (r1 + n), inc := t.inc ++ (t.tDat g).take n }) (S.up2 (S.up2 (S.drop (S.up3 hS))))))
  refine op1_faddr0 rfl rfl ?_; refine zh (S.g4 hS) ?_; refine wpO_cons ?_; refine op1_call2 rfl (by (conv => lhs; whnf) <;> rfl) (by (conv => lhs; whnf) <;> rfl) ?_
  refine wpF_mono (L40 (k := 4) hg.fl (by decide)) ?_
  rintro _ H6 ⟨rfl, rfl⟩
  obtain ⟨f4, hf4⟩ : ∃ z, z = has g.fl 4 := ⟨_, rfl⟩
  rw [← hf4]
  cases f4
  · rw [if_pos (.inr rfl)]
    refine wpO_cons ?_; refine op1_not_f rfl rfl ?_; refine zu ?_; refine zns ?_; refine wp_true rfl ?_; refine wp_ret ?_; refine seq_ret ?_; refine ret_of ?_; refine rk_nil ?_
    exact S.drop (S.up1 (closeD (s := { t with rcv := IntKind.u32.wrap (r1 + n), inc := t.inc ++ (t.tDat g).take n }) (S.up2 (S.up2 (S.drop (S.up3 hS))))))
  rw [if_neg (by rintro (h | h); omega; cases h)]
  obtain ⟨M, hM⟩ : ∃ M : Cn, M = { t with rcv := IntKind.u32.wrap (r1 + n), inc := t.inc ++ (t.tDat g).take n } := ⟨_, rfl⟩
  rw [← hM]
  refine wpO_cons ?_; refine op1_not_t rfl rfl ?_; refine zu ?_; refine zns ?_; refine wp_false rfl ?_; refine wp_skip ?_; refine seq_normal ?_; refine zsr ?_; refine zw1 ?_; refine zn ?_; refine zf ?_; refine zh (S.g1 hS) ?_; refine wpO_cons ?_
  refine op1_addW rfl rfl rfl ?_
  refine zn ?_; refine zf ?_; refine wpO_cons ?_; (refine op1_store1S rfl rfl (by (conv => lhs; whnf) <;> rfl) rfl rfl (S.up1 hS) rfl ?_; intro H9 hS; replace hS := S.dn1 hS); refine zns ?_; refine zsr ?_; refine zw1 ?_; refine zn ?_; refine zf ?_; refine wpO_cons ?_; (refine op1_store1S rfl rfl (by (conv => lhs; whnf) <;> rfl) rfl rfl (S.up1 hS) rfl ?_; intro H10 hS; replace hS := S.dn1 hS); refine zns ?_; refine wp_block ?_; refine zsr ?_; refine zw1 ?_; refine zn ?_; refine zf ?_; refine zh (S.g1 hS) ?_; refine wpO_cons ?_; refine op1_eqlI rfl rfl rfl ?_; refine zw1 ?_; refine zns ?_
  refine wp_dec rfl (fun h2 => ?_) (fun h2 => ?_)
  · refine wp_region ?_; refine zw1 ?_; refine zn ?_; refine zf ?_; refine wpO_cons ?_; (refine op1_store1S rfl rfl (by (conv => lhs; whnf) <;> rfl) rfl rfl (S.up1 hS) rfl ?_; intro H11 hS; replace hS := S.dn1 hS); refine wpO_nil ?_; refine block_normal ?_; refine nrm_of ?_; refine rk_nil ?_
    rw [fin_of M (x := 6) (by rw [hM]; unfold Cn.finSt; exact if_pos h2), hM]
    exact S.drop (S.up1 (closeD (s := { t with rcv := IntKind.u32.wrap (IntKind.u32.wrap (r1 + n) + 1), inc := t.inc ++ (t.tDat g).take n, ended := true, st := 6 }) (S.up2 (S.up2 (S.drop (S.up3 hS))))))
  refine zsr ?_; refine zw1 ?_; refine zn ?_; refine zf ?_; refine zh (S.g1 hS) ?_; refine wpO_cons ?_; refine op1_eqlI rfl rfl rfl ?_; refine zw1 ?_; refine wpO_cons ?_
  obtain ⟨fg, hfg⟩ : ∃ z, z = t.finGone := ⟨_, rfl⟩
  refine op1_dec rfl (fun h3 => ?_) (fun h3 => ?_)
  · refine op1_mov rfl (by (conv => lhs; whnf) <;> rfl) ?_; refine zn ?_; refine zf ?_; refine zh (S.g1 hS) ?_; refine zt ?_; refine zw1 ?_; refine zns ?_
    rw [← hfg]
    cases fg
    · refine wp_false rfl ?_; refine zsr ?_; refine zw1 ?_; refine zn ?_; refine zf ?_; refine zh (S.g1 hS) ?_; refine wpO_cons ?_; refine op1_eqlI rfl rfl rfl ?_; refine zw1 ?_; refine zns ?_
      rw [decide_eq_true h3]
      refine wp_true rfl ?_; refine wp_region ?_; refine zw1 ?_; refine zn ?_; refine zf ?_; refine wpO_cons ?_; (refine op1_store1S rfl rfl (by (conv => lhs; whnf) <;> rfl) rfl rfl (S.up1 hS) rfl ?_; intro H11 hS; replace hS := S.dn1 hS); refine wpO_nil ?_; refine block_normal ?_; refine nrm_of ?_; refine rk_nil ?_
      rw [fin_of M (x := 7) (by rw [hM]; unfold Cn.finSt; simp only; rw [if_neg h2, if_pos h3, ← hfg]; rfl), hM]
      exact S.drop (S.up1 (closeD (s := { t with rcv := IntKind.u32.wrap (IntKind.u32.wrap (r1 + n) + 1), inc := t.inc ++ (t.tDat g).take n, ended := true, st := 7 }) (S.up2 (S.up2 (S.drop (S.up3 hS))))))
    · refine wp_true rfl ?_; refine wp_region ?_; refine zw1 ?_; refine zn ?_; refine zf ?_; refine wpO_cons ?_; (refine op1_store1S rfl rfl (by (conv => lhs; whnf) <;> rfl) rfl rfl (S.up1 hS) rfl ?_; intro H11 hS; replace hS := S.dn1 hS); refine wpO_nil ?_; refine block_normal ?_; refine nrm_of ?_; refine rk_nil ?_
      rw [fin_of M (x := 8) (by rw [hM]; unfold Cn.finSt; simp only; rw [if_neg h2, if_pos h3, ← hfg]; rfl), hM]
      exact S.drop (S.up1 (closeD (s := { t with rcv := IntKind.u32.wrap (IntKind.u32.wrap (r1 + n) + 1), inc := t.inc ++ (t.tDat g).take n, ended := true, st := 8 }) (S.up2 (S.up2 (S.drop (S.up3 hS))))))
  · refine op1_skip rfl ?_; (iterate 3 refine zk ?_); refine zu ?_; refine zw1 ?_; refine zns ?_; refine wp_false rfl ?_; refine zsr ?_; refine zw1 ?_; refine zn ?_; refine zf ?_; refine zh (S.g1 hS) ?_; refine wpO_cons ?_; refine op1_eqlI rfl rfl rfl ?_; refine zw1 ?_; refine zns ?_
    rw [decide_eq_false h3]
    refine wp_false rfl ?_; refine wp_skip ?_; refine block_normal ?_; refine nrm_of ?_; refine rk_nil ?_
    rw [fin_of M (x := t.st) (by rw [hM]; unfold Cn.finSt; simp only; rw [if_neg h2, if_neg h3]), hM]
    exact S.drop (S.up1 (closeD (s := { t with rcv := IntKind.u32.wrap (IntKind.u32.wrap (r1 + n) + 1), inc := t.inc ++ (t.tDat g).take n, ended := true, st := t.st }) (S.up2 (S.up2 (S.drop (S.up3 hS))))))
end
end Go.E.St
/- The reference's connection: Input. -/
namespace Go.E.St
open Go Go.E Go.Proofs.Ytamcfhhcmjagnaa Go.Proofs
set_option linter.unusedVariables false
set_option linter.unusedSimpArgs false
set_option maxRecDepth 100000
section
variable {B H : AHeap} {As : List Asn} {p : Nat} {s : Cn} {g : Sg}
theorem L55 {ad : Option Addr} {cd : Nat} {now : Int} (hok : Ok s) (hnb : (0 ≤ g.seq ∧ g.seq ≤ 4294967295) ∧ 0 ≤ g.num ∧ g.num ≤ 4294967295) (hd : RD B As 1 (.slice ad g.data.length cd) (u8s g.data)) (hS : S B H (repD p s :: As)) :
    wpF C 55 [ptC p, .agg ⟨sgC g (.slice ad g.data.length cd)⟩, .int .i64 now] H fun v H' => v = .int .i64 (s.inputE g now) ∧ S B H' (repD p (s.input g now) :: As) := by
  have hcl := hok.clock
  refine wpF_ofW o55 rfl rfl ?_
  unfold ptC sgC
  refine zsr ?_; refine wpO_cons ?_; refine op1_boxNS rfl rfl rfl hS ?_; intro p1 H1 hS; refine zw1 ?_; refine zns ?_; refine wp_seq ?_; refine zsr ?_; refine zw1 ?_; refine wpO_cons ?_; refine op1_call1 rfl (by (conv => lhs; whnf) <;> rfl) ?_
  refine wpF_mono L79 ?_
  rintro _ H2 ⟨rfl, rfl⟩
  by_cases h1 : 0 ≤ now ∧ now ≤ 1099511627776
  rotate_left
  · have e : s.inputE g now = 34 := by unfold Cn.inputE; rw [if_pos h1]
    have e2 : s.input g now = s := by unfold Cn.input; rw [e, if_pos (by decide)]
    rw [decide_eq_false h1, e, e2]
    refine wpO_cons ?_; refine op1_not_f rfl rfl ?_; refine zns ?_; refine wp_true rfl ?_; refine zsr ?_; refine zw1 ?_; refine zns ?_; refine wp_ret ?_; refine seq_ret ?_; refine ret_of ?_; refine zr ?_; refine rk_nil ?_
    exact ⟨rfl, S.drop hS⟩
  rw [decide_eq_true h1]
  refine wpO_cons ?_; refine op1_not_t rfl rfl ?_; refine zns ?_; refine wp_false rfl ?_; refine wp_skip ?_; refine seq_normal ?_; refine wp_seq ?_; refine zsr ?_; refine wpO_cons ?_; refine op1_load_5 rfl rfl (by exact S.g0 hS) rfl rfl ?_; refine wpO_cons ?_; refine op1_call1 rfl (by (conv => lhs; whnf) <;> rfl) ?_
  refine wpF_mono (L13 (g := g) hS) ?_
  clear hS
  rintro _ H2 ⟨rfl, hS⟩
  refine zw1 ?_; refine zns ?_; refine zsr ?_; refine zw1 ?_; refine wpO_cons ?_; refine op1_neqI rfl rfl rfl ?_; refine zns ?_
  refine wp_ndec rfl (fun h2 => ?_) (fun h2 => ?_)
  · have e : s.inputE g now = validE g := by unfold Cn.inputE; rw [if_neg (fun h => h h1), if_pos h2]
    have e2 : s.input g now = s := by unfold Cn.input; rw [e, if_pos h2]
    rw [e, e2]
    refine zsr ?_; refine zw1 ?_; refine zw1 ?_; refine zns ?_; refine wp_ret ?_; refine seq_ret ?_; refine ret_of ?_; refine zr ?_; refine rk_nil ?_
    exact ⟨rfl, S.drop hS⟩
  have hg : SgOk g := by
    have hv : validE g = 0 := h2
    unfold validE at hv
    split at hv
    · omega
    split at hv
    · omega
    split at hv
    · omega
    exact ⟨by omega, hnb.1, hnb.2, by omega, by omega⟩
  have hS0 := S.up1 hS
  clear hS
  have hS := hS0
  obtain ⟨ao, co, ai, ci, ho, hi, hO⟩ := openD hS
  clear hS
  have hS := hO
  clear hO
  unfold rfC at hS
  refine wp_skip ?_; refine seq_normal ?_; refine wp_seq ?_; refine zsr ?_; refine zw1 ?_; refine zw1 ?_; refine zn ?_; refine zf ?_; refine zh (S.g0 hS) ?_; refine wpO_cons ?_; refine op1_lss rfl rfl rfl ?_; refine zns ?_
  refine wp_dec rfl (fun h3 => ?_) (fun h3 => ?_)
  · have e : s.inputE g now = 30 := by unfold Cn.inputE; rw [if_neg (fun h => h h1), if_neg (fun h => h h2), if_pos h3]
    have e2 : s.input g now = s := by unfold Cn.input; rw [e, if_pos (by decide)]
    rw [e, e2]
    refine zsr ?_; refine zw1 ?_; refine zns ?_; refine wp_ret ?_; refine seq_ret ?_; refine ret_of ?_; refine zr ?_; refine rk_nil ?_
    exact ⟨rfl, S.drop (S.up1 hS0)⟩
  refine wp_skip ?_; refine seq_normal ?_; refine wp_seq ?_; refine zsr ?_; refine zw1 ?_; refine zn ?_; refine zf ?_; refine zh (S.g0 hS) ?_; refine wpO_cons ?_; refine op1_eqlI rfl rfl rfl ?_; refine zns ?_
  refine wp_dec rfl (fun h4 => ?_) (fun h4 => ?_)
  · have e : s.inputE g now = 4 := by unfold Cn.inputE; rw [if_neg (fun h => h h1), if_neg (fun h => h h2), if_neg h3, if_pos h4]
    have e2 : s.input g now = s := by unfold Cn.input; rw [e, if_pos (by decide)]
    rw [e, e2]
    refine zsr ?_; refine zw1 ?_; refine zns ?_; refine wp_ret ?_; refine seq_ret ?_; refine ret_of ?_; refine zr ?_; refine rk_nil ?_
    exact ⟨rfl, S.drop (S.up1 hS0)⟩
  refine wp_skip ?_; refine seq_normal ?_; refine wp_seq ?_; refine zsr ?_; refine zw1 ?_; refine zn ?_; refine zf ?_; refine zh (S.g0 hS) ?_; refine wpO_cons ?_; refine op1_eqlI rfl rfl rfl ?_; refine zns ?_
  refine wp_dec rfl (fun h5 => ?_) (fun h5 => ?_)
  · have e : s.inputE g now = 35 := by unfold Cn.inputE; rw [if_neg (fun h => h h1), if_neg (fun h => h h2), if_neg h3, if_neg h4, if_pos h5]
    have e2 : s.input g now = s := by unfold Cn.input; rw [e, if_pos (by decide)]
    rw [e, e2]
    refine zsr ?_; refine zw1 ?_; refine zns ?_; refine wp_ret ?_; refine seq_ret ?_; refine ret_of ?_; refine zr ?_; refine rk_nil ?_
    exact ⟨rfl, S.drop (S.up1 hS0)⟩
  have e : s.inputE g now = 0 := by unfold Cn.inputE; rw [if_neg (fun h => h h1), if_neg (fun h => h h2), if_neg h3, if_neg h4, if_neg h5]
  obtain ⟨c, hc⟩ : ∃ c : Cn, c = { s with clock := now } := ⟨_, rfl⟩
  have e2 : s.input g now = c.inp g now := by unfold Cn.input; rw [e, if_neg (by decide), hc]
  have hokc : Ok c := by
    rw [hc]
    exact ⟨hok.first, hok.una, hok.nxt, hok.rcv, hok.size, hok.window, hok.out, hok.inc, hok.pat, hok.tmo, hok.since, by show 0 ≤ now ∧ _; omega, hok.reps, hok.st, hok.syn⟩
  rw [e, e2]
  clear e e2
  refine wp_skip ?_; refine seq_normal ?_; refine zsr ?_; refine zw1 ?_; refine zw1 ?_; refine zn ?_; refine zf ?_; refine wpO_cons ?_; (refine op1_store1S rfl rfl (by (conv => lhs; whnf) <;> rfl) rfl rfl (S.up0 hS) rfl ?_; intro H3 hS; replace hS := S.dn0 hS); refine zns ?_
  have h9 := closeD (s := { s with clock := now }) hS
  rw [← hc] at h9
  clear hS hS0 ho hi h3 h4 h5 hok hcl hc
  have hS := h9
  clear h9
  have hS0 := hS
  have hdl := hg.data
  obtain ⟨ao, co, ai, ci, ho, hi, hO⟩ := openD hS
  clear hS
  have hS := hO
  clear hO
  unfold rfC at hS
  unfold Cn.inp
  skip
  refine wp_cutR [] (fun vs H' => vs = [] ∧ (c.inp g now = c.segment g now) ∧ S B H' (repD p c :: pto p1 (.cells [.int .i64 g.fl, .int .u32 g.seq, .int .u32 g.num, .int .i64 g.win, .slice ad g.data.length cd] 0 false) :: As)) ?_ ?_
  · refine zsr ?_; refine zw1 ?_; refine zn ?_; refine zf ?_; refine zh (S.g0 hS) ?_; refine zns ?_; refine wp_block ?_; refine zsr ?_; refine wpO_cons ?_; refine op1_eqlI rfl rfl rfl ?_; refine zw1 ?_; refine zns ?_
    refine wp_dec rfl (fun h6 => ?_) (fun h6 => ?_)
    · rw [if_pos h6]
      refine wp_seq ?_; refine zsr ?_; refine zf ?_; refine zh (S.g3 hS) ?_; refine wpO_cons ?_; refine op1_eqlI rfl rfl rfl ?_; refine zns ?_
      refine wp_dec rfl (fun h7 => ?_) (fun h7 => ?_)
      · rw [if_pos h7]
        refine wp_regionD ?_; (iterate 4 refine zd1 ?_); refine zg ?_; refine zj (S.g3 hS) ?_; refine wpD_cons ?_
        refine op1_addW rfl rfl rfl ?_
        refine zg ?_; refine zj (S.g3 hS) ?_; refine zm ?_; refine zg ?_; refine wpD_cons ?_; (refine op1_store1S rfl rfl (by (conv => lhs; whnf) <;> rfl) rfl rfl (S.up0 hS) rfl ?_; intro H4 hS; replace hS := S.dn0 hS); refine zm ?_; refine zg ?_; refine wpD_cons ?_; (refine op1_store1S rfl rfl (by (conv => lhs; whnf) <;> rfl) rfl rfl (S.up0 hS) rfl ?_; intro H5 hS; replace hS := S.dn0 hS); refine zm ?_; refine zg ?_; refine wpD_cons ?_; (refine op1_store1S rfl rfl (by (conv => lhs; whnf) <;> rfl) rfl rfl (S.up0 hS) rfl ?_; intro H6 hS; replace hS := S.dn0 hS); refine zm ?_; refine zg ?_; refine wpD_cons ?_; (refine op1_store1S rfl rfl (by (conv => lhs; whnf) <;> rfl) rfl rfl (S.up0 hS) rfl ?_; intro H7 hS; replace hS := S.dn0 hS); refine wpD_nil ?_; refine dk_of ?_ ?_; (iterate 5 refine chk_skip ?_); refine zx 16 ?_ ?_; refine zy 10 ?_ ?_; exact chk_load rfl (by exact S.g3 (by assumption)) rfl rfl; refine zy 7 ?_ ?_; exact chk_load rfl (by exact S.g3 (by assumption)) rfl rfl; exact chkFs_nil; (iterate 2 refine chk_skip ?_); refine zx 13 ?_ ?_; refine zy 10 ?_ ?_; exact chk_load rfl (by exact S.g3 (by assumption)) rfl rfl; refine zy 7 ?_ ?_; exact chk_load rfl (by exact S.g3 (by assumption)) rfl rfl; refine zy 4 ?_ ?_; exact chk_load rfl (by exact S.g3 (by assumption)) rfl rfl; refine zy 1 ?_ ?_; exact chk_load rfl (by exact S.g3 (by assumption)) rfl rfl; exact chkFs_nil; (iterate 12 refine chk_skip ?_); exact chk_end; refine seq_normal ?_; refine zsr ?_; refine zw1 ?_; refine zns ?_; refine wp_ret ?_; refine block_ret ?_
        refine cutR_ret ?_
        refine ret_of ?_; refine zr ?_; refine rk_nil ?_
        exact ⟨rfl, S.drop (S.up1 (closeD (s := c.greeted g) hS))⟩
      · rw [if_neg h7]
        refine wp_skip ?_; refine seq_normal ?_; refine zsr ?_; refine zw1 ?_; refine zns ?_; refine wp_ret ?_; refine block_ret ?_
        refine cutR_ret ?_
        refine ret_of ?_; refine zr ?_; refine rk_nil ?_
        exact ⟨rfl, S.drop (S.up1 hS0)⟩
    rw [if_neg h6]
    refine zsr ?_; refine wpO_cons ?_; refine op1_eqlI rfl rfl rfl ?_; refine zw1 ?_; refine zns ?_
    refine wp_dec rfl (fun h7 => ?_) (fun h7 => ?_)
    · rw [if_pos h7]
      refine zsr ?_; refine zw1 ?_; refine wpO_cons ?_; refine op1_load_5 rfl rfl (by exact S.g3 hS) rfl rfl ?_; refine zw1 ?_; refine wpO_cons ?_; refine op1_call3 rfl (by (conv => lhs; whnf) <;> rfl) (by (conv => lhs; whnf) <;> rfl) (by (conv => lhs; whnf) <;> rfl) ?_
      refine wpF_mono (L80 (g := g) (now := now) hokc hg h7 hS0) ?_
      clear hS hS0
      intro v4 H4 hS
      refine zns ?_; refine zsr ?_; refine zw1 ?_; refine zns ?_; refine wp_ret ?_; refine block_ret ?_
      refine cutR_ret ?_
      refine ret_of ?_; refine zr ?_; refine rk_nil ?_
      exact ⟨rfl, S.drop (S.up1 hS)⟩
    rw [if_neg h7]
    refine zsr ?_; refine wpO_cons ?_; refine op1_eqlI rfl rfl rfl ?_; refine zw1 ?_; refine zns ?_
    refine wp_dec rfl (fun h8 => ?_) (fun h8 => ?_)
    · rw [if_pos h8]
      obtain ⟨du, hdu⟩ : ∃ z, z = c.due := ⟨_, rfl⟩
      refine zsr ?_; refine zw1 ?_; refine zw1 ?_; refine zn ?_; refine zf ?_; refine zh (S.g0 hS) ?_; refine zw1 ?_; refine wpO_cons ?_
      rw [← hdu]
      cases du
      · refine op1_load_5 rfl rfl (by exact S.g3 hS) rfl rfl ?_; refine wpO_cons ?_; refine op1_call1 rfl (by (conv => lhs; whnf) <;> rfl) ?_
        refine wpF_mono (L81 (g := g) hg.fl (by omega) hS) ?_
        clear hS hS0
        rintro _ H4 ⟨rfl, hS⟩
        refine wpO_cons ?_; refine op1_gtr rfl rfl rfl ?_; refine zu ?_; refine zn ?_; refine zf ?_; refine wpO_cons ?_; (refine op1_store1S rfl rfl (by (conv => lhs; whnf) <;> rfl) rfl rfl (S.up0 hS) rfl ?_; intro H5 hS; replace hS := S.dn0 hS); refine zns ?_; refine zsr ?_; refine zw1 ?_; refine zns ?_; refine wp_ret ?_; refine block_ret ?_
        refine cutR_ret ?_
        refine ret_of ?_; refine zr ?_; refine rk_nil ?_
        rw [Bool.false_or]
        exact ⟨rfl, S.drop (S.up1 (closeD (s := { c with due := decide (0 < lenS g) }) hS))⟩
      · refine op1_skip rfl ?_; refine zk ?_; refine zk ?_; refine zt ?_; refine zn ?_; refine zf ?_; refine wpO_cons ?_; (refine op1_store1S rfl rfl (by (conv => lhs; whnf) <;> rfl) rfl rfl (S.up0 hS) rfl ?_; intro H4 hS; replace hS := S.dn0 hS); refine zns ?_; refine zsr ?_; refine zw1 ?_; refine zns ?_; refine wp_ret ?_; refine block_ret ?_
        refine cutR_ret ?_
        refine ret_of ?_; refine zr ?_; refine rk_nil ?_
        rw [Bool.true_or]
        exact ⟨rfl, S.drop (S.up1 (closeD (s := { c with due := true }) hS))⟩
    refine wp_skip ?_; refine block_normal ?_
    refine cutR0 ⟨rfl, ?_, hS0⟩
    unfold Cn.inp
    rw [if_neg h6, if_neg h7, if_neg h8]
  clear hS hS0 ho hi
  rintro vs2 T2 H2 ⟨rfl, e, hS⟩
  have e' := e
  unfold Cn.inp at e'
  rw [e']
  clear e'
  unfold Cn.segment
  have hol := hokc.out
  have hil := hokc.inc
  have hrc := hokc.rcv
  have hub := hokc.una
  have hnb2 := hnb.2
  refine wp_seq ?_; refine zsr ?_; refine zf ?_; refine zh (S.g1 hS) ?_; refine wpO_cons ?_; refine op1_call2 rfl (by (conv => lhs; whnf) <;> rfl) (by (conv => lhs; whnf) <;> rfl) ?_
  refine wpF_mono (L40 (k := 8) hg.fl (by decide)) ?_
  rintro _ H3 ⟨rfl, rfl⟩
  obtain ⟨f8, hf8⟩ : ∃ z, z = has g.fl 8 := ⟨_, rfl⟩
  rw [← hf8]
  cases f8
  rotate_left
  · rw [if_pos rfl]
    have hS0 := hS
    obtain ⟨ao, co, ai, ci, ho, hi, hO⟩ := openD hS
    clear hS
    have hS := hO
    clear hO
    unfold rfC at hS
    refine zns ?_; refine wp_true rfl ?_; refine wp_seq ?_; refine wp_seq ?_; refine wp_regionD ?_; refine zg ?_; refine zj (S.g3 hS) ?_; refine zd1 ?_; refine zm ?_; refine zg ?_; refine zj (S.g0 hS) ?_; refine wpD_cons ?_; refine op1_eqlI rfl rfl rfl ?_; refine wpD_nil ?_; refine dk_of ?_ ?_; refine chk_skip ?_; refine zx 6 ?_ ?_; refine zy 0 ?_ ?_; exact zq (S.g3 hS); exact chkFs_nil; (iterate 3 refine chk_skip ?_); refine zx 2 ?_ ?_; refine zy 0 ?_ ?_; exact zq (S.g0 hS); exact chkFs_nil; refine chk_skip ?_; exact chk_end; refine seq_normal ?_
    refine wp_dec rfl (fun h1 => ?_) (fun h1 => ?_)
    · rw [if_pos h1]
      refine wp_region ?_; refine zw1 ?_; refine zn ?_; refine zf ?_; refine wpO_cons ?_; (refine op1_store1S rfl rfl (by (conv => lhs; whnf) <;> rfl) rfl rfl (S.up0 hS) rfl ?_; intro H4 hS; replace hS := S.dn0 hS); refine zns ?_; refine zsr ?_; refine zw1 ?_; refine zns ?_; refine wp_ret ?_; refine seq_ret ?_; refine ret_of ?_; refine zr ?_; refine rk_nil ?_
      exact ⟨rfl, S.drop (S.up1 (closeD (s := { c with st := 9 }) hS))⟩
    · rw [if_neg h1]
      refine wp_skip ?_; refine seq_normal ?_; refine zsr ?_; refine zw1 ?_; refine zns ?_; refine wp_ret ?_; refine seq_ret ?_; refine ret_of ?_; refine zr ?_; refine rk_nil ?_
      exact ⟨rfl, S.drop (S.up1 hS0)⟩
  rw [if_neg (by simp)]
  refine zns ?_; refine wp_false rfl ?_; refine wp_skip ?_; refine seq_normal ?_
  refine wp_cut [] (fun vs H' => vs = [] ∧ S B H' (repD p (c.segA g now) :: pto p1 (.cells [.int .i64 g.fl, .int .u32 g.seq, .int .u32 g.num, .int .i64 g.win, .slice ad g.data.length cd] 0 false) :: As)) ?_ ?_
  · obtain ⟨f2, hf2⟩ : ∃ z, z = has g.fl 2 := ⟨_, rfl⟩
    obtain ⟨b1, hb1⟩ : ∃ z, z = before g.num c.una := ⟨_, rfl⟩
    obtain ⟨b2, hb2⟩ : ∃ z, z = before c.nxt g.num := ⟨_, rfl⟩
    have hacc : c.accepts g = (f2 && !b1 && !b2) := by unfold Cn.accepts; rw [← hf2, ← hb1, ← hb2]
    unfold Cn.segA
    rw [hacc]
    have hS0 := hS
    obtain ⟨ao, co, ai, ci, ho, hi, hO⟩ := openD hS
    clear hS
    have hS := hO
    clear hO
    unfold rfC at hS
    have hT := hS
    refine wp_seq ?_; refine wp_regionD ?_; refine zg ?_; refine zj (S.g3 hT) ?_; refine wpD_cons ?_; refine op1_call2 rfl (by (conv => lhs; whnf) <;> rfl) (by (conv => lhs; whnf) <;> rfl) ?_
    refine wpF_mono (L40 (k := 2) hg.fl (by decide)) ?_
    rw [← hf2]
    rintro _ H3 ⟨rfl, rfl⟩
    cases f2
    · refine zd1 ?_; (iterate 8 refine zl ?_); refine wpD_cons ?_; refine op1_pick_f rfl rfl (by (conv => lhs; whnf) <;> rfl) ?_; refine zd1 ?_; (iterate 8 refine zl ?_); refine wpD_cons ?_; refine op1_pick_f rfl rfl (by (conv => lhs; whnf) <;> rfl) ?_; refine wpD_nil ?_; refine dk_of ?_ ?_; refine chk_skip ?_; refine zx 22 ?_ ?_; refine zy 21 ?_ ?_; exact zq (S.g3 hT); exact chkFs_nil; (iterate 3 refine chk_skip ?_); refine chk_unw 18 rfl rfl rfl ?_; (iterate 3 refine chk_skip ?_); refine chk_unw 14 rfl rfl rfl ?_; (iterate 7 refine chk_skip ?_); refine chk_unw 6 rfl rfl rfl ?_; refine chk_skip ?_; refine chk_unw 4 rfl rfl rfl ?_; (iterate 3 refine chk_skip ?_); exact chk_end; refine seq_normal ?_; refine wp_false rfl ?_; refine wp_skip ?_; refine cut0  ?_
      rw [if_neg (by simp)]
      exact ⟨rfl, hS0⟩
    · refine zd1 ?_; refine zg ?_; refine zj (S.g3 hT) ?_; refine zd1 ?_; refine zm ?_; refine zg ?_; refine zj (S.g0 hT) ?_; refine wpD_cons ?_; refine op1_call2 rfl (by (conv => lhs; whnf) <;> rfl) (by (conv => lhs; whnf) <;> rfl) ?_
      refine wpF_mono L11 ?_
      rw [← hb1]
      rintro _ H4 ⟨rfl, rfl⟩
      cases b1
      rotate_left
      · refine wpD_cons ?_; refine op1_not_t rfl rfl ?_; refine wpD_cons ?_; refine op1_pick_t rfl rfl (by (conv => lhs; whnf) <;> rfl) ?_; refine zd1 ?_; (iterate 8 refine zl ?_); refine wpD_cons ?_; refine op1_pick_f rfl rfl (by (conv => lhs; whnf) <;> rfl) ?_; refine wpD_nil ?_; refine dk_of ?_ ?_; refine chk_skip ?_; refine zx 22 ?_ ?_; refine zy 21 ?_ ?_; exact zq (S.g3 hT); exact chkFs_nil; (iterate 3 refine chk_skip ?_); refine zx 18 ?_ ?_; refine zy 13 ?_ ?_; exact zq (S.g3 hT); exact chkFs_nil; (iterate 3 refine chk_skip ?_); refine zx 14 ?_ ?_; refine zy 13 ?_ ?_; exact zq (S.g0 hT); exact chkFs_nil; (iterate 7 refine chk_skip ?_); refine chk_unw 6 rfl rfl rfl ?_; refine chk_skip ?_; refine chk_unw 4 rfl rfl rfl ?_; (iterate 3 refine chk_skip ?_); exact chk_end; refine seq_normal ?_; refine wp_false rfl ?_; refine wp_skip ?_; refine cut0  ?_
        rw [if_neg (by simp)]
        exact ⟨rfl, hS0⟩
      refine wpD_cons ?_; refine op1_not_f rfl rfl ?_; refine wpD_cons ?_; refine op1_pick_t rfl rfl (by (conv => lhs; whnf) <;> rfl) ?_; refine zd1 ?_; refine zd1 ?_; refine zm ?_; refine zg ?_; refine zj (S.g0 hT) ?_; refine zg ?_; refine zj (S.g3 hT) ?_; refine wpD_cons ?_; refine op1_call2 rfl (by (conv => lhs; whnf) <;> rfl) (by (conv => lhs; whnf) <;> rfl) ?_
      refine wpF_mono L11 ?_
      rw [← hb2]
      rintro _ H5 ⟨rfl, rfl⟩
      cases b2
      rotate_left
      · refine wpD_cons ?_; refine op1_not_t rfl rfl ?_; refine wpD_cons ?_; refine op1_pick_t rfl rfl (by (conv => lhs; whnf) <;> rfl) ?_; refine wpD_nil ?_; refine dk_of ?_ ?_; refine chk_skip ?_; refine zx 22 ?_ ?_; refine zy 21 ?_ ?_; exact zq (S.g3 hT); exact chkFs_nil; (iterate 3 refine chk_skip ?_); refine zx 18 ?_ ?_; refine zy 13 ?_ ?_; exact zq (S.g3 hT); exact chkFs_nil; (iterate 3 refine chk_skip ?_); refine zx 14 ?_ ?_; refine zy 13 ?_ ?_; exact zq (S.g0 hT); exact chkFs_nil; (iterate 7 refine chk_skip ?_); refine zx 6 ?_ ?_; refine zy 3 ?_ ?_; exact zq (S.g0 hT); exact chkFs_nil; refine chk_skip ?_; refine zx 4 ?_ ?_; refine zy 3 ?_ ?_; exact zq (S.g3 hT); exact chkFs_nil; (iterate 3 refine chk_skip ?_); exact chk_end; refine seq_normal ?_; refine wp_false rfl ?_; refine wp_skip ?_; refine cut0  ?_
        rw [if_neg (by simp)]
        exact ⟨rfl, hS0⟩
      rw [if_pos (by simp)]
      refine wpD_cons ?_; refine op1_not_f rfl rfl ?_; refine wpD_cons ?_; refine op1_pick_t rfl rfl (by (conv => lhs; whnf) <;> rfl) ?_; refine wpD_nil ?_; refine dk_of ?_ ?_; refine chk_skip ?_; refine zx 22 ?_ ?_; refine zy 21 ?_ ?_; exact zq (S.g3 hT); exact chkFs_nil; (iterate 3 refine chk_skip ?_); refine zx 18 ?_ ?_; refine zy 13 ?_ ?_; exact zq (S.g3 hT); exact chkFs_nil; (iterate 3 refine chk_skip ?_); refine zx 14 ?_ ?_; refine zy 13 ?_ ?_; exact zq (S.g0 hT); exact chkFs_nil; (iterate 7 refine chk_skip ?_); refine zx 6 ?_ ?_; refine zy 3 ?_ ?_; exact zq (S.g0 hT); exact chkFs_nil; refine chk_skip ?_; refine zx 4 ?_ ?_; refine zy 3 ?_ ?_; exact zq (S.g3 hT); exact chkFs_nil; (iterate 3 refine chk_skip ?_); exact chk_end; refine seq_normal ?_; refine wp_true rfl ?_
      refine wp_cut [] (fun vs H' => vs = [] ∧ S B H' (repD p (c.seg1 g) :: pto p1 (.cells [.int .i64 g.fl, .int .u32 g.seq, .int .u32 g.num, .int .i64 g.win, .slice ad g.data.length cd] 0 false) :: As)) ?_ ?_
      · unfold Cn.seg1
        refine wp_seq ?_; refine wp_regionD ?_; refine zd1 ?_; refine zm ?_; refine zg ?_; refine zj (S.g0 hT) ?_; refine wpD_cons ?_; refine op1_eqlI rfl rfl rfl ?_; refine zd1 ?_; refine wpD_cons ?_
        refine op1_dec rfl (fun h1 => ?_) (fun h1 => ?_)
        · refine op1_faddr0 rfl rfl ?_; refine zj (S.g3 hT) ?_; refine zd1 ?_; refine zm ?_; refine zg ?_; refine zj (S.g0 hT) ?_; refine wpD_cons ?_; refine op1_neqI rfl rfl rfl ?_; refine wpD_cons ?_; refine op1_pick_t rfl rfl (by (conv => lhs; whnf) <;> rfl) ?_; refine wpD_nil ?_; refine dk_of ?_ ?_; (iterate 3 refine chk_skip ?_); refine zx 11 ?_ ?_; refine zy 0 ?_ ?_; exact zq (S.g0 hT); exact chkFs_nil; (iterate 3 refine chk_skip ?_); refine zx 7 ?_ ?_; refine zy 0 ?_ ?_; exact zq (S.g3 hT); exact chkFs_nil; (iterate 3 refine chk_skip ?_); refine zx 3 ?_ ?_; refine zy 0 ?_ ?_; exact zq (S.g0 hT); exact chkFs_nil; (iterate 2 refine chk_skip ?_); exact chk_end; refine seq_normal ?_
          refine wp_ndec rfl (fun h2 => ?_) (fun h2 => ?_)
          · rw [if_pos ⟨h1, h2⟩]
            refine wp_region ?_; refine zw1 ?_; refine wpO_cons ?_; refine op1_call1 rfl (by (conv => lhs; whnf) <;> rfl) ?_
            refine wpF_mono (L82 hS0) ?_
            intro v6 H6 hS
            refine wpO_nil ?_; refine cut0  ?_
            exact ⟨rfl, hS⟩
          · rw [if_neg (fun h => h.2 h2)]
            refine wp_skip ?_; refine cut0  ?_
            exact ⟨rfl, hS0⟩
        · rw [if_neg (fun h => h1 h.1)]
          refine op1_skip rfl ?_; (iterate 6 refine zl ?_); refine wpD_cons ?_; refine op1_pick_f rfl rfl (by (conv => lhs; whnf) <;> rfl) ?_; refine wpD_nil ?_; refine dk_of ?_ ?_; (iterate 3 refine chk_skip ?_); refine zx 11 ?_ ?_; refine zy 0 ?_ ?_; exact zq (S.g0 hT); exact chkFs_nil; (iterate 3 refine chk_skip ?_); refine chk_unw 7 rfl rfl rfl ?_; (iterate 3 refine chk_skip ?_); refine chk_unw 3 rfl rfl rfl ?_; (iterate 2 refine chk_skip ?_); exact chk_end; refine seq_normal ?_; refine wp_false rfl ?_; refine wp_skip ?_; refine cut0  ?_
          exact ⟨rfl, hS0⟩
      clear hS hS0 hT
      rintro vs4 T4 H6 ⟨rfl, hS⟩
      obtain ⟨s1, hs1⟩ : ∃ z, z = c.seg1 g := ⟨_, rfl⟩
      have hs1f : s1.out.length ≤ 4096 ∧ s1.inc.length ≤ 4096 ∧ (0 ≤ s1.una ∧ s1.una ≤ 4294967295) := by
        rw [hs1]; unfold Cn.seg1; split
        · exact ⟨hol, hil, hub⟩
        · exact ⟨hol, hil, hub⟩
      rw [← hs1] at hS ⊢
      skip
      refine wp_cut [] (fun vs H' => vs = [] ∧ S B H' (repD p (s1.seg2 g now) :: pto p1 (.cells [.int .i64 g.fl, .int .u32 g.seq, .int .u32 g.num, .int .i64 g.win, .slice ad g.data.length cd] 0 false) :: As)) ?_ ?_
      · unfold Cn.seg2
        have hS0 := hS
        obtain ⟨ao, co, ai, ci, ho, hi, hO⟩ := openD hS
        clear hS
        have hS := hO
        clear hO
        unfold rfC at hS
        refine wp_seq ?_; refine wp_regionD ?_; refine zg ?_; refine zj (S.g3 hS) ?_; refine zd1 ?_; refine zm ?_; refine zg ?_; refine zj (S.g0 hS) ?_; refine wpD_cons ?_; refine op1_neqI rfl rfl rfl ?_; refine wpD_nil ?_; refine dk_of ?_ ?_; refine chk_skip ?_; refine zx 6 ?_ ?_; refine zy 0 ?_ ?_; exact zq (S.g3 hS); exact chkFs_nil; (iterate 3 refine chk_skip ?_); refine zx 2 ?_ ?_; refine zy 0 ?_ ?_; exact zq (S.g0 hS); exact chkFs_nil; refine chk_skip ?_; exact chk_end; refine seq_normal ?_
        refine wp_ndec rfl (fun h2 => ?_) (fun h2 => ?_)
        · rw [if_pos h2]
          refine wp_region ?_; refine zw1 ?_; refine zf ?_; refine zh (S.g3 hS) ?_; refine zw1 ?_; refine wpO_cons ?_; refine op1_call3 rfl (by (conv => lhs; whnf) <;> rfl) (by (conv => lhs; whnf) <;> rfl) (by (conv => lhs; whnf) <;> rfl) ?_
          refine wpF_mono (L83 (now := now) (num := g.num) hs1f.1 hs1f.2.1 hnb2 ?_ hS0) ?_
          · have := hs1f.2.2
            unfold Cn.ackN
            split <;> (rw [wrap_u32]; omega)
          intro v6 H7 hS
          refine wpO_nil ?_; refine cut0  ?_
          exact ⟨rfl, hS⟩
        · rw [if_neg (fun h => h h2)]
          refine wp_skip ?_; refine cut0  ?_
          exact ⟨rfl, hS0⟩
      clear hS
      rintro vs5 T5 H7 ⟨rfl, hS⟩
      obtain ⟨s2, hs2⟩ : ∃ z, z = s1.seg2 g now := ⟨_, rfl⟩
      rw [← hs2] at hS ⊢
      obtain ⟨ao, co, ai, ci, ho, hi, hO⟩ := openD hS
      clear hS
      have hS := hO
      clear hO
      unfold rfC at hS
      refine wp_region ?_; refine zw1 ?_; refine zf ?_; refine zh (S.g3 hS) ?_; refine zn ?_; refine zf ?_; refine wpO_cons ?_; (refine op1_store1S rfl rfl (by (conv => lhs; whnf) <;> rfl) rfl rfl (S.up0 hS) rfl ?_; intro H4 hS; replace hS := S.dn0 hS); refine wpO_nil ?_; refine cut0  ?_
      exact ⟨rfl, closeD (s := { s2 with window := g.win }) hS⟩
  clear hS
  rintro vs3 T3 H3 ⟨rfl, hS⟩
  obtain ⟨s3, hs3⟩ : ∃ z, z = c.segA g now := ⟨_, rfl⟩
  have h3f : s3.out.length ≤ 4096 ∧ s3.inc.length ≤ 4096 ∧ (0 ≤ s3.rcv ∧ s3.rcv ≤ 4294967295) := by
    rw [hs3]; unfold Cn.segA
    obtain ⟨e1, e2, e3, e4⟩ := seg1_f c g
    obtain ⟨e5, e6, e7⟩ := seg2_f (c.seg1 g) g now
    split
    · exact ⟨by show ((c.seg1 g).seg2 g now).out.length ≤ _; rw [e1] at e5; omega, by show ((c.seg1 g).seg2 g now).inc.length ≤ _; rw [e6, e2]; exact hil, by show 0 ≤ ((c.seg1 g).seg2 g now).rcv ∧ _; rw [e7, e4]; exact hrc⟩
    · exact ⟨hol, hil, hrc⟩
  rw [← hs3] at hS ⊢
  clear hs3
  have hln : 0 ≤ lenS g := by
    have := b2n_b (has g.fl 1)
    have := b2n_b (has g.fl 4)
    unfold lenS; omega
  unfold Cn.segB
  obtain ⟨ln, hlen⟩ : ∃ z, z = lenS g := ⟨_, rfl⟩
  rw [← hlen] at hln ⊢
  have hS0 := hS
  obtain ⟨ao, co, ai, ci, ho, hi, hO⟩ := openD hS
  clear hS
  have hS := hO
  clear hO
  unfold rfC at hS
  refine wp_seq ?_; refine zsr ?_; refine zw1 ?_; refine zn ?_; refine zf ?_; refine zh (S.g0 hS) ?_; refine wpO_cons ?_; refine op1_neqI rfl rfl rfl ?_; refine zw1 ?_; refine wpO_cons ?_
  refine op1_ndec rfl (fun h3 => ?_) (fun h3 => ?_)
  rotate_left
  · refine op1_skip rfl ?_; (iterate 4 refine zk ?_); refine zu ?_; refine zw1 ?_; (iterate 3 refine zk ?_); refine zu ?_; refine zns ?_; refine wp_false rfl ?_; refine zsr ?_; refine wpO_cons ?_; refine op1_load_5 rfl rfl (by exact S.g3 hS) rfl rfl ?_; refine wpO_cons ?_; refine op1_call1 rfl (by (conv => lhs; whnf) <;> rfl) ?_
    refine wpF_mono (L81 (g := g) hg.fl (by omega) hS) ?_
    rw [← hlen]
    clear hS
    rintro _ H5 ⟨rfl, hS⟩
    refine wpO_cons ?_; refine op1_gtr rfl rfl rfl ?_; refine zns ?_
    refine wp_dec rfl (fun h9 => ?_) (fun h9 => ?_)
    · rw [if_neg (by omega), if_neg (by omega)]
      refine wp_region ?_; refine zw1 ?_; refine zn ?_; refine zf ?_; refine wpO_cons ?_; (refine op1_store1S rfl rfl (by (conv => lhs; whnf) <;> rfl) rfl rfl (S.up0 hS) rfl ?_; intro H4 hS; replace hS := S.dn0 hS); refine zns ?_; refine zsr ?_; refine zw1 ?_; refine zns ?_; refine wp_ret ?_; refine ret_of ?_; refine zr ?_; refine rk_nil ?_
      exact ⟨rfl, S.drop (S.up1 (closeD (s := { s3 with due := true }) hS))⟩
    · rw [if_pos (by omega)]
      refine wp_skip ?_; refine seq_normal ?_; refine zsr ?_; refine zw1 ?_; refine zns ?_; refine wp_ret ?_; refine ret_of ?_; refine zr ?_; refine rk_nil ?_
      exact ⟨rfl, S.drop (S.up1 (closeD (s := s3) hS))⟩
  refine op1_mov rfl (by (conv => lhs; whnf) <;> rfl) ?_; refine zn ?_; refine zf ?_; refine zh (S.g0 hS) ?_; refine wpO_cons ?_; refine op1_neqI rfl rfl rfl ?_; refine zt ?_; refine zw1 ?_; refine wpO_cons ?_
  refine op1_ndec rfl (fun h4 => ?_) (fun h4 => ?_)
  rotate_left
  · refine op1_skip rfl ?_; refine zk ?_; refine zk ?_; refine zu ?_; refine zns ?_; refine wp_false rfl ?_; refine zsr ?_; refine wpO_cons ?_; refine op1_load_5 rfl rfl (by exact S.g3 hS) rfl rfl ?_; refine wpO_cons ?_; refine op1_call1 rfl (by (conv => lhs; whnf) <;> rfl) ?_
    refine wpF_mono (L81 (g := g) hg.fl (by omega) hS) ?_
    rw [← hlen]
    clear hS
    rintro _ H5 ⟨rfl, hS⟩
    refine wpO_cons ?_; refine op1_gtr rfl rfl rfl ?_; refine zns ?_
    refine wp_dec rfl (fun h9 => ?_) (fun h9 => ?_)
    · rw [if_neg (by omega), if_neg (by omega)]
      refine wp_region ?_; refine zw1 ?_; refine zn ?_; refine zf ?_; refine wpO_cons ?_; (refine op1_store1S rfl rfl (by (conv => lhs; whnf) <;> rfl) rfl rfl (S.up0 hS) rfl ?_; intro H4 hS; replace hS := S.dn0 hS); refine zns ?_; refine zsr ?_; refine zw1 ?_; refine zns ?_; refine wp_ret ?_; refine ret_of ?_; refine zr ?_; refine rk_nil ?_
      exact ⟨rfl, S.drop (S.up1 (closeD (s := { s3 with due := true }) hS))⟩
    · rw [if_pos (by omega)]
      refine wp_skip ?_; refine seq_normal ?_; refine zsr ?_; refine zw1 ?_; refine zns ?_; refine wp_ret ?_; refine ret_of ?_; refine zr ?_; refine rk_nil ?_
      exact ⟨rfl, S.drop (S.up1 (closeD (s := s3) hS))⟩
  refine op1_load_5 rfl rfl (by exact S.g3 hS) rfl rfl ?_; refine wpO_cons ?_; refine op1_call1 rfl (by (conv => lhs; whnf) <;> rfl) ?_
  refine wpF_mono (L81 (g := g) hg.fl (by omega) hS) ?_
  rw [← hlen]
  clear hS hS0
  rintro _ H4 ⟨rfl, hS⟩
  refine wpO_cons ?_; refine op1_gtr rfl rfl rfl ?_; refine zt ?_; refine zns ?_
  refine wp_dec rfl (fun h5 => ?_) (fun h5 => ?_)
  · rw [if_neg (by omega), if_pos ⟨h3, h4⟩]
    refine wp_region ?_; refine zw1 ?_; refine wpO_cons ?_; refine op1_load_5 rfl rfl (by exact S.g3 hS) rfl rfl ?_; refine wpO_cons ?_; refine op1_call2 rfl (by (conv => lhs; whnf) <;> rfl) (by (conv => lhs; whnf) <;> rfl) ?_
    refine wpF_mono (L84 (s := s3) (g := g) h3f.1 h3f.2.1 h3f.2.2 hg (RD.cons hd) (closeD hS)) ?_
    clear hS
    intro v5 H5 hS
    refine zns ?_; refine zsr ?_; refine zw1 ?_; refine zns ?_; refine wp_ret ?_; refine ret_of ?_; refine zr ?_; refine rk_nil ?_
    exact ⟨rfl, S.drop (S.up1 hS)⟩
  · refine zsr ?_; refine wpO_cons ?_; refine op1_load_5 rfl rfl (by exact S.g3 hS) rfl rfl ?_; refine wpO_cons ?_; refine op1_call1 rfl (by (conv => lhs; whnf) <;> rfl) ?_
    refine wpF_mono (L81 (g := g) hg.fl (by omega) hS) ?_
    rw [← hlen]
    clear hS
    rintro _ H5 ⟨rfl, hS⟩
    refine wpO_cons ?_; refine op1_gtr rfl rfl rfl ?_; refine zns ?_
    refine wp_dec rfl (fun h9 => ?_) (fun h9 => ?_)
    · rw [if_neg (by omega), if_neg (by omega)]
      refine wp_region ?_; refine zw1 ?_; refine zn ?_; refine zf ?_; refine wpO_cons ?_; (refine op1_store1S rfl rfl (by (conv => lhs; whnf) <;> rfl) rfl rfl (S.up0 hS) rfl ?_; intro H6 hS; replace hS := S.dn0 hS); refine zns ?_; refine zsr ?_; refine zw1 ?_; refine zns ?_; refine wp_ret ?_; refine ret_of ?_; refine zr ?_; refine rk_nil ?_
      exact ⟨rfl, S.drop (S.up1 (closeD (s := { s3 with due := true }) hS))⟩
    · rw [if_pos (by omega)]
      refine wp_skip ?_; refine seq_normal ?_; refine zsr ?_; refine zw1 ?_; refine zns ?_; refine wp_ret ?_; refine ret_of ?_; refine zr ?_; refine rk_nil ?_
      exact ⟨rfl, S.drop (S.up1 (closeD (s := s3) hS))⟩
end
end Go.E.St
