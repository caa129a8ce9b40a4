/- Combine: the reference's Decode. -/
import Derived.Test.YtnbjnjichhepiaaDoorCbD1
import Derived.Test.YtnbjnjichhepiaaDoorCbF4
namespace Go.E.Cb
open Go Go.E Go.Proofs.YtnbjnjichhepiaaDoor.base Go.Proofs.YtnbjnjichhepiaaDoor Go.Proofs
set_option linter.unusedVariables false
set_option linter.unusedSimpArgs false
set_option maxRecDepth 100000
section
variable {B H : AHeap} {As : List Asn}
theorem L31 {v : Value} {l : List Int} (hd : RD B As 1 v (u8s l)) (hb : Byt l) (hl : l.length ≤ 1000000) (hS : S B H As) : wpF C 31 [v] H fun w H' => ∃ out ys, w = .tuple ⟨[out, .int .i64 (decE l)]⟩ ∧ prt ys = decB l ∧ S B H' (sl 6 out (ys.flatMap rowP) :: dats ys :: As) := by
  obtain ⟨r, hr, _⟩ := hd _ hS
  obtain ⟨a, c, rfl⟩ := hr.u1
  clear hr
  refine wpF_ofW o31 rfl rfl ?_
  refine zsr ?_; refine zw1 ?_; refine zw1 ?_; refine zns ?_; refine wp_seq ?_; refine zsr ?_; refine zw1 ?_; refine wpO_cons ?_; refine op1_len rfl rfl ?_; refine wpO_cons ?_; refine op1_gtr rfl rfl rfl ?_; refine zns ?_
  refine wp_dec rfl (fun h1 => ?_) (fun h1 => ?_)
  · refine zsr ?_; refine zw1 ?_; refine zw1 ?_; refine zns ?_; refine wp_ret ?_; refine seq_ret ?_; refine ret_of ?_; refine zr ?_; refine zr ?_; refine rk_nil ?_
    have hE : decE l = 20 := by unfold decE; rw [if_pos (by omega)]
    exact ⟨.slice none 0 0, [], by rw [hE]; rfl, by rw [decB_err (by rw [hE]; decide)]; rfl, S.slNil (dats_nil (hS))⟩
  refine wp_skip ?_; refine seq_normal ?_; refine wp_seq ?_; refine zsr ?_; refine zw1 ?_; refine wpO_cons ?_; refine op1_len rfl rfl ?_; refine wpO_cons ?_; refine op1_eqlI rfl rfl rfl ?_; refine zns ?_
  refine wp_dec rfl (fun h2 => ?_) (fun h2 => ?_)
  · refine zsr ?_; refine zw1 ?_; refine zw1 ?_; refine zns ?_; refine wp_ret ?_; refine seq_ret ?_; refine ret_of ?_; refine zr ?_; refine zr ?_; refine rk_nil ?_
    have hE : decE l = 9 := by unfold decE; rw [if_neg (by omega), if_pos (by omega)]
    exact ⟨.slice none 0 0, [], by rw [hE]; rfl, by rw [decB_err (by rw [hE]; decide)]; rfl, S.slNil (dats_nil (hS))⟩
  have e0 : decE l = decN 16 l := by unfold decE; rw [if_neg (by omega), if_neg (by omega)]
  have eB : decE l = 0 → decB l = decP 16 l := fun h => by unfold decB; rw [if_pos h]
  obtain ⟨N, hN0⟩ : ∃ N, N = decN 16 l := ⟨_, rfl⟩
  obtain ⟨P, hP0⟩ : ∃ P, P = decP 16 l := ⟨_, rfl⟩
  rw [← hN0] at e0
  rw [← hP0] at eB
  refine wp_skip ?_; refine seq_normal ?_; refine zsr ?_; refine zw1 ?_; refine zns ?_; refine wp_seq ?_; refine wp_block ?_
  refine wp_loop [0, 4] (fun k vs H' => ∃ (a' : Option Addr) (c' : Nat) (ys : List PX) (a2 : Option Addr) (c2 : Nat) (m : List Int), vs = [.slice a2 m.length c2, .slice a' ys.length c'] ∧ k = 16 - ys.length ∧ ys.length ≤ 16 ∧ m.length ≤ 1000000 ∧ Byt m ∧ RD B As 1 (.slice a2 m.length c2) (u8s m) ∧ N = decN (16 - ys.length) m ∧ P = prt ys ++ decP (16 - ys.length) m ∧ S B H' (sl 6 (.slice a' ys.length c') (ys.flatMap rowP) :: dats ys :: As)) ⟨_, none, 0, [], a, c, l, rfl, rfl, by simp, hl, hb, hd, hN0, hP0, S.slNil (dats_nil hS)⟩ ?_
  clear hS
  rintro k vs T' H1 ⟨a', c', ys, a2, c2, m, rfl, rfl, hyl, hml, hmb, hmd, hN, hP, hS⟩
  refine wp_seq ?_; refine zsr ?_; refine zw1 ?_; refine wpO_cons ?_; refine op1_len rfl rfl ?_; refine wpO_cons ?_; refine op1_gtr rfl rfl rfl ?_; refine zns ?_
  refine wp_dec rfl (fun hc => ?_) (fun hc => ?_)
  · refine wp_skip ?_; refine seq_normal ?_; refine wp_block ?_; refine wp_seq ?_; refine zsr ?_; refine zw1 ?_; refine wpO_cons ?_; refine op1_len rfl rfl ?_; refine wpO_cons ?_; refine op1_eqlI rfl rfl rfl ?_; refine zns ?_
    refine wp_dec rfl (fun h3 => ?_) (fun h3 => ?_)
    · refine zsr ?_; refine zw1 ?_; refine zw1 ?_; refine zns ?_; refine wp_ret ?_; refine seq_ret ?_; refine block_ret ?_; refine iter_ret ?_; refine block_ret ?_; refine seq_ret ?_; refine ret_of ?_; refine zr ?_; refine zr ?_; refine rk_nil ?_
      have e1 : N = 18 := by rw [hN, show 16 - ys.length = 0 by omega, decN, if_neg (by omega)]
      have hE : decE l = 18 := e0.trans e1
      exact ⟨.slice none 0 0, [], by rw [hE]; rfl, by rw [decB_err (by rw [hE]; decide)]; rfl, S.slNil (dats_nil (S.drop (S.drop hS)))⟩
    have ek : 16 - ys.length = (16 - (ys.length + 1)) + 1 := by omega
    rw [ek, decN, if_neg (by omega)] at hN
    rw [ek, decP, if_neg (by omega)] at hP
    clear ek
    refine wp_skip ?_; refine seq_normal ?_; refine wp_seq ?_; refine zsr ?_; refine zw1 ?_; refine wpO_cons ?_; refine op1_len rfl rfl ?_; refine wpO_cons ?_; refine op1_lss rfl rfl rfl ?_; refine zns ?_
    refine wp_dec rfl (fun h4 => ?_) (fun h4 => ?_)
    · refine zsr ?_; refine zw1 ?_; refine zw1 ?_; refine zns ?_; refine wp_ret ?_; refine seq_ret ?_; refine block_ret ?_; refine iter_ret ?_; refine block_ret ?_; refine seq_ret ?_; refine ret_of ?_; refine zr ?_; refine zr ?_; refine rk_nil ?_
      have e1 : N = 12 := by rw [hN, if_pos (.inl (by omega))]
      have hE : decE l = 12 := e0.trans e1
      exact ⟨.slice none 0 0, [], by rw [hE]; rfl, by rw [decB_err (by rw [hE]; decide)]; rfl, S.slNil (dats_nil (S.drop (S.drop hS)))⟩
    have hl28 : 28 ≤ m.length := by omega
    have hxN := fstN hmb (by omega)
    have b24 := fld2 hmb 24
    have b26 := fld2 hmb 26
    have b4 := fld4 hmb 4
    have b0 := fld2 hmb 0
    have b8 := fld4 hmb 8
    have b20 := fld4 hmb 20
    have f24 : fld m 24 2 = (nmL m : Int) := by unfold nmL; omega
    have f26 : fld m 26 2 = (dtL m : Int) := by unfold dtL; omega
    have w8 := wi32 (fld m 8 4)
    have hnm : nmL m ≤ 65535 := by unfold nmL; omega
    have hdt : dtL m ≤ 65535 := by unfold dtL; omega
    have hal : (allL m : Int) = 28 + (nmL m : Int) + dtL m := by unfold allL; omega
    obtain ⟨r5, hr5, _⟩ := hmd _ (S.drop (S.drop hS))
    have hcap := hr5.le_cap
    obtain ⟨b, off, cs, e, ro, rfl, _, hg, hcl, hcj⟩ := hr5.at (i := 0) (by omega)
    refine wp_skip ?_; refine seq_normal ?_; refine zsr ?_; refine zw1 ?_; refine wpO_cons ?_; refine op1_call3 rfl (by (conv => lhs; whnf) <;> rfl) (by (conv => lhs; whnf) <;> rfl) (by (conv => lhs; whnf) <;> rfl) ?_
    refine wpF_mono (L49 (at_ := 24) (n := 2) hr5 hmb (by decide) (by omega) (by omega)) ?_
    rintro _ _ ⟨rfl, rfl⟩
    rw [show valB ((m.drop 24).take 2) = (nmL m : Int) from f24]
    refine wpO_cons ?_; refine op1_convInt rfl rfl (by exact wrap_i64 (by omega) (by omega)) ?_; refine zw1 ?_; refine wpO_cons ?_; refine op1_call3 rfl (by (conv => lhs; whnf) <;> rfl) (by (conv => lhs; whnf) <;> rfl) (by (conv => lhs; whnf) <;> rfl) ?_
    refine wpF_mono (L49 (at_ := 26) (n := 2) hr5 hmb (by decide) (by omega) (by omega)) ?_
    rintro _ _ ⟨rfl, rfl⟩
    rw [show valB ((m.drop 26).take 2) = (dtL m : Int) from f26]
    have a2 := at0_b hmb 2
    have a3 := at0_b hmb 3
    have hF : badF m ↔ ((m.length : Int) < 28 + (nmL m : Int) + dtL m ∨ at0 m 3 ≠ 0 ∨ 1 < at0 m 2 ∨ fld m 4 4 ≠ 28 + (nmL m : Int) + dtL m ∨ ¬ (at0 m 2 = 0 ↔ (m.length : Int) = 28 + (nmL m : Int) + dtL m)) := by
      unfold badF
      rw [hal]
      by_cases x1 : (m.length : Int) < 28 + (nmL m : Int) + dtL m
      · constructor
        · intro _; exact .inl x1
        · intro _; exact .inr (.inr (.inr (.inr (.inl (by omega)))))
      by_cases x2 : 1 < at0 m 2
      · constructor
        · intro _; exact .inr (.inr (.inl x2))
        · intro _; exact .inr (.inl x2)
      have x3 : (at0 m 2 = 1 ↔ allL m < m.length) ↔ (at0 m 2 = 0 ↔ (m.length : Int) = 28 + (nmL m : Int) + dtL m) := by omega
      rw [x3]
      constructor
      · rintro (h | h | h | h | h | h)
        · omega
        · exact .inr (.inr (.inl h))
        · exact .inr (.inl h)
        · exact .inr (.inr (.inr (.inl h)))
        · omega
        · exact .inr (.inr (.inr (.inr h)))
      · rintro (h | h | h | h | h)
        · omega
        · exact .inr (.inr (.inl h))
        · exact .inr (.inl h)
        · exact .inr (.inr (.inr (.inl h)))
        · exact .inr (.inr (.inr (.inr (.inr h))))
    refine wpO_cons ?_; refine op1_convInt rfl rfl (by exact wrap_i64 (by omega) (by omega)) ?_; refine zw1 ?_; refine zw1 ?_; refine zns ?_; refine zsr ?_; refine zw1 ?_; refine wpO_cons ?_; refine op1_add rfl rfl rfl (by exact wrap_i64 (by omega) (by omega)) ?_; refine zw1 ?_; refine wpO_cons ?_; refine op1_add rfl rfl rfl (by exact wrap_i64 (by omega) (by omega)) ?_; refine zw1 ?_; refine zns ?_; refine wp_seq ?_
    refine wp_cut [68] (fun vs H' => vs = [.bool (decide (badF m))] ∧ H1 = H') ?_ ?_
    · have m2 : ∀ i, i < 28 → cs[off + i * 1]? = some (.int .u8 (at0 m i)) := by
        intro i hi
        obtain ⟨b', off', cs', e', ro', v, ee, _, hg', hv, hx⟩ := hr5.at1 (i := i) (by omega)
        cases ee
        obtain ⟨y, hy, rfl⟩ := u8s_get hx
        rw [hg] at hg'
        cases hg'
        rw [hv, at0, List.getD_eq_getElem?_getD, hy]
        rfl
      refine wp_region ?_; refine zw1 ?_; refine wpO_cons ?_; refine op1_len rfl rfl ?_; refine zw1 ?_; refine wpO_cons ?_; refine op1_lss rfl rfl rfl ?_; refine zw1 ?_; refine wpO_cons ?_
      refine op1_dec rfl (fun h2 => ?_) (fun h2 => ?_)
      · refine op1_skip rfl ?_; (iterate 3 refine zk ?_); refine zt ?_; refine zw1 ?_; (iterate 4 refine zk ?_); refine zt ?_; refine zw1 ?_; (iterate 5 refine zk ?_); refine zt ?_; refine zw1 ?_; (iterate 9 refine zk ?_); refine zt ?_; refine wpO_nil ?_; refine cut1 (by (conv => lhs; whnf) <;> rfl) ?_
        exact ⟨by rw [decide_eq_true (hF.2 (.inl h2))], rfl⟩
      refine op1_mov rfl (by (conv => lhs; whnf) <;> rfl) ?_; refine wpO_cons ?_; refine op1_iaddr rfl rfl rfl (by omega) (by omega) ?_; refine wpO_cons ?_
      refine op1_load rfl rfl hg (m2 3 (by decide)) ?_
      refine wpO_cons ?_; refine op1_neqI rfl rfl rfl ?_; refine zu ?_; refine zw1 ?_; refine wpO_cons ?_
      refine op1_ndec rfl (fun h3 => ?_) (fun h3 => ?_)
      · refine op1_skip rfl ?_; (iterate 3 refine zk ?_); refine zt ?_; refine zw1 ?_; (iterate 5 refine zk ?_); refine zt ?_; refine zw1 ?_; (iterate 9 refine zk ?_); refine zt ?_; refine wpO_nil ?_; refine cut1 (by (conv => lhs; whnf) <;> rfl) ?_
        exact ⟨by rw [decide_eq_true (hF.2 (.inr (.inl h3)))], rfl⟩
      refine op1_mov rfl (by (conv => lhs; whnf) <;> rfl) ?_; refine wpO_cons ?_; refine op1_iaddr rfl rfl rfl (by omega) (by omega) ?_; refine wpO_cons ?_
      refine op1_load rfl rfl hg (m2 2 (by decide)) ?_
      refine wpO_cons ?_; refine op1_gtr rfl rfl rfl ?_; refine zu ?_; refine zw1 ?_; refine wpO_cons ?_
      refine op1_dec rfl (fun h4 => ?_) (fun h4 => ?_)
      · refine op1_skip rfl ?_; (iterate 4 refine zk ?_); refine zt ?_; refine zw1 ?_; (iterate 9 refine zk ?_); refine zt ?_; refine wpO_nil ?_; refine cut1 (by (conv => lhs; whnf) <;> rfl) ?_
        exact ⟨by rw [decide_eq_true (hF.2 (.inr (.inr (.inl h4))))], rfl⟩
      refine op1_mov rfl (by (conv => lhs; whnf) <;> rfl) ?_; refine wpO_cons ?_; refine op1_call3 rfl (by (conv => lhs; whnf) <;> rfl) (by (conv => lhs; whnf) <;> rfl) (by (conv => lhs; whnf) <;> rfl) ?_
      refine wpF_mono (L49 (at_ := 4) (n := 4) hr5 hmb (by decide) (by omega) (by omega)) ?_
      rintro _ _ ⟨rfl, rfl⟩
      rw [show valB ((m.drop 4).take 4) = fld m 4 4 from rfl]
      refine zw1 ?_; refine wpO_cons ?_; refine op1_convInt rfl rfl (by exact wrap_u64 (by omega) (by omega)) ?_; refine wpO_cons ?_; refine op1_neqI rfl rfl rfl ?_; refine zu ?_; refine zw1 ?_; refine wpO_cons ?_
      refine op1_ndec rfl (fun h5 => ?_) (fun h5 => ?_)
      · refine op1_skip rfl ?_; (iterate 8 refine zk ?_); refine zt ?_; refine wpO_nil ?_; refine cut1 (by (conv => lhs; whnf) <;> rfl) ?_
        exact ⟨by rw [decide_eq_true (hF.2 (.inr (.inr (.inr (.inl h5)))))], rfl⟩
      refine op1_mov rfl (by (conv => lhs; whnf) <;> rfl) ?_; refine wpO_cons ?_; refine op1_iaddr rfl rfl rfl (by omega) (by omega) ?_; refine wpO_cons ?_
      refine op1_load rfl rfl hg (m2 2 (by decide)) ?_
      refine wpO_cons ?_; refine op1_eqlI rfl rfl rfl ?_; refine zw1 ?_; refine wpO_cons ?_; refine op1_len rfl rfl ?_; refine zw1 ?_; refine wpO_cons ?_; refine op1_eqlI rfl rfl rfl ?_; refine wpO_cons ?_; refine op1_neqB rfl rfl rfl rfl ?_; refine zu ?_; refine wpO_nil ?_; refine cut1 (by (conv => lhs; whnf) <;> rfl) ?_
      refine ⟨bool_leaf ?_, rfl⟩
      rw [hF]
      by_cases x1 : at0 m 2 = 0 <;> by_cases x2 : (m.length : Int) = 28 + (nmL m : Int) + dtL m <;> simp [x1, x2, h2, h3, h4, h5] <;> omega
    rintro vs T4 H4 ⟨rfl, rfl⟩
    refine wp_dec rfl (fun hbad => ?_) (fun hbad => ?_)
    · refine zsr ?_; refine zw1 ?_; refine zw1 ?_; refine zns ?_; refine wp_ret ?_; refine seq_ret ?_; refine block_ret ?_; refine iter_ret ?_; refine block_ret ?_; refine seq_ret ?_; refine ret_of ?_; refine zr ?_; refine zr ?_; refine rk_nil ?_
      have e1 : N = 12 := by rw [hN, if_pos hbad]
      have hE : decE l = 12 := e0.trans e1
      exact ⟨.slice none 0 0, [], by rw [hE]; rfl, by rw [decB_err (by rw [hE]; decide)]; rfl, S.slNil (dats_nil (S.drop (S.drop hS)))⟩
    clear hF
    rw [if_neg hbad] at hN
    have hnl : 28 + (nmL m : Int) + dtL m ≤ m.length := by unfold badF at hbad; omega
    refine wp_skip ?_; refine seq_normal ?_; refine zsr ?_; refine zw1 ?_; refine wpO_cons ?_; refine op1_call3 rfl (by (conv => lhs; whnf) <;> rfl) (by (conv => lhs; whnf) <;> rfl) (by (conv => lhs; whnf) <;> rfl) ?_
    refine wpF_mono (L49 (at_ := 0) (n := 2) hr5 hmb (by decide) (by omega) (by omega)) ?_
    rintro _ _ ⟨rfl, rfl⟩
    rw [show valB ((m.drop 0).take 2) = fld m 0 2 from rfl]
    refine wpO_cons ?_; refine op1_convInt rfl rfl (by exact wrap_i64 (by omega) (by omega)) ?_; refine zw1 ?_; refine wpO_cons ?_; refine op1_call3 rfl (by (conv => lhs; whnf) <;> rfl) (by (conv => lhs; whnf) <;> rfl) (by (conv => lhs; whnf) <;> rfl) ?_
    refine wpF_mono (L49 (at_ := 8) (n := 4) hr5 hmb (by decide) (by omega) (by omega)) ?_
    rintro _ _ ⟨rfl, rfl⟩
    rw [show valB ((m.drop 8).take 4) = fld m 8 4 from rfl]
    refine wpO_cons ?_; refine op1_convInt rfl rfl (by exact wrap_u32 (by omega) (by omega)) ?_; refine wpO_cons ?_
    refine op1_convIntW rfl rfl ?_
    refine wpO_cons ?_; refine op1_convInt rfl rfl (by exact wrap_i64 (by omega) (by omega)) ?_; refine zw1 ?_; refine wpO_cons ?_; refine op1_call3 rfl (by (conv => lhs; whnf) <;> rfl) (by (conv => lhs; whnf) <;> rfl) (by (conv => lhs; whnf) <;> rfl) ?_
    refine wpF_mono (L49 (at_ := 12) (n := 8) hr5 hmb (by decide) (by omega) (by omega)) ?_
    rintro _ _ ⟨rfl, rfl⟩
    rw [show valB ((m.drop 12).take 8) = fld m 12 8 from rfl]
    refine wpO_cons ?_
    refine op1_convIntW rfl rfl ?_
    refine zw1 ?_; refine wpO_cons ?_; refine op1_call3 rfl (by (conv => lhs; whnf) <;> rfl) (by (conv => lhs; whnf) <;> rfl) (by (conv => lhs; whnf) <;> rfl) ?_
    refine wpF_mono (L49 (at_ := 20) (n := 4) hr5 hmb (by decide) (by omega) (by omega)) ?_
    rintro _ _ ⟨rfl, rfl⟩
    rw [show valB ((m.drop 20).take 4) = fld m 20 4 from rfl]
    refine wpO_cons ?_; refine op1_convInt rfl rfl (by exact wrap_i64 (by omega) (by omega)) ?_; refine wpO_cons ?_; refine op1_build rfl ?_; refine bk_one (by (conv => lhs; whnf) <;> rfl) rfl rfl rfl ?_; refine bk_one (by (conv => lhs; whnf) <;> rfl) rfl rfl rfl ?_; refine bk_one (by (conv => lhs; whnf) <;> rfl) rfl rfl rfl ?_; refine bk_one (by (conv => lhs; whnf) <;> rfl) rfl rfl rfl ?_; refine bk_nil ?_; refine wpO_cons ?_; refine op1_allocS rfl hS ?_; intro p1 H2 hS; refine wpO_cons ?_; (refine op1_storeNS rfl rfl (by (conv => lhs; whnf) <;> rfl) rfl rfl (S.up0 hS) (Nat.le_of_ble_eq_true rfl) ?_; intro H3 hS; replace hS := S.dn0 hS); refine zns ?_; refine zsr ?_; refine zw1 ?_; refine zw1 ?_; refine wpO_cons ?_; refine op1_add rfl rfl rfl (by exact wrap_i64 (by omega) (by omega)) ?_; refine wpO_cons ?_
    have hT := hS
    refine op1_sliceD rfl rfl hmd (S.drop (S.drop (S.drop hS))) (bnds_both (by decide) (by omega) (by omega)) (by omega) (by omega) ?_
    rw [show (28 : Int).toNat = 28 from rfl, show (28 + (nmL m : Int)).toNat = 28 + nmL m by omega, Nat.add_sub_cancel_left, Nat.mul_one, Nat.mul_one]
    intro a5 c5 hd5 hck5
    rw [show ((u8s m).drop 28).take (nmL m) = u8s ((m.drop 28).take (nmL m)) from by unfold u8s; rw [← List.map_drop, ← List.map_take]] at hd5
    obtain ⟨r7, hr7, _⟩ := hd5 _ (S.drop (S.drop (S.drop hS)))
    have hl5 : ((m.drop 28).take (nmL m)).length = nmL m := by rw [List.length_take, List.length_drop]; omega
    refine wpO_cons ?_
    refine op1_b2s rfl (by (conv => lhs; whnf) <;> rfl) hr7.b2sU ?_
    clear hT
    refine zf ?_; refine wpO_cons ?_; (refine op1_store1S rfl rfl (by (conv => lhs; whnf) <;> rfl) rfl rfl (S.up0 hS) rfl ?_; intro H4 hS; replace hS := S.dn0 hS); refine zns ?_; refine zsr ?_; refine wpO_cons ?_; refine op1_bsliceS rfl hS ?_; refine bk_nil ?_; intro p2 H5 hS; refine zw1 ?_; refine zw1 ?_; refine wpO_cons ?_; refine op1_add rfl rfl rfl (by exact wrap_i64 (by omega) (by omega)) ?_; refine zw1 ?_; refine wpO_cons ?_
    refine op1_sliceD rfl rfl hmd (S.drop (S.drop (S.drop (S.drop hS)))) (bnds_both (by omega) (by omega) (by omega)) (by omega) (by omega) ?_
    rw [show (28 + (nmL m : Int)).toNat = 28 + nmL m by omega, show (28 + (nmL m : Int) + (dtL m : Int)).toNat = 28 + nmL m + dtL m by omega, Nat.add_sub_cancel_left, Nat.mul_one, Nat.mul_one]
    intro a6 c6 hd6 hck6
    rw [show ((u8s m).drop (28 + nmL m)).take (dtL m) = u8s ((m.drop (28 + nmL m)).take (dtL m)) from by unfold u8s; rw [← List.map_drop, ← List.map_take]] at hd6
    have hl6 : ((m.drop (28 + nmL m)).take (dtL m)).length = dtL m := by rw [List.length_take, List.length_drop]; omega
    refine wpO_cons ?_
    have hS : S B H5 (pto p2 (.cells [] 1 false) :: pto p1 (.cells [.int .i64 (fld m 0 2), .int .i64 (IntKind.i32.wrap (fld m 8 4)), .int .i64 (IntKind.i64.wrap (fld m 12 8)), .int .i64 (fld m 20 4), .string (byS ((m.drop 28).take (nmL m))), .slice none 0 0] 0 false) :: sl 6 (.slice a' ys.length c') (ys.flatMap rowP) :: dats ys :: As) := hS
    replace hS := S.slNew (l := 0) (es := 1) hS rfl
    obtain ⟨r6, hr6, _⟩ := hd6 _ (S.drop (S.drop (S.drop (S.drop hS))))
    refine op1_appRS rfl rfl rfl rfl hr6 (by unfold u8s; rw [List.length_map, hl6, Nat.mul_one]) (u8s_one _) hS (by omega) ?_
    clear hS
    intro a7 c7 H7 hS
    refine zf ?_; refine wpO_cons ?_; (refine op1_store1S rfl rfl (by (conv => lhs; whnf) <;> rfl) rfl rfl (S.up1 hS) rfl ?_; intro H6 hS; replace hS := S.dn1 hS); refine zns ?_; refine wp_seq ?_; refine zsr ?_; refine wpO_cons ?_; refine op1_load_6 rfl rfl (by exact S.g1 hS) rfl rfl ?_; refine wpO_cons ?_; refine op1_call1 rfl (by (conv => lhs; whnf) <;> rfl) ?_
    have hxL : (fstP m).data.length = dtL m := hl6
    obtain ⟨x, hx, hsv, ex⟩ : ∃ x : PX, x.1 = fstP m ∧ x.sv = .slice a7 (0 + dtL m) c7 ∧ [.int .i64 (fld m 0 2), .int .i64 (IntKind.i32.wrap (fld m 8 4)), .int .i64 (IntKind.i64.wrap (fld m 12 8)), .int .i64 (fld m 20 4), .string (byS ((m.drop 28).take (nmL m))), .slice a7 (0 + dtL m) c7] = rowP x := by
      refine ⟨(fstP m, a7, c7), rfl, ?_, ?_⟩
      · unfold PX.sv
        simp only
        rw [hxL, Nat.zero_add]
      · unfold rowP Pt.cells PX.sv
        simp only
        rw [hxL, Nat.zero_add]
        rfl
    have hS : S B H6 (sl 1 (.slice a7 (0 + dtL m) c7) (u8s (fstP m).data) :: pto p1 (.cells [.int .i64 (fld m 0 2), .int .i64 (IntKind.i32.wrap (fld m 8 4)), .int .i64 (IntKind.i64.wrap (fld m 12 8)), .int .i64 (fld m 20 4), .string (byS ((m.drop 28).take (nmL m))), .slice a7 (0 + dtL m) c7] 0 false) :: sl 6 (.slice a' ys.length c') (ys.flatMap rowP) :: dats ys :: As) := hS
    rw [ex, ← hsv, ← hx] at hS
    rw [ex]
    rw [← hx] at hxN hN hP
    have hT2 := hS
    clear hS
    refine wpF_mono (L11 (p := x.1) (a := x.2.1) (c := x.2.2) hxN hT2) ?_
    rintro _ H8 ⟨rfl, hS⟩
    refine zw1 ?_; refine zns ?_; refine zsr ?_; refine zw1 ?_; refine wpO_cons ?_; refine op1_neqI rfl rfl rfl ?_; refine zns ?_
    refine wp_ndec rfl (fun h6 => ?_) (fun h6 => ?_)
    · refine zsr ?_; refine zw1 ?_; refine zw1 ?_; refine zw1 ?_; refine zns ?_; refine wp_ret ?_; refine seq_ret ?_; refine block_ret ?_; refine iter_ret ?_; refine block_ret ?_; refine seq_ret ?_; refine ret_of ?_; refine zr ?_; refine zr ?_; refine rk_nil ?_
      have e1 : N = ck x.1 := by rw [hN, if_pos h6]
      have hE : decE l = ck x.1 := e0.trans e1
      exact ⟨.slice none 0 0, [], by rw [hE]; rfl, by rw [decB_err (by rw [hE]; exact h6)]; rfl, S.slNil (dats_nil (S.drop (S.drop (S.drop (S.drop hS)))))⟩
    rw [if_neg (by simpa using h6)] at hN
    refine wp_skip ?_; refine seq_normal ?_; refine zsr ?_; refine zw1 ?_; refine wpO_cons ?_; refine op1_load_6 rfl rfl (by exact S.g1 hS) rfl rfl ?_; refine wpO_cons ?_; refine op1_bsliceS rfl hS ?_; refine bk_agg rfl rfl rfl rfl ?_; refine bk_nil ?_; intro p3 H9 hS; refine wpO_cons ?_; (refine op1_appBS rfl rfl (by (conv => lhs; whnf) <;> rfl) rfl (S.g0 hS) rfl rfl (S.up3 hS) (by omega) ?_; intro a1 c1 H10 hS; replace hS := S.dn3 hS; replace hS := S.drop hS); refine zw1 ?_; refine zns ?_; refine wp_region ?_; refine zw1 ?_; refine zw1 ?_; refine wpO_cons ?_
    refine op1_sliceD rfl rfl hmd (S.drop (S.drop (S.drop (S.drop hS)))) (bnds_lo (by omega) (by omega) (by omega)) (by omega) (by omega) ?_
    intro a9 c9 hd9 _
    have hml2 : (m.drop (allL m)).length = m.length - allL m := by rw [List.length_drop]
    rw [show (28 + (nmL m : Int) + (dtL m : Int)).toNat = allL m by omega, Nat.mul_one, Nat.mul_one, show (((u8s m).drop (allL m)).take (m.length - allL m)) = u8s (m.drop (allL m)) from by unfold u8s; rw [← List.map_drop, List.take_of_length_le (by rw [List.length_map, hml2]; omega)], ← hml2] at hd9
    refine zw1 ?_; refine wpO_nil ?_; refine block_normal ?_
    have hfin : S B H10 (sl 6 (.slice a1 (ys ++ [x]).length c1) ((ys ++ [x]).flatMap rowP) :: dats (ys ++ [x]) :: As) := by
      rw [show (ys ++ [x]).flatMap rowP = ys.flatMap rowP ++ rowP x by simp [List.flatMap_append], List.length_append]
      exact S.up1 (dats_snoc (S.up1 (S.up2 (S.drop (S.up1 hS)))))
    refine iter_normal ⟨16 - (ys.length + 1), by omega, a1, c1, ys ++ [x], a9, c9, m.drop (allL m), by rw [List.length_append, show (28 + (nmL m : Int) + (dtL m : Int)).toNat = allL m by omega, hml2]; rfl, by rw [List.length_append]; rfl, by rw [List.length_append]; simp; omega, by omega, hmb.drop _, hd9, by rw [List.length_append]; exact hN, ?_, hfin⟩
    rw [hP, List.length_append]
    unfold prt
    rw [List.map_append, List.append_assoc]
    rfl
  · refine wp_exit ?_; refine seq_exit ?_; refine iter_exit ?_; refine block_exit ?_; refine seq_normal ?_; refine zsr ?_; refine zw1 ?_; refine zw1 ?_; refine zw1 ?_; refine zns ?_; refine wp_ret ?_; refine ret_of ?_; refine zr ?_; refine zr ?_; refine rk_nil ?_
    have hm0 : m.length = 0 := by omega
    have e1 : N = 0 := by
      rw [hN]
      cases 16 - ys.length with
      | zero => rw [decN, if_pos hm0]
      | succ k => rw [decN, if_pos hm0]
    have e2 : P = prt ys := by
      rw [hP]
      cases 16 - ys.length with
      | zero => rw [decP, List.append_nil]
      | succ k => rw [decP, if_pos hm0, List.append_nil]
    exact ⟨_, ys, by rw [e0, e1]; rfl, by rw [eB (e0.trans e1), e2], hS⟩
end
end Go.E.Cb
/- Combine: CombineDecodes. -/
namespace Go.E.Cb
open Go Go.E Go.Proofs.YtnbjnjichhepiaaDoor.base Go.Proofs.YtnbjnjichhepiaaDoor Go.Proofs
set_option linter.unusedVariables false
set_option linter.unusedSimpArgs false
set_option maxRecDepth 100000
theorem Byt.app {a b : List Int} (ha : Byt a) (hb : Byt b) : Byt (a ++ b) := fun x hx => (List.mem_append.1 hx).elim (ha x) (hb x)
theorem nameB_byt (s : ByteArray) : Byt (nameB s) := fun x hx => by
  unfold nameB at hx
  obtain ⟨y, _, rfl⟩ := List.mem_map.1 hx
  have := y.toNat_lt
  omega
theorem encP_byt (m : Int) {p : Pt} (hp : PtN p) : Byt (encP m p) := by
  unfold encP
  have h := fun x k => leB_byte x k
  exact (((((((((Byt.app (h _ _) (h _ _)).app (h _ _)).app (h _ _)).app (h _ _)).app (h _ _)).app (h _ _)).app (h _ _)).app (nameB_byt _)).app hp.byte)
theorem encTo_byt {l : List Pt} (h : ∀ p ∈ l, PtN p) (n : Nat) : Byt (encTo l n) := by
  induction n with
  | zero => intro x hx; cases hx
  | succ n ih =>
    rw [encTo]
    refine ih.app ?_
    cases hp : l[n]? with
    | none => intro x hx; cases hx
    | some p => exact encP_byt _ (h p (List.mem_of_getElem? hp))
theorem encB_byt {l : List Pt} (h : ∀ p ∈ l, PtN p) : Byt (encB l) := by
  unfold encB
  split
  · exact encTo_byt h _
  · intro x hx; cases hx
theorem encB_len (l : List Pt) : (encB l).length ≤ 4096 := by
  unfold encB
  split
  · rename_i h
    unfold encE at h
    split at h
    · cases h
    split at h
    · cases h
    split at h
    · rename_i h3; exact absurd h h3
    split at h
    · cases h
    omega
  · simp
theorem wu8_b (x : Int) : 0 ≤ IntKind.u8.wrap x ∧ IntKind.u8.wrap x ≤ 255 := by rw [wu8]; omega
theorem Byt.set {l : List Int} (h : Byt l) (i : Nat) {y : Int} (hy : 0 ≤ y ∧ y ≤ 255) : Byt (l.set i y) := fun x hx => (List.mem_or_eq_of_mem_set hx).elim (h x) (fun e => e ▸ hy)
theorem u8s_set (l : List Int) (i : Nat) (y : Int) : (u8s l).set i (.int .u8 y) = u8s (l.set i y) := by unfold u8s; rw [List.map_set]
theorem decP_ok (k : Nat) {m : List Int} (hb : Byt m) (hl : m.length ≤ 1000000000) : ∀ p ∈ decP k m, PtN p := by
  induction k generalizing m with
  | zero => intro p hp; cases hp
  | succ k ih =>
    intro p hp
    rw [decP] at hp
    split at hp
    · cases hp
    rcases List.mem_cons.1 hp with rfl | hp
    · exact fstN hb hl
    · exact ih (hb.drop _) (by rw [List.length_drop]; omega) p hp
theorem decB_ok {m : List Int} (hb : Byt m) (hl : m.length ≤ 1000000000) : ∀ p ∈ decB m, PtN p := by
  unfold decB
  split
  · exact decP_ok _ hb hl
  · intro p hp; cases hp
theorem decB_len (m : List Int) : (decB m).length ≤ 16 := by
  unfold decB
  split
  · exact decP_len _ _
  · simp
theorem prt_ok {xs : List PX} {l : List Pt} (e : prt xs = l) (h : ∀ p ∈ l, PtN p) : ∀ x ∈ xs, PtN x.1 := fun x hx => h _ (by rw [← e]; exact List.mem_map_of_mem (f := (·.1)) hx)
theorem prt_len {xs : List PX} {l : List Pt} (e : prt xs = l) : xs.length = l.length := by rw [← e]; simp [prt]
section
variable {B : AHeap}
theorem L6 {v w : Value} {xs : List PX} {l : List Int} {at_ : Int} (hB : Glob objs B) (hl9 : l.length ≤ 9223372036854775807) (hd0 : ∀ As, RD B As 1 w (u8s l)) (hb : Byt l) (hP0 : ∀ As, PS B As v xs) (hat : I64 at_) : wpF C 6 [w, v, .int .i64 at_] B fun v _ => v = .bool true := by
  have hS := S.start B
  obtain ⟨r0, hr0, _⟩ := hd0 [] _ hS
  obtain ⟨a, c, rfl⟩ := hr0.u1
  clear hr0
  refine wpF_ofW o6 rfl rfl ?_
  refine zsr ?_; refine zw1 ?_; refine zns ?_; refine wp_seq ?_; refine zsr ?_; refine zw1 ?_; refine wpO_cons ?_; refine op1_len rfl rfl ?_; refine wpO_cons ?_; refine op1_gtr rfl rfl rfl ?_; refine zw1 ?_; refine wpO_cons ?_
  refine op1_dec rfl (fun h1 => ?_) (fun h1 => ?_)
  · refine op1_skip rfl ?_; refine zk ?_; refine zk ?_; refine zt ?_; refine zw1 ?_; refine zk ?_; refine zk ?_; refine zt ?_; refine zns ?_; refine wp_true rfl ?_; refine zsr ?_; refine wpO_cons ?_; refine op1_call0 rfl  ?_; refine wpF_known rfl (glob_of hB hS) ?_; refine zw1 ?_; refine zns ?_; refine wp_ret ?_; refine seq_ret ?_; refine ret_of ?_; refine zr ?_; refine rk_nil ?_
    rfl
  refine op1_mov rfl (by (conv => lhs; whnf) <;> rfl) ?_; refine wpO_cons ?_; refine op1_call1 rfl (by (conv => lhs; whnf) <;> rfl) ?_
  refine wpF_mono (L8 (hP0 []) hS) ?_
  rintro _ H1 ⟨rfl, hS1⟩
  clear hS
  have hS := hS1
  clear hS1
  by_cases hf : smallP xs
  case neg =>
    rw [decide_eq_false hf]
    refine wpO_cons ?_; refine op1_not_f rfl rfl ?_; refine zu ?_; refine zw1 ?_; refine zk ?_; refine zk ?_; refine zt ?_; refine zns ?_; refine wp_true rfl ?_; refine zsr ?_; refine wpO_cons ?_; refine op1_call0 rfl  ?_; refine wpF_known rfl (glob_of hB hS) ?_; refine zw1 ?_; refine zns ?_; refine wp_ret ?_; refine seq_ret ?_; refine ret_of ?_; refine zr ?_; refine rk_nil ?_
    rfl
  rw [decide_eq_true hf]
  have hxl := hf.1
  have hxd : ∀ x ∈ xs, x.1.data.length ≤ 5000 := fun x hx => by
    have : ¬ bigP x.1 := fun h => hf.2 ⟨x, hx, h⟩
    unfold bigP at this
    omega
  refine wpO_cons ?_; refine op1_not_t rfl rfl ?_; refine zu ?_; refine zw1 ?_; refine wpO_cons ?_; refine op1_call0 rfl  ?_; refine wpF_known rfl (glob_of hB hS) ?_; refine wpO_cons ?_; refine op1_not_t rfl rfl ?_; refine zu ?_; refine zns ?_; refine wp_false rfl ?_; refine wp_skip ?_; refine seq_normal ?_; refine zsr ?_; refine zw1 ?_; refine wpO_cons ?_; refine op1_call1 rfl (by (conv => lhs; whnf) <;> rfl) ?_
  refine wpF_mono (L15 (hP0 _) (fun x hx => by have := hxd x hx; omega) (by omega) hS) ?_
  rintro w5 H5 ⟨ys, hys, hS5⟩
  clear hS
  have hS := hS5
  clear hS5
  have hyo : ∀ y ∈ ys, PtN y.1 := fun y hy => by
    have h1 : y.1 ∈ prt xs := by rw [← hys]; exact List.mem_map_of_mem (f := (·.1)) hy
    obtain ⟨x, hx, e⟩ := List.mem_map.1 h1
    rw [← e]
    exact (hP0 []).ok x hx
  have hyl : ys.length = xs.length := by have := congrArg List.length hys; unfold prt at this; simpa using this
  refine wpO_cons ?_; refine op1_call1 rfl (by (conv => lhs; whnf) <;> rfl) ?_
  refine wpF_mono (L14 (PS.own hyo (by omega)) hS) ?_
  rintro _ H6 ⟨o2, rfl, hS6⟩
  clear hS
  have hS := S.k2 hS6
  clear hS6
  have hb2 : Byt (encB (prt ys)) := encB_byt (by rw [hys]; intro p hp; obtain ⟨x, hx, e⟩ := List.mem_map.1 hp; rw [← e]; exact (hP0 []).ok x hx)
  have hn2 := encB_len (prt ys)
  generalize encB (prt ys) = b2 at hS hb2 hn2
  obtain ⟨a2, c2, rfl⟩ := S.u1 hS
  refine zw1 ?_; refine wpO_cons ?_; refine op1_extract rfl rfl rfl ?_; refine wpO_cons ?_; refine op1_extract rfl rfl rfl ?_; refine zw1 ?_; refine zw1 ?_; refine zns ?_
  refine wp_cut [] (fun vs H' => vs = [] ∧ ∃ b3, b3.length = b2.length ∧ Byt b3 ∧ S B H' [sl 1 (.slice a2 b2.length c2) (u8s b3)]) ?_ ?_
  · refine zsr ?_; refine zw1 ?_; refine wpO_cons ?_; refine op1_len rfl rfl ?_; refine wpO_cons ?_; refine op1_gtr rfl rfl rfl ?_; refine zns ?_
    refine wp_dec rfl (fun h2 => ?_) (fun h2 => ?_)
    · obtain ⟨b, off, cs, e, ro, v, rfl, _, hg, hv, hx⟩ := (S.rd hS).choose_spec.1.at1 (i := 0) (by omega)
      have hu := un_b at_
      obtain ⟨j, hj, hjl⟩ : ∃ j : Nat, (un at_).tmod (b2.length : Int) = j ∧ j < b2.length := by
        have q1 := Int.emod_nonneg (un at_) (show (b2.length : Int) ≠ 0 by omega)
        have q2 := Int.emod_lt_of_pos (un at_) (show (0 : Int) < b2.length by omega)
        refine ⟨((un at_) % (b2.length : Int)).toNat, ?_, by omega⟩
        rw [Int.tmod_eq_emod_of_nonneg hu.1]
        omega
      have hq : 0 ≤ (un at_).tdiv (b2.length : Int) ∧ (un at_).tdiv (b2.length : Int) ≤ 18446744073709551615 := by
        rw [Int.tdiv_eq_ediv_of_nonneg hu.1]
        have h1 := Int.ediv_nonneg hu.1 (show (0 : Int) ≤ b2.length by omega)
        have h2 := Int.ediv_le_self (b2.length : Int) hu.1
        unfold U64 at hu
        omega
      obtain ⟨q, hqe⟩ : ∃ q, (un at_).tdiv (b2.length : Int) = q := ⟨_, rfl⟩
      rw [hqe] at hq
      obtain ⟨y, hy⟩ : ∃ y, b2[j]? = some y := ⟨_, List.getElem?_eq_getElem hjl⟩
      have hyg : (u8s b2)[j]? = some (.int .u8 y) := by unfold u8s; rw [List.getElem?_map, hy]; rfl
      refine wp_regionD ?_; refine zd1 ?_; refine zd1 ?_; refine wpD_cons ?_
      refine op1_convIntW rfl rfl ?_
      rw [wu64]
      refine zd1 ?_; refine wpD_cons ?_; refine op1_len rfl rfl ?_; refine wpD_cons ?_; refine op1_convInt rfl rfl (by exact wrap_u64 (by omega) (by omega)) ?_; refine wpD_cons ?_; refine op1_rem rfl rfl rfl (by omega) ?_; refine wpD_cons ?_; refine op1_convInt rfl rfl (by exact wrap_i64 (by omega) (by omega)) ?_; refine wpD_cons ?_; refine op1_iaddr rfl rfl rfl (by omega) (by omega) ?_; refine wpD_cons ?_
      refine op1_loadL (k := j) rfl rfl hS (by rw [hj]; simp) (by omega) hyg ?_
      refine zd1 ?_; refine wpD_cons ?_
      refine op1_convIntW rfl rfl ?_
      rw [wu64]
      refine zd1 ?_; refine wpD_cons ?_; refine op1_len rfl rfl ?_; refine wpD_cons ?_; refine op1_convInt rfl rfl (by exact wrap_u64 (by omega) (by omega)) ?_; refine wpD_cons ?_
      refine op1_quo rfl rfl rfl (by omega) ?_ ?_
      · rw [hqe, wu64]
        unfold un
        omega
      rw [hqe]
      have hq5 : 0 ≤ q.tmod 255 ∧ q.tmod 255 ≤ 254 := by rw [Int.tmod_eq_emod_of_nonneg hq.1]; omega
      have hT := hS
      refine wpD_cons ?_; refine op1_rem rfl rfl rfl (by omega) ?_; refine wpD_cons ?_; refine op1_add rfl rfl rfl (by exact wrap_u64 (by omega) (by omega)) ?_; refine wpD_cons ?_; refine op1_convInt rfl rfl (by exact wrap_u8 (by omega) (by omega)) ?_; refine wpD_cons ?_; refine op1_xor rfl rfl rfl ?_; refine wpD_cons ?_; refine op1_iaddr rfl rfl rfl (by omega) (by omega) ?_; refine wpD_cons ?_; (refine op1_store1L rfl rfl (by (conv => lhs; whnf) <;> rfl) rfl rfl (S.up0 hS) (by omega) ?_; intro H2 hS; replace hS := S.dn0 hS); refine wpD_nil ?_; refine dk_of ?_ ?_; (iterate 4 refine chk_skip ?_); refine zx 18 ?_ ?_; refine zy 1 ?_ ?_; exact chk_len rfl rfl; exact chkFs_nil; (iterate 4 refine chk_skip ?_); refine zx 13 ?_ ?_; refine zy 1 ?_ ?_
      · exact chk_loadL (k := j) rfl hT (by rw [hj]; simp) (by omega) hyg rfl
      exact chkFs_nil; (iterate 3 refine chk_skip ?_); refine zx 9 ?_ ?_; refine zy 1 ?_ ?_; exact chk_len rfl rfl; exact chkFs_nil; (iterate 8 refine chk_skip ?_); exact chk_end; refine cut0  ?_
      rw [u8s_set] at hS
      exact ⟨rfl, _, List.length_set, hb2.set _ (wu8_b _), hS⟩
    · refine wp_skip ?_; refine cut0  ?_
      exact ⟨rfl, b2, rfl, hb2, hS⟩
  rintro vs T4 H4 ⟨rfl, b3, hb3l, hb3, hS4⟩
  rw [← hb3l] at hS4 hn2 ⊢
  clear hS
  have hS := hS4
  clear hS4
  refine wp_seq ?_; refine zsr ?_; refine zw1 ?_; refine zw1 ?_; refine wpO_cons ?_; refine op1_bsliceS rfl hS ?_; refine bk_one (by (conv => lhs; whnf) <;> rfl) rfl rfl rfl ?_; refine bk_one (by (conv => lhs; whnf) <;> rfl) rfl rfl rfl ?_; refine bk_nil ?_; intro p1 H2 hS; refine wpO_cons ?_; refine op1_len rfl rfl ?_; refine zw1 ?_; refine zns ?_; refine wp_block ?_
  obtain ⟨L, hL⟩ : ∃ L, L = [pto p1 (.cells [.slice a l.length c, .slice a2 b3.length c2] 1 false), sl 1 (.slice a2 b3.length c2) (u8s b3)] := ⟨_, rfl⟩
  have hsel : ∀ i : Nat, i < 2 → ∃ (a' : Option Addr) (c' : Nat) (m : List Int), [Value.slice a l.length c, .slice a2 b3.length c2][i]? = some (.slice a' m.length c') ∧ RD B L 1 (.slice a' m.length c') (u8s m) ∧ Byt m ∧ m.length ≤ 5000 := by
    intro i hi
    have : i = 0 ∨ i = 1 := by omega
    rcases this with rfl | rfl
    · exact ⟨a, c, l, rfl, hd0 L, hb, by omega⟩
    · exact ⟨a2, c2, b3, rfl, by rw [hL]; exact RD.head.cons, hb3, by omega⟩
  have hS : S B H2 L := by rw [hL]; exact hS
  refine wp_loop [62] (fun k vs H' => ∃ i : Nat, vs = [.int .i64 i] ∧ k = 2 - i ∧ i ≤ 2 ∧ S B H' L) ⟨_, 0, rfl, rfl, by omega, hS⟩ ?_
  clear hS
  rintro k vs T' H1 ⟨i, rfl, rfl, hi, hS⟩
  refine zsr ?_; refine wpO_cons ?_; refine op1_lss rfl rfl rfl ?_; refine zns ?_; refine wp_seq ?_
  refine wp_dec rfl (fun hc => ?_) (fun hc => ?_)
  · obtain ⟨a', c', m, hget, hmd, hmb, hml⟩ := hsel i (by omega)
    have hg : H1.get p1 = .cells [.slice a l.length c, .slice a2 b3.length c2] 1 false := by rw [hL] at hS; exact hS.get
    refine wp_skip ?_; refine seq_normal ?_; refine wp_seq ?_; refine wp_block ?_; refine zsr ?_; refine wpO_cons ?_; refine op1_iaddr rfl rfl rfl (by omega) (by omega) ?_; refine wpO_cons ?_
    refine op1_load rfl rfl hg (by rw [Int.toNat_natCast, Nat.zero_add, Nat.mul_one]; exact hget) ?_
    refine zw1 ?_; refine zns ?_; refine zsr ?_; refine zw1 ?_; refine wpO_cons ?_; refine op1_call1 rfl (by (conv => lhs; whnf) <;> rfl) ?_
    refine wpF_mono (L30 hmd (by omega) hS) ?_
    rintro w1 H3 hS3
    clear hS
    obtain ⟨aw, cw, rfl⟩ := S.u1 hS3
    refine wpO_cons ?_; refine op1_call1 rfl (by (conv => lhs; whnf) <;> rfl) ?_
    refine wpF_mono (L17 hB RD.head hmb (by omega) hS3) ?_
    rintro _ H4 ⟨o1, y1, rfl, hy1, hS4⟩
    refine zw1 ?_; refine wpO_cons ?_; refine op1_extract rfl rfl rfl ?_; refine wpO_cons ?_; refine op1_extract rfl rfl rfl ?_; refine zw1 ?_; refine zw1 ?_; refine zns ?_; refine zsr ?_; refine zw1 ?_; refine wpO_cons ?_; refine op1_call1 rfl (by (conv => lhs; whnf) <;> rfl) ?_
    refine wpF_mono (L31 hmd.cons.cons.cons hmb (by omega) hS4) ?_
    rintro _ H5 ⟨o2, y2, rfl, hy2, hS5⟩
    have hS := hS5
    refine zw1 ?_; refine wpO_cons ?_; refine op1_extract rfl rfl rfl ?_; refine wpO_cons ?_; refine op1_extract rfl rfl rfl ?_; refine zw1 ?_; refine zw1 ?_; refine zns ?_; refine zsr ?_; refine zw1 ?_; refine zw1 ?_; refine wpO_cons ?_; refine op1_neqI_s rfl rfl rfl ?_; refine zw1 ?_; refine zw1 ?_; refine zw1 ?_; refine wpO_cons ?_; refine op1_call3 rfl (by (conv => lhs; whnf) <;> rfl) (by (conv => lhs; whnf) <;> rfl) (by (conv => lhs; whnf) <;> rfl) ?_
    have hok1 := prt_ok hy1 (decB_ok hmb (by omega))
    have hok2 := prt_ok hy2 (decB_ok hmb (by omega))
    have hlb := decB_len m
    have hl1 := prt_len hy1
    have hl2 := prt_len hy2
    have hP1 := ((PS.own (B := B) (v := o1) (As := sl 1 (.slice aw m.length cw) (u8s m) :: L) hok1 (by omega)).cons (A := dats y2)).cons (A := sl 6 o2 (y2.flatMap rowP))
    have hP2 := PS.own (B := B) (v := o2) (As := sl 6 o1 (y1.flatMap rowP) :: dats y1 :: sl 1 (.slice aw m.length cw) (u8s m) :: L) hok2 (by omega)
    refine wpF_mono (L32 (f := 20) hP1 hP2 (hy2.trans hy1.symm) (fun x hx y hy e H6 A1 A2 hS6 => L20 e (hP1.dat x hx).cons.cons (hP2.dat y hy).cons.cons hS6) hS5) ?_
    rintro _ H6 ⟨rfl, hS6⟩
    refine wpO_cons ?_; refine op1_not_t rfl rfl ?_; refine zu ?_; refine zns ?_; refine wp_false rfl ?_; refine wp_skip ?_; refine block_normal ?_; refine seq_normal ?_; refine wp_region ?_; refine wpO_cons ?_; refine op1_add rfl rfl rfl (by exact wrap_i64 (by omega) (by omega)) ?_; refine zw1 ?_; refine wpO_nil ?_
    exact iter_normal ⟨2 - (i + 1), by omega, i + 1, rfl, rfl, by omega, S.drop (S.drop (S.drop (S.drop (S.drop hS6))))⟩
  · refine wp_exit ?_; refine seq_exit ?_; refine iter_exit ?_; refine block_exit ?_; refine seq_normal ?_; refine zsr ?_; refine zw1 ?_; refine zns ?_; refine wp_ret ?_; refine ret_of ?_; refine zr ?_; refine rk_nil ?_
    rfl
end
end Go.E.Cb
