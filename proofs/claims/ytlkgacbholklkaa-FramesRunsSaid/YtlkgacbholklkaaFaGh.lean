/- Reading any range; lists compared; strings of bytes. -/
import Derived.Test.YtlkgacbholklkaaFaGg
namespace Go.E.Fa
open Go Go.E Go.Proofs.Ytlkgacbholklkaa Go.Proofs
set_option linter.unusedVariables false
set_option linter.unusedSimpArgs false
set_option maxRecDepth 100000
theorem L36w {H : AHeap} {off n : Int} (hn : -9223372036854775808 ≤ n ∧ n ≤ 9223372036854775807) : wpF C 36 [.int .i64 off, .int .i64 n] H fun v H' => v = .bool (decide (InPage off n)) ∧ H = H' := by
  refine wpF_ofW o36 rfl rfl ?_
  refine zsr ?_; refine zw1 ?_; refine zns ?_; refine zsr ?_; refine zw1 ?_; refine wpO_cons ?_; refine op1_geq rfl rfl rfl ?_; refine zw1 ?_; refine wpO_cons ?_
  refine op1_dec rfl (fun h1 => ?_) (fun h1 => ?_)
  · refine op1_mov rfl (by (conv => lhs; whnf) <;> rfl) ?_; refine wpO_cons ?_; refine op1_geq rfl rfl rfl ?_; refine wpO_cons ?_; refine op1_pick_t rfl rfl (by (conv => lhs; whnf) <;> rfl) ?_; refine zw1 ?_; refine wpO_cons ?_
    refine op1_dec rfl (fun h2 => ?_) (fun h2 => ?_)
    · refine op1_mov rfl (by (conv => lhs; whnf) <;> rfl) ?_; refine wpO_cons ?_; refine op1_leq rfl rfl rfl ?_; refine wpO_cons ?_; refine op1_pick_t rfl rfl (by (conv => lhs; whnf) <;> rfl) ?_; refine zw1 ?_; refine wpO_cons ?_
      refine op1_dec rfl (fun h3 => ?_) (fun h3 => ?_)
      · refine op1_mov rfl (by (conv => lhs; whnf) <;> rfl) ?_; refine zw1 ?_; refine wpO_cons ?_; refine op1_sub rfl rfl rfl (by exact wrap_i64 (by omega) (by omega)) ?_; refine wpO_cons ?_; refine op1_leq rfl rfl rfl ?_; refine wpO_cons ?_; refine op1_pick_t rfl rfl (by (conv => lhs; whnf) <;> rfl) ?_; refine zw1 ?_; refine zns ?_; refine wp_ret ?_; refine ret_of ?_; refine rk_tmp (by (conv => lhs; whnf) <;> rfl) ?_; refine rk_nil ?_
        exact ⟨leaf1 (by unfold InPage; simp; omega), rfl⟩
      · refine op1_skip rfl ?_; refine wpO_cons ?_; refine op1_skip rfl ?_; refine wpO_cons ?_; refine op1_skip rfl ?_; refine wpO_cons ?_; refine op1_skip rfl ?_; refine wpO_cons ?_; refine op1_pick_f rfl rfl (by (conv => lhs; whnf) <;> rfl) ?_; refine zw1 ?_; refine zns ?_; refine wp_ret ?_; refine ret_of ?_; refine rk_tmp (by (conv => lhs; whnf) <;> rfl) ?_; refine rk_nil ?_
        exact ⟨leaf1 (by unfold InPage; simp; omega), rfl⟩
    · refine op1_skip rfl ?_; refine wpO_cons ?_; refine op1_skip rfl ?_; refine wpO_cons ?_; refine op1_pick_f rfl rfl (by (conv => lhs; whnf) <;> rfl) ?_; refine zw1 ?_; refine wpO_cons ?_; refine op1_skip rfl ?_; refine wpO_cons ?_; refine op1_skip rfl ?_; refine wpO_cons ?_; refine op1_skip rfl ?_; refine wpO_cons ?_; refine op1_skip rfl ?_; refine wpO_cons ?_; refine op1_pick_f rfl rfl (by (conv => lhs; whnf) <;> rfl) ?_; refine zw1 ?_; refine zns ?_; refine wp_ret ?_; refine ret_of ?_; refine rk_tmp (by (conv => lhs; whnf) <;> rfl) ?_; refine rk_nil ?_
      exact ⟨leaf1 (by unfold InPage; simp; omega), rfl⟩
  · refine op1_skip rfl ?_; refine wpO_cons ?_; refine op1_skip rfl ?_; refine wpO_cons ?_; refine op1_pick_f rfl rfl (by (conv => lhs; whnf) <;> rfl) ?_; refine zw1 ?_; refine wpO_cons ?_; refine op1_skip rfl ?_; refine wpO_cons ?_; refine op1_skip rfl ?_; refine wpO_cons ?_; refine op1_pick_f rfl rfl (by (conv => lhs; whnf) <;> rfl) ?_; refine zw1 ?_; refine wpO_cons ?_; refine op1_skip rfl ?_; refine wpO_cons ?_; refine op1_skip rfl ?_; refine wpO_cons ?_; refine op1_skip rfl ?_; refine wpO_cons ?_; refine op1_skip rfl ?_; refine wpO_cons ?_; refine op1_pick_f rfl rfl (by (conv => lhs; whnf) <;> rfl) ?_; refine zw1 ?_; refine zns ?_; refine wp_ret ?_; refine ret_of ?_; refine rk_tmp (by (conv => lhs; whnf) <;> rfl) ?_; refine rk_nil ?_
    exact ⟨leaf1 (by unfold InPage; simp; omega), rfl⟩

theorem L21w {B H : AHeap} {As : List Asn} {t : Nat} {T : Tb} {n off : Int} {k : Int} (hk0 : -9223372036854775808 ≤ k ∧ k ≤ 9223372036854775807) (hT : TbOk T) (hS : S B H (repT t T :: As)) :
    wpF C 21 [ptrV t, .int .i64 n, .int .i64 off, .int .i64 k] H fun v H' => ∃ v0, v = .tuple ⟨[v0, .int .i64 (ioE T.m n off k)]⟩ ∧ S B H' (sl 1 v0 (u8s (readM T.m n off k)) :: repT t T :: As) := by
  refine wpF_ofW o21 rfl rfl ?_
  refine zsr ?_; refine zw1 ?_; refine zw1 ?_; refine zns ?_; refine zsr ?_; refine zw1 ?_; refine zw1 ?_; refine wpO_cons ?_; refine op1_call3 rfl (by (conv => lhs; whnf) <;> rfl) (by (conv => lhs; whnf) <;> rfl) (by (conv => lhs; whnf) <;> rfl) ?_
  refine wpF_mono (L33 hS) ?_
  rintro _ _ ⟨rfl, rfl⟩
  unfold findV
  by_cases hn : n ∈ T.m.dom
  · rw [if_pos hn]
    by_cases h0 : T.m.refs n = 0
    · rw [if_pos ⟨h0, rfl⟩]
      have e : ioE T.m n off k = 35 := by unfold ioE; rw [if_pos hn, if_pos h0]
      unfold readM
      rw [e]
      refine zw1 ?_; refine wpO_cons ?_; refine op1_extract rfl rfl rfl ?_; refine wpO_cons ?_; refine op1_extract rfl rfl rfl ?_; refine zw1 ?_; refine zw1 ?_; refine zns ?_; refine wp_seq ?_; refine wp_block ?_; refine zsr ?_; refine zw1 ?_; refine wpO_cons ?_; refine op1_neqI rfl rfl rfl ?_; refine zw1 ?_; refine zns ?_; refine wp_true rfl ?_; refine zsr ?_; refine zw1 ?_; refine zw1 ?_; refine zw1 ?_; refine zns ?_; refine wp_ret ?_; refine block_ret ?_; refine seq_ret ?_; refine ret_of ?_; refine rk_tmp (by (conv => lhs; whnf) <;> rfl) ?_; refine rk_tmp (by (conv => lhs; whnf) <;> rfl) ?_; refine rk_nil ?_
      exact ⟨_, rfl, hS.slNil⟩
    · rw [if_neg (fun h => h0 h.1)]
      unfold ptrV
      refine zw1 ?_; refine wpO_cons ?_; refine op1_extract rfl rfl rfl ?_; refine wpO_cons ?_; refine op1_extract rfl rfl rfl ?_; refine zw1 ?_; refine zw1 ?_; refine zns ?_; refine wp_seq ?_; refine wp_block ?_; refine zsr ?_; refine zw1 ?_; refine wpO_cons ?_; refine op1_neqI_s rfl rfl rfl ?_; refine zw1 ?_; refine zns ?_; refine wp_false rfl ?_; refine zsr ?_; refine zw1 ?_; refine zw1 ?_; refine wpO_cons ?_; refine op1_call2 rfl (by (conv => lhs; whnf) <;> rfl) (by (conv => lhs; whnf) <;> rfl) ?_
      refine wpF_mono (L36w hk0) ?_
      rintro _ _ ⟨rfl, rfl⟩
      refine wpO_cons ?_; refine op1_not rfl rfl ?_; refine zw1 ?_; refine zns ?_
      refine wp_ndec rfl (fun hp => ?_) (fun hp => ?_)
      · have e : ioE T.m n off k = 14 := by unfold ioE; rw [if_pos hn, if_neg h0, if_neg hp]
        unfold readM
        rw [e]
        refine zsr ?_; refine zw1 ?_; refine zw1 ?_; refine zns ?_; refine wp_ret ?_; refine block_ret ?_; refine seq_ret ?_; refine ret_of ?_; refine rk_tmp (by (conv => lhs; whnf) <;> rfl) ?_; refine rk_tmp (by (conv => lhs; whnf) <;> rfl) ?_; refine rk_nil ?_
        exact ⟨_, rfl, hS.slNil⟩
      have e : ioE T.m n off k = 0 := by unfold ioE; rw [if_pos hn, if_neg h0, if_pos hp]
      unfold readM
      rw [e, if_pos rfl]
      obtain ⟨pv, m1, m2, hO⟩ := openT hS
      clear hS
      have hS := S.frAt (S.up4 hO) hn
      clear hO
      have hdat := hT.dat n
      have hp' := hp
      unfold InPage at hp'
      unfold frC at hS
      obtain ⟨kn, rfl⟩ : ∃ kn : Nat, k = kn := ⟨k.toNat, by omega⟩
      cases hdn : T.m.dat n with
      | none =>
        rw [hdn, datV_none, datA_none] at hS
        refine zsr ?_; refine zw1 ?_; refine wpO_cons ?_; refine op1_nilchk rfl rfl ?_; refine wpO_cons ?_; refine op1_faddr0 rfl rfl ?_; refine wpO_cons ?_; refine op1_load rfl rfl (by exact S.g0 hS) rfl ?_; refine wpO_cons ?_; refine op1_bin_true rfl (by (conv => lhs; whnf) <;> rfl) (by (conv => lhs; whnf) <;> rfl) rfl ?_; refine zw1 ?_; refine zns ?_; refine wp_true rfl ?_; refine zsr ?_; refine zw1 ?_; refine wpO_cons ?_
        refine op1_mksliceS rfl rfl rfl (by omega) (Int.le_refl _) (by omega) hS ?_
        rw [Int.toNat_natCast, zero_u8s]
        intro p1 H1 hS; refine zw1 ?_; refine zw1 ?_; refine zns ?_; refine wp_ret ?_; refine block_ret ?_; refine seq_ret ?_; refine ret_of ?_; refine rk_tmp (by (conv => lhs; whnf) <;> rfl) ?_; refine rk_tmp (by (conv => lhs; whnf) <;> rfl) ?_; refine rk_nil ?_
        have ez : ((pageOf none).drop off.toNat).take kn = List.replicate kn 0 := by
          unfold pageOf zeros
          rw [List.drop_replicate, List.take_replicate]
          congr 1; omega
        rw [ez]
        refine ⟨_, rfl, S.up1 (frBack (pv := pv) (m1 := m1) (m2 := m2) hn hT ?_)⟩
        rw [hdn]
        exact S.dn7 (S.slNew hS (by simp))
      | some pd =>
        obtain ⟨pb, pl⟩ := pd
        have hpl : pl.length = 64 := hdat _ hdn
        rw [hdn, datV_some, datA_some] at hS
        refine zsr ?_; refine zw1 ?_; refine wpO_cons ?_; refine op1_nilchk rfl rfl ?_; refine wpO_cons ?_; refine op1_faddr0 rfl rfl ?_; refine wpO_cons ?_; refine op1_load rfl rfl (by exact S.g0 hS) rfl ?_; refine wpO_cons ?_; refine op1_bin_false rfl (by (conv => lhs; whnf) <;> rfl) (by (conv => lhs; whnf) <;> rfl) rfl ?_; refine zw1 ?_; refine zns ?_; refine wp_false rfl ?_; refine wp_skip ?_; refine block_normal ?_; refine seq_normal ?_; refine zsr ?_; refine zw1 ?_; refine wpO_cons ?_; refine op1_nilchk rfl rfl ?_; refine wpO_cons ?_; refine op1_faddr0 rfl rfl ?_; refine wpO_cons ?_; refine op1_load rfl rfl (by exact S.g0 hS) rfl ?_; refine wpO_cons ?_; refine op1_nilchk rfl rfl ?_; refine zw1 ?_; refine zw1 ?_; refine zw1 ?_; refine wpO_cons ?_; refine op1_add rfl rfl rfl (by exact wrap_i64 (by omega) (by omega)) ?_; refine wpO_cons ?_
        refine op1_sliceArr rfl rfl (bnds_both (by omega) (by omega) (by omega)) (S.g1 hS) ?_
        refine wpO_cons ?_; refine op1_call1 rfl (by (conv => lhs; whnf) <;> rfl) ?_
        rw [show (off + (kn : Int)).toNat - off.toNat = kn by omega, show 0 + off.toNat * 1 = off.toNat by omega]
        have hrd : ∀ X Y, RD B (X :: pto pb (.cells (u8s pl) 0 false) :: Y) 1 (.slice (some ⟨pb, off.toNat, none⟩) kn (64 - off.toNat)) (u8s ((pl.drop off.toNat).take kn)) := by
          intro X Y
          refine RD.cons ?_
          rw [← u8s_take, ← u8s_drop]
          have := RD.pto (B := B) (As := Y) (b := pb) (off := off.toNat) (l := kn) (c := 64 - off.toNat) (es := 1) (e := 0) (cs := u8s pl) (ro := false) (by rw [u8s_length]; omega) (.inl rfl) (by omega)
          rw [Nat.mul_one] at this
          exact this
        refine wpF_mono (L37 (hrd _ _) hS (by rw [List.length_take, List.length_drop]; omega)) ?_
        intro v1 H9 hS
        refine zw1 ?_; refine zw1 ?_; refine zns ?_; refine wp_ret ?_; refine ret_of ?_; refine rk_tmp (by (conv => lhs; whnf) <;> rfl) ?_; refine rk_tmp (by (conv => lhs; whnf) <;> rfl) ?_; refine rk_nil ?_
        refine ⟨_, rfl, S.up1 (frBack (pv := pv) (m1 := m1) (m2 := m2) hn hT ?_)⟩
        rw [hdn]
        exact S.dn7 hS
  · rw [if_neg hn]
    have e : ioE T.m n off k = 34 := by unfold ioE; rw [if_neg hn]
    unfold readM
    rw [e]
    refine zw1 ?_; refine wpO_cons ?_; refine op1_extract rfl rfl rfl ?_; refine wpO_cons ?_; refine op1_extract rfl rfl rfl ?_; refine zw1 ?_; refine zw1 ?_; refine zns ?_; refine wp_seq ?_; refine wp_block ?_; refine zsr ?_; refine zw1 ?_; refine wpO_cons ?_; refine op1_neqI rfl rfl rfl ?_; refine zw1 ?_; refine zns ?_; refine wp_true rfl ?_; refine zsr ?_; refine zw1 ?_; refine zw1 ?_; refine zw1 ?_; refine zns ?_; refine wp_ret ?_; refine block_ret ?_; refine seq_ret ?_; refine ret_of ?_; refine rk_tmp (by (conv => lhs; whnf) <;> rfl) ?_; refine rk_tmp (by (conv => lhs; whnf) <;> rfl) ?_; refine rk_nil ?_
    exact ⟨_, rfl, hS.slNil⟩

theorem L34 {H : AHeap} {u v : Value} {l m : List Int} {r s : List Nat} (hd : RdS H 1 u (i64s l) r) (hl : l.length ≤ 1000000) (he : RdS H 1 v (i64s m) s) (hm : m.length ≤ 1000000) : wpF C 34 [u, v] H fun w H' => w = .bool (decide (l = m)) ∧ H = H' := by
  obtain ⟨a, c, rfl⟩ := hd.i1
  obtain ⟨b, d, rfl⟩ := he.i1
  refine wpF_ofW o34 rfl rfl ?_
  refine zsr ?_; refine zw1 ?_; refine zns ?_; refine wp_seq ?_; refine zsr ?_; refine zw1 ?_; refine wpO_cons ?_; refine op1_len rfl rfl ?_; refine zw1 ?_; refine wpO_cons ?_; refine op1_len rfl rfl ?_; refine wpO_cons ?_; refine op1_neqI rfl rfl rfl ?_; refine zns ?_
  refine wp_ndec rfl (fun hne => ?_) (fun hne => ?_)
  · refine zsr ?_; refine zw1 ?_; refine zns ?_; refine wp_ret ?_; refine seq_ret ?_; refine ret_of ?_; refine rk_tmp (by (conv => lhs; whnf) <;> rfl) ?_; refine rk_nil ?_
    refine ⟨?_, rfl⟩
    rw [decide_eq_false (fun h => hne (by rw [h]))]; rfl
  refine wp_skip ?_; refine seq_normal ?_; refine wp_seq ?_; refine zsr ?_; refine zw1 ?_; refine wpO_cons ?_; refine op1_len rfl rfl ?_; refine zw1 ?_; refine zns ?_; refine wp_block ?_
  have hlm : l.length = m.length := by omega
  refine wp_loop [13] (fun k vs H' => ∃ i : Nat, vs = [.int .i64 i] ∧ k = l.length - i ∧ i ≤ l.length ∧ H = H' ∧ l.take i = m.take i) ⟨_, 0, rfl, rfl, by omega, rfl, by simp⟩ ?_
  rintro k vs T' H1 ⟨i, rfl, rfl, hi, rfl, hno⟩
  refine zsr ?_; refine wpO_cons ?_; refine op1_lss rfl rfl rfl ?_; refine zns ?_; refine wp_seq ?_
  refine wp_dec rfl (fun hc => ?_) (fun hc => ?_)
  · obtain ⟨b1, off1, cs1, e1, ro1, v1, rfl, _, hg1, hv1, hx1⟩ := hd.at1 (i := i) (by omega)
    obtain ⟨x, hx, rfl⟩ := i64s_get hx1
    obtain ⟨b2, off2, cs2, e2, ro2, v2, rfl, _, hg2, hv2, hx2⟩ := he.at1 (i := i) (by omega)
    obtain ⟨y, hy, rfl⟩ := i64s_get hx2
    refine wp_skip ?_; refine seq_normal ?_; refine wp_seq ?_; refine wp_block ?_; refine zsr ?_; refine zw1 ?_; refine zw1 ?_; refine zns ?_; refine wp_seq ?_; refine wp_regionD ?_; refine zd1 ?_; refine zd1 ?_; refine wpD_cons ?_; refine op1_iaddr rfl rfl rfl (by omega) (by omega) ?_; refine wpD_cons ?_
    refine op1_load rfl rfl hg1 hv1 ?_
    refine zd1 ?_; refine zd1 ?_; refine wpD_cons ?_; refine op1_iaddr rfl rfl rfl (by omega) (by omega) ?_; refine wpD_cons ?_
    refine op1_load rfl rfl hg2 hv2 ?_
    refine wpD_cons ?_; refine op1_neqI rfl rfl rfl ?_; refine wpD_nil ?_; refine dk_of ?_ ?_; (iterate 3 refine chk_skip ?_); refine chk_cons 6 rfl rfl rfl ?_ ?_; refine chkFs_cons 0 rfl rfl ?_ ?_
    · exact chk_load rfl hg1 hv1 rfl
    exact chkFs_nil; (iterate 3 refine chk_skip ?_); refine chk_cons 2 rfl rfl rfl ?_ ?_; refine chkFs_cons 0 rfl rfl ?_ ?_
    · exact chk_load rfl hg2 hv2 rfl
    exact chkFs_nil; refine chk_skip ?_; exact chk_end; refine seq_normal ?_
    refine wp_ndec rfl (fun hxy => ?_) (fun hxy => ?_)
    · refine zsr ?_; refine zw1 ?_; refine zns ?_; refine wp_ret ?_; refine block_ret ?_; refine seq_ret ?_; refine iter_ret ?_; refine block_ret ?_; refine seq_ret ?_; refine ret_of ?_; refine rk_tmp (by (conv => lhs; whnf) <;> rfl) ?_; refine rk_nil ?_
      refine ⟨?_, rfl⟩
      rw [decide_eq_false (fun h => hxy ?_)]; rfl
      rw [h, hy] at hx
      exact (Option.some.inj hx).symm
    · refine wp_skip ?_; refine block_normal ?_; refine seq_normal ?_; refine wp_region ?_; refine wpO_cons ?_; refine op1_add rfl rfl rfl (by exact wrap_i64 (by omega) (by omega)) ?_; refine zw1 ?_; refine wpO_nil ?_
      refine ⟨l.length - (i + 1), by omega, i + 1, rfl, rfl, by omega, rfl, ?_⟩
      rw [List.take_add_one, List.take_add_one, hx, hy, hno, hxy]
  · refine wp_exit ?_; refine seq_exit ?_; refine iter_exit ?_; refine block_exit ?_; refine seq_normal ?_; refine zsr ?_; refine zw1 ?_; refine zns ?_; refine wp_ret ?_; refine ret_of ?_; refine rk_tmp (by (conv => lhs; whnf) <;> rfl) ?_; refine rk_nil ?_
    rw [List.take_of_length_le (by omega), List.take_of_length_le (by omega)] at hno
    exact ⟨by rw [decide_eq_true hno]; rfl, rfl⟩
end Go.E.Fa
/- same, case by case. -/
namespace Go.E.Fa
open Go Go.E Go.Proofs.Ytlkgacbholklkaa Go.Proofs
set_option linter.unusedVariables false
set_option linter.unusedSimpArgs false
set_option maxRecDepth 100000
theorem Both.rt {T : Tb} {R : RT} (h : Both T R) : RtOk R := by
  refine ⟨by rw [h.rel.pls]; have := h.rel.ok.len; omega, h.rel.po, h.rel.len, fun x hx => ?_⟩
  obtain ⟨i, hi⟩ := List.getElem?_of_mem hx
  have hl := (List.getElem?_eq_some_iff.1 hi).1
  have h1 := h.rel.refs i (by have := h.rel.len; omega)
  rw [List.getD_eq_getElem?_getD, hi, Option.getD_some] at h1
  rw [h1]
  exact h.rel.ok.m.refs i
theorem allocR_len (T : Tb) (cnt al : Int) (cg top : Bool) (ns : List ByteArray) : (allocR T cnt al cg top ns).2.length ≤ 4096 := by
  unfold allocR
  by_cases h1 : cnt < 1 ∨ 4096 < cnt
  · rw [if_pos h1]; exact Nat.zero_le _
  rw [if_neg h1]
  by_cases h2 : al < 1 ∨ 4096 < al ∨ bitAnd .i64 al (al - 1) ≠ 0 ∨ (cg = false ∧ al ≠ 1)
  · rw [if_pos h2]; exact Nat.zero_le _
  rw [if_neg h2]
  by_cases h3 : (askedM T.pls ns).1 ≠ 0
  · rw [if_pos h3]; exact Nat.zero_le _
  rw [if_neg h3]
  have hl : (if cg = true then runM T cnt.toNat al.toNat top (askedM T.pls ns).2 else singles T cnt.toNat top (askedM T.pls ns).2).length ≤ 4096 := by
    split
    · suffices h : ∀ l, (runM T cnt.toNat al.toNat top l).length ≤ cnt.toNat by have := h (askedM T.pls ns).2; omega
      intro l
      induction l with
      | nil => simp [runM]
      | cons i is ih => rw [runM]; split; rw [consec_len]; exact Nat.le_refl _; exact ih
    · have := singles_len T cnt.toNat top (askedM T.pls ns).2; omega
  by_cases h4 : ((if cg = true then runM T cnt.toNat al.toNat top (askedM T.pls ns).2 else singles T cnt.toNat top (askedM T.pls ns).2).length : Int) < cnt
  · rw [if_pos h4]; exact Nat.zero_le _
  · rw [if_neg h4]; exact hl
theorem Pgs.of {T : Tb} {M : Fm} {R R' : RT} (h : Pgs T R) (hd : M.dom = T.m.dom) (ht : M.dat = T.m.dat) (hp : R'.pgs = R.pgs) : Pgs (T.wm M) R' := by
  refine ⟨⟨by rw [hp]; exact h.ok.len, by rw [hp]; exact h.ok.pg⟩, fun n hn => ?_⟩
  show pageOf (M.dat n) = R'.pgs.getD n.toNat []
  rw [ht, hp]
  exact h.eq n (hd ▸ hn)
theorem refP_dom (M : Fm) (n : Int) : (refP M n).2.dom = M.dom ∧ (refP M n).2.dat = M.dat := by
  unfold refP
  split
  · exact ⟨rfl, rfl⟩
  split
  · exact ⟨rfl, rfl⟩
  · exact ⟨rfl, rfl⟩
theorem refR_pgs (R : RT) (n : Int) : (refR R n).2.pgs = R.pgs := by
  unfold refR
  split
  · rfl
  split <;> rfl
theorem unrefR_pgs (R : RT) (n : Int) : (unrefR R n).2.pgs = R.pgs := by
  unfold unrefR
  split <;> rfl
theorem refs_val {T : Tb} {R : RT} {n : Int} (hR : Rel T R) (hG : Geo T) : (if knownE R n false ≠ 0 then 0 else R.refs.getD n.toNat 0) = if n ∈ T.m.dom then T.m.refs n else 0 := by
  rw [known_find hR hG]
  by_cases hn : n ∈ T.m.dom
  · have e2 : findE T.m n (!false) = 0 := by unfold findE; rw [if_pos hn, if_neg (by simp)]
    obtain ⟨m, rfl, hm⟩ := dom_nat hR.ok hG hn
    rw [e2, if_neg (by decide), if_pos hn, Int.toNat_natCast, hR.refs m hm]
  · have e2 : findE T.m n (!false) = 34 := by unfold findE; rw [if_neg hn]
    rw [e2, if_pos (by decide), if_neg hn]
theorem find_dom {M : Fm} {n : Int} {b : Bool} (h : findE M n b = 0) : n ∈ M.dom := by
  refine Classical.byContradiction fun hn => ?_
  unfold findE at h
  rw [if_neg hn] at h
  cases h
theorem page64 {T : Tb} (hT : TbOk T) (n : Int) : (pageOf (T.m.dat n)).length = 64 := by
  cases h : T.m.dat n with
  | none => rfl
  | some d => exact hT.dat n d h
theorem Both.put {T : Tb} {R : RT} {n : Int} {b : Nat} {l : List Int} (h : Both T R) (hn : n ∈ T.m.dom) (hl : l.length = 64) : Both (T.wm (T.m.setDat n (some (b, l)))) (R.setPage n l) := by
  obtain ⟨m, rfl, hm⟩ := dom_nat h.rel.ok h.geo hn
  refine ⟨⟨⟨⟨h.rel.ok.m.nd, h.rel.ok.m.refs⟩, fun p hp => (h.rel.ok.pls p hp).of rfl, h.rel.ok.len, h.rel.ok.pool, ?_⟩, h.rel.ix, h.rel.pls, h.rel.len, h.rel.pos, h.rel.refs⟩, h.geo.wm rfl rfl, h.pgs.put h.geo h.rel.ok hm hl, h.dis⟩
  intro k d hd
  change (if k = (m : Int) then some (b, l) else T.m.dat k) = some d at hd
  split at hd
  · cases hd; exact hl
  · exact h.rel.ok.dat k d hd
theorem L11w {B H : AHeap} {As : List Asn} {t : Nat} {T : Tb} {an : Option Addr} {cn : Nat} {ns : List ByteArray} {cnt al : Int} {cg top : Bool} (hT : TbOk T) (hix : T.ix = ixOf T.pls) (hns : ns.length ≤ 1000) (hcb : I64 cnt)
    (hd : RD B (repT t T :: As) 1 (.slice an ns.length cn) (ns.map enS)) (hS : S B H (repT t T :: As)) :
    wpF C 11 [ptrV t, .agg ⟨reqC (.slice an ns.length cn) cnt al cg top⟩] H fun v H' => ∃ v0, v = .tuple ⟨[v0, .int .i64 (allocR T cnt al cg top ns).1]⟩ ∧
      S B H' (sl 1 v0 (i64s (allocR T cnt al cg top ns).2) :: repT t (T.wm ((allocR T cnt al cg top ns).2.foldl (takeF T.pls) T.m)) :: As) := by
  by_cases hc : cnt < 1 ∨ 4096 < cnt
  · have e : allocR T cnt al cg top ns = (34, []) := by unfold allocR; rw [if_pos hc]
    rw [e]
    refine wpF_ofW o11 rfl rfl ?_
    unfold ptrV reqC
    refine zsr ?_; refine wpO_cons ?_; refine op1_boxNS rfl rfl rfl hS ?_; intro p1 H1 hS; refine zw1 ?_; refine zw1 ?_; refine zns ?_; refine wp_seq ?_; refine wp_block ?_; refine zsr ?_; refine zw1 ?_; refine wpO_cons ?_; refine op1_bin_false rfl (by (conv => lhs; whnf) <;> rfl) (by (conv => lhs; whnf) <;> rfl) rfl ?_; refine zw1 ?_; refine zns ?_; refine wp_false rfl ?_; refine zsr ?_; refine wpO_cons ?_; refine op1_faddr0 rfl rfl ?_; refine wpO_cons ?_; refine op1_load rfl rfl (by exact S.g0 hS) rfl ?_; refine wpO_cons ?_; refine op1_lss rfl rfl rfl ?_; refine zw1 ?_; refine wpO_cons ?_
    refine op1_dec rfl (fun h1 => ?_) (fun h1 => ?_)
    · refine op1_skip rfl ?_; refine wpO_cons ?_; refine op1_skip rfl ?_; refine wpO_cons ?_; refine op1_skip rfl ?_; refine wpO_cons ?_; refine op1_pick_t rfl rfl (by (conv => lhs; whnf) <;> rfl) ?_; refine zw1 ?_; refine zns ?_; refine wp_true rfl ?_; refine zsr ?_; refine zw1 ?_; refine zw1 ?_; refine zns ?_; refine wp_ret ?_; refine block_ret ?_; refine seq_ret ?_; refine ret_of ?_; refine rk_tmp (by (conv => lhs; whnf) <;> rfl) ?_; refine rk_tmp (by (conv => lhs; whnf) <;> rfl) ?_; refine rk_nil ?_
      exact ⟨_, rfl, (S.drop hS).slNil⟩
    refine op1_faddr0 rfl rfl ?_; refine wpO_cons ?_; refine op1_load rfl rfl (by exact S.g0 hS) rfl ?_; refine wpO_cons ?_; refine op1_gtr rfl rfl rfl ?_; refine wpO_cons ?_; refine op1_pick_f rfl rfl (by (conv => lhs; whnf) <;> rfl) ?_; refine zw1 ?_; refine zns ?_
    refine wp_dec rfl (fun h2 => ?_) (fun h2 => ?_)
    · refine zsr ?_; refine zw1 ?_; refine zw1 ?_; refine zns ?_; refine wp_ret ?_; refine block_ret ?_; refine seq_ret ?_; refine ret_of ?_; refine rk_tmp (by (conv => lhs; whnf) <;> rfl) ?_; refine rk_tmp (by (conv => lhs; whnf) <;> rfl) ?_; refine rk_nil ?_
      exact ⟨_, rfl, (S.drop hS).slNil⟩
    · omega
  · exact L11 hT hix hns (by omega) hd hS

theorem L23a {B H : AHeap} {As : List Asn} {t q : Nat} {T : Tb} {R : RT} {x : ActF} (hk : x.kind.tmod 9 = 0 ∨ x.kind.tmod 9 = 1) (hA : ActOkF B x) (hn : x.ns.length ≤ 20) (hb : Both T R) (hS : S B H (repT t T :: repR q R :: As)) :
    wpF C 23 [ptrV t, ptrV q, .agg ⟨x.cells⟩] H fun v H' => v = .bool true ∧ ∃ T' R', Both T' R' ∧ S B H' (repT t T' :: repR q R' :: As) := by
  refine wpF_ofW o23 rfl rfl ?_
  unfold ptrV ActF.cells
  refine zsr ?_; refine wpO_cons ?_; refine op1_boxNS rfl rfl rfl hS ?_; intro p1 H1 hS; refine zw1 ?_; refine zns ?_; refine wp_seq ?_; refine zsr ?_; refine wpO_cons ?_; refine op1_faddr0 rfl rfl ?_; refine wpO_cons ?_; refine op1_load rfl rfl (by exact S.g0 hS) rfl ?_; refine wpO_cons ?_; refine op1_rem rfl rfl rfl (by omega) ?_; refine zns ?_; refine wp_block ?_
  refine wp_cut [32] (fun vs H' => vs = [.bool true] ∧ H1 = H') ?_ ?_
  · rcases hk with hk | hk
    · refine zsr ?_; refine wpO_cons ?_; refine op1_eqlI rfl rfl rfl ?_; refine zw1 ?_; refine zns ?_
      rw [hk]
      refine wp_true rfl ?_; refine wp_skip ?_; refine cut1 (by (conv => lhs; whnf) <;> rfl) ?_
      exact ⟨rfl, rfl⟩
    · refine zsr ?_; refine wpO_cons ?_; refine op1_eqlI rfl rfl rfl ?_; refine zw1 ?_; refine zns ?_
      rw [hk]
      refine wp_false rfl ?_; refine wp_region ?_; refine wpO_cons ?_; refine op1_eqlI_s rfl rfl rfl ?_; refine zw1 ?_; refine wpO_nil ?_; refine cut1 (by (conv => lhs; whnf) <;> rfl) ?_
      exact ⟨rfl, rfl⟩
  rintro vs2 T2 H2 ⟨rfl, rfl⟩
  refine wp_true rfl ?_; refine zsr ?_; refine zw1 ?_; refine wpO_cons ?_; refine op1_load_8 rfl rfl (by exact S.g0 hS) rfl rfl ?_; refine wpO_cons ?_; refine op1_call1 rfl (by (conv => lhs; whnf) <;> rfl) ?_
  refine wpF_mono (L18 (by omega) (RD.base hA.nr hA.nl) hS) ?_
  clear hS
  rintro _ H2 ⟨a', c', rfl, hS⟩
  refine wpO_cons ?_; refine op1_call2 rfl (by (conv => lhs; whnf) <;> rfl) (by (conv => lhs; whnf) <;> rfl) ?_
  refine wpF_mono (L11w hb.rel.ok hb.rel.ix (by omega) hA.n (RD.cons RD.head) (S.up2 hS)) ?_
  clear hS
  rintro _ H3 ⟨v0, rfl, hS⟩
  obtain ⟨he, ho, hb2⟩ := alloc_eq (cnt := x.n) (al := x.a) (cg := x.cg) (top := x.tp) (ns := x.ns) hb
  have hol := allocR_len T x.n x.a x.cg x.tp x.ns
  obtain ⟨er, her⟩ : ∃ z, z = (allocR T x.n x.a x.cg x.tp x.ns).1 := ⟨_, rfl⟩
  obtain ⟨out, hout⟩ : ∃ z, z = (allocR T x.n x.a x.cg x.tp x.ns).2 := ⟨_, rfl⟩
  rw [← her] at he
  rw [← hout] at ho hb2 hol hS
  rw [← her]
  obtain ⟨a0, c0, rfl⟩ := hS.i1
  refine zw1 ?_; refine wpO_cons ?_; refine op1_extract rfl rfl rfl ?_; refine wpO_cons ?_; refine op1_extract rfl rfl rfl ?_; refine zw1 ?_; refine zw1 ?_; refine zns ?_; refine zsr ?_; refine zw1 ?_; refine wpO_cons ?_; refine op1_faddr0 rfl rfl ?_; refine wpO_cons ?_; refine op1_load rfl rfl (by exact S.g3 hS) rfl ?_; refine wpO_cons ?_; refine op1_faddr0 rfl rfl ?_; refine wpO_cons ?_; refine op1_load rfl rfl (by exact S.g3 hS) rfl ?_; refine wpO_cons ?_; refine op1_faddr0 rfl rfl ?_; refine wpO_cons ?_; refine op1_load rfl rfl (by exact S.g3 hS) rfl ?_; refine wpO_cons ?_; refine op1_faddr0 rfl rfl ?_; refine wpO_cons ?_; refine op1_load rfl rfl (by exact S.g3 hS) rfl ?_; refine wpO_cons ?_; refine op1_faddr0 rfl rfl ?_; refine wpO_cons ?_; refine op1_load rfl rfl (by exact S.g3 hS) rfl ?_; refine wpO_cons ?_; refine op1_build rfl ?_; refine bk_one (by (conv => lhs; whnf) <;> rfl) rfl rfl rfl ?_; refine bk_one (by (conv => lhs; whnf) <;> rfl) rfl rfl rfl ?_; refine bk_one (by (conv => lhs; whnf) <;> rfl) rfl rfl rfl ?_; refine bk_one (by (conv => lhs; whnf) <;> rfl) rfl rfl rfl ?_; refine bk_one (by (conv => lhs; whnf) <;> rfl) rfl rfl rfl ?_; refine bk_nil ?_; refine wpO_cons ?_; refine op1_call2 rfl (by (conv => lhs; whnf) <;> rfl) (by (conv => lhs; whnf) <;> rfl) ?_
  refine wpF_mono (L38 (cnt := x.n) (al := x.a) (cg := x.cg) (top := x.tp) hb.rt hb.pgs.ok (by omega) hA.nr hA.nl (S.up4 hS)) ?_
  clear hS
  rw [he, ho]
  rintro _ H4 ⟨v1, rfl, hS⟩
  obtain ⟨a1, c1, rfl⟩ := hS.i1
  refine zw1 ?_; refine wpO_cons ?_; refine op1_extract rfl rfl rfl ?_; refine wpO_cons ?_; refine op1_extract rfl rfl rfl ?_; refine zw1 ?_; refine zw1 ?_; refine zns ?_; refine zsr ?_; refine zw1 ?_; refine zw1 ?_; refine wpO_cons ?_; refine op1_eqlI_s rfl rfl rfl ?_; refine zw1 ?_; refine zw1 ?_; refine zw1 ?_; refine wpO_cons ?_; refine op1_call2 rfl (by (conv => lhs; whnf) <;> rfl) (by (conv => lhs; whnf) <;> rfl) ?_
  obtain ⟨r0, hr0, _⟩ := (S.up2 hS).rd
  obtain ⟨r1, hr1, _⟩ := hS.rd
  refine wpF_mono (L34 hr0 (by omega) hr1 (by omega)) ?_
  rintro _ H5 ⟨rfl, rfl⟩
  rw [decide_eq_true rfl]
  refine wpO_cons ?_; refine op1_pick_t rfl rfl (by (conv => lhs; whnf) <;> rfl) ?_; refine zw1 ?_; refine zns ?_; refine wp_ret ?_; refine block_ret ?_; refine seq_ret ?_; refine ret_of ?_; refine rk_tmp (by (conv => lhs; whnf) <;> rfl) ?_; refine rk_nil ?_
  exact ⟨rfl, _, _, hb2, S.up1 (S.drop (S.up2 (S.drop (S.up2 (S.drop (S.up1 (S.drop hS))))))) ⟩

theorem L23b {B H : AHeap} {As : List Asn} {t q : Nat} {T : Tb} {R : RT} {x : ActF} (hk : x.kind.tmod 9 = 2) (hA : ActOkF B x) (hb : Both T R) (hS : S B H (repT t T :: repR q R :: As)) :
    wpF C 23 [ptrV t, ptrV q, .agg ⟨x.cells⟩] H fun v H' => v = .bool true ∧ ∃ T' R', Both T' R' ∧ S B H' (repT t T' :: repR q R' :: As) := by
  refine wpF_ofW o23 rfl rfl ?_
  unfold ptrV ActF.cells
  refine zsr ?_; refine wpO_cons ?_; refine op1_boxNS rfl rfl rfl hS ?_; intro p1 H1 hS; refine zw1 ?_; refine zns ?_; refine wp_seq ?_; refine zsr ?_; refine wpO_cons ?_; refine op1_faddr0 rfl rfl ?_; refine wpO_cons ?_; refine op1_load rfl rfl (by exact S.g0 hS) rfl ?_; refine wpO_cons ?_; refine op1_rem rfl rfl rfl (by omega) ?_; refine zns ?_; refine wp_block ?_; refine wp_seq ?_; refine zsr ?_; refine wpO_cons ?_; refine op1_eqlI rfl rfl rfl ?_; refine zw1 ?_; refine zns ?_
  rw [hk]
  refine wp_false rfl ?_; refine wp_region ?_; refine wpO_cons ?_; refine op1_eqlI rfl rfl rfl ?_; refine zw1 ?_; refine zns ?_; refine wp_false rfl ?_; refine zsr ?_; refine wpO_cons ?_; refine op1_eqlI_s rfl rfl rfl ?_; refine zw1 ?_; refine zns ?_; refine wp_true rfl ?_; refine wp_seq ?_; refine wp_regionD ?_; refine zd1 ?_; refine wpD_cons ?_; refine op1_faddr0 rfl rfl ?_; refine wpD_cons ?_; refine op1_load rfl rfl (by exact S.g0 hS) rfl ?_; refine zd1 ?_; refine wpD_cons ?_; refine op1_faddr0 rfl rfl ?_; refine wpD_cons ?_; refine op1_load rfl rfl (by exact S.g0 hS) rfl ?_; refine wpD_cons ?_; refine op1_call2 rfl (by (conv => lhs; whnf) <;> rfl) (by (conv => lhs; whnf) <;> rfl) ?_
  refine wpF_mono (L26 hb.rel.ok (S.up1 hS)) ?_
  rintro _ H2 ⟨rfl, hS⟩
  refine wpD_cons ?_; refine op1_call2 rfl (by (conv => lhs; whnf) <;> rfl) (by (conv => lhs; whnf) <;> rfl) ?_
  refine wpF_mono (L39 hb.rt (S.up2 hS)) ?_
  rintro _ H3 ⟨rfl, hS⟩
  obtain ⟨he, h1, h2⟩ := ref_eq (n := x.a) hb.rel hb.geo
  rw [he]
  refine wpD_cons ?_; refine op1_eqlI_s rfl rfl rfl ?_; refine zd1 ?_; refine wpD_nil ?_; refine dk_of ?_ ?_; (iterate 2 refine chk_skip ?_); refine chk_cons 8 rfl rfl rfl ?_ ?_; refine chkFs_cons 4 rfl rfl ?_ ?_; exact chk_load rfl (by exact S.g0 (by assumption)) rfl rfl; exact chkFs_nil; (iterate 2 refine chk_skip ?_); refine chk_cons 5 rfl rfl rfl ?_ ?_; refine chkFs_cons 4 rfl rfl ?_ ?_; exact chk_load rfl (by exact S.g0 (by assumption)) rfl rfl; refine chkFs_cons 3 rfl rfl ?_ ?_; exact chk_load rfl (by exact S.g1 (by assumption)) rfl rfl; exact chkFs_nil; (iterate 4 refine chk_skip ?_); exact chk_end; refine seq_normal ?_; refine wp_ret ?_; refine block_ret ?_; refine seq_ret ?_; refine ret_of ?_; refine rk_tmp (by (conv => lhs; whnf) <;> rfl) ?_; refine rk_nil ?_
  exact ⟨rfl, _, _, ⟨h1, h2, hb.pgs.of (refP_dom _ _).1 (refP_dom _ _).2 (refR_pgs _ _), hb.dis⟩, S.up1 (S.drop (S.up2 hS))⟩

theorem L23c {B H : AHeap} {As : List Asn} {t q : Nat} {T : Tb} {R : RT} {x : ActF} (hk : x.kind.tmod 9 = 3) (hA : ActOkF B x) (hb : Both T R) (hS : S B H (repT t T :: repR q R :: As)) :
    wpF C 23 [ptrV t, ptrV q, .agg ⟨x.cells⟩] H fun v H' => v = .bool true ∧ ∃ T' R', Both T' R' ∧ S B H' (repT t T' :: repR q R' :: As) := by
  refine wpF_ofW o23 rfl rfl ?_
  unfold ptrV ActF.cells
  refine zsr ?_; refine wpO_cons ?_; refine op1_boxNS rfl rfl rfl hS ?_; intro p1 H1 hS; refine zw1 ?_; refine zns ?_; refine wp_seq ?_; refine zsr ?_; refine wpO_cons ?_; refine op1_faddr0 rfl rfl ?_; refine wpO_cons ?_; refine op1_load rfl rfl (by exact S.g0 hS) rfl ?_; refine wpO_cons ?_; refine op1_rem rfl rfl rfl (by omega) ?_; refine zns ?_; refine wp_block ?_; refine wp_seq ?_; refine zsr ?_; refine wpO_cons ?_; refine op1_eqlI rfl rfl rfl ?_; refine zw1 ?_; refine zns ?_
  rw [hk]
  refine wp_false rfl ?_; refine wp_region ?_; refine wpO_cons ?_; refine op1_eqlI rfl rfl rfl ?_; refine zw1 ?_; refine zns ?_; refine wp_false rfl ?_; refine zsr ?_; refine wpO_cons ?_; refine op1_eqlI rfl rfl rfl ?_; refine zw1 ?_; refine zns ?_; refine wp_false rfl ?_; refine zsr ?_; refine wpO_cons ?_; refine op1_eqlI_s rfl rfl rfl ?_; refine zw1 ?_; refine zns ?_; refine wp_true rfl ?_; refine wp_seq ?_; refine wp_regionD ?_; refine zd1 ?_; refine wpD_cons ?_; refine op1_faddr0 rfl rfl ?_; refine wpD_cons ?_; refine op1_load rfl rfl (by exact S.g0 hS) rfl ?_; refine zd1 ?_; refine wpD_cons ?_; refine op1_faddr0 rfl rfl ?_; refine wpD_cons ?_; refine op1_load rfl rfl (by exact S.g0 hS) rfl ?_; refine wpD_cons ?_; refine op1_call2 rfl (by (conv => lhs; whnf) <;> rfl) (by (conv => lhs; whnf) <;> rfl) ?_
  refine wpF_mono (L12 hb.rel.ok.m (S.up1 hS)) ?_
  rintro _ H2 ⟨rfl, hS⟩
  refine wpD_cons ?_; refine op1_call2 rfl (by (conv => lhs; whnf) <;> rfl) (by (conv => lhs; whnf) <;> rfl) ?_
  refine wpF_mono (L40 hb.rt (S.up2 hS)) ?_
  rintro _ H3 ⟨rfl, hS⟩
  obtain ⟨he, h1, h2⟩ := unref_eq (n := x.a) hb.rel hb.geo
  rw [he]
  refine wpD_cons ?_; refine op1_eqlI_s rfl rfl rfl ?_; refine zd1 ?_; refine wpD_nil ?_; refine dk_of ?_ ?_; (iterate 2 refine chk_skip ?_); refine chk_cons 8 rfl rfl rfl ?_ ?_; refine chkFs_cons 4 rfl rfl ?_ ?_; exact chk_load rfl (by exact S.g0 (by assumption)) rfl rfl; exact chkFs_nil; (iterate 2 refine chk_skip ?_); refine chk_cons 5 rfl rfl rfl ?_ ?_; refine chkFs_cons 4 rfl rfl ?_ ?_; exact chk_load rfl (by exact S.g0 (by assumption)) rfl rfl; refine chkFs_cons 3 rfl rfl ?_ ?_; exact chk_load rfl (by exact S.g1 (by assumption)) rfl rfl; exact chkFs_nil; (iterate 4 refine chk_skip ?_); exact chk_end; refine seq_normal ?_; refine wp_ret ?_; refine block_ret ?_; refine seq_ret ?_; refine ret_of ?_; refine rk_tmp (by (conv => lhs; whnf) <;> rfl) ?_; refine rk_nil ?_
  exact ⟨rfl, _, _, ⟨h1, h2, hb.pgs.of unref_dom.1 unref_dom.2.2 (unrefR_pgs _ _), hb.dis⟩, S.up1 (S.drop (S.up2 hS))⟩

theorem L23d {B H : AHeap} {As : List Asn} {t q : Nat} {T : Tb} {R : RT} {x : ActF} (hk : x.kind.tmod 9 = 4) (hA : ActOkF B x) (hb : Both T R) (hS : S B H (repT t T :: repR q R :: As)) :
    wpF C 23 [ptrV t, ptrV q, .agg ⟨x.cells⟩] H fun v H' => v = .bool true ∧ ∃ T' R', Both T' R' ∧ S B H' (repT t T' :: repR q R' :: As) := by
  refine wpF_ofW o23 rfl rfl ?_
  unfold ptrV ActF.cells
  refine zsr ?_; refine wpO_cons ?_; refine op1_boxNS rfl rfl rfl hS ?_; intro p1 H1 hS; refine zw1 ?_; refine zns ?_; refine wp_seq ?_; refine zsr ?_; refine wpO_cons ?_; refine op1_faddr0 rfl rfl ?_; refine wpO_cons ?_; refine op1_load rfl rfl (by exact S.g0 hS) rfl ?_; refine wpO_cons ?_; refine op1_rem rfl rfl rfl (by omega) ?_; refine zns ?_; refine wp_block ?_; refine wp_seq ?_; refine zsr ?_; refine wpO_cons ?_; refine op1_eqlI rfl rfl rfl ?_; refine zw1 ?_; refine zns ?_
  rw [hk]
  refine wp_false rfl ?_; refine wp_region ?_; refine wpO_cons ?_; refine op1_eqlI rfl rfl rfl ?_; refine zw1 ?_; refine zns ?_; refine wp_false rfl ?_; refine zsr ?_; refine wpO_cons ?_; refine op1_eqlI rfl rfl rfl ?_; refine zw1 ?_; refine zns ?_; refine wp_false rfl ?_; refine zsr ?_; refine wpO_cons ?_; refine op1_eqlI rfl rfl rfl ?_; refine zw1 ?_; refine zns ?_; refine wp_false rfl ?_; refine zsr ?_; refine wpO_cons ?_; refine op1_eqlI_s rfl rfl rfl ?_; refine zw1 ?_; refine zns ?_; refine wp_true rfl ?_; refine zsr ?_; refine zw1 ?_; refine wpO_cons ?_; refine op1_faddr0 rfl rfl ?_; refine wpO_cons ?_; refine op1_load rfl rfl (by exact S.g0 hS) rfl ?_; refine wpO_cons ?_; refine op1_call2 rfl (by (conv => lhs; whnf) <;> rfl) (by (conv => lhs; whnf) <;> rfl) ?_
  refine wpF_mono (L24 (n := x.a) hb.rel.ok (S.up1 hS)) ?_
  rintro _ H2 ⟨rfl, hS⟩
  refine zw1 ?_; refine wpO_cons ?_; refine op1_extract rfl rfl rfl ?_; refine wpO_cons ?_; refine op1_extract rfl rfl rfl ?_; refine zw1 ?_; refine zw1 ?_; refine zns ?_; refine zsr ?_; refine zw1 ?_; refine wpO_cons ?_; refine op1_faddr0 rfl rfl ?_; refine wpO_cons ?_; refine op1_load rfl rfl (by exact S.g1 hS) rfl ?_; refine wpO_cons ?_; refine op1_call2 rfl (by (conv => lhs; whnf) <;> rfl) (by (conv => lhs; whnf) <;> rfl) ?_
  refine wpF_mono (L41 (n := x.a) hb.rt (S.up2 hS)) ?_
  rw [refs_val hb.rel hb.geo, known_find hb.rel hb.geo, Bool.not_false]
  rintro _ H3 ⟨rfl, hS⟩
  refine zw1 ?_; refine wpO_cons ?_; refine op1_extract rfl rfl rfl ?_; refine wpO_cons ?_; refine op1_extract rfl rfl rfl ?_; refine zw1 ?_; refine zw1 ?_; refine zns ?_; refine zsr ?_; refine zw1 ?_; refine wpO_cons ?_; refine op1_faddr0 rfl rfl ?_; refine wpO_cons ?_; refine op1_load rfl rfl (by exact S.g2 hS) rfl ?_; refine wpO_cons ?_; refine op1_call2 rfl (by (conv => lhs; whnf) <;> rfl) (by (conv => lhs; whnf) <;> rfl) ?_
  refine wpF_mono (L25 (n := x.a) hb.rel.ok (S.up1 hS)) ?_
  rintro _ H4 ⟨rfl, hS⟩
  refine zw1 ?_; refine wpO_cons ?_; refine op1_extract rfl rfl rfl ?_; refine wpO_cons ?_; refine op1_extract rfl rfl rfl ?_; refine zw1 ?_; refine zw1 ?_; refine zns ?_; refine zsr ?_; refine zw1 ?_; refine wpO_cons ?_; refine op1_faddr0 rfl rfl ?_; refine wpO_cons ?_; refine op1_load rfl rfl (by exact S.g2 hS) rfl ?_; refine wpO_cons ?_; refine op1_call2 rfl (by (conv => lhs; whnf) <;> rfl) (by (conv => lhs; whnf) <;> rfl) ?_
  refine wpF_mono (L42 (n := x.a) hb.rt (S.up1 hS)) ?_
  rw [nm_eq hb.rel hb.geo, known_find hb.rel hb.geo, Bool.not_false]
  rintro _ H5 ⟨rfl, hS⟩
  refine zw1 ?_; refine wpO_cons ?_; refine op1_extract rfl rfl rfl ?_; refine wpO_cons ?_; refine op1_extract rfl rfl rfl ?_; refine zw1 ?_; refine zw1 ?_; refine zns ?_; refine zsr ?_; refine zw1 ?_; refine zw1 ?_; refine wpO_cons ?_; refine op1_eqlI_s rfl rfl rfl ?_; refine zw1 ?_; refine zw1 ?_; refine zw1 ?_; refine wpO_cons ?_; refine op1_eqlI_s rfl rfl rfl ?_; refine wpO_cons ?_; refine op1_pick_t rfl rfl (by (conv => lhs; whnf) <;> rfl) ?_; refine zw1 ?_; refine zw1 ?_; refine zw1 ?_; refine wpO_cons ?_; refine op1_eqlS rfl rfl rfl ?_; refine wpO_cons ?_; refine op1_pick_t rfl rfl (by (conv => lhs; whnf) <;> rfl) ?_; refine zw1 ?_; refine wpO_cons ?_
  rw [show ((nmT T x.a).toList == (nmT T x.a).toList) = true by simp]
  refine op1_mov rfl (by (conv => lhs; whnf) <;> rfl) ?_; refine zw1 ?_; refine wpO_cons ?_; refine op1_eqlI_s rfl rfl rfl ?_; refine wpO_cons ?_; refine op1_pick_t rfl rfl (by (conv => lhs; whnf) <;> rfl) ?_; refine zw1 ?_; refine zns ?_; refine wp_ret ?_; refine block_ret ?_; refine seq_ret ?_; refine ret_of ?_; refine rk_tmp (by (conv => lhs; whnf) <;> rfl) ?_; refine rk_nil ?_
  exact ⟨rfl, _, _, hb, S.up1 (S.drop (S.up2 hS))⟩

theorem L23e {B H : AHeap} {As : List Asn} {t q : Nat} {T : Tb} {R : RT} {x : ActF} (hk : x.kind.tmod 9 = 5) (hA : ActOkF B x) (hb : Both T R) (hS : S B H (repT t T :: repR q R :: As)) :
    wpF C 23 [ptrV t, ptrV q, .agg ⟨x.cells⟩] H fun v H' => v = .bool true ∧ ∃ T' R', Both T' R' ∧ S B H' (repT t T' :: repR q R' :: As) := by
  refine wpF_ofW o23 rfl rfl ?_
  unfold ptrV ActF.cells
  refine zsr ?_; refine wpO_cons ?_; refine op1_boxNS rfl rfl rfl hS ?_; intro p1 H1 hS; refine zw1 ?_; refine zns ?_; refine wp_seq ?_; refine zsr ?_; refine wpO_cons ?_; refine op1_faddr0 rfl rfl ?_; refine wpO_cons ?_; refine op1_load rfl rfl (by exact S.g0 hS) rfl ?_; refine wpO_cons ?_; refine op1_rem rfl rfl rfl (by omega) ?_; refine zns ?_; refine wp_block ?_; refine wp_seq ?_; refine zsr ?_; refine wpO_cons ?_; refine op1_eqlI rfl rfl rfl ?_; refine zw1 ?_; refine zns ?_
  rw [hk]
  refine wp_false rfl ?_; refine wp_region ?_; refine wpO_cons ?_; refine op1_eqlI rfl rfl rfl ?_; refine zw1 ?_; refine zns ?_; refine wp_false rfl ?_; refine zsr ?_; refine wpO_cons ?_; refine op1_eqlI rfl rfl rfl ?_; refine zw1 ?_; refine zns ?_; refine wp_false rfl ?_; refine zsr ?_; refine wpO_cons ?_; refine op1_eqlI rfl rfl rfl ?_; refine zw1 ?_; refine zns ?_; refine wp_false rfl ?_; refine zsr ?_; refine wpO_cons ?_; refine op1_eqlI rfl rfl rfl ?_; refine zw1 ?_; refine zns ?_; refine wp_false rfl ?_; refine zsr ?_; refine wpO_cons ?_; refine op1_eqlI_s rfl rfl rfl ?_; refine zw1 ?_; refine zns ?_; refine wp_true rfl ?_; refine zsr ?_; refine zw1 ?_; refine wpO_cons ?_; refine op1_faddr0 rfl rfl ?_; refine wpO_cons ?_; refine op1_load rfl rfl (by exact S.g0 hS) rfl ?_; refine wpO_cons ?_; refine op1_faddr0 rfl rfl ?_; refine wpO_cons ?_; refine op1_load rfl rfl (by exact S.g0 hS) rfl ?_; refine wpO_cons ?_; refine op1_faddr0 rfl rfl ?_; refine wpO_cons ?_; refine op1_load rfl rfl (by exact S.g0 hS) rfl ?_; refine wpO_cons ?_; refine op1_call4 rfl (by (conv => lhs; whnf) <;> rfl) (by (conv => lhs; whnf) <;> rfl) (by (conv => lhs; whnf) <;> rfl) (by (conv => lhs; whnf) <;> rfl) ?_
  refine wpF_mono (L21w (n := x.a) (off := x.b) (k := x.n) hA.n hb.rel.ok (S.up1 hS)) ?_
  rintro _ H2 ⟨v0, rfl, hS⟩
  obtain ⟨a0, c0, rfl⟩ := hS.u1
  refine zw1 ?_; refine wpO_cons ?_; refine op1_extract rfl rfl rfl ?_; refine wpO_cons ?_; refine op1_extract rfl rfl rfl ?_; refine zw1 ?_; refine zw1 ?_; refine zns ?_; refine zsr ?_; refine zw1 ?_; refine wpO_cons ?_; refine op1_faddr0 rfl rfl ?_; refine wpO_cons ?_; refine op1_load rfl rfl (by exact S.g2 hS) rfl ?_; refine wpO_cons ?_; refine op1_faddr0 rfl rfl ?_; refine wpO_cons ?_; refine op1_load rfl rfl (by exact S.g2 hS) rfl ?_; refine wpO_cons ?_; refine op1_faddr0 rfl rfl ?_; refine wpO_cons ?_; refine op1_load rfl rfl (by exact S.g2 hS) rfl ?_; refine wpO_cons ?_; refine op1_call4 rfl (by (conv => lhs; whnf) <;> rfl) (by (conv => lhs; whnf) <;> rfl) (by (conv => lhs; whnf) <;> rfl) (by (conv => lhs; whnf) <;> rfl) ?_
  refine wpF_mono (L43 (n := x.a) (off := x.b) (k := x.n) hb.rt hb.pgs.ok ⟨hA.b, hA.n⟩ (S.up3 hS)) ?_
  rw [io_eq hb.rel hb.geo, read_eq hb.rel hb.geo hb.pgs]
  rintro _ H3 ⟨v1, rfl, hS⟩
  obtain ⟨a1, c1, rfl⟩ := hS.u1
  refine zw1 ?_; refine wpO_cons ?_; refine op1_extract rfl rfl rfl ?_; refine wpO_cons ?_; refine op1_extract rfl rfl rfl ?_; refine zw1 ?_; refine zw1 ?_; refine zns ?_; refine zsr ?_; refine zw1 ?_; refine wpO_cons ?_
  obtain ⟨r0, hr0, _⟩ := (S.up2 hS).rd
  obtain ⟨r1, hr1, _⟩ := hS.rd
  refine op1_b2s rfl (by (conv => lhs; whnf) <;> rfl) hr0.b2sU ?_
  refine zw1 ?_; refine wpO_cons ?_
  refine op1_b2s rfl (by (conv => lhs; whnf) <;> rfl) hr1.b2sU ?_
  refine wpO_cons ?_
  refine op1_eqlSD rfl rfl rfl ?_
  rw [decide_eq_true rfl]
  refine zw1 ?_; refine zw1 ?_; refine zw1 ?_; refine wpO_cons ?_; refine op1_eqlI_s rfl rfl rfl ?_; refine wpO_cons ?_; refine op1_pick_t rfl rfl (by (conv => lhs; whnf) <;> rfl) ?_; refine zw1 ?_; refine zns ?_; refine wp_ret ?_; refine block_ret ?_; refine seq_ret ?_; refine ret_of ?_; refine rk_tmp (by (conv => lhs; whnf) <;> rfl) ?_; refine rk_nil ?_
  exact ⟨rfl, _, _, hb, S.up1 (S.drop (S.up2 (S.drop (S.up1 (S.drop hS)))))⟩

theorem L23f {B H : AHeap} {As : List Asn} {t q : Nat} {T : Tb} {R : RT} {x : ActF} (hk : x.kind.tmod 9 = 6) (hA : ActOkF B x) (hdl : x.d.length ≤ 200) (hb : Both T R) (hS : S B H (repT t T :: repR q R :: As)) :
    wpF C 23 [ptrV t, ptrV q, .agg ⟨x.cells⟩] H fun v H' => v = .bool true ∧ ∃ T' R', Both T' R' ∧ S B H' (repT t T' :: repR q R' :: As) := by
  refine wpF_ofW o23 rfl rfl ?_
  unfold ptrV ActF.cells
  refine zsr ?_; refine wpO_cons ?_; refine op1_boxNS rfl rfl rfl hS ?_; intro p1 H1 hS; refine zw1 ?_; refine zns ?_; refine wp_seq ?_; refine zsr ?_; refine wpO_cons ?_; refine op1_faddr0 rfl rfl ?_; refine wpO_cons ?_; refine op1_load rfl rfl (by exact S.g0 hS) rfl ?_; refine wpO_cons ?_; refine op1_rem rfl rfl rfl (by omega) ?_; refine zns ?_; refine wp_block ?_; refine wp_seq ?_; refine zsr ?_; refine wpO_cons ?_; refine op1_eqlI rfl rfl rfl ?_; refine zw1 ?_; refine zns ?_
  rw [hk]
  refine wp_false rfl ?_; refine wp_region ?_; refine wpO_cons ?_; refine op1_eqlI rfl rfl rfl ?_; refine zw1 ?_; refine zns ?_; refine wp_false rfl ?_; refine zsr ?_; refine wpO_cons ?_; refine op1_eqlI rfl rfl rfl ?_; refine zw1 ?_; refine zns ?_; refine wp_false rfl ?_; refine zsr ?_; refine wpO_cons ?_; refine op1_eqlI rfl rfl rfl ?_; refine zw1 ?_; refine zns ?_; refine wp_false rfl ?_; refine zsr ?_; refine wpO_cons ?_; refine op1_eqlI rfl rfl rfl ?_; refine zw1 ?_; refine zns ?_; refine wp_false rfl ?_; refine zsr ?_; refine wpO_cons ?_; refine op1_eqlI rfl rfl rfl ?_; refine zw1 ?_; refine zns ?_; refine wp_false rfl ?_; refine zsr ?_; refine wpO_cons ?_; refine op1_eqlI_s rfl rfl rfl ?_; refine zw1 ?_; refine zns ?_; refine wp_true rfl ?_; refine wp_seq ?_; refine wp_regionD ?_; refine zd1 ?_; refine wpD_cons ?_; refine op1_faddr0 rfl rfl ?_; refine wpD_cons ?_; refine op1_load rfl rfl (by exact S.g0 hS) rfl ?_; refine wpD_cons ?_; refine op1_faddr0 rfl rfl ?_; refine wpD_cons ?_; refine op1_load rfl rfl (by exact S.g0 hS) rfl ?_; refine wpD_cons ?_; refine op1_bsliceS rfl hS ?_; refine bk_nil ?_; intro p2 H2 hS; refine wpD_cons ?_; refine op1_faddr0 rfl rfl ?_; refine wpD_cons ?_; refine op1_load rfl rfl (by exact S.g1 hS) rfl ?_; refine zd1 ?_; refine wpD_cons ?_; refine op1_faddr0 rfl rfl ?_; refine wpD_cons ?_; refine op1_load rfl rfl (by exact S.g1 hS) rfl ?_; refine wpD_cons ?_; refine op1_faddr0 rfl rfl ?_; refine wpD_cons ?_; refine op1_load rfl rfl (by exact S.g1 hS) rfl ?_; refine wpD_cons ?_; refine op1_faddr0 rfl rfl ?_; refine wpD_cons ?_; refine op1_load rfl rfl (by exact S.g1 hS) rfl ?_; refine wpD_cons ?_
  have hS0 := hS
  replace hS := S.slNew (l := 0) (es := 1) hS rfl
  refine op1_appRS rfl rfl (by (conv => lhs; whnf) <;> rfl) rfl (hS.rdB hA.dr hA.dl) (by simp) (u8s_one _) hS (by omega) ?_
  rw [List.nil_append, Nat.zero_add]
  intro a1 c1 H4 hS
  refine wpD_cons ?_; refine op1_call4 rfl (by (conv => lhs; whnf) <;> rfl) (by (conv => lhs; whnf) <;> rfl) (by (conv => lhs; whnf) <;> rfl) (by (conv => lhs; whnf) <;> rfl) ?_
  refine wpF_mono (L20 (n := x.a) (off := x.b) hb.rel.ok RD.head (by omega) (S.up2 hS)) ?_
  have ew : writeR R x.a x.b x.d = if ioE T.m x.a x.b x.d.length ≠ 0 then (ioE T.m x.a x.b x.d.length, R) else (0, R.setPage x.a (putAt (R.page x.a) x.b.toNat x.d)) := by
    rw [← io_eq hb.rel hb.geo]
    unfold writeR readE
    by_cases h1 : knownE R x.a true ≠ 0
    · rw [if_pos h1, if_pos h1, if_pos h1]
    · rw [if_neg h1, if_neg h1]
      by_cases h2 : InPage x.b x.d.length
      · rw [if_pos h2, if_pos h2, if_neg (by simp)]
      · rw [if_neg h2, if_neg h2, if_pos (by decide)]
  rintro _ H5 ⟨rfl, hno, hyes⟩
  by_cases he : ioE T.m x.a x.b x.d.length ≠ 0
  · have hS2 := hno he
    rw [if_pos he] at ew
    refine wpD_cons ?_; refine op1_call4 rfl (by (conv => lhs; whnf) <;> rfl) (by (conv => lhs; whnf) <;> rfl) (by (conv => lhs; whnf) <;> rfl) (by (conv => lhs; whnf) <;> rfl) ?_
    refine wpF_mono (L44 (n := x.a) (off := x.b) hb.rt hb.pgs.ok hA.b (by omega) (RD.base hA.dr hA.dl) (S.up3 hS2)) ?_
    rw [ew]
    rintro _ H6 ⟨rfl, hS⟩
    refine wpD_cons ?_; refine op1_eqlI_s rfl rfl rfl ?_; refine zd1 ?_; refine wpD_nil ?_; refine dk_of ?_ ?_; (iterate 2 refine chk_skip ?_); refine chk_cons 18 rfl rfl rfl ?_ ?_; refine chkFs_cons 5 rfl rfl ?_ ?_; exact chk_load rfl (by exact S.g1 (by assumption)) rfl rfl; refine chkFs_cons 4 rfl rfl ?_ ?_; exact chk_load rfl (by exact S.g1 (by assumption)) rfl rfl; exact chkFs_nil; refine chk_skip ?_; refine chk_cons 16 rfl rfl rfl ?_ ?_; refine chkFs_cons 5 rfl rfl ?_ ?_; exact chk_load rfl (by exact S.g1 (by assumption)) rfl rfl; refine chkFs_cons 4 rfl rfl ?_ ?_; exact chk_load rfl (by exact S.g1 (by assumption)) rfl rfl; exact chkFs_nil; (iterate 2 refine chk_skip ?_); refine chk_cons 13 rfl rfl rfl ?_ ?_; refine chkFs_cons 5 rfl rfl ?_ ?_; exact chk_load rfl (by exact S.g1 (by assumption)) rfl rfl; exact chkFs_nil; (iterate 2 refine chk_skip ?_); refine chk_cons 10 rfl rfl rfl ?_ ?_; refine chkFs_cons 5 rfl rfl ?_ ?_; exact chk_load rfl (by exact S.g1 (by assumption)) rfl rfl; refine chkFs_cons 4 rfl rfl ?_ ?_; exact chk_load rfl (by exact S.g1 (by assumption)) rfl rfl; refine chkFs_cons 3 rfl rfl ?_ ?_; exact chk_load rfl (by exact S.g2 hS2) rfl rfl; exact chkFs_nil; refine chk_skip ?_; refine chk_cons 8 rfl rfl rfl ?_ ?_; refine chkFs_cons 5 rfl rfl ?_ ?_; exact chk_load rfl (by exact S.g1 (by assumption)) rfl rfl; refine chkFs_cons 4 rfl rfl ?_ ?_; exact chk_load rfl (by exact S.g1 (by assumption)) rfl rfl; refine chkFs_cons 3 rfl rfl ?_ ?_; exact chk_load rfl (by exact S.g2 hS2) rfl rfl; exact chkFs_nil; refine chk_skip ?_; refine chk_cons 6 rfl rfl rfl ?_ ?_; refine chkFs_cons 5 rfl rfl ?_ ?_; exact chk_load rfl (by exact S.g1 (by assumption)) rfl rfl; refine chkFs_cons 4 rfl rfl ?_ ?_; exact chk_load rfl (by exact S.g1 (by assumption)) rfl rfl; refine chkFs_cons 3 rfl rfl ?_ ?_; exact chk_load rfl (by exact S.g2 hS2) rfl rfl; exact chkFs_nil; (iterate 5 refine chk_skip ?_); exact chk_end; refine seq_normal ?_; refine wp_ret ?_; refine block_ret ?_; refine seq_ret ?_; refine ret_of ?_; refine rk_tmp (by (conv => lhs; whnf) <;> rfl) ?_; refine rk_nil ?_
    exact ⟨rfl, _, _, hb, S.up1 (S.drop (S.up2 (S.drop (S.up2 hS))))⟩
  · rw [if_neg he] at ew
    have he0 := Classical.not_not.1 he
    obtain ⟨p, hS2⟩ := hyes he0
    have hxm := io_dom he0
    have hpa : pageOf (T.m.dat x.a) = R.page x.a := hb.pgs.eq _ hxm
    rw [← hpa] at ew
    have hin : InPage x.b x.d.length := by
      refine Classical.byContradiction fun h => he ?_
      unfold ioE
      rw [if_pos hxm]
      rw [if_neg h]
      split <;> decide
    have hb2 : Both (T.wm (T.m.setDat x.a (some (p, putAt (pageOf (T.m.dat x.a)) x.b.toNat x.d)))) (R.setPage x.a (putAt (pageOf (T.m.dat x.a)) x.b.toNat x.d)) := hb.put hxm (by
      have h64 := page64 hb.rel.ok x.a
      unfold InPage at hin
      unfold putAt
      rw [List.length_append, List.length_append, List.length_take, List.length_drop]
      omega)
    rw [he0]
    refine wpD_cons ?_; refine op1_call4 rfl (by (conv => lhs; whnf) <;> rfl) (by (conv => lhs; whnf) <;> rfl) (by (conv => lhs; whnf) <;> rfl) (by (conv => lhs; whnf) <;> rfl) ?_
    refine wpF_mono (L44 (n := x.a) (off := x.b) hb.rt hb.pgs.ok hA.b (by omega) (RD.base hA.dr hA.dl) (S.up3 hS2)) ?_
    rw [ew]
    rintro _ H6 ⟨rfl, hS⟩
    refine wpD_cons ?_; refine op1_eqlI_s rfl rfl rfl ?_; refine zd1 ?_; refine wpD_nil ?_; refine dk_of ?_ ?_; (iterate 2 refine chk_skip ?_); refine chk_cons 18 rfl rfl rfl ?_ ?_; refine chkFs_cons 5 rfl rfl ?_ ?_; exact chk_load rfl (by exact S.g1 (by assumption)) rfl rfl; refine chkFs_cons 4 rfl rfl ?_ ?_; exact chk_load rfl (by exact S.g1 (by assumption)) rfl rfl; exact chkFs_nil; refine chk_skip ?_; refine chk_cons 16 rfl rfl rfl ?_ ?_; refine chkFs_cons 5 rfl rfl ?_ ?_; exact chk_load rfl (by exact S.g1 (by assumption)) rfl rfl; refine chkFs_cons 4 rfl rfl ?_ ?_; exact chk_load rfl (by exact S.g1 (by assumption)) rfl rfl; exact chkFs_nil; (iterate 2 refine chk_skip ?_); refine chk_cons 13 rfl rfl rfl ?_ ?_; refine chkFs_cons 5 rfl rfl ?_ ?_; exact chk_load rfl (by exact S.g1 (by assumption)) rfl rfl; exact chkFs_nil; (iterate 2 refine chk_skip ?_); refine chk_cons 10 rfl rfl rfl ?_ ?_; refine chkFs_cons 5 rfl rfl ?_ ?_; exact chk_load rfl (by exact S.g1 (by assumption)) rfl rfl; refine chkFs_cons 4 rfl rfl ?_ ?_; exact chk_load rfl (by exact S.g1 (by assumption)) rfl rfl; refine chkFs_cons 3 rfl rfl ?_ ?_; exact chk_load rfl (by exact S.g2 hS2) rfl rfl; exact chkFs_nil; refine chk_skip ?_; refine chk_cons 8 rfl rfl rfl ?_ ?_; refine chkFs_cons 5 rfl rfl ?_ ?_; exact chk_load rfl (by exact S.g1 (by assumption)) rfl rfl; refine chkFs_cons 4 rfl rfl ?_ ?_; exact chk_load rfl (by exact S.g1 (by assumption)) rfl rfl; refine chkFs_cons 3 rfl rfl ?_ ?_; exact chk_load rfl (by exact S.g2 hS2) rfl rfl; exact chkFs_nil; refine chk_skip ?_; refine chk_cons 6 rfl rfl rfl ?_ ?_; refine chkFs_cons 5 rfl rfl ?_ ?_; exact chk_load rfl (by exact S.g1 (by assumption)) rfl rfl; refine chkFs_cons 4 rfl rfl ?_ ?_; exact chk_load rfl (by exact S.g1 (by assumption)) rfl rfl; refine chkFs_cons 3 rfl rfl ?_ ?_; exact chk_load rfl (by exact S.g2 hS2) rfl rfl; exact chkFs_nil; (iterate 5 refine chk_skip ?_); exact chk_end; refine seq_normal ?_; refine wp_ret ?_; refine block_ret ?_; refine seq_ret ?_; refine ret_of ?_; refine rk_tmp (by (conv => lhs; whnf) <;> rfl) ?_; refine rk_nil ?_
    exact ⟨rfl, _, _, hb2, S.up1 (S.drop (S.up2 (S.drop (S.up2 hS))))⟩

theorem L23g {B H : AHeap} {As : List Asn} {t q : Nat} {T : Tb} {R : RT} {x : ActF} (hk : x.kind.tmod 9 = 7) (hA : ActOkF B x) (hb : Both T R) (hS : S B H (repT t T :: repR q R :: As)) :
    wpF C 23 [ptrV t, ptrV q, .agg ⟨x.cells⟩] H fun v H' => v = .bool true ∧ ∃ T' R', Both T' R' ∧ S B H' (repT t T' :: repR q R' :: As) := by
  refine wpF_ofW o23 rfl rfl ?_
  unfold ptrV ActF.cells
  refine zsr ?_; refine wpO_cons ?_; refine op1_boxNS rfl rfl rfl hS ?_; intro p1 H1 hS; refine zw1 ?_; refine zns ?_; refine wp_seq ?_; refine zsr ?_; refine wpO_cons ?_; refine op1_faddr0 rfl rfl ?_; refine wpO_cons ?_; refine op1_load rfl rfl (by exact S.g0 hS) rfl ?_; refine wpO_cons ?_; refine op1_rem rfl rfl rfl (by omega) ?_; refine zns ?_; refine wp_block ?_; refine wp_seq ?_; refine zsr ?_; refine wpO_cons ?_; refine op1_eqlI rfl rfl rfl ?_; refine zw1 ?_; refine zns ?_
  rw [hk]
  refine wp_false rfl ?_; refine wp_region ?_; refine wpO_cons ?_; refine op1_eqlI rfl rfl rfl ?_; refine zw1 ?_; refine zns ?_; refine wp_false rfl ?_; refine zsr ?_; refine wpO_cons ?_; refine op1_eqlI rfl rfl rfl ?_; refine zw1 ?_; refine zns ?_; refine wp_false rfl ?_; refine zsr ?_; refine wpO_cons ?_; refine op1_eqlI rfl rfl rfl ?_; refine zw1 ?_; refine zns ?_; refine wp_false rfl ?_; refine zsr ?_; refine wpO_cons ?_; refine op1_eqlI rfl rfl rfl ?_; refine zw1 ?_; refine zns ?_; refine wp_false rfl ?_; refine zsr ?_; refine wpO_cons ?_; refine op1_eqlI rfl rfl rfl ?_; refine zw1 ?_; refine zns ?_; refine wp_false rfl ?_; refine zsr ?_; refine wpO_cons ?_; refine op1_eqlI rfl rfl rfl ?_; refine zw1 ?_; refine zns ?_; refine wp_false rfl ?_; refine zsr ?_; refine wpO_cons ?_; refine op1_eqlI_s rfl rfl rfl ?_; refine zw1 ?_; refine zns ?_; refine wp_true rfl ?_; refine wp_seq ?_; refine wp_regionD ?_; refine zd1 ?_; refine wpD_cons ?_; refine op1_faddr0 rfl rfl ?_; refine wpD_cons ?_; refine op1_load rfl rfl (by exact S.g0 hS) rfl ?_; refine wpD_cons ?_; refine op1_faddr0 rfl rfl ?_; refine wpD_cons ?_; refine op1_load rfl rfl (by exact S.g0 hS) rfl ?_; refine zd1 ?_; refine wpD_cons ?_; refine op1_faddr0 rfl rfl ?_; refine wpD_cons ?_; refine op1_load rfl rfl (by exact S.g0 hS) rfl ?_; refine wpD_cons ?_; refine op1_faddr0 rfl rfl ?_; refine wpD_cons ?_; refine op1_load rfl rfl (by exact S.g0 hS) rfl ?_; refine wpD_cons ?_; refine op1_call3 rfl (by (conv => lhs; whnf) <;> rfl) (by (conv => lhs; whnf) <;> rfl) (by (conv => lhs; whnf) <;> rfl) ?_
  refine wpF_mono (L27 (a := x.a) (b := x.b) hb.rel.ok (S.up1 hS)) ?_
  rintro _ H2 ⟨rfl, hno, hyes⟩
  by_cases he : findE T.m x.a false ≠ 0 ∨ findE T.m x.b false ≠ 0
  · have hS2 := hno he
    refine wpD_cons ?_; refine op1_call3 rfl (by (conv => lhs; whnf) <;> rfl) (by (conv => lhs; whnf) <;> rfl) (by (conv => lhs; whnf) <;> rfl) ?_
    refine wpF_mono (L45 (a := x.a) (b := x.b) hb.rt hb.pgs.ok (S.up2 hS2)) ?_
    have ec : copyR R x.a x.b = (if findE T.m x.a false ≠ 0 then findE T.m x.a false else findE T.m x.b false, R) := by
      unfold copyR
      rw [known_find hb.rel hb.geo, known_find hb.rel hb.geo, Bool.not_true]
      by_cases h1 : findE T.m x.a false ≠ 0
      · rw [if_pos h1, if_pos h1]
      · rw [if_neg h1, if_neg h1, if_pos (he.resolve_left h1)]
    rw [ec]
    rintro _ H3 ⟨rfl, hS⟩
    refine wpD_cons ?_; refine op1_eqlI_s rfl rfl rfl ?_; refine zd1 ?_; refine wpD_nil ?_; refine dk_of ?_ ?_; (iterate 2 refine chk_skip ?_); refine chk_cons 12 rfl rfl rfl ?_ ?_; refine chkFs_cons 4 rfl rfl ?_ ?_; exact chk_load rfl (by exact S.g0 (by assumption)) rfl rfl; exact chkFs_nil; refine chk_skip ?_; refine chk_cons 10 rfl rfl rfl ?_ ?_; refine chkFs_cons 4 rfl rfl ?_ ?_; exact chk_load rfl (by exact S.g0 (by assumption)) rfl rfl; exact chkFs_nil; (iterate 2 refine chk_skip ?_); refine chk_cons 7 rfl rfl rfl ?_ ?_; refine chkFs_cons 4 rfl rfl ?_ ?_; exact chk_load rfl (by exact S.g0 (by assumption)) rfl rfl; refine chkFs_cons 3 rfl rfl ?_ ?_; exact chk_load rfl (by exact S.g1 hS2) rfl rfl; exact chkFs_nil; refine chk_skip ?_; refine chk_cons 5 rfl rfl rfl ?_ ?_; refine chkFs_cons 4 rfl rfl ?_ ?_; exact chk_load rfl (by exact S.g0 (by assumption)) rfl rfl; refine chkFs_cons 3 rfl rfl ?_ ?_; exact chk_load rfl (by exact S.g1 hS2) rfl rfl; exact chkFs_nil; (iterate 4 refine chk_skip ?_); exact chk_end; refine seq_normal ?_; refine wp_ret ?_; refine block_ret ?_; refine seq_ret ?_; refine ret_of ?_; refine rk_tmp (by (conv => lhs; whnf) <;> rfl) ?_; refine rk_nil ?_
    exact ⟨rfl, _, _, hb, S.up1 (S.drop (S.up2 hS))⟩
  · have h1 : findE T.m x.a false = 0 := Classical.not_not.1 fun h => he (.inl h)
    have h2 : findE T.m x.b false = 0 := Classical.not_not.1 fun h => he (.inr h)
    obtain ⟨p, hS2⟩ := hyes h1 h2
    have ec : copyR R x.a x.b = (0, R.setPage x.b (R.page x.a)) := by
      unfold copyR
      rw [known_find hb.rel hb.geo, known_find hb.rel hb.geo, Bool.not_true, h1, h2, if_neg (by decide), if_neg (by decide)]
    rw [h1, h2, if_neg (by decide)]
    have ha : x.a ∈ T.m.dom := find_dom h1
    have hbm : x.b ∈ T.m.dom := find_dom h2
    have hpa : pageOf (T.m.dat x.a) = R.page x.a := hb.pgs.eq _ ha
    have hb2 : Both (T.wm (T.m.setDat x.b (some (p, pageOf (T.m.dat x.a))))) (R.setPage x.b (pageOf (T.m.dat x.a))) := hb.put hbm (page64 hb.rel.ok _)
    rw [← hpa] at ec
    refine wpD_cons ?_; refine op1_call3 rfl (by (conv => lhs; whnf) <;> rfl) (by (conv => lhs; whnf) <;> rfl) (by (conv => lhs; whnf) <;> rfl) ?_
    refine wpF_mono (L45 (a := x.a) (b := x.b) hb.rt hb.pgs.ok (S.up2 hS2)) ?_
    rw [ec]
    rintro _ H3 ⟨rfl, hS⟩
    refine wpD_cons ?_; refine op1_eqlI_s rfl rfl rfl ?_; refine zd1 ?_; refine wpD_nil ?_; refine dk_of ?_ ?_; (iterate 2 refine chk_skip ?_); refine chk_cons 12 rfl rfl rfl ?_ ?_; refine chkFs_cons 4 rfl rfl ?_ ?_; exact chk_load rfl (by exact S.g0 (by assumption)) rfl rfl; exact chkFs_nil; refine chk_skip ?_; refine chk_cons 10 rfl rfl rfl ?_ ?_; refine chkFs_cons 4 rfl rfl ?_ ?_; exact chk_load rfl (by exact S.g0 (by assumption)) rfl rfl; exact chkFs_nil; (iterate 2 refine chk_skip ?_); refine chk_cons 7 rfl rfl rfl ?_ ?_; refine chkFs_cons 4 rfl rfl ?_ ?_; exact chk_load rfl (by exact S.g0 (by assumption)) rfl rfl; refine chkFs_cons 3 rfl rfl ?_ ?_; exact chk_load rfl (by exact S.g1 hS2) rfl rfl; exact chkFs_nil; refine chk_skip ?_; refine chk_cons 5 rfl rfl rfl ?_ ?_; refine chkFs_cons 4 rfl rfl ?_ ?_; exact chk_load rfl (by exact S.g0 (by assumption)) rfl rfl; refine chkFs_cons 3 rfl rfl ?_ ?_; exact chk_load rfl (by exact S.g1 hS2) rfl rfl; exact chkFs_nil; (iterate 4 refine chk_skip ?_); exact chk_end; refine seq_normal ?_; refine wp_ret ?_; refine block_ret ?_; refine seq_ret ?_; refine ret_of ?_; refine rk_tmp (by (conv => lhs; whnf) <;> rfl) ?_; refine rk_nil ?_
    exact ⟨rfl, _, _, hb2, S.up1 (S.drop (S.up2 hS))⟩
/-- same of any act: the results are the same, and the tables go on alike -/
theorem L23 {B H : AHeap} {As : List Asn} {t q : Nat} {T : Tb} {R : RT} {x : ActF} (hA : ActOkF B x) (hn : x.ns.length ≤ 20) (hdl : x.d.length ≤ 200) (hb : Both T R) (hS : S B H (repT t T :: repR q R :: As)) :
    wpF C 23 [ptrV t, ptrV q, .agg ⟨x.cells⟩] H fun v H' => v = .bool true ∧ ∃ T' R', Both T' R' ∧ S B H' (repT t T' :: repR q R' :: As) := by
  have hk := hA.k
  have hm : 0 ≤ x.kind.tmod 9 ∧ x.kind.tmod 9 ≤ 8 := by rw [Int.tmod_eq_emod_of_nonneg hk.1]; omega
  by_cases h0 : x.kind.tmod 9 = 0 ∨ x.kind.tmod 9 = 1
  · exact L23a h0 hA hn hb hS
  by_cases h2 : x.kind.tmod 9 = 2
  · exact L23b h2 hA hb hS
  by_cases h3 : x.kind.tmod 9 = 3
  · exact L23c h3 hA hb hS
  by_cases h4 : x.kind.tmod 9 = 4
  · exact L23d h4 hA hb hS
  by_cases h5 : x.kind.tmod 9 = 5
  · exact L23e h5 hA hb hS
  by_cases h6 : x.kind.tmod 9 = 6
  · exact L23f h6 hA hdl hb hS
  by_cases h7 : x.kind.tmod 9 = 7
  · exact L23g h7 hA hb hS
  refine wpF_mono (L23u (by omega) hb.rel (by omega) (RD.base hA.nr hA.nl) hS) ?_
  rintro _ H1 ⟨rfl, hS⟩
  exact ⟨rfl, _, _, hb, hS⟩
end Go.E.Fa
/- FramesRuns. -/
namespace Go.E.Fa
open Go Go.E Go.Proofs.Ytlkgacbholklkaa Go.Proofs
set_option linter.unusedVariables false
set_option linter.unusedSimpArgs false
set_option maxRecDepth 100000
theorem Both.fresh {T : Tb} {pls : List Pl} (hp : T.pls = pls) (hF : Fresh pls T) (hl : pls.length ≤ 16) : Both T (R0 pls) := by
  have hR := Rel.fresh hp hF hl
  have hG : Geo T := Geo.fresh (by rw [hp]; exact hF)
  exact ⟨hR, hG, Pgs.fresh hG hR.ok hF.m.dat, by rw [hp]; exact DisP.fresh hF⟩

theorem L8 {B : AHeap} {a xa : Option Addr} {c xc : Nat} {pls : List Pl} {xs : List ActF} {r : List Nat} (hlen : pls.length ≤ 9223372036854775807)
    (hb : ∀ p ∈ pls, PlB p) (hr : RdS B 5 (.slice a pls.length c) (pls.flatMap plC) r) (hlt : ∀ b ∈ r, b < B.next) (hA : ActsF B xa xc xs) : wpF C 8 [.slice a pls.length c, .slice xa xs.length xc] B fun v _ => v = .bool true := by
  have hS := S.start B
  have hxl := hA.len
  refine wpF_ofW o8 rfl rfl ?_
  refine zsr ?_; refine zw1 ?_; refine zns ?_; refine wp_seq ?_; refine zsr ?_; refine zw1 ?_; refine wpO_cons ?_; refine op1_call1 rfl (by (conv => lhs; whnf) <;> rfl) ?_
  refine wpF_mono (L14 hlen hr hlt hS) ?_
  rintro _ H1 ⟨⟨b, rfl, hsh⟩, hS⟩
  refine wpO_cons ?_; refine op1_not rfl rfl ?_; refine zw1 ?_; refine wpO_cons ?_
  cases b
  · refine op1_skip rfl ?_; refine wpO_cons ?_; refine op1_skip rfl ?_; refine wpO_cons ?_; refine op1_skip rfl ?_; refine wpO_cons ?_; refine op1_pick_t rfl rfl (by (conv => lhs; whnf) <;> rfl) ?_; refine zns ?_; refine wp_true rfl ?_; refine zsr ?_; refine wpO_cons ?_; refine op1_call0 rfl  ?_; refine wpF_known rfl (globAll _) ?_; refine zw1 ?_; refine zns ?_; refine wp_ret ?_; refine seq_ret ?_; refine ret_of ?_; refine rk_tmp (by (conv => lhs; whnf) <;> rfl) ?_; refine rk_nil ?_
    rfl
  obtain ⟨h20, h200⟩ := hsh.1 rfl
  refine op1_mov rfl (by (conv => lhs; whnf) <;> rfl) ?_; refine wpO_cons ?_; refine op1_call1 rfl (by (conv => lhs; whnf) <;> rfl) ?_
  refine wpF_mono (L15 hA hS) ?_
  rintro _ H2 ⟨⟨b, rfl, hsm⟩, hS⟩
  refine wpO_cons ?_; refine op1_not rfl rfl ?_; refine wpO_cons ?_; refine op1_pick_f rfl rfl (by (conv => lhs; whnf) <;> rfl) ?_; refine zns ?_
  cases b
  · refine wp_true rfl ?_; refine zsr ?_; refine wpO_cons ?_; refine op1_call0 rfl  ?_; refine wpF_known rfl (globAll _) ?_; refine zw1 ?_; refine zns ?_; refine wp_ret ?_; refine seq_ret ?_; refine ret_of ?_; refine rk_tmp (by (conv => lhs; whnf) <;> rfl) ?_; refine rk_nil ?_
    rfl
  obtain ⟨h60, hsm⟩ := hsm rfl
  refine wp_false rfl ?_; refine wp_skip ?_; refine seq_normal ?_; refine zsr ?_; refine zw1 ?_; refine wpO_cons ?_; refine op1_call1 rfl (by (conv => lhs; whnf) <;> rfl) ?_
  refine wpF_mono (L17 (by omega) hr hlt hS) ?_
  intro v2 H2 hS
  obtain ⟨a2, l2, c2, rfl, hl2⟩ := S.shape hS
  rw [plC_flen] at hl2
  obtain rfl : l2 = pls.length := by omega
  refine wpO_cons ?_; refine op1_call1 rfl (by (conv => lhs; whnf) <;> rfl) ?_
  refine wpF_mono (L10 (by omega) (fun p hp => ⟨by have := h200 p hp; omega, (hb p hp).1.1, (hb p hp).1.2⟩) RD.head hS) ?_
  have hb2 : ∀ p ∈ pls, p.name.size ≤ 1000 ∧ (-9223372036854775808 ≤ p.count ∧ p.count ≤ 9223372036854775807) ∧ (-9223372036854775808 ≤ p.first ∧ p.first ≤ 9223372036854775807) := fun p hp => ⟨by have := h200 p hp; omega, hb p hp⟩
  by_cases he : newE pls = 0
  · rintro v3 H3 ⟨_, hok⟩
    obtain ⟨t, T, rfl, hTp, hF, hS⟩ := hok he
    clear hok
    refine zw1 ?_; refine wpO_cons ?_; refine op1_extract rfl rfl rfl ?_; refine wpO_cons ?_; refine op1_extract rfl rfl rfl ?_; refine zw1 ?_; refine zw1 ?_; refine zns ?_; refine zsr ?_; refine zw1 ?_; refine wpO_cons ?_; refine op1_call1 rfl (by (conv => lhs; whnf) <;> rfl) ?_
    refine wpF_mono (L22 (by omega) hb2 hr hlt hS) ?_
    rintro v4 H4 ⟨_, hok⟩
    obtain ⟨q, rfl, hS⟩ := hok he
    clear hok
    have hl16 : pls.length ≤ 16 := by
      refine Nat.le_of_not_lt fun h => ?_
      unfold newE at he
      rw [if_neg (by omega), if_pos h] at he
      omega
    have hR := Both.fresh hTp hF hl16
    refine zw1 ?_; refine wpO_cons ?_; refine op1_extract rfl rfl rfl ?_; refine wpO_cons ?_; refine op1_extract rfl rfl rfl ?_; refine zw1 ?_; refine zw1 ?_; refine zns ?_; refine wp_seq ?_; refine zsr ?_; refine zw1 ?_; refine zw1 ?_; refine wpO_cons ?_; refine op1_neqI_s rfl rfl rfl ?_; refine zns ?_; refine wp_false rfl ?_; refine wp_skip ?_; refine seq_normal ?_; refine wp_seq ?_; refine zsr ?_; refine zw1 ?_; refine wpO_cons ?_; refine op1_len rfl rfl ?_; refine zw1 ?_; refine zns ?_; refine wp_block ?_
    refine wp_loop [36] (fun k vs H' => ∃ (i : Nat) (T : Tb) (R : RT), vs = [.int .i64 i] ∧ k = xs.length - i ∧ i ≤ xs.length ∧ Both T R ∧ S B H' [repT t T, repR q R, sl 5 (.slice a2 pls.length c2) (pls.flatMap plC)]) ⟨_, 0, _, _, rfl, rfl, by omega, hR, S.up1 hS⟩ ?_
    clear hS hR hF hTp
    rintro k vs T' H5 ⟨i, T, R, rfl, rfl, hi, hR, hS⟩
    refine zsr ?_; refine wpO_cons ?_; refine op1_lss rfl rfl rfl ?_; refine zns ?_; refine wp_seq ?_
    refine wp_dec rfl (fun hlt2 => ?_) (fun hlt2 => ?_)
    · obtain ⟨x, hx⟩ : ∃ x, xs[i]? = some x := ⟨xs[i]'(by omega), by simp⟩
      have hok := hA.ok x (List.mem_of_getElem? hx)
      have hsx := hsm x (List.mem_of_getElem? hx)
      obtain ⟨b, o, cs, rfl, hg, hb, hle, hat⟩ := hA.at_ i x hx
      have hg1 := (hS.base b hb).trans hg
      refine wp_skip ?_; refine seq_normal ?_; refine wp_seq ?_; refine wp_block ?_; refine zsr ?_; refine wpO_cons ?_; refine op1_iaddr rfl rfl rfl (by omega) (by omega) ?_; refine wpO_cons ?_
      refine op1_loadN rfl rfl hg1 hle hat ?_
      unfold ActF.cells
      refine wpO_cons ?_; refine op1_allocS rfl hS ?_; intro p1 H6 hS; refine wpO_cons ?_; (refine op1_storeNS rfl rfl (by (conv => lhs; whnf) <;> rfl) rfl rfl (S.up0 hS) (Nat.le_of_ble_eq_true rfl) ?_; intro H7 hS; replace hS := S.dn0 hS); refine zns ?_; refine zsr ?_; refine zw1 ?_; refine wpO_cons ?_; refine op1_eqlI_s rfl rfl rfl ?_; refine zw1 ?_; refine zw1 ?_; refine zw1 ?_; refine wpO_cons ?_; refine op1_load_8 rfl rfl (by exact S.g0 hS) rfl rfl ?_; refine wpO_cons ?_; refine op1_call3 rfl (by (conv => lhs; whnf) <;> rfl) (by (conv => lhs; whnf) <;> rfl) (by (conv => lhs; whnf) <;> rfl) ?_
      refine wpF_mono (L23 hok hsx.1 hsx.2.1 hR (S.up2 (S.up2 hS))) ?_
      clear hS
      rintro _ H9 ⟨rfl, T2, R2, hR2, hS⟩
      refine wpO_cons ?_; refine op1_not_t rfl rfl ?_; refine wpO_cons ?_; refine op1_pick_t rfl rfl (by (conv => lhs; whnf) <;> rfl) ?_; refine zns ?_; refine wp_false rfl ?_; refine wp_skip ?_; refine block_normal ?_; refine seq_normal ?_; refine wp_region ?_; refine wpO_cons ?_; refine op1_add rfl rfl rfl (by exact wrap_i64 (by omega) (by omega)) ?_; refine zw1 ?_; refine wpO_nil ?_
      exact ⟨xs.length - (i + 1), by omega, i + 1, T2, R2, rfl, rfl, by omega, hR2, S.drop (S.up2 hS)⟩
    · obtain rfl : i = xs.length := by omega
      refine wp_exit ?_; refine seq_exit ?_; refine iter_exit ?_; refine block_exit ?_; refine seq_normal ?_; refine zsr ?_; refine wpO_cons ?_; refine op1_call0 rfl  ?_; refine wpF_known rfl (globAll _) ?_; refine zw1 ?_; refine zns ?_; refine wp_ret ?_; refine ret_of ?_; refine rk_tmp (by (conv => lhs; whnf) <;> rfl) ?_; refine rk_nil ?_
      rfl
  · rintro v3 H3 ⟨hko, _⟩
    obtain ⟨rfl, hS⟩ := hko he
    clear hko
    refine zw1 ?_; refine wpO_cons ?_; refine op1_extract rfl rfl rfl ?_; refine wpO_cons ?_; refine op1_extract rfl rfl rfl ?_; refine zw1 ?_; refine zw1 ?_; refine zns ?_; refine zsr ?_; refine zw1 ?_; refine wpO_cons ?_; refine op1_call1 rfl (by (conv => lhs; whnf) <;> rfl) ?_
    refine wpF_mono (L22 (by omega) hb2 hr hlt hS) ?_
    rintro v4 H4 ⟨hko, _⟩
    obtain ⟨rfl, hS⟩ := hko he
    clear hko
    refine zw1 ?_; refine wpO_cons ?_; refine op1_extract rfl rfl rfl ?_; refine wpO_cons ?_; refine op1_extract rfl rfl rfl ?_; refine zw1 ?_; refine zw1 ?_; refine zns ?_; refine wp_seq ?_; refine zsr ?_; refine zw1 ?_; refine zw1 ?_; refine wpO_cons ?_; refine op1_neqI_s rfl rfl rfl ?_; refine zns ?_; refine wp_false rfl ?_; refine wp_skip ?_; refine seq_normal ?_; refine wp_seq ?_; refine zsr ?_; refine zw1 ?_; refine wpO_cons ?_; refine op1_len rfl rfl ?_; refine zw1 ?_; refine zns ?_; refine wp_block ?_
    refine wp_loop [36] (fun k vs H' => ∃ i : Nat, vs = [.int .i64 i] ∧ k = xs.length - i ∧ i ≤ xs.length ∧ S B H' [sl 5 (.slice a2 pls.length c2) (pls.flatMap plC)]) ⟨_, 0, rfl, rfl, by omega, hS⟩ ?_
    clear hS
    rintro k vs T' H5 ⟨i, rfl, rfl, hi, hS⟩
    refine zsr ?_; refine wpO_cons ?_; refine op1_lss rfl rfl rfl ?_; refine zns ?_; refine wp_seq ?_
    refine wp_dec rfl (fun hlt2 => ?_) (fun hlt2 => ?_)
    · obtain ⟨x, hx⟩ : ∃ x, xs[i]? = some x := ⟨xs[i]'(by omega), by simp⟩
      obtain ⟨b, o, cs, rfl, hg, hb, hle, hat⟩ := hA.at_ i x hx
      have hg1 := (hS.base b hb).trans hg
      refine wp_skip ?_; refine seq_normal ?_; refine wp_seq ?_; refine wp_block ?_; refine zsr ?_; refine wpO_cons ?_; refine op1_iaddr rfl rfl rfl (by omega) (by omega) ?_; refine wpO_cons ?_
      refine op1_loadN rfl rfl hg1 hle hat ?_
      unfold ActF.cells
      refine wpO_cons ?_; refine op1_allocS rfl hS ?_; intro p1 H6 hS; refine wpO_cons ?_; (refine op1_storeNS rfl rfl (by (conv => lhs; whnf) <;> rfl) rfl rfl (S.up0 hS) (Nat.le_of_ble_eq_true rfl) ?_; intro H7 hS; replace hS := S.dn0 hS); refine zns ?_; refine zsr ?_; refine zw1 ?_; refine wpO_cons ?_; refine op1_eqlI rfl rfl rfl ?_; refine zw1 ?_; refine wpO_cons ?_
      refine op1_dec rfl (fun h => absurd h he) (fun _ => ?_)
      refine op1_skip rfl ?_; refine wpO_cons ?_; refine op1_skip rfl ?_; refine wpO_cons ?_; refine op1_skip rfl ?_; refine wpO_cons ?_; refine op1_skip rfl ?_; refine wpO_cons ?_; refine op1_skip rfl ?_; refine wpO_cons ?_; refine op1_pick_f rfl rfl (by (conv => lhs; whnf) <;> rfl) ?_; refine zns ?_; refine wp_false rfl ?_; refine wp_skip ?_; refine block_normal ?_; refine seq_normal ?_; refine wp_region ?_; refine wpO_cons ?_; refine op1_add rfl rfl rfl (by exact wrap_i64 (by omega) (by omega)) ?_; refine zw1 ?_; refine wpO_nil ?_
      exact ⟨xs.length - (i + 1), by omega, i + 1, rfl, rfl, by omega, S.drop hS⟩
    · obtain rfl : i = xs.length := by omega
      refine wp_exit ?_; refine seq_exit ?_; refine iter_exit ?_; refine block_exit ?_; refine seq_normal ?_; refine zsr ?_; refine wpO_cons ?_; refine op1_call0 rfl  ?_; refine wpF_known rfl (globAll _) ?_; refine zw1 ?_; refine zns ?_; refine wp_ret ?_; refine ret_of ?_; refine rk_tmp (by (conv => lhs; whnf) <;> rfl) ?_; refine rk_nil ?_
      rfl
end Go.E.Fa
