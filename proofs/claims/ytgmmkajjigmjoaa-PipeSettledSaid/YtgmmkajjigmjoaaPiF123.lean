/- The pipe's ring, walked through. -/
import Derived.Test.YtgmmkajjigmjoaaPiDelM
namespace Go.E.Pi
open Go Go.E Go.Proofs.Ytgmmkajjigmjoaa Go.Proofs
set_option linter.unusedVariables false
set_option linter.unusedSimpArgs false
set_option maxRecDepth 100000
theorem L41 {B H : AHeap} {As : List Asn} {p rb c f n : Nat} {rest : List Value} (hS : S B H (pto p (.cells (ringC rb c f n ++ rest) 0 false) :: As)) (hc : c ≤ 4096) (hn : n ≤ c) :
    wpF C 41 [.pointer (some ⟨p, 0, none⟩)] H fun v H' => v = .int .i64 (c - n : Nat) ∧ H = H' := by
  have hg := hS.get
  refine wpF_ofW o41 rfl rfl ?_
  refine zsr ?_; refine zw1 ?_; refine zns ?_; refine wp_seq ?_; refine wp_regionD ?_; refine zd1 ?_; refine wpD_cons ?_; refine op1_nilchk rfl rfl ?_; refine wpD_cons ?_; refine op1_faddr0 rfl rfl ?_; refine wpD_cons ?_; refine op1_load rfl rfl (by exact S.g0 hS) rfl ?_; refine wpD_cons ?_; refine op1_len rfl rfl ?_; refine zd1 ?_; refine wpD_cons ?_; refine op1_nilchk rfl rfl ?_; refine wpD_cons ?_; refine op1_faddr0 rfl rfl ?_; refine wpD_cons ?_; refine op1_load rfl rfl (by exact S.g0 hS) rfl ?_; refine wpD_cons ?_; refine op1_sub rfl rfl rfl (by exact wrap_i64 (by omega) (by omega)) ?_; refine zd1 ?_; refine wpD_nil ?_; refine dk_of ?_ ?_; (iterate 3 refine chk_skip ?_); refine chk_cons 8 rfl rfl rfl ?_ ?_; refine chkFs_cons 0 rfl rfl ?_ ?_; exact chk_load rfl (by exact S.g0 hS) rfl rfl; exact chkFs_nil; refine chk_cons 7 rfl rfl rfl ?_ ?_; refine chkFs_cons 0 rfl rfl ?_ ?_; exact chk_len rfl rfl; exact chkFs_nil; (iterate 3 refine chk_skip ?_); refine chk_cons 3 rfl rfl rfl ?_ ?_; refine chkFs_cons 0 rfl rfl ?_ ?_; exact chk_load rfl (by exact S.g0 hS) rfl rfl; exact chkFs_nil; (iterate 2 refine chk_skip ?_); exact chk_end; refine seq_normal ?_; refine wp_ret ?_; refine ret_of ?_; refine rk_tmp (by (conv => lhs; whnf) <;> rfl) ?_; refine rk_nil ?_
  exact ⟨by simp only [resultV]; congr 1; omega, rfl⟩

theorem L43 {B H : AHeap} {As : List Asn} {p rb c f n : Nat} {rest : List Value} {r d : List Int} {vd : Value} (hS : S B H (pto p (.cells (ringC rb c f n ++ rest) 0 false) :: pto rb (.cells (u8s r) 1 false) :: As)) (hd : RD B As 1 vd (u8s d))
    (hr : r.length = c) (hc : 1 ≤ c ∧ c ≤ 4096) (hf : f < c) (hn : n ≤ c) (hl : d.length ≤ 1000000) :
    wpF C 43 [.pointer (some ⟨p, 0, none⟩), vd] H fun v H' => v = .int .i64 (min d.length (c - n) : Nat) ∧ ∃ r', r'.length = c ∧ rot r' f (n + min d.length (c - n)) = rot r f n ++ d.take (min d.length (c - n)) ∧
      S B H' (pto p (.cells (ringC rb c f (n + min d.length (c - n)) ++ rest) 0 false) :: pto rb (.cells (u8s r') 1 false) :: As) := by
  obtain ⟨a, ca, rfl⟩ := hd.u1 hS.drop.drop
  have hcap : d.length ≤ ca := by obtain ⟨_, h, _⟩ := hd H hS.drop.drop; exact h.le_cap
  refine wpF_ofW o43 rfl rfl ?_
  refine zsr ?_; refine zw1 ?_; refine zns ?_; refine zsr ?_; refine zw1 ?_; refine zw1 ?_; refine wpO_cons ?_; refine op1_len rfl rfl ?_; refine zw1 ?_; refine wpO_cons ?_; refine op1_call1 rfl (by (conv => lhs; whnf) <;> rfl) ?_
  refine wpF_mono (L41 hS hc.2 hn) ?_
  rintro _ _ ⟨rfl, rfl⟩
  refine wpO_cons ?_; refine op1_min rfl rfl rfl ?_; refine wpO_cons ?_
  obtain ⟨m, hm⟩ : ∃ m : Nat, min d.length (c - n) = m := ⟨_, rfl⟩
  rw [show (min (d.length : Int) ((c - n : Nat) : Int)) = (m : Int) by omega, hm]
  refine op1_sliceD rfl rfl hd hS.drop.drop (bnds_hi (by omega) (by omega)) (by omega) (by simp only [Int.toNat_natCast]; omega) ?_
  simp only [Int.toNat_natCast, Nat.zero_mul, List.drop_zero, Nat.sub_zero, Nat.mul_one]
  intro a1 c1 hd1 _
  rw [u8s_take] at hd1
  have hml : (d.take m).length = m := by simp only [List.length_take]; omega
  obtain ⟨rr, hrd, hrl⟩ := hd1 H hS.drop.drop
  have hcap1 : m ≤ c1 := hrd.le_cap
  obtain ⟨at_, ha, ha2⟩ : ∃ at_ : Nat, (f + n) % c = at_ ∧ at_ < c := ⟨_, rfl, Nat.mod_lt _ (by omega)⟩
  have hat : at_ = rix c f n := by
    unfold rix
    rw [← ha]
    split
    · rw [Nat.mod_eq_of_lt (by omega)]
    · rw [Nat.mod_eq_sub_mod (by omega), Nat.mod_eq_of_lt (by omega)]
  have hrem : ((f : Int) + (n : Int)).tmod ((c : Nat) : Int) = (at_ : Int) := by
    rw [← Int.natCast_add, ← Int.ofNat_tmod, ha]
  refine zw1 ?_; refine zns ?_; refine wp_seq ?_; refine wp_regionD ?_; refine zd1 ?_; refine wpD_cons ?_; refine op1_nilchk rfl rfl ?_; refine wpD_cons ?_; refine op1_faddr0 rfl rfl ?_; refine wpD_cons ?_; refine op1_load rfl rfl (by exact S.g0 hS) rfl ?_; refine zd1 ?_; refine wpD_cons ?_; refine op1_nilchk rfl rfl ?_; refine wpD_cons ?_; refine op1_faddr0 rfl rfl ?_; refine wpD_cons ?_; refine op1_load rfl rfl (by exact S.g0 hS) rfl ?_; refine wpD_cons ?_; refine op1_add rfl rfl rfl (by exact wrap_i64 (by omega) (by omega)) ?_; refine zd1 ?_; refine wpD_cons ?_; refine op1_nilchk rfl rfl ?_; refine wpD_cons ?_; refine op1_faddr0 rfl rfl ?_; refine wpD_cons ?_; refine op1_load rfl rfl (by exact S.g0 hS) rfl ?_; refine wpD_cons ?_; refine op1_len rfl rfl ?_; refine wpD_cons ?_; refine op1_rem rfl rfl rfl (by omega) ?_; refine zd1 ?_; refine wpD_nil ?_; refine dk_of ?_ ?_; (iterate 3 refine chk_skip ?_); refine chk_cons 13 rfl rfl rfl ?_ ?_; refine chkFs_cons 0 rfl rfl ?_ ?_; exact chk_load rfl (by exact S.g0 hS) rfl rfl; exact chkFs_nil; (iterate 3 refine chk_skip ?_); refine chk_cons 9 rfl rfl rfl ?_ ?_; refine chkFs_cons 0 rfl rfl ?_ ?_; exact chk_load rfl (by exact S.g0 hS) rfl rfl; exact chkFs_nil; (iterate 4 refine chk_skip ?_); refine chk_cons 4 rfl rfl rfl ?_ ?_; refine chkFs_cons 0 rfl rfl ?_ ?_; exact chk_load rfl (by exact S.g0 hS) rfl rfl; exact chkFs_nil; refine chk_cons 3 rfl rfl rfl ?_ ?_; refine chkFs_cons 0 rfl rfl ?_ ?_; exact chk_len rfl rfl; exact chkFs_nil; (iterate 2 refine chk_skip ?_); exact chk_end; refine seq_normal ?_; refine zsr ?_; refine zw1 ?_; refine wpO_cons ?_; refine op1_nilchk rfl rfl ?_; refine wpO_cons ?_; refine op1_faddr0 rfl rfl ?_; refine wpO_cons ?_; refine op1_load rfl rfl (by exact S.g0 hS) rfl ?_; refine zw1 ?_; refine wpO_cons ?_
  rw [hrem]
  skip
  refine op1_sliceB rfl rfl (S.g1 hS) (.inr rfl) (bnds_lo (by omega) (by omega) (Nat.le_refl _)) (by simp only [Int.toNat_natCast]; omega) (Nat.le_refl _) ?_
  simp only [Int.toNat_natCast, Nat.mul_one, Nat.zero_add]
  refine zw1 ?_; refine wpO_cons ?_
  obtain ⟨k, hk⟩ : ∃ k, min m (c - at_) = k := ⟨_, rfl⟩
  refine op1_copyS rfl rfl rfl rfl rfl hrd (by simp [hml]) (u8s_one _) (S.up1 hS) (by simp only [u8s_length]; omega) ?_
  rw [hk]
  intro H1 hS1
  have hs1 := S.dn1 hS1
  rw [Nat.mul_one, u8s_take, u8s_take, u8s_drop, ← u8s_append, ← u8s_append] at hs1
  have hS : S B H1 (pto p (.cells (ringC rb c f n ++ rest) 0 false) :: pto rb (.cells (u8s (splice r at_ ((d.take m).take k))) 1 false) :: As) := by
    have : splice r at_ ((d.take m).take k) = r.take at_ ++ (d.take m).take k ++ r.drop (at_ + k) := by
      unfold splice
      rw [show ((d.take m).take k).length = k by rw [List.length_take]; omega]
    rw [this]
    exact hs1
  clear hS1 hs1
  have hkm : k ≤ m := by omega
  refine zw1 ?_; refine zns ?_; refine wp_seq ?_; refine wp_regionD ?_; refine zd1 ?_; refine wpD_cons ?_; refine op1_nilchk rfl rfl ?_; refine wpD_cons ?_; refine op1_faddr0 rfl rfl ?_; refine wpD_cons ?_; refine op1_load rfl rfl (by exact S.g0 hS) rfl ?_; refine zd1 ?_; refine zd1 ?_; refine wpD_cons ?_
  refine op1_sliceD rfl rfl hd1 hS.drop.drop (bnds_lo (by omega) (by omega) hcap1) (by simp only [Int.toNat_natCast]; omega) (Nat.le_refl _) ?_
  simp only [Int.toNat_natCast, Nat.mul_one]
  intro a2 c2 hd2 hck2
  rw [u8s_drop, u8s_take, List.take_of_length_le (by simp only [List.length_drop]; omega)] at hd2
  have hml2 : ((d.take m).drop k).length = m - k := by simp only [List.length_drop]; omega
  obtain ⟨rr2, hrd2, hrl2⟩ := hd2 H1 hS.drop.drop
  have hsl : (splice r at_ ((d.take m).take k)).length = c := by rw [splice_len (by simp only [List.length_take]; omega), hr]
  refine wpD_cons ?_
  refine op1_copyS rfl rfl rfl rfl rfl hrd2 (by simp [hml2]) (u8s_one _) (S.up1 hS) (by simp only [u8s_length]; omega) ?_
  rw [show min (m - k) c = m - k by omega]
  intro H2 hS1
  have hs1 := S.dn1 hS1
  rw [Nat.mul_one, Nat.zero_add, List.take_zero, List.nil_append, show (u8s ((d.take m).drop k)).take (m - k) = u8s ((d.take m).drop k) from List.take_of_length_le (by simp [hml2]), u8s_drop, ← u8s_append] at hs1
  have hfin := rot_put (r := r) (d := d.take m) (f := f) (n := n) (at_ := at_) (k := k) (by omega) (by omega) (by rw [hr]; exact hat) (by omega) (by omega)
  have hS2 : S B H2 (pto p (.cells (ringC rb c f n ++ rest) 0 false) :: pto rb (.cells (u8s (splice (splice r at_ ((d.take m).take k)) 0 ((d.take m).drop k))) 1 false) :: As) := by
    have : splice (splice r at_ ((d.take m).take k)) 0 ((d.take m).drop k) = (d.take m).drop k ++ (splice r at_ ((d.take m).take k)).drop (m - k) := by
      conv => lhs; unfold splice
      rw [List.take_zero, List.nil_append, Nat.zero_add, hml2]
      rfl
    rw [this]
    exact hs1
  clear hs1 hS1
  have hSA := hS.drop.drop
  have hS := hS2
  refine wpD_nil ?_; refine dk_of ?_ ?_; (iterate 3 refine chk_skip ?_); refine chk_cons 5 rfl rfl rfl ?_ ?_; refine chkFs_cons 1 rfl rfl ?_ ?_; exact chk_load rfl (by exact S.g0 (by assumption)) rfl rfl; exact chkFs_nil; (iterate 2 refine chk_skip ?_); refine chk_cons 2 rfl rfl rfl ?_ ?_; refine chkFs_cons 1 rfl rfl ?_ ?_
  · exact hck2 _ _ hSA rfl
  exact chkFs_nil; refine chk_skip ?_; exact chk_end; refine seq_normal ?_; refine zsr ?_; refine zw1 ?_; refine wpO_cons ?_; refine op1_nilchk rfl rfl ?_; refine wpO_cons ?_; refine op1_faddr0 rfl rfl ?_; refine wpO_cons ?_; refine op1_load rfl rfl (by exact S.g0 hS) rfl ?_; refine zw1 ?_; refine wpO_cons ?_; refine op1_len rfl rfl ?_; refine wpO_cons ?_; refine op1_add rfl rfl rfl (by exact wrap_i64 (by omega) (by omega)) ?_; refine wpO_cons ?_; refine op1_nilchk rfl rfl ?_; refine wpO_cons ?_; refine op1_faddr0 rfl rfl ?_; refine wpO_cons ?_; (refine op1_store1S rfl rfl (by (conv => lhs; whnf) <;> rfl) rfl rfl (S.up0 hS) rfl ?_; intro H3 hS; replace hS := S.dn0 hS); refine zns ?_; refine zsr ?_; refine zw1 ?_; refine wpO_cons ?_; refine op1_len rfl rfl ?_; refine zw1 ?_; refine zns ?_; refine wp_ret ?_; refine ret_of ?_; refine rk_tmp (by (conv => lhs; whnf) <;> rfl) ?_; refine rk_nil ?_
  have h9 := hfin.2
  rw [hml] at h9
  exact ⟨rfl, _, hfin.1.trans hr, h9, hS⟩

theorem L45 {B H : AHeap} {As : List Asn} {p rb c f n : Nat} {rest : List Value} {r : List Int} {want : Int} (hS : S B H (pto p (.cells (ringC rb c f n ++ rest) 0 false) :: pto rb (.cells (u8s r) 1 false) :: As))
    (hr : r.length = c) (hc : 1 ≤ c ∧ c ≤ 4096) (hf : f < c) (hn : n ≤ c) (hw : 0 ≤ want) :
    wpF C 45 [.pointer (some ⟨p, 0, none⟩), .int .i64 want] H fun v H' => rix c f (min want n).toNat < c ∧ ∃ a cc, v = .slice a (min want n).toNat cc ∧
      S B H' (sl 1 (.slice a (min want n).toNat cc) (u8s (rot r f (min want n).toNat)) :: pto p (.cells (ringC rb c (rix c f (min want n).toNat) (n - (min want n).toNat) ++ rest) 0 false) :: pto rb (.cells (u8s r) 1 false) :: As) := by
  obtain ⟨m, hm⟩ : ∃ m : Nat, min want (n : Int) = m := ⟨(min want (n : Int)).toNat, by omega⟩
  rw [hm, Int.toNat_natCast]
  refine wpF_ofW o45 rfl rfl ?_
  refine zsr ?_; refine zw1 ?_; refine zns ?_; refine zsr ?_; refine zw1 ?_; refine zw1 ?_; refine wpO_cons ?_; refine op1_nilchk rfl rfl ?_; refine wpO_cons ?_; refine op1_faddr0 rfl rfl ?_; refine wpO_cons ?_; refine op1_load rfl rfl (by exact S.g0 hS) rfl ?_; refine wpO_cons ?_; refine op1_min rfl rfl rfl ?_; refine wpO_cons ?_
  rw [hm]
  refine op1_mksliceS rfl rfl rfl (by omega) (Int.le_refl _) (by omega) hS ?_
  rw [Int.toNat_natCast, u8s_zero]
  intro p1 H1 hS; refine zw1 ?_; refine zns ?_; refine wp_seq ?_; refine wp_regionD ?_; refine zd1 ?_; refine zd1 ?_; refine wpD_cons ?_; refine op1_nilchk rfl rfl ?_; refine wpD_cons ?_; refine op1_faddr0 rfl rfl ?_; refine wpD_cons ?_; refine op1_load rfl rfl (by exact S.g1 hS) rfl ?_; refine zd1 ?_; refine wpD_cons ?_; refine op1_nilchk rfl rfl ?_; refine wpD_cons ?_; refine op1_faddr0 rfl rfl ?_; refine wpD_cons ?_; refine op1_load rfl rfl (by exact S.g1 hS) rfl ?_; refine wpD_cons ?_
  have hg2 := S.g2 hS
  refine op1_sliceB rfl rfl hg2 (.inr rfl) (bnds_lo (by omega) (by omega) (Nat.le_refl _)) (by simp only [Int.toNat_natCast]; omega) (Nat.le_refl _) ?_
  simp only [Int.toNat_natCast, Nat.mul_one, Nat.zero_add]
  refine wpD_cons ?_
  obtain ⟨k, hk⟩ : ∃ k, min (c - f) m = k := ⟨_, rfl⟩
  have hrd : RdS H1 1 (.slice (some ⟨rb, f, none⟩) (c - f) (c - f)) (u8s (r.drop f)) [rb] := by
    have := RdS.blk (es := 1) (off := f) (l := c - f) (c := c - f) hg2 (by simp; omega) (.inr rfl) (Nat.le_refl _)
    rwa [u8s_drop, List.take_of_length_le (by simp; omega)] at this
  have hS0 := hS
  refine op1_copyS rfl rfl rfl rfl rfl hrd (by simp; omega) (u8s_one _) hS (by simp; omega) ?_
  rw [hk]
  intro H2 hS1
  rw [Nat.mul_one, Nat.zero_add, List.take_zero, List.nil_append, u8s_take, u8s_drop, ← u8s_append] at hS1
  have hkl : ((r.drop f).take k).length = k := by simp only [List.length_take, List.length_drop]; omega
  have hS : S B H2 (pto p1 (.cells (u8s (splice (List.replicate m 0) 0 ((r.drop f).take k))) 1 false) :: pto p (.cells (ringC rb c f n ++ rest) 0 false) :: pto rb (.cells (u8s r) 1 false) :: As) := by
    have : splice (List.replicate m 0) 0 ((r.drop f).take k) = (r.drop f).take k ++ (List.replicate m (0 : Int)).drop k := by
      unfold splice
      rw [List.take_zero, List.nil_append, Nat.zero_add, hkl]
    rw [this]
    exact hS1
  have hz1 : (splice (List.replicate m 0) 0 ((r.drop f).take k)).length = m := by rw [splice_len (by rw [hkl]; simp; omega)]; simp
  generalize hZ : splice (List.replicate m 0) 0 ((r.drop f).take k) = z1 at *
  clear hS1
  refine zd1 ?_; refine wpD_nil ?_; refine dk_of ?_ ?_; (iterate 4 refine chk_skip ?_); refine chk_cons 8 rfl rfl rfl ?_ ?_; refine chkFs_cons 2 rfl rfl ?_ ?_; exact chk_load rfl (by exact S.g1 hS0) rfl rfl; exact chkFs_nil; (iterate 3 refine chk_skip ?_); refine chk_cons 4 rfl rfl rfl ?_ ?_; refine chkFs_cons 2 rfl rfl ?_ ?_; exact chk_load rfl (by exact S.g1 hS0) rfl rfl; exact chkFs_nil; refine chk_cons 3 rfl rfl rfl ?_ ?_; refine chkFs_cons 2 rfl rfl ?_ ?_
  · refine chk_sliceB rfl hg2 (.inr rfl) (bnds_lo (by omega) (by omega) (Nat.le_refl _)) (by simp only [Int.toNat_natCast]; omega) (Nat.le_refl _) ?_
    simp only [Int.toNat_natCast, Nat.mul_one, Nat.zero_add]
    rfl
  exact chkFs_nil; (iterate 2 refine chk_skip ?_); exact chk_end; refine seq_normal ?_; refine wp_seq ?_; refine wp_regionD ?_; refine zd1 ?_; refine zd1 ?_; refine wpD_cons ?_
  have hg0 := S.g0 hS
  have hkm : k ≤ m := by omega
  refine op1_sliceB rfl rfl hg0 (.inr rfl) (bnds_lo (by omega) (by omega) (Nat.le_refl _)) (by simp only [Int.toNat_natCast]; omega) (Nat.le_refl _) ?_
  simp only [Int.toNat_natCast, Nat.mul_one, Nat.zero_add]
  refine zd1 ?_; refine wpD_cons ?_; refine op1_nilchk rfl rfl ?_; refine wpD_cons ?_; refine op1_faddr0 rfl rfl ?_; refine wpD_cons ?_; refine op1_load rfl rfl (by exact S.g1 hS) rfl ?_; refine wpD_cons ?_
  have hrd2 : RdS H2 1 (.slice (some ⟨rb, 0, none⟩) c c) (u8s r) [rb] := by
    have := RdS.blk (es := 1) (off := 0) (l := c) (c := c) (S.g2 hS) (by simp; omega) (.inr rfl) (Nat.le_refl _)
    rwa [List.drop_zero, List.take_of_length_le (by simp; omega)] at this
  refine op1_copyS rfl rfl rfl rfl rfl hrd2 (by simp; omega) (u8s_one _) hS (by simp; omega) ?_
  rw [show min c (m - k) = m - k by omega]
  intro H3 hS1
  rw [Nat.mul_one, u8s_take, u8s_take, u8s_drop, ← u8s_append, ← u8s_append] at hS1
  have hfin := rot_take (r := r) (z := List.replicate m 0) (f := f) (m := m) (k := k) (by omega) (by omega) (by simp) (by omega)
  rw [hZ] at hfin
  have hS3 : S B H3 (pto p1 (.cells (u8s (rot r f m)) 1 false) :: pto p (.cells (ringC rb c f n ++ rest) 0 false) :: pto rb (.cells (u8s r) 1 false) :: As) := by
    rw [← hfin]
    unfold splice
    rw [show (r.take (m - k)).length = m - k by simp only [List.length_take]; omega]
    exact hS1
  clear hS1
  have hS := hS3
  obtain ⟨at_, ha, ha2⟩ : ∃ at_ : Nat, (f + m) % c = at_ ∧ at_ < c := ⟨_, rfl, Nat.mod_lt _ (by omega)⟩
  have hat : rix c f m = at_ := by
    unfold rix
    rw [← ha]
    split
    · rw [Nat.mod_eq_of_lt (by omega)]
    · rw [Nat.mod_eq_sub_mod (by omega), Nat.mod_eq_of_lt (by omega)]
  have hrem : ((f : Int) + (m : Int)).tmod ((c : Nat) : Int) = (at_ : Int) := by
    rw [← Int.natCast_add, ← Int.ofNat_tmod, ha]
  rw [hat]
  refine wpD_nil ?_; refine dk_of ?_ ?_; (iterate 2 refine chk_skip ?_); refine chk_cons 6 rfl rfl rfl ?_ ?_; refine chkFs_cons 1 rfl rfl ?_ ?_
  · refine chk_sliceB rfl hg0 (.inr rfl) (bnds_lo (by omega) (by omega) (Nat.le_refl _)) (by simp only [Int.toNat_natCast]; omega) (Nat.le_refl _) ?_
    simp only [Int.toNat_natCast, Nat.mul_one, Nat.zero_add]
    rfl
  exact chkFs_nil; (iterate 3 refine chk_skip ?_); refine chk_cons 2 rfl rfl rfl ?_ ?_; refine chkFs_cons 1 rfl rfl ?_ ?_; exact chk_load rfl (by exact S.g1 (by assumption)) rfl rfl; exact chkFs_nil; refine chk_skip ?_; exact chk_end; refine seq_normal ?_; refine wp_seq ?_; refine wp_regionD ?_; refine zd1 ?_; refine zd1 ?_; refine wpD_cons ?_; refine op1_nilchk rfl rfl ?_; refine wpD_cons ?_; refine op1_faddr0 rfl rfl ?_; refine wpD_cons ?_; refine op1_load rfl rfl (by exact S.g1 hS) rfl ?_; refine zd1 ?_; refine wpD_cons ?_; refine op1_len rfl rfl ?_; refine wpD_cons ?_; refine op1_add rfl rfl rfl (by exact wrap_i64 (by omega) (by omega)) ?_; refine zd1 ?_; refine wpD_cons ?_; refine op1_nilchk rfl rfl ?_; refine wpD_cons ?_; refine op1_faddr0 rfl rfl ?_; refine wpD_cons ?_; refine op1_load rfl rfl (by exact S.g1 hS) rfl ?_; refine wpD_cons ?_; refine op1_len rfl rfl ?_; refine wpD_cons ?_; refine op1_rem rfl rfl rfl (by omega) ?_; refine wpD_cons ?_; refine op1_nilchk rfl rfl ?_; refine wpD_cons ?_; refine op1_faddr0 rfl rfl ?_; refine wpD_cons ?_; (refine op1_store1S rfl rfl (by (conv => lhs; whnf) <;> rfl) rfl rfl (S.up1 hS) rfl ?_; intro H4 hS; replace hS := S.dn1 hS); refine wpD_nil ?_; refine dk_of ?_ ?_; (iterate 4 refine chk_skip ?_); refine chk_cons 13 rfl rfl rfl ?_ ?_; refine chkFs_cons 1 rfl rfl ?_ ?_; exact chk_load rfl (by exact S.g1 (by assumption)) rfl rfl; exact chkFs_nil; refine chk_skip ?_; refine chk_cons 11 rfl rfl rfl ?_ ?_; refine chkFs_cons 1 rfl rfl ?_ ?_; exact chk_len rfl rfl; exact chkFs_nil; (iterate 4 refine chk_skip ?_); refine chk_cons 6 rfl rfl rfl ?_ ?_; refine chkFs_cons 1 rfl rfl ?_ ?_; exact chk_load rfl (by exact S.g1 (by assumption)) rfl rfl; exact chkFs_nil; refine chk_cons 5 rfl rfl rfl ?_ ?_; refine chkFs_cons 1 rfl rfl ?_ ?_; exact chk_len rfl rfl; exact chkFs_nil; (iterate 4 refine chk_skip ?_); exact chk_end; refine seq_normal ?_; refine zsr ?_; refine zw1 ?_; refine wpO_cons ?_; refine op1_nilchk rfl rfl ?_; refine wpO_cons ?_; refine op1_faddr0 rfl rfl ?_; refine wpO_cons ?_; refine op1_load rfl rfl (by exact S.g1 hS) rfl ?_; refine zw1 ?_; refine wpO_cons ?_; refine op1_len rfl rfl ?_; refine wpO_cons ?_; refine op1_sub rfl rfl rfl (by exact wrap_i64 (by omega) (by omega)) ?_; refine wpO_cons ?_; refine op1_nilchk rfl rfl ?_; refine wpO_cons ?_; refine op1_faddr0 rfl rfl ?_; refine wpO_cons ?_; (refine op1_store1S rfl rfl (by (conv => lhs; whnf) <;> rfl) rfl rfl (S.up1 hS) rfl ?_; intro H5 hS; replace hS := S.dn1 hS); refine zns ?_; refine zsr ?_; refine zw1 ?_; refine zw1 ?_; refine zns ?_; refine wp_ret ?_; refine ret_of ?_; refine rk_tmp (by (conv => lhs; whnf) <;> rfl) ?_; refine rk_nil ?_
  have h8 := S.slNew hS (l := m) (by simp)
  rw [hrem, show (n : Int) - (m : Int) = ((n - m : Nat) : Int) by omega] at h8
  exact ⟨ha2, _, _, rfl, h8⟩
end Go.E.Pi
/- The pipe's lists, walked through. -/
namespace Go.E.Pi
open Go Go.E Go.Proofs.Ytgmmkajjigmjoaa Go.Proofs
set_option linter.unusedVariables false
set_option linter.unusedSimpArgs false
set_option maxRecDepth 100000
theorem wrA_at {H : AHeap} {w : Wr} {cs : List Value} {o : List Nat} (h : (wrA w cs).f H o) : ∃ a c, cs = [.int .i64 w.thread, .slice a w.data.length c, .int .i64 w.done] ∧ SlO H 1 (.slice a w.data.length c) (u8s w.data) o := by
  obtain ⟨vd, h⟩ := h
  cases h with
  | cons h1 h2 => cases h2 with
    | cons h3 h4 =>
      cases h4
      obtain ⟨rfl, h3⟩ := h3
      have h5 : SlO H 1 vd (u8s w.data) _ := h1
      obtain ⟨a, c, rfl⟩ := h5.shape1
      rw [u8s_length] at h3 h5
      exact ⟨a, c, h3, by simpa using h5⟩

theorem L21 {B H : AHeap} {As : List Asn} {p : Nat} {s : PP} (hS : S B H (repP p s :: As)) (hl : s.readers.length ≤ 1000) :
    wpF C 21 [.pointer (some ⟨p, 0, none⟩)] H fun v H' => S B H' (sl 1 v (i64s (s.readers.map (·.1))) :: repP p s :: As) := by
  obtain ⟨rb, vr, vw, r, f, hr, hS⟩ := openP hS
  obtain ⟨ar, cr, rfl, hcr⟩ := shapeR (S.up2 hS)
  refine wpF_ofW o21 rfl rfl ?_
  refine zsr ?_; refine zw1 ?_; refine zns ?_; refine wp_seq ?_; refine zsr ?_; refine zw1 ?_; refine wpO_cons ?_; refine op1_bin_false rfl (by (conv => lhs; whnf) <;> rfl) (by (conv => lhs; whnf) <;> rfl) rfl ?_; refine zns ?_; refine wp_false rfl ?_; refine wp_skip ?_; refine seq_normal ?_; refine zsr ?_; refine zw1 ?_; refine zns ?_; refine wp_seq ?_; refine zsr ?_; refine zw1 ?_; refine wpO_cons ?_; refine op1_nilchk rfl rfl ?_; refine wpO_cons ?_; refine op1_faddr0 rfl rfl ?_; refine wpO_cons ?_; refine op1_faddr rfl rfl ?_; refine wpO_cons ?_; refine op1_load rfl rfl (by exact S.g0 hS) rfl ?_; refine wpO_cons ?_; refine op1_len rfl rfl ?_; refine zw1 ?_; refine zns ?_; refine wp_block ?_
  refine wp_loop [14, 3] (fun k vs H' => ∃ (i : Nat) (vo : Value), vs = [.int .i64 i, vo] ∧ i + k = s.readers.length ∧ S B H' (sl 1 vo (i64s ((s.readers.take i).map (·.1))) :: pto p (.cells (pipeC s rb f (.slice ar s.readers.length cr) vw) 0 false) :: pto rb (.cells (u8s r) 1 false) :: sl 2 (.slice ar s.readers.length cr) (s.readers.flatMap rdC) :: arr 3 wrA vw s.writers :: As))
    ⟨s.readers.length, 0, .slice none 0 0, rfl, by omega, hS.slNil⟩ ?_
  rintro k vs T' H1 ⟨i, vo, rfl, hk, hS⟩
  obtain ⟨ao, co, rfl⟩ := hS.i1
  simp only [List.length_map, List.length_take] at hS ⊢
  refine zsr ?_; refine wpO_cons ?_; refine op1_lss rfl rfl rfl ?_; refine zns ?_; refine wp_seq ?_
  refine wp_dec rfl (fun hc => ?_) (fun hc => ?_)
  · have hi : i < s.readers.length := by omega
    obtain ⟨x, hx⟩ : ∃ x, s.readers[i]? = some x := ⟨s.readers[i], by simp [hi]⟩
    obtain ⟨b, off, cs, rfl, hg, hle, htk, hat⟩ := (S.up3 hS).elt hi
    rw [flatMap_cut (f := rdC) (es := 2) (fun _ => rfl) hx] at htk
    rw [Nat.min_eq_left (by omega)] at hS ⊢
    have hS0 := hS
    clear hS
    refine wp_skip ?_; refine seq_normal ?_; refine wp_seq ?_; refine wp_block ?_; refine zsr ?_; refine wpO_cons ?_; refine op1_iaddr rfl rfl rfl (by omega) (by omega) ?_; refine wpO_cons ?_
    have hS := hS0
    clear hS0
    refine op1_loadN rfl rfl hg (by omega) htk ?_
    refine wpO_cons ?_; refine op1_allocS rfl hS ?_; intro p1 H2 hS; refine wpO_cons ?_; (refine op1_storeNS rfl rfl (by (conv => lhs; whnf) <;> rfl) rfl rfl (S.up0 hS) (Nat.le_of_ble_eq_true rfl) ?_; intro H3 hS; replace hS := S.dn0 hS); refine zns ?_; refine wp_region ?_; refine zw1 ?_; refine wpO_cons ?_; refine op1_faddr0 rfl rfl ?_; refine wpO_cons ?_; refine op1_load rfl rfl (by exact S.g0 hS) rfl ?_; refine wpO_cons ?_; refine op1_bsliceS rfl hS ?_; refine bk_one (by (conv => lhs; whnf) <;> rfl) rfl rfl rfl ?_; refine bk_nil ?_; intro p2 H4 hS; refine wpO_cons ?_; (refine op1_appBS rfl rfl (by (conv => lhs; whnf) <;> rfl) rfl (S.g0 hS) rfl rfl (S.up2 hS) (by omega) ?_; intro a1 c1 H5 hS; replace hS := S.dn2 hS; replace hS := S.drop hS); refine zw1 ?_; refine wpO_nil ?_; refine block_normal ?_; refine seq_normal ?_; refine wp_region ?_; refine wpO_cons ?_; refine op1_add rfl rfl rfl (by exact wrap_i64 (by omega) (by omega)) ?_; refine zw1 ?_; refine wpO_nil ?_
    replace hS := S.drop hS
    refine ⟨k - 1, by omega, i + 1, _, rfl, by omega, ?_⟩
    have e : s.readers.take (i + 1) = s.readers.take i ++ [x] := by rw [List.take_add_one, hx]; rfl
    rw [e, List.map_append, i64s_append]
    exact hS
  · obtain rfl : i = s.readers.length := by omega
    rw [List.take_length] at hS
    rw [Nat.min_self] at hS ⊢
    refine wp_exit ?_; refine seq_exit ?_; refine iter_exit ?_; refine block_exit ?_; refine seq_normal ?_; refine zsr ?_; refine zw1 ?_; refine zw1 ?_; refine zns ?_; refine wp_ret ?_; refine ret_of ?_; refine rk_tmp (by (conv => lhs; whnf) <;> rfl) ?_; refine rk_nil ?_
    exact S.up1 (closeP hr (S.dn4 hS))

theorem L22 {B H : AHeap} {As : List Asn} {p : Nat} {s : PP} (hS : S B H (repP p s :: As)) (hl : s.writers.length ≤ 1000) :
    wpF C 22 [.pointer (some ⟨p, 0, none⟩)] H fun v H' => S B H' (sl 1 v (i64s (s.writers.map (·.thread))) :: repP p s :: As) := by
  obtain ⟨rb, vr, vw, r, f, hr, hS⟩ := openP hS
  obtain ⟨aw, cw, rfl, hcw⟩ := S.arrShape (S.up3 hS) (by omega)
  obtain ⟨css, hcss, hcl, hS⟩ := S.unarr (S.up3 hS)
  replace hS := S.dn4 (S.dn4 hS)
  refine wpF_ofW o22 rfl rfl ?_
  refine zsr ?_; refine zw1 ?_; refine zns ?_; refine wp_seq ?_; refine zsr ?_; refine zw1 ?_; refine wpO_cons ?_; refine op1_bin_false rfl (by (conv => lhs; whnf) <;> rfl) (by (conv => lhs; whnf) <;> rfl) rfl ?_; refine zns ?_; refine wp_false rfl ?_; refine wp_skip ?_; refine seq_normal ?_; refine zsr ?_; refine zw1 ?_; refine zns ?_; refine wp_seq ?_; refine zsr ?_; refine zw1 ?_; refine wpO_cons ?_; refine op1_nilchk rfl rfl ?_; refine wpO_cons ?_; refine op1_faddr0 rfl rfl ?_; refine wpO_cons ?_; refine op1_faddr rfl rfl ?_; refine wpO_cons ?_; refine op1_load rfl rfl (by exact S.g0 hS) rfl ?_; refine wpO_cons ?_; refine op1_len rfl rfl ?_; refine zw1 ?_; refine zns ?_; refine wp_block ?_
  refine wp_loop [14, 3] (fun k vs H' => ∃ (i : Nat) (vo : Value), vs = [.int .i64 i, vo] ∧ i + k = s.writers.length ∧ S B H' (sl 1 vo (i64s ((s.writers.take i).map (·.thread))) :: pto p (.cells (pipeC s rb f vr (.slice aw s.writers.length cw)) 0 false) :: pto rb (.cells (u8s r) 1 false) :: sl 2 vr (s.readers.flatMap rdC) :: sl 3 (.slice aw s.writers.length cw) css.flatten :: many wrA s.writers css :: As))
    ⟨s.writers.length, 0, .slice none 0 0, rfl, by omega, hS.slNil⟩ ?_
  rintro k vs T' H1 ⟨i, vo, rfl, hk, hS⟩
  obtain ⟨ao, co, rfl⟩ := hS.i1
  simp only [List.length_map, List.length_take] at hS ⊢
  refine zsr ?_; refine wpO_cons ?_; refine op1_lss rfl rfl rfl ?_; refine zns ?_; refine wp_seq ?_
  refine wp_dec rfl (fun hc => ?_) (fun hc => ?_)
  · have hi : i < s.writers.length := by omega
    obtain ⟨x, hx⟩ : ∃ x, s.writers[i]? = some x := ⟨s.writers[i], by simp [hi]⟩
    obtain ⟨cs0, o0, hcs0, hw0, _⟩ := S.many_at (S.up5 hS) hx
    obtain ⟨avd, cvd, rfl, hvd⟩ := wrA_at hw0
    obtain ⟨b, off, cs, rfl, hg, hle, htk, hat⟩ := (S.up4 hS).elt hi
    rw [flatten_cut hcss hcs0] at htk
    rw [Nat.min_eq_left (by omega)] at hS ⊢
    have hS0 := hS
    clear hS
    refine wp_skip ?_; refine seq_normal ?_; refine wp_seq ?_; refine wp_block ?_; refine zsr ?_; refine wpO_cons ?_; refine op1_iaddr rfl rfl rfl (by omega) (by omega) ?_; refine wpO_cons ?_
    have hS := hS0
    clear hS0
    refine op1_loadN rfl rfl hg (by omega) htk ?_
    refine wpO_cons ?_; refine op1_allocS rfl hS ?_; intro p1 H2 hS; refine wpO_cons ?_; (refine op1_storeNS rfl rfl (by (conv => lhs; whnf) <;> rfl) rfl rfl (S.up0 hS) (Nat.le_of_ble_eq_true rfl) ?_; intro H3 hS; replace hS := S.dn0 hS); refine zns ?_; refine wp_region ?_; refine zw1 ?_; refine wpO_cons ?_; refine op1_faddr0 rfl rfl ?_; refine wpO_cons ?_; refine op1_load rfl rfl (by exact S.g0 hS) rfl ?_; refine wpO_cons ?_; refine op1_bsliceS rfl hS ?_; refine bk_one (by (conv => lhs; whnf) <;> rfl) rfl rfl rfl ?_; refine bk_nil ?_; intro p2 H4 hS; refine wpO_cons ?_; (refine op1_appBS rfl rfl (by (conv => lhs; whnf) <;> rfl) rfl (S.g0 hS) rfl rfl (S.up2 hS) (by omega) ?_; intro a1 c1 H5 hS; replace hS := S.dn2 hS; replace hS := S.drop hS); refine zw1 ?_; refine wpO_nil ?_; refine block_normal ?_; refine seq_normal ?_; refine wp_region ?_; refine wpO_cons ?_; refine op1_add rfl rfl rfl (by exact wrap_i64 (by omega) (by omega)) ?_; refine zw1 ?_; refine wpO_nil ?_
    replace hS := S.drop hS
    refine ⟨k - 1, by omega, i + 1, _, rfl, by omega, ?_⟩
    have e : s.writers.take (i + 1) = s.writers.take i ++ [x] := by rw [List.take_add_one, hx]; rfl
    rw [e, List.map_append, i64s_append]
    exact hS
  · obtain rfl : i = s.writers.length := by omega
    rw [List.take_length] at hS
    rw [Nat.min_self] at hS ⊢
    refine wp_exit ?_; refine seq_exit ?_; refine iter_exit ?_; refine block_exit ?_; refine seq_normal ?_; refine zsr ?_; refine zw1 ?_; refine zw1 ?_; refine zns ?_; refine wp_ret ?_; refine ret_of ?_; refine rk_tmp (by (conv => lhs; whnf) <;> rfl) ?_; refine rk_nil ?_
    exact S.up1 (closeP hr (S.dn3 (S.arrI (S.up4 (S.up4 (S.dn5 hS))) hcss)))

/-- the first place of a number, -1 if there is none -/
def ixL : List Int → Int → Int
  | [], _ => -1
  | b :: l, c => if c = b then 0 else if ixL l c = -1 then -1 else ixL l c + 1
theorem ixL_ge : ∀ (l : List Int) (c : Int), -1 ≤ ixL l c
  | [], _ => by simp [ixL]
  | b :: l, c => by
    have := ixL_ge l c
    unfold ixL
    split
    · omega
    · split <;> omega
theorem ixL_get {c : Int} : ∀ {l : List Int}, 0 ≤ ixL l c → l[(ixL l c).toNat]? = some c
  | [], h => by simp [ixL] at h
  | b :: l, h => by
    unfold ixL at h ⊢
    split
    · rename_i hb; subst hb; rfl
    · rename_i hb
      rw [if_neg hb] at h
      split at h
      · omega
      · rename_i h1
        rw [if_neg h1]
        have h2 := ixL_ge l c
        have := ixL_get (l := l) (c := c) (by omega)
        rw [show (ixL l c + 1).toNat = (ixL l c).toNat + 1 by omega, List.getElem?_cons_succ, this]
theorem ixL_neg {c : Int} : ∀ {l : List Int}, ixL l c < 0 ↔ c ∉ l
  | [] => by simp [ixL]
  | b :: l => by
    have ih := ixL_neg (c := c) (l := l)
    have := ixL_ge l c
    unfold ixL
    split
    · rename_i h; subst h; simp
    · rename_i h
      split
      · simp; exact ⟨h, ih.1 (by omega)⟩
      · simp [h]
        constructor
        · intro h2; omega
        · intro h2; have := ih.2 h2; omega
/-- the search from the i-th on -/
theorem ixL_step {c : Int} : ∀ {l : List Int} {i : Nat} {x : Int}, (∀ j, j < i → l[j]? ≠ some c) → l[i]? = some x → x = c → ixL l c = i
  | [], i, x, h, hx, e => by simp at hx
  | b :: l, 0, x, h, hx, e => by simp at hx; subst hx; unfold ixL; rw [if_pos e.symm]; rfl
  | b :: l, i + 1, x, h, hx, e => by
    have h0 := h 0 (by omega)
    simp at h0
    have ih := ixL_step (l := l) (i := i) (x := x) (fun j hj => by have := h (j + 1) (by omega); simpa using this) (by simpa using hx) e
    unfold ixL
    rw [if_neg (fun e => h0 e.symm), if_neg (by omega), ih]
    omega
theorem ixL_none {c : Int} {l : List Int} (h : ∀ j, j < l.length → l[j]? ≠ some c) : ixL l c = -1 := by
  have h1 : c ∉ l := by
    intro hm
    obtain ⟨j, hj, e⟩ := List.mem_iff_getElem.1 hm
    exact h j hj (by rw [List.getElem?_eq_getElem hj, e])
  have := ixL_neg.2 h1
  have := ixL_ge l c
  omega

theorem L48 {H : AHeap} {v : Value} {l : List Int} {r : List Nat} {x : Int} (hd : RdS H 1 v (i64s l) r) (hl : l.length ≤ 1000000) : wpF C 48 [v, .int .i64 x] H fun u H' => u = .int .i64 (ixL l x) ∧ H = H' := by
  obtain ⟨a, c, rfl⟩ := hd.i1
  refine wpF_ofW o48 rfl rfl ?_
  refine zsr ?_; refine zw1 ?_; refine zns ?_; refine wp_seq ?_; refine zsr ?_; refine zw1 ?_; refine wpO_cons ?_; refine op1_len rfl rfl ?_; refine zw1 ?_; refine zns ?_; refine wp_block ?_
  refine wp_loop [8] (fun k vs H' => ∃ i : Nat, vs = [.int .i64 i] ∧ i + k = l.length ∧ H = H' ∧ ∀ j, j < i → l[j]? ≠ some x) ⟨l.length, 0, rfl, by omega, rfl, by simp⟩ ?_
  rintro k vs T' H1 ⟨i, rfl, hk, rfl, hno⟩
  refine zsr ?_; refine wpO_cons ?_; refine op1_lss rfl rfl rfl ?_; refine zns ?_; refine wp_seq ?_
  refine wp_dec rfl (fun hc => ?_) (fun hc => ?_)
  · obtain ⟨b, off, cs, e, ro, v, rfl, _, hg, hv, hx⟩ := hd.at1 (i := i) (by omega)
    obtain ⟨y, hy, rfl⟩ := i64s_get hx
    refine wp_skip ?_; refine seq_normal ?_; refine wp_seq ?_; refine wp_block ?_; refine zsr ?_; refine zw1 ?_; refine zw1 ?_; refine zns ?_; refine zsr ?_; refine zw1 ?_; refine zw1 ?_; refine zw1 ?_; refine wpO_cons ?_; refine op1_iaddr rfl rfl rfl (by omega) (by omega) ?_; refine wpO_cons ?_
    refine op1_load rfl rfl hg hv ?_
    refine wpO_cons ?_; refine op1_eqlI rfl rfl rfl ?_; refine zns ?_
    refine wp_dec rfl (fun he => ?_) (fun he => ?_)
    · refine zsr ?_; refine zw1 ?_; refine zw1 ?_; refine zns ?_; refine wp_ret ?_; refine block_ret ?_; refine seq_ret ?_; refine iter_ret ?_; refine block_ret ?_; refine seq_ret ?_; refine ret_of ?_; refine rk_tmp (by (conv => lhs; whnf) <;> rfl) ?_; refine rk_nil ?_
      rw [ixL_step hno hy he.symm]
      exact ⟨rfl, rfl⟩
    · refine wp_skip ?_; refine block_normal ?_; refine seq_normal ?_; refine wp_region ?_; refine wpO_cons ?_; refine op1_add rfl rfl rfl (by exact wrap_i64 (by omega) (by omega)) ?_; refine zw1 ?_; refine wpO_nil ?_
      refine ⟨k - 1, by omega, i + 1, rfl, by omega, rfl, fun j hj => ?_⟩
      by_cases hji : j = i
      · subst hji
        rw [hy]
        intro e
        exact he (Option.some.inj e).symm
      · exact hno j (by omega)
  · refine wp_exit ?_; refine seq_exit ?_; refine iter_exit ?_; refine block_exit ?_; refine seq_normal ?_; refine zsr ?_; refine zw1 ?_; refine zns ?_; refine wp_ret ?_; refine ret_of ?_; refine rk_tmp (by (conv => lhs; whnf) <;> rfl) ?_; refine rk_nil ?_
    rw [ixL_none fun j hj => hno j (by omega)]
    exact ⟨rfl, rfl⟩

theorem L65 {H : AHeap} {v : Value} {l : List Int} {r : List Nat} {x : Int} (hd : RdS H 1 v (i64s l) r) (hl : l.length ≤ 1000000) : wpF C 65 [v, .int .i64 x] H fun u H' => u = .bool (decide (0 ≤ ixL l x)) ∧ H = H' := by
  refine wpF_ofW o65 rfl rfl ?_
  refine zsr ?_; refine zw1 ?_; refine zns ?_; refine zsr ?_; refine zw1 ?_; refine zw1 ?_; refine wpO_cons ?_; refine op1_call2 rfl (by (conv => lhs; whnf) <;> rfl) (by (conv => lhs; whnf) <;> rfl) ?_
  refine wpF_mono (L48 hd hl) ?_
  rintro _ _ ⟨rfl, rfl⟩
  refine wpO_cons ?_; refine op1_geq rfl rfl rfl ?_; refine zw1 ?_; refine zns ?_; refine wp_ret ?_; refine ret_of ?_; refine rk_tmp (by (conv => lhs; whnf) <;> rfl) ?_; refine rk_nil ?_
  exact ⟨rfl, rfl⟩

def PP.blocked (s : PP) (t : Int) : Bool := decide (t ∈ s.readers.map (·.1)) || decide (t ∈ s.writers.map (·.thread))
theorem dec_ix (l : List Int) (x : Int) : decide (0 ≤ ixL l x) = decide (x ∈ l) := by
  have h1 := ixL_neg (l := l) (c := x)
  have h2 := ixL_ge l x
  by_cases h : x ∈ l
  · rw [decide_eq_true h, decide_eq_true]
    by_cases h3 : 0 ≤ ixL l x
    · exact h3
    · exact absurd h (h1.1 (by omega))
  · rw [decide_eq_false h, decide_eq_false]
    have := h1.2 h
    omega

theorem L38 {B H : AHeap} {As : List Asn} {p : Nat} {s : PP} {t : Int} (hS : S B H (repP p s :: As)) (hl : s.readers.length ≤ 1000) (hl2 : s.writers.length ≤ 1000) :
    wpF C 38 [.pointer (some ⟨p, 0, none⟩), .int .i64 t] H fun v H' => v = .bool (s.blocked t) ∧ S B H' (repP p s :: As) := by
  refine wpF_ofW o38 rfl rfl ?_
  refine zsr ?_; refine zw1 ?_; refine zns ?_; refine zsr ?_; refine zw1 ?_; refine wpO_cons ?_; refine op1_call1 rfl (by (conv => lhs; whnf) <;> rfl) ?_
  refine wpF_mono (L21 hS hl) ?_
  rintro v1 H1 hS
  obtain ⟨_, hd1, _⟩ := hS.rd
  refine zw1 ?_; refine wpO_cons ?_; refine op1_call2 rfl (by (conv => lhs; whnf) <;> rfl) (by (conv => lhs; whnf) <;> rfl) ?_
  refine wpF_mono (L65 hd1 (by simp; omega)) ?_
  rintro _ _ ⟨rfl, rfl⟩
  rw [dec_ix]
  replace hS := S.drop hS
  refine zw1 ?_; refine wpO_cons ?_
  refine op1_dec rfl (fun hc => ?_) (fun hc => ?_)
  · refine op1_skip rfl ?_; refine wpO_cons ?_; refine op1_skip rfl ?_; refine wpO_cons ?_; refine op1_skip rfl ?_; refine wpO_cons ?_; refine op1_skip rfl ?_; refine wpO_cons ?_; refine op1_pick_t rfl rfl (by (conv => lhs; whnf) <;> rfl) ?_; refine zw1 ?_; refine zns ?_; refine wp_ret ?_; refine ret_of ?_; refine rk_tmp (by (conv => lhs; whnf) <;> rfl) ?_; refine rk_nil ?_
    exact ⟨by unfold PP.blocked; rw [decide_eq_true hc]; rfl, hS⟩
  · refine op1_mov rfl (by (conv => lhs; whnf) <;> rfl) ?_; refine wpO_cons ?_; refine op1_call1 rfl (by (conv => lhs; whnf) <;> rfl) ?_
    refine wpF_mono (L22 hS hl2) ?_
    rintro v2 H2 hS
    obtain ⟨_, hd2, _⟩ := hS.rd
    refine zw1 ?_; refine wpO_cons ?_; refine op1_call2 rfl (by (conv => lhs; whnf) <;> rfl) (by (conv => lhs; whnf) <;> rfl) ?_
    refine wpF_mono (L65 hd2 (by simp; omega)) ?_
    rintro _ _ ⟨rfl, rfl⟩
    rw [dec_ix]
    replace hS := S.drop hS
    refine wpO_cons ?_; refine op1_pick_f rfl rfl (by (conv => lhs; whnf) <;> rfl) ?_; refine zw1 ?_; refine zns ?_; refine wp_ret ?_; refine ret_of ?_; refine rk_tmp (by (conv => lhs; whnf) <;> rfl) ?_; refine rk_nil ?_
    exact ⟨by unfold PP.blocked; rw [decide_eq_false hc]; rfl, hS⟩
end Go.E.Pi
/- The pipe's queues, walked through. -/
namespace Go.E.Pi
open Go Go.E Go.Proofs.Ytgmmkajjigmjoaa Go.Proofs
set_option linter.unusedVariables false
set_option linter.unusedSimpArgs false
set_option maxRecDepth 100000
theorem rdC_drop {x : Int × Int} {l : List (Int × Int)} : ((x :: l).flatMap rdC).drop 2 = l.flatMap rdC := rfl
theorem L67 {B H : AHeap} {As : List Asn} {p rb f : Nat} {s : PP} {vr vw : Value} {x : Int × Int} {l : List (Int × Int)} (hS : S B H (pto p (.cells (pipeC s rb f vr vw) 0 false) :: sl 2 vr ((x :: l).flatMap rdC) :: As)) (hl : l.length ≤ 1000) :
    wpF C 67 [.pointer (some ⟨p, 6, none⟩)] H fun v H' => ∃ vr', S B H' (pto p (.cells (pipeC s rb f vr' vw) 0 false) :: sl 2 vr' (l.flatMap rdC) :: As) := by
  obtain ⟨ar, cr, rfl, hcr⟩ := shapeR (S.up1 hS)
  refine wpF_ofW o67 rfl rfl ?_
  refine wp_region ?_; refine zw1 ?_; refine zw1 ?_; refine wpO_cons ?_; refine op1_nilchk rfl rfl ?_; refine wpO_cons ?_; refine op1_faddr rfl rfl ?_; refine wpO_cons ?_; refine op1_load rfl rfl (by exact S.g0 hS) rfl ?_; refine wpO_cons ?_; refine op1_call3 rfl (by (conv => lhs; whnf) <;> rfl) (by (conv => lhs; whnf) <;> rfl) (by (conv => lhs; whnf) <;> rfl) ?_
  refine wpF_mono (L49 0 rfl (S.up1 hS) (rdC_one _) (by simp) (by simp; omega)) ?_
  rintro v H1 ⟨a', c', rfl, hS⟩
  replace hS := S.dn1 hS
  rw [Nat.zero_mul, List.take_zero, List.nil_append, show (0 + 1) * 2 = 2 from rfl, rdC_drop] at hS
  refine wpO_cons ?_; refine op1_nilchk rfl rfl ?_; refine wpO_cons ?_; refine op1_faddr rfl rfl ?_; refine wpO_cons ?_; (refine op1_store1S rfl rfl (by (conv => lhs; whnf) <;> rfl) rfl rfl (S.up0 hS) rfl ?_; intro H2 hS; replace hS := S.dn0 hS); refine wpO_nil ?_; refine nrm_of ?_; refine rk_nil ?_
  exact ⟨_, hS⟩

theorem L66 {B H : AHeap} {As : List Asn} {p rb f n : Nat} {s : PP} {vr : Value} {aw : Option Addr} {cw : Nat} {cells : List Value} (hS : S B H (pto p (.cells (pipeC s rb f vr (.slice aw n cw)) 0 false) :: sl 3 (.slice aw n cw) cells :: As)) (h1 : cells.all (·.oneCell') = true) (hn : 0 < n) (hl : n ≤ 1000) :
    wpF C 66 [.pointer (some ⟨p, 7, none⟩)] H fun v H' => ∃ vw', S B H' (pto p (.cells (pipeC s rb f vr vw') 0 false) :: sl 3 vw' (cells.drop 3) :: As) := by
  refine wpF_ofW o66 rfl rfl ?_
  refine wp_region ?_; refine zw1 ?_; refine zw1 ?_; refine wpO_cons ?_; refine op1_nilchk rfl rfl ?_; refine wpO_cons ?_; refine op1_faddr rfl rfl ?_; refine wpO_cons ?_; refine op1_load rfl rfl (by exact S.g0 hS) rfl ?_; refine wpO_cons ?_; refine op1_call3 rfl (by (conv => lhs; whnf) <;> rfl) (by (conv => lhs; whnf) <;> rfl) (by (conv => lhs; whnf) <;> rfl) ?_
  refine wpF_mono (L50 0 rfl (S.up1 hS) h1 hn (by omega)) ?_
  rintro v H1 ⟨a', c', rfl, hS⟩
  replace hS := S.dn1 hS
  rw [Nat.zero_mul, List.take_zero, List.nil_append, show (0 + 1) * 3 = 3 from rfl] at hS
  refine wpO_cons ?_; refine op1_nilchk rfl rfl ?_; refine wpO_cons ?_; refine op1_faddr rfl rfl ?_; refine wpO_cons ?_; (refine op1_store1S rfl rfl (by (conv => lhs; whnf) <;> rfl) rfl rfl (S.up0 hS) rfl ?_; intro H2 hS; replace hS := S.dn0 hS); refine wpO_nil ?_; refine nrm_of ?_; refine rk_nil ?_
  exact ⟨_, hS⟩

theorem L46 {B H : AHeap} {As : List Asn} {p rb f : Nat} {s : PP} {vr vw : Value} {t w : Int} {l : List (Int × Int)} (hS : S B H (pto p (.cells (pipeC s rb f vr vw) 0 false) :: sl 2 vr (l.flatMap rdC) :: As)) (hl : l.length ≤ 1000) :
    wpF C 46 [.pointer (some ⟨p, 6, none⟩), .agg ⟨[.int .i64 t, .int .i64 w]⟩] H fun v H' => ∃ vr', S B H' (pto p (.cells (pipeC s rb f vr' vw) 0 false) :: sl 2 vr' ((l ++ [(t, w)]).flatMap rdC) :: As) := by
  obtain ⟨ar, cr, rfl, hcr⟩ := shapeR (S.up1 hS)
  refine wpF_ofW o46 rfl rfl ?_
  refine zsr ?_; refine wpO_cons ?_; refine op1_boxNS rfl rfl rfl hS ?_; intro p1 H1 hS; refine zns ?_; refine wp_regionD ?_; refine zd1 ?_; refine zd1 ?_; refine wpD_cons ?_; refine op1_nilchk rfl rfl ?_; refine wpD_cons ?_; refine op1_faddr rfl rfl ?_; refine wpD_cons ?_; refine op1_load rfl rfl (by exact S.g1 hS) rfl ?_; refine wpD_cons ?_; refine op1_load_2 rfl rfl (by exact S.g0 hS) rfl rfl ?_; refine wpD_cons ?_; refine op1_bsliceS rfl hS ?_; refine bk_agg rfl rfl rfl rfl ?_; refine bk_nil ?_; intro p2 H2 hS; refine wpD_cons ?_; (refine op1_appBS rfl rfl (by (conv => lhs; whnf) <;> rfl) rfl (S.g0 hS) rfl rfl (S.up3 hS) (by omega) ?_; intro a1 c1 H3 hS; replace hS := S.dn3 hS; replace hS := S.drop hS); refine wpD_cons ?_; refine op1_nilchk rfl rfl ?_; refine wpD_cons ?_; refine op1_faddr rfl rfl ?_; refine wpD_cons ?_; (refine op1_store1S rfl rfl (by (conv => lhs; whnf) <;> rfl) rfl rfl (S.up1 hS) rfl ?_; intro H4 hS; replace hS := S.dn1 hS); refine wpD_nil ?_; refine dk_of ?_ ?_; (iterate 4 refine chk_skip ?_); refine chk_cons 7 rfl rfl rfl ?_ ?_; refine chkFs_cons 4 rfl rfl ?_ ?_; exact chk_load rfl (by exact S.g2 (by assumption)) rfl rfl; exact chkFs_nil; refine chk_cons 6 rfl rfl rfl ?_ ?_; refine chkFs_cons 4 rfl rfl ?_ ?_; exact chk_loadN rfl (by exact S.g1 (by assumption)) rfl rfl rfl; exact chkFs_nil; (iterate 5 refine chk_skip ?_); exact chk_end; refine nrm_of ?_; refine rk_nil ?_
  rw [List.flatMap_append]
  exact ⟨_, S.drop hS⟩

theorem L42 {B H : AHeap} {As : List Asn} {p rb f n : Nat} {s : PP} {vr : Value} {aw : Option Addr} {cw : Nat} {t dn : Int} {ad : Option Addr} {ld cd : Nat} {cells : List Value} (hS : S B H (pto p (.cells (pipeC s rb f vr (.slice aw n cw)) 0 false) :: sl 3 (.slice aw n cw) cells :: As)) (hl : n ≤ 1000) :
    wpF C 42 [.pointer (some ⟨p, 7, none⟩), .agg ⟨[.int .i64 t, .slice ad ld cd, .int .i64 dn]⟩] H fun v H' => ∃ vw', S B H' (pto p (.cells (pipeC s rb f vr vw') 0 false) :: sl 3 vw' (cells ++ [.int .i64 t, .slice ad ld cd, .int .i64 dn]) :: As) := by
  refine wpF_ofW o42 rfl rfl ?_
  refine zsr ?_; refine wpO_cons ?_; refine op1_boxNS rfl rfl rfl hS ?_; intro p1 H1 hS; refine zns ?_; refine wp_regionD ?_; refine zd1 ?_; refine zd1 ?_; refine wpD_cons ?_; refine op1_nilchk rfl rfl ?_; refine wpD_cons ?_; refine op1_faddr rfl rfl ?_; refine wpD_cons ?_; refine op1_load rfl rfl (by exact S.g1 hS) rfl ?_; refine wpD_cons ?_; refine op1_load_3 rfl rfl (by exact S.g0 hS) rfl rfl ?_; refine wpD_cons ?_; refine op1_bsliceS rfl hS ?_; refine bk_agg rfl rfl rfl rfl ?_; refine bk_nil ?_; intro p2 H2 hS; refine wpD_cons ?_; (refine op1_appBS rfl rfl (by (conv => lhs; whnf) <;> rfl) rfl (S.g0 hS) rfl rfl (S.up3 hS) (by omega) ?_; intro a1 c1 H3 hS; replace hS := S.dn3 hS; replace hS := S.drop hS); refine wpD_cons ?_; refine op1_nilchk rfl rfl ?_; refine wpD_cons ?_; refine op1_faddr rfl rfl ?_; refine wpD_cons ?_; (refine op1_store1S rfl rfl (by (conv => lhs; whnf) <;> rfl) rfl rfl (S.up1 hS) rfl ?_; intro H4 hS; replace hS := S.dn1 hS); refine wpD_nil ?_; refine dk_of ?_ ?_; (iterate 4 refine chk_skip ?_); refine chk_cons 7 rfl rfl rfl ?_ ?_; refine chkFs_cons 4 rfl rfl ?_ ?_; exact chk_load rfl (by exact S.g2 (by assumption)) rfl rfl; exact chkFs_nil; refine chk_cons 6 rfl rfl rfl ?_ ?_; refine chkFs_cons 4 rfl rfl ?_ ?_; exact chk_loadN rfl (by exact S.g1 (by assumption)) rfl rfl rfl; exact chkFs_nil; (iterate 5 refine chk_skip ?_); exact chk_end; refine nrm_of ?_; refine rk_nil ?_
  exact ⟨_, S.drop hS⟩

def PP.fits (s : PP) (n : Nat) : Bool := if (n : Int) ≤ s.atomic then decide (n ≤ s.cap - s.buf.length) else decide (0 < s.cap - s.buf.length)
theorem L40 {B H : AHeap} {As : List Asn} {p rb f : Nat} {s : PP} {vr vw : Value} {t dn : Int} {ad : Option Addr} {ld cd : Nat} (hS : S B H (pto p (.cells (pipeC s rb f vr vw) 0 false) :: As)) (hc : s.cap ≤ 4096) (hn : s.buf.length ≤ s.cap) :
    wpF C 40 [.pointer (some ⟨p, 0, none⟩), .agg ⟨[.int .i64 t, .slice ad ld cd, .int .i64 dn]⟩] H fun v H' => v = .bool (s.fits ld) ∧ S B H' (pto p (.cells (pipeC s rb f vr vw) 0 false) :: As) := by
  refine wpF_ofW o40 rfl rfl ?_
  refine zsr ?_; refine wpO_cons ?_; refine op1_boxNS rfl rfl rfl hS ?_; intro p1 H1 hS; refine zw1 ?_; refine zns ?_; refine wp_seq ?_; refine wp_seq ?_; refine wp_regionD ?_; refine wpD_cons ?_; refine op1_faddr0 rfl rfl ?_; refine wpD_cons ?_; refine op1_load rfl rfl (by exact S.g0 hS) rfl ?_; refine wpD_cons ?_; refine op1_len rfl rfl ?_; refine zd1 ?_; refine wpD_cons ?_; refine op1_nilchk rfl rfl ?_; refine wpD_cons ?_; refine op1_faddr0 rfl rfl ?_; refine wpD_cons ?_; refine op1_load rfl rfl (by exact S.g1 hS) rfl ?_; refine wpD_cons ?_; refine op1_leq rfl rfl rfl ?_; refine wpD_nil ?_; refine dk_of ?_ ?_; refine chk_skip ?_; refine chk_cons 7 rfl rfl rfl ?_ ?_; refine chkFs_cons 0 rfl rfl ?_ ?_; exact chk_load rfl (by exact S.g0 hS) rfl rfl; exact chkFs_nil; refine chk_cons 6 rfl rfl rfl ?_ ?_; refine chkFs_cons 0 rfl rfl ?_ ?_; exact chk_len rfl rfl; exact chkFs_nil; (iterate 3 refine chk_skip ?_); refine chk_cons 2 rfl rfl rfl ?_ ?_; refine chkFs_cons 0 rfl rfl ?_ ?_; exact chk_load rfl (by exact S.g1 hS) rfl rfl; exact chkFs_nil; refine chk_skip ?_; exact chk_end; refine seq_normal ?_
  unfold PP.fits
  refine wp_dec rfl (fun hq => ?_) (fun hq => ?_)
  · rw [if_pos hq]
    refine wp_seq ?_; refine wp_regionD ?_; refine zd1 ?_; refine wpD_cons ?_; refine op1_nilchk rfl rfl ?_; refine wpD_cons ?_; refine op1_faddr0 rfl rfl ?_; refine wpD_cons ?_; refine op1_faddr0 rfl rfl ?_; refine wpD_cons ?_; refine op1_load rfl rfl (by exact S.g0 hS) rfl ?_; refine wpD_cons ?_; refine op1_len rfl rfl ?_; refine wpD_cons ?_; refine op1_call1 rfl (by (conv => lhs; whnf) <;> rfl) ?_
    refine wpF_mono (L41 (S.up1 hS) hc hn) ?_
    rintro _ _ ⟨rfl, rfl⟩
    refine wpD_cons ?_; refine op1_geq rfl rfl rfl ?_; refine zd1 ?_; refine wpD_nil ?_; refine dk_of ?_ ?_; (iterate 4 refine chk_skip ?_); refine chk_cons 5 rfl rfl rfl ?_ ?_; refine chkFs_cons 3 rfl rfl ?_ ?_; exact chk_load rfl (by exact S.g0 hS) rfl rfl; refine chkFs_cons 0 rfl rfl ?_ ?_; exact chk_load rfl (by exact S.g0 hS) rfl rfl; exact chkFs_nil; refine chk_cons 4 rfl rfl rfl ?_ ?_; refine chkFs_cons 3 rfl rfl ?_ ?_; exact chk_len rfl rfl; refine chkFs_cons 0 rfl rfl ?_ ?_; exact chk_len rfl rfl; exact chkFs_nil; (iterate 3 refine chk_skip ?_); exact chk_end; refine seq_normal ?_; refine wp_ret ?_; refine seq_ret ?_; refine ret_of ?_; refine rk_tmp (by (conv => lhs; whnf) <;> rfl) ?_; refine rk_nil ?_
    exact ⟨by simp only [resultV]; congr 1; rw [decide_eq_decide]; omega, S.drop hS⟩
  · rw [if_neg hq]
    refine wp_skip ?_; refine seq_normal ?_; refine zsr ?_; refine zw1 ?_; refine wpO_cons ?_; refine op1_nilchk rfl rfl ?_; refine wpO_cons ?_; refine op1_faddr0 rfl rfl ?_; refine wpO_cons ?_; refine op1_call1 rfl (by (conv => lhs; whnf) <;> rfl) ?_
    refine wpF_mono (L41 (S.up1 hS) hc hn) ?_
    rintro _ _ ⟨rfl, rfl⟩
    refine wpO_cons ?_; refine op1_gtr rfl rfl rfl ?_; refine zw1 ?_; refine zns ?_; refine wp_ret ?_; refine ret_of ?_; refine rk_tmp (by (conv => lhs; whnf) <;> rfl) ?_; refine rk_nil ?_
    exact ⟨by simp only [resultV]; congr 1; rw [decide_eq_decide]; omega, S.drop hS⟩

theorem L68 {B H : AHeap} {As : List Asn} {p rb f : Nat} {s : PP} {r : List Int} {vr vw : Value} {t w : Int} (hS : S B H (pto p (.cells (pipeC s rb f vr vw) 0 false) :: pto rb (.cells (u8s r) 1 false) :: As)) (hR : RingOk s r f) (hc : 1 ≤ s.cap ∧ s.cap ≤ 4096) (hw : 0 ≤ w) :
    wpF C 68 [.pointer (some ⟨p, 0, none⟩), .agg ⟨[.int .i64 t, .int .i64 w]⟩] H fun v H' => ∃ vd f', v = .agg ⟨[.int .i64 t, vd, .int .i64 (min w s.buf.length).toNat, .int .i64 0]⟩ ∧ RingOk { s with buf := s.buf.drop (min w s.buf.length).toNat } r f' ∧
      S B H' (sl 1 vd (u8s (s.buf.take (min w s.buf.length).toNat)) :: pto p (.cells (pipeC { s with buf := s.buf.drop (min w s.buf.length).toNat } rb f' vr vw) 0 false) :: pto rb (.cells (u8s r) 1 false) :: As) := by
  obtain ⟨m, hm⟩ : ∃ m : Nat, min w (s.buf.length : Int) = m := ⟨(min w (s.buf.length : Int)).toNat, by omega⟩
  have hmn : m ≤ s.buf.length := by omega
  have hln := hR.len
  have hlt := hR.lt
  have hle := hR.le
  have hrl := rot_left (r := r) (f := f) (m := m) (n := s.buf.length) (by omega) hmn (by omega)
  rw [← hR.buf] at hrl
  refine wpF_ofW o68 rfl rfl ?_
  refine zsr ?_; refine wpO_cons ?_; refine op1_boxNS rfl rfl rfl hS ?_; intro p1 H1 hS; refine wpO_cons ?_; refine op1_allocS rfl hS ?_; intro p2 H2 hS; refine zns ?_; refine wp_seq ?_; refine wp_regionD ?_; refine zd1 ?_; refine wpD_cons ?_; refine op1_nilchk rfl rfl ?_; refine wpD_cons ?_; refine op1_faddr0 rfl rfl ?_; refine wpD_cons ?_; refine op1_faddr0 rfl rfl ?_; refine wpD_cons ?_; refine op1_load rfl rfl (by exact S.g1 hS) rfl ?_; refine wpD_cons ?_; refine op1_call2 rfl (by (conv => lhs; whnf) <;> rfl) (by (conv => lhs; whnf) <;> rfl) ?_
  refine wpF_mono (L45 (rest := [.int .i64 s.atomic, .int .i64 s.o0, .int .i64 s.o1, vr, vw]) (S.up3 (S.up3 hS)) hR.len hc hR.lt hR.le hw) ?_
  rw [hm, Int.toNat_natCast]
  rintro v H1 ⟨hf2, a, cc, rfl, hS⟩
  have hR2 : RingOk { s with buf := s.buf.drop m } r (rix s.cap f m) := ⟨hR.len, hf2, by
    show s.buf.drop m = rot r _ (s.buf.drop m).length
    rw [List.length_drop, ← hR.len, hrl.2], by show (s.buf.drop m).length ≤ s.cap; rw [List.length_drop]; omega⟩
  rw [hrl.1, ← List.length_drop] at hS
  refine zd1 ?_; refine wpD_nil ?_; refine dk_of ?_ ?_; (iterate 4 refine chk_skip ?_); refine chk_cons 3 rfl rfl rfl ?_ ?_; refine chkFs_cons 2 rfl rfl ?_ ?_; exact chk_load rfl (by exact S.g1 (by assumption)) rfl rfl; exact chkFs_nil; (iterate 2 refine chk_skip ?_); exact chk_end; refine seq_normal ?_; refine wp_seq ?_; refine zsr ?_; refine zw1 ?_; refine wpO_cons ?_; refine op1_len rfl rfl ?_; refine wpO_cons ?_; refine op1_eqlI rfl rfl rfl ?_; refine zns ?_
  refine wp_dec rfl (fun hq => ?_) (fun hq => ?_)
  · refine zsr ?_; refine wpO_cons ?_; refine op1_faddr0 rfl rfl ?_; refine wpO_cons ?_; refine op1_load rfl rfl (by exact S.g4 hS) rfl ?_; refine wpO_cons ?_; refine op1_build rfl ?_; refine bk_one (by (conv => lhs; whnf) <;> rfl) rfl rfl rfl ?_; refine bk_nil ?_; refine wpO_cons ?_; (refine op1_storeNS rfl rfl (by (conv => lhs; whnf) <;> rfl) rfl rfl (S.up3 hS) (Nat.le_of_ble_eq_true rfl) ?_; intro H3 hS; replace hS := S.dn3 hS); refine zns ?_; refine wp_ret ?_; refine seq_ret ?_; refine ret_of ?_; refine rk_cellN rfl (by exact S.g3 hS) rfl rfl ?_; refine rk_nil ?_
    obtain rfl : m = 0 := by omega
    replace hS := S.drop (S.up3 (S.drop (S.up3 hS)))
    exact ⟨_, _, rfl, hR2, S.slNil (S.drop hS)⟩
  · refine wp_skip ?_; refine seq_normal ?_; refine zsr ?_; refine wpO_cons ?_; refine op1_faddr0 rfl rfl ?_; refine wpO_cons ?_; refine op1_load rfl rfl (by exact S.g4 hS) rfl ?_; refine zw1 ?_; refine zw1 ?_; refine wpO_cons ?_; refine op1_len rfl rfl ?_; refine wpO_cons ?_; refine op1_build rfl ?_; refine bk_one (by (conv => lhs; whnf) <;> rfl) rfl rfl rfl ?_; refine bk_one (by (conv => lhs; whnf) <;> rfl) rfl rfl rfl ?_; refine bk_one (by (conv => lhs; whnf) <;> rfl) rfl rfl rfl ?_; refine bk_nil ?_; refine wpO_cons ?_; (refine op1_storeNS rfl rfl (by (conv => lhs; whnf) <;> rfl) rfl rfl (S.up3 hS) (Nat.le_of_ble_eq_true rfl) ?_; intro H3 hS; replace hS := S.dn3 hS); refine zns ?_; refine wp_ret ?_; refine ret_of ?_; refine rk_cellN rfl (by exact S.g3 hS) rfl rfl ?_; refine rk_nil ?_
    replace hS := S.drop (S.up3 (S.drop (S.up3 hS)))
    exact ⟨_, _, rfl, hR2, hS⟩
end Go.E.Pi
