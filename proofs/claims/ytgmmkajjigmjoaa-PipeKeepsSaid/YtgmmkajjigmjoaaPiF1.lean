/- The pipe's ring, walked through. -/
import Derived.Test.YtgmmkajjigmjoaaPiM
namespace Go.E.Pi
open Go Go.E Go.Proofs.Ytgmmkajjigmjoaa Go.Proofs
set_option linter.unusedVariables false
set_option linter.unusedSimpArgs false
set_option maxRecDepth 100000

theorem L41 {B H : AHeap} {As : List Asn} {p rb c f n : Nat} {rest : List Value} (hS : S B H (pto p (.cells (ringC rb c f n ++ rest) 0 false) :: As)) (hc : c ≤ 4096) (hn : n ≤ c) :
    wpF C 41 [.pointer (some ⟨p, 0, none⟩)] H fun v H' => v = .int .i64 (c - n : Nat) ∧ H = H' := by
  have hg := hS.get
  refine wpF_ofW o41 rfl rfl ?_
  refine wp_seq ?_; refine wp_region ?_; refine wpO_cons ?_; refine op1_mov rfl (by (conv => lhs; whnf) <;> rfl) ?_; refine wpO_nil ?_; refine seq_normal ?_; refine wp_seq ?_; refine wp_regionD ?_; refine wpD_cons ?_; refine op1_mov rfl (by (conv => lhs; whnf) <;> rfl) ?_; refine wpD_cons ?_; refine op1_nilchk rfl rfl ?_; refine wpD_cons ?_; refine op1_faddr0 rfl rfl ?_; refine wpD_cons ?_; refine op1_load rfl rfl (by exact S.g0 hS) rfl ?_; refine wpD_cons ?_; refine op1_len rfl rfl ?_; refine wpD_cons ?_; refine op1_mov rfl (by (conv => lhs; whnf) <;> rfl) ?_; refine wpD_cons ?_; refine op1_nilchk rfl rfl ?_; refine wpD_cons ?_; refine op1_faddr0 rfl rfl ?_; refine wpD_cons ?_; refine op1_load rfl rfl (by exact S.g0 hS) rfl ?_; refine wpD_cons ?_; refine op1_sub rfl rfl rfl (by exact wrap_i64 (by omega) (by omega)) ?_; refine wpD_cons ?_; refine op1_mov rfl (by (conv => lhs; whnf) <;> rfl) ?_; refine wpD_nil ?_; refine dk_of ?_ ?_; refine chk_skip ?_; refine chk_skip ?_; refine chk_skip ?_; refine chk_cons 8 rfl rfl rfl ?_ ?_; refine chkFs_cons 0 rfl rfl ?_ ?_; exact chk_load rfl (by exact S.g0 hS) rfl rfl; exact chkFs_nil; refine chk_cons 7 rfl rfl rfl ?_ ?_; refine chkFs_cons 0 rfl rfl ?_ ?_; exact chk_len rfl rfl; exact chkFs_nil; refine chk_skip ?_; refine chk_skip ?_; refine chk_skip ?_; refine chk_cons 3 rfl rfl rfl ?_ ?_; refine chkFs_cons 0 rfl rfl ?_ ?_; exact chk_load rfl (by exact S.g0 hS) rfl rfl; exact chkFs_nil; refine chk_skip ?_; refine chk_skip ?_; exact chk_end; refine seq_normal ?_; refine wp_ret ?_; refine ret_of ?_; refine rk_tmp (by (conv => lhs; whnf) <;> rfl) ?_; refine rk_nil ?_
  exact ⟨by simp only [resultV]; congr 1; omega, rfl⟩

theorem L43 {B H : AHeap} {As : List Asn} {p rb c f n : Nat} {rest : List Value} {r d : List Int} {vd : Value} (hS : S B H (pto p (.cells (ringC rb c f n ++ rest) 0 false) :: pto rb (.cells (u8s r) 1 false) :: As)) (hd : RD B As 1 vd (u8s d))
    (hr : r.length = c) (hc : 1 ≤ c ∧ c ≤ 4096) (hf : f < c) (hn : n ≤ c) (hl : d.length ≤ 1000000) :
    wpF C 43 [.pointer (some ⟨p, 0, none⟩), vd] H fun v H' => v = .int .i64 (min d.length (c - n) : Nat) ∧ ∃ r', r'.length = c ∧ rot r' f (n + min d.length (c - n)) = rot r f n ++ d.take (min d.length (c - n)) ∧
      S B H' (pto p (.cells (ringC rb c f (n + min d.length (c - n)) ++ rest) 0 false) :: pto rb (.cells (u8s r') 1 false) :: As) := by
  obtain ⟨a, ca, rfl⟩ := hd.u1 hS.drop.drop
  have hcap : d.length ≤ ca := by obtain ⟨_, h, _⟩ := hd H hS.drop.drop; exact h.le_cap
  refine wpF_ofW o43 rfl rfl ?_
  refine wp_seq ?_; refine wp_region ?_; refine wpO_cons ?_; refine op1_mov rfl (by (conv => lhs; whnf) <;> rfl) ?_; refine wpO_nil ?_; refine seq_normal ?_; refine wp_seq ?_; refine wp_region ?_; refine wpO_cons ?_; refine op1_mov rfl (by (conv => lhs; whnf) <;> rfl) ?_; refine wpO_cons ?_; refine op1_mov rfl (by (conv => lhs; whnf) <;> rfl) ?_; refine wpO_cons ?_; refine op1_len rfl rfl ?_; refine wpO_cons ?_; refine op1_mov rfl (by (conv => lhs; whnf) <;> rfl) ?_; refine wpO_cons ?_; refine op1_call1 rfl (by (conv => lhs; whnf) <;> rfl) ?_
  refine wpF_mono (L41 hS hc.2 hn) ?_
  rintro _ _ ⟨rfl, rfl⟩
  refine wpO_cons ?_; refine op1_min rfl rfl rfl ?_; refine wpO_cons ?_
  obtain ⟨m, hm⟩ : ∃ m : Nat, min d.length (c - n) = m := ⟨_, rfl⟩
  rw [show (min (d.length : Int) ((c - n : Nat) : Int)) = (m : Int) by omega, hm]
  refine op1_sliceD rfl rfl hd hS.drop.drop (bnds_hi (by omega) (by omega)) (by omega) (by simp only [Int.toNat_natCast]; omega) ?_
  simp only [Int.toNat_natCast, Nat.zero_mul, List.drop_zero, Nat.sub_zero, Nat.mul_one]
  intro a1 c1 hd1 _
  rw [u8s_take] at hd1
  have hml : (d.take m).length = m := by simp only [List.length_take]; omega
  obtain ⟨rr, hrd, hrl⟩ := hd1 H hS.drop.drop
  have hcap1 : m ≤ c1 := hrd.le_cap
  obtain ⟨at_, ha, ha2⟩ : ∃ at_ : Nat, (f + n) % c = at_ ∧ at_ < c := ⟨_, rfl, Nat.mod_lt _ (by omega)⟩
  have hat : at_ = rix c f n := by
    unfold rix
    rw [← ha]
    split
    · rw [Nat.mod_eq_of_lt (by omega)]
    · rw [Nat.mod_eq_sub_mod (by omega), Nat.mod_eq_of_lt (by omega)]
  have hrem : ((f : Int) + (n : Int)).tmod ((c : Nat) : Int) = (at_ : Int) := by
    rw [← Int.natCast_add, ← Int.ofNat_tmod, ha]
  refine wpO_cons ?_; refine op1_mov rfl (by (conv => lhs; whnf) <;> rfl) ?_; refine wpO_nil ?_; refine seq_normal ?_; refine wp_seq ?_; refine wp_regionD ?_; refine wpD_cons ?_; refine op1_mov rfl (by (conv => lhs; whnf) <;> rfl) ?_; refine wpD_cons ?_; refine op1_nilchk rfl rfl ?_; refine wpD_cons ?_; refine op1_faddr0 rfl rfl ?_; refine wpD_cons ?_; refine op1_load rfl rfl (by exact S.g0 hS) rfl ?_; refine wpD_cons ?_; refine op1_mov rfl (by (conv => lhs; whnf) <;> rfl) ?_; refine wpD_cons ?_; refine op1_nilchk rfl rfl ?_; refine wpD_cons ?_; refine op1_faddr0 rfl rfl ?_; refine wpD_cons ?_; refine op1_load rfl rfl (by exact S.g0 hS) rfl ?_; refine wpD_cons ?_; refine op1_add rfl rfl rfl (by exact wrap_i64 (by omega) (by omega)) ?_; refine wpD_cons ?_; refine op1_mov rfl (by (conv => lhs; whnf) <;> rfl) ?_; refine wpD_cons ?_; refine op1_nilchk rfl rfl ?_; refine wpD_cons ?_; refine op1_faddr0 rfl rfl ?_; refine wpD_cons ?_; refine op1_load rfl rfl (by exact S.g0 hS) rfl ?_; refine wpD_cons ?_; refine op1_len rfl rfl ?_; refine wpD_cons ?_; refine op1_rem rfl rfl rfl (by omega) ?_; refine wpD_cons ?_; refine op1_mov rfl (by (conv => lhs; whnf) <;> rfl) ?_; refine wpD_nil ?_; refine dk_of ?_ ?_; refine chk_skip ?_; refine chk_skip ?_; refine chk_skip ?_; refine chk_cons 13 rfl rfl rfl ?_ ?_; refine chkFs_cons 0 rfl rfl ?_ ?_; exact chk_load rfl (by exact S.g0 hS) rfl rfl; exact chkFs_nil; refine chk_skip ?_; refine chk_skip ?_; refine chk_skip ?_; refine chk_cons 9 rfl rfl rfl ?_ ?_; refine chkFs_cons 0 rfl rfl ?_ ?_; exact chk_load rfl (by exact S.g0 hS) rfl rfl; exact chkFs_nil; refine chk_skip ?_; refine chk_skip ?_; refine chk_skip ?_; refine chk_skip ?_; refine chk_cons 4 rfl rfl rfl ?_ ?_; refine chkFs_cons 0 rfl rfl ?_ ?_; exact chk_load rfl (by exact S.g0 hS) rfl rfl; exact chkFs_nil; refine chk_cons 3 rfl rfl rfl ?_ ?_; refine chkFs_cons 0 rfl rfl ?_ ?_; exact chk_len rfl rfl; exact chkFs_nil; refine chk_skip ?_; refine chk_skip ?_; exact chk_end; refine seq_normal ?_; refine wp_seq ?_; refine wp_region ?_; refine wpO_cons ?_; refine op1_mov rfl (by (conv => lhs; whnf) <;> rfl) ?_; refine wpO_cons ?_; refine op1_nilchk rfl rfl ?_; refine wpO_cons ?_; refine op1_faddr0 rfl rfl ?_; refine wpO_cons ?_; refine op1_load rfl rfl (by exact S.g0 hS) rfl ?_; refine wpO_cons ?_; refine op1_mov rfl (by (conv => lhs; whnf) <;> rfl) ?_; refine wpO_cons ?_
  rw [hrem]
  skip
  refine op1_sliceB rfl rfl (S.g1 hS) (.inr rfl) (bnds_lo (by omega) (by omega) (Nat.le_refl _)) (by simp only [Int.toNat_natCast]; omega) (Nat.le_refl _) ?_
  simp only [Int.toNat_natCast, Nat.mul_one, Nat.zero_add]
  refine wpO_cons ?_; refine op1_mov rfl (by (conv => lhs; whnf) <;> rfl) ?_; refine wpO_cons ?_
  obtain ⟨k, hk⟩ : ∃ k, min m (c - at_) = k := ⟨_, rfl⟩
  refine op1_copyS rfl rfl rfl rfl rfl hrd (by simp [hml]) (u8s_one _) (S.up1 hS) (by simp only [u8s_length]; omega) ?_
  rw [hk]
  intro H1 hS1
  have hs1 := S.dn1 hS1
  rw [Nat.mul_one, u8s_take, u8s_take, u8s_drop, ← u8s_append, ← u8s_append] at hs1
  have hS : S B H1 (pto p (.cells (ringC rb c f n ++ rest) 0 false) :: pto rb (.cells (u8s (splice r at_ ((d.take m).take k))) 1 false) :: As) := by
    have : splice r at_ ((d.take m).take k) = r.take at_ ++ (d.take m).take k ++ r.drop (at_ + k) := by
      unfold splice
      rw [show ((d.take m).take k).length = k by rw [List.length_take]; omega]
    rw [this]
    exact hs1
  clear hS1 hs1
  have hkm : k ≤ m := by omega
  refine wpO_cons ?_; refine op1_mov rfl (by (conv => lhs; whnf) <;> rfl) ?_; refine wpO_nil ?_; refine seq_normal ?_; refine wp_seq ?_; refine wp_regionD ?_; refine wpD_cons ?_; refine op1_mov rfl (by (conv => lhs; whnf) <;> rfl) ?_; refine wpD_cons ?_; refine op1_nilchk rfl rfl ?_; refine wpD_cons ?_; refine op1_faddr0 rfl rfl ?_; refine wpD_cons ?_; refine op1_load rfl rfl (by exact S.g0 hS) rfl ?_; refine wpD_cons ?_; refine op1_mov rfl (by (conv => lhs; whnf) <;> rfl) ?_; refine wpD_cons ?_; refine op1_mov rfl (by (conv => lhs; whnf) <;> rfl) ?_; refine wpD_cons ?_
  refine op1_sliceD rfl rfl hd1 hS.drop.drop (bnds_lo (by omega) (by omega) hcap1) (by simp only [Int.toNat_natCast]; omega) (Nat.le_refl _) ?_
  simp only [Int.toNat_natCast, Nat.mul_one]
  intro a2 c2 hd2 hck2
  rw [u8s_drop, u8s_take, List.take_of_length_le (by simp only [List.length_drop]; omega)] at hd2
  have hml2 : ((d.take m).drop k).length = m - k := by simp only [List.length_drop]; omega
  obtain ⟨rr2, hrd2, hrl2⟩ := hd2 H1 hS.drop.drop
  have hsl : (splice r at_ ((d.take m).take k)).length = c := by rw [splice_len (by simp only [List.length_take]; omega), hr]
  refine wpD_cons ?_
  refine op1_copyS rfl rfl rfl rfl rfl hrd2 (by simp [hml2]) (u8s_one _) (S.up1 hS) (by simp only [u8s_length]; omega) ?_
  rw [show min (m - k) c = m - k by omega]
  intro H2 hS1
  have hs1 := S.dn1 hS1
  rw [Nat.mul_one, Nat.zero_add, List.take_zero, List.nil_append, show (u8s ((d.take m).drop k)).take (m - k) = u8s ((d.take m).drop k) from List.take_of_length_le (by simp [hml2]), u8s_drop, ← u8s_append] at hs1
  have hfin := rot_put (r := r) (d := d.take m) (f := f) (n := n) (at_ := at_) (k := k) (by omega) (by omega) (by rw [hr]; exact hat) (by omega) (by omega)
  have hS2 : S B H2 (pto p (.cells (ringC rb c f n ++ rest) 0 false) :: pto rb (.cells (u8s (splice (splice r at_ ((d.take m).take k)) 0 ((d.take m).drop k))) 1 false) :: As) := by
    have : splice (splice r at_ ((d.take m).take k)) 0 ((d.take m).drop k) = (d.take m).drop k ++ (splice r at_ ((d.take m).take k)).drop (m - k) := by
      conv => lhs; unfold splice
      rw [List.take_zero, List.nil_append, Nat.zero_add, hml2]
      rfl
    rw [this]
    exact hs1
  clear hs1 hS1
  have hSA := hS.drop.drop
  have hS := hS2
  refine wpD_nil ?_; refine dk_of ?_ ?_; refine chk_skip ?_; refine chk_skip ?_; refine chk_skip ?_; refine chk_cons 5 rfl rfl rfl ?_ ?_; refine chkFs_cons 1 rfl rfl ?_ ?_; exact chk_load rfl (by exact S.g0 (by assumption)) rfl rfl; exact chkFs_nil; refine chk_skip ?_; refine chk_skip ?_; refine chk_cons 2 rfl rfl rfl ?_ ?_; refine chkFs_cons 1 rfl rfl ?_ ?_
  · exact hck2 _ _ hSA rfl
  exact chkFs_nil; refine chk_skip ?_; exact chk_end; refine seq_normal ?_; refine wp_seq ?_; refine wp_region ?_; refine wpO_cons ?_; refine op1_mov rfl (by (conv => lhs; whnf) <;> rfl) ?_; refine wpO_cons ?_; refine op1_nilchk rfl rfl ?_; refine wpO_cons ?_; refine op1_faddr0 rfl rfl ?_; refine wpO_cons ?_; refine op1_load rfl rfl (by exact S.g0 hS) rfl ?_; refine wpO_cons ?_; refine op1_mov rfl (by (conv => lhs; whnf) <;> rfl) ?_; refine wpO_cons ?_; refine op1_len rfl rfl ?_; refine wpO_cons ?_; refine op1_add rfl rfl rfl (by exact wrap_i64 (by omega) (by omega)) ?_; refine wpO_cons ?_; refine op1_nilchk rfl rfl ?_; refine wpO_cons ?_; refine op1_faddr0 rfl rfl ?_; refine wpO_cons ?_; (refine op1_store1S rfl rfl (by (conv => lhs; whnf) <;> rfl) rfl rfl (S.up0 hS) rfl ?_; intro H3 hS; replace hS := S.dn0 hS); refine wpO_nil ?_; refine seq_normal ?_; refine wp_seq ?_; refine wp_region ?_; refine wpO_cons ?_; refine op1_mov rfl (by (conv => lhs; whnf) <;> rfl) ?_; refine wpO_cons ?_; refine op1_len rfl rfl ?_; refine wpO_cons ?_; refine op1_mov rfl (by (conv => lhs; whnf) <;> rfl) ?_; refine wpO_nil ?_; refine seq_normal ?_; refine wp_ret ?_; refine ret_of ?_; refine rk_tmp (by (conv => lhs; whnf) <;> rfl) ?_; refine rk_nil ?_
  have h9 := hfin.2
  rw [hml] at h9
  exact ⟨rfl, _, hfin.1.trans hr, h9, hS⟩

theorem L45 {B H : AHeap} {As : List Asn} {p rb c f n : Nat} {rest : List Value} {r : List Int} {want : Int} (hS : S B H (pto p (.cells (ringC rb c f n ++ rest) 0 false) :: pto rb (.cells (u8s r) 1 false) :: As))
    (hr : r.length = c) (hc : 1 ≤ c ∧ c ≤ 4096) (hf : f < c) (hn : n ≤ c) (hw : 0 ≤ want) :
    wpF C 45 [.pointer (some ⟨p, 0, none⟩), .int .i64 want] H fun v H' => rix c f (min want n).toNat < c ∧ ∃ a cc, v = .slice a (min want n).toNat cc ∧
      S B H' (sl 1 (.slice a (min want n).toNat cc) (u8s (rot r f (min want n).toNat)) :: pto p (.cells (ringC rb c (rix c f (min want n).toNat) (n - (min want n).toNat) ++ rest) 0 false) :: pto rb (.cells (u8s r) 1 false) :: As) := by
  obtain ⟨m, hm⟩ : ∃ m : Nat, min want (n : Int) = m := ⟨(min want (n : Int)).toNat, by omega⟩
  rw [hm, Int.toNat_natCast]
  refine wpF_ofW o45 rfl rfl ?_
  refine wp_seq ?_; refine wp_region ?_; refine wpO_cons ?_; refine op1_mov rfl (by (conv => lhs; whnf) <;> rfl) ?_; refine wpO_nil ?_; refine seq_normal ?_; refine wp_seq ?_; refine wp_region ?_; refine wpO_cons ?_; refine op1_mov rfl (by (conv => lhs; whnf) <;> rfl) ?_; refine wpO_cons ?_; refine op1_mov rfl (by (conv => lhs; whnf) <;> rfl) ?_; refine wpO_cons ?_; refine op1_nilchk rfl rfl ?_; refine wpO_cons ?_; refine op1_faddr0 rfl rfl ?_; refine wpO_cons ?_; refine op1_load rfl rfl (by exact S.g0 hS) rfl ?_; refine wpO_cons ?_; refine op1_min rfl rfl rfl ?_; refine wpO_cons ?_
  rw [hm]
  refine op1_mksliceS rfl rfl rfl (by omega) (Int.le_refl _) (by omega) hS ?_
  rw [Int.toNat_natCast, u8s_zero]
  intro p1 H1 hS; refine wpO_cons ?_; refine op1_mov rfl (by (conv => lhs; whnf) <;> rfl) ?_; refine wpO_nil ?_; refine seq_normal ?_; refine wp_seq ?_; refine wp_regionD ?_; refine wpD_cons ?_; refine op1_mov rfl (by (conv => lhs; whnf) <;> rfl) ?_; refine wpD_cons ?_; refine op1_mov rfl (by (conv => lhs; whnf) <;> rfl) ?_; refine wpD_cons ?_; refine op1_nilchk rfl rfl ?_; refine wpD_cons ?_; refine op1_faddr0 rfl rfl ?_; refine wpD_cons ?_; refine op1_load rfl rfl (by exact S.g1 hS) rfl ?_; refine wpD_cons ?_; refine op1_mov rfl (by (conv => lhs; whnf) <;> rfl) ?_; refine wpD_cons ?_; refine op1_nilchk rfl rfl ?_; refine wpD_cons ?_; refine op1_faddr0 rfl rfl ?_; refine wpD_cons ?_; refine op1_load rfl rfl (by exact S.g1 hS) rfl ?_; refine wpD_cons ?_
  have hg2 := S.g2 hS
  refine op1_sliceB rfl rfl hg2 (.inr rfl) (bnds_lo (by omega) (by omega) (Nat.le_refl _)) (by simp only [Int.toNat_natCast]; omega) (Nat.le_refl _) ?_
  simp only [Int.toNat_natCast, Nat.mul_one, Nat.zero_add]
  refine wpD_cons ?_
  obtain ⟨k, hk⟩ : ∃ k, min (c - f) m = k := ⟨_, rfl⟩
  have hrd : RdS H1 1 (.slice (some ⟨rb, f, none⟩) (c - f) (c - f)) (u8s (r.drop f)) [rb] := by
    have := RdS.blk (es := 1) (off := f) (l := c - f) (c := c - f) hg2 (by simp; omega) (.inr rfl) (Nat.le_refl _)
    rwa [u8s_drop, List.take_of_length_le (by simp; omega)] at this
  have hS0 := hS
  refine op1_copyS rfl rfl rfl rfl rfl hrd (by simp; omega) (u8s_one _) hS (by simp; omega) ?_
  rw [hk]
  intro H2 hS1
  rw [Nat.mul_one, Nat.zero_add, List.take_zero, List.nil_append, u8s_take, u8s_drop, ← u8s_append] at hS1
  have hkl : ((r.drop f).take k).length = k := by simp only [List.length_take, List.length_drop]; omega
  have hS : S B H2 (pto p1 (.cells (u8s (splice (List.replicate m 0) 0 ((r.drop f).take k))) 1 false) :: pto p (.cells (ringC rb c f n ++ rest) 0 false) :: pto rb (.cells (u8s r) 1 false) :: As) := by
    have : splice (List.replicate m 0) 0 ((r.drop f).take k) = (r.drop f).take k ++ (List.replicate m (0 : Int)).drop k := by
      unfold splice
      rw [List.take_zero, List.nil_append, Nat.zero_add, hkl]
    rw [this]
    exact hS1
  have hz1 : (splice (List.replicate m 0) 0 ((r.drop f).take k)).length = m := by rw [splice_len (by rw [hkl]; simp; omega)]; simp
  generalize hZ : splice (List.replicate m 0) 0 ((r.drop f).take k) = z1 at *
  clear hS1
  refine wpD_cons ?_; refine op1_mov rfl (by (conv => lhs; whnf) <;> rfl) ?_; refine wpD_nil ?_; refine dk_of ?_ ?_; refine chk_skip ?_; refine chk_skip ?_; refine chk_skip ?_; refine chk_skip ?_; refine chk_cons 8 rfl rfl rfl ?_ ?_; refine chkFs_cons 2 rfl rfl ?_ ?_; exact chk_load rfl (by exact S.g1 hS0) rfl rfl; exact chkFs_nil; refine chk_skip ?_; refine chk_skip ?_; refine chk_skip ?_; refine chk_cons 4 rfl rfl rfl ?_ ?_; refine chkFs_cons 2 rfl rfl ?_ ?_; exact chk_load rfl (by exact S.g1 hS0) rfl rfl; exact chkFs_nil; refine chk_cons 3 rfl rfl rfl ?_ ?_; refine chkFs_cons 2 rfl rfl ?_ ?_
  · refine chk_sliceB rfl hg2 (.inr rfl) (bnds_lo (by omega) (by omega) (Nat.le_refl _)) (by simp only [Int.toNat_natCast]; omega) (Nat.le_refl _) ?_
    simp only [Int.toNat_natCast, Nat.mul_one, Nat.zero_add]
    rfl
  exact chkFs_nil; refine chk_skip ?_; refine chk_skip ?_; exact chk_end; refine seq_normal ?_; refine wp_seq ?_; refine wp_regionD ?_; refine wpD_cons ?_; refine op1_mov rfl (by (conv => lhs; whnf) <;> rfl) ?_; refine wpD_cons ?_; refine op1_mov rfl (by (conv => lhs; whnf) <;> rfl) ?_; refine wpD_cons ?_
  have hg0 := S.g0 hS
  have hkm : k ≤ m := by omega
  refine op1_sliceB rfl rfl hg0 (.inr rfl) (bnds_lo (by omega) (by omega) (Nat.le_refl _)) (by simp only [Int.toNat_natCast]; omega) (Nat.le_refl _) ?_
  simp only [Int.toNat_natCast, Nat.mul_one, Nat.zero_add]
  refine wpD_cons ?_; refine op1_mov rfl (by (conv => lhs; whnf) <;> rfl) ?_; refine wpD_cons ?_; refine op1_nilchk rfl rfl ?_; refine wpD_cons ?_; refine op1_faddr0 rfl rfl ?_; refine wpD_cons ?_; refine op1_load rfl rfl (by exact S.g1 hS) rfl ?_; refine wpD_cons ?_
  have hrd2 : RdS H2 1 (.slice (some ⟨rb, 0, none⟩) c c) (u8s r) [rb] := by
    have := RdS.blk (es := 1) (off := 0) (l := c) (c := c) (S.g2 hS) (by simp; omega) (.inr rfl) (Nat.le_refl _)
    rwa [List.drop_zero, List.take_of_length_le (by simp; omega)] at this
  refine op1_copyS rfl rfl rfl rfl rfl hrd2 (by simp; omega) (u8s_one _) hS (by simp; omega) ?_
  rw [show min c (m - k) = m - k by omega]
  intro H3 hS1
  rw [Nat.mul_one, u8s_take, u8s_take, u8s_drop, ← u8s_append, ← u8s_append] at hS1
  have hfin := rot_take (r := r) (z := List.replicate m 0) (f := f) (m := m) (k := k) (by omega) (by omega) (by simp) (by omega)
  rw [hZ] at hfin
  have hS3 : S B H3 (pto p1 (.cells (u8s (rot r f m)) 1 false) :: pto p (.cells (ringC rb c f n ++ rest) 0 false) :: pto rb (.cells (u8s r) 1 false) :: As) := by
    rw [← hfin]
    unfold splice
    rw [show (r.take (m - k)).length = m - k by simp only [List.length_take]; omega]
    exact hS1
  clear hS1
  have hS := hS3
  obtain ⟨at_, ha, ha2⟩ : ∃ at_ : Nat, (f + m) % c = at_ ∧ at_ < c := ⟨_, rfl, Nat.mod_lt _ (by omega)⟩
  have hat : rix c f m = at_ := by
    unfold rix
    rw [← ha]
    split
    · rw [Nat.mod_eq_of_lt (by omega)]
    · rw [Nat.mod_eq_sub_mod (by omega), Nat.mod_eq_of_lt (by omega)]
  have hrem : ((f : Int) + (m : Int)).tmod ((c : Nat) : Int) = (at_ : Int) := by
    rw [← Int.natCast_add, ← Int.ofNat_tmod, ha]
  rw [hat]
  refine wpD_nil ?_; refine dk_of ?_ ?_; refine chk_skip ?_; refine chk_skip ?_; refine chk_cons 6 rfl rfl rfl ?_ ?_; refine chkFs_cons 1 rfl rfl ?_ ?_
  · refine chk_sliceB rfl hg0 (.inr rfl) (bnds_lo (by omega) (by omega) (Nat.le_refl _)) (by simp only [Int.toNat_natCast]; omega) (Nat.le_refl _) ?_
    simp only [Int.toNat_natCast, Nat.mul_one, Nat.zero_add]
    rfl
  exact chkFs_nil; refine chk_skip ?_; refine chk_skip ?_; refine chk_skip ?_; refine chk_cons 2 rfl rfl rfl ?_ ?_; refine chkFs_cons 1 rfl rfl ?_ ?_; exact chk_load rfl (by exact S.g1 (by assumption)) rfl rfl; exact chkFs_nil; refine chk_skip ?_; exact chk_end; refine seq_normal ?_; refine wp_seq ?_; refine wp_regionD ?_; refine wpD_cons ?_; refine op1_mov rfl (by (conv => lhs; whnf) <;> rfl) ?_; refine wpD_cons ?_; refine op1_mov rfl (by (conv => lhs; whnf) <;> rfl) ?_; refine wpD_cons ?_; refine op1_nilchk rfl rfl ?_; refine wpD_cons ?_; refine op1_faddr0 rfl rfl ?_; refine wpD_cons ?_; refine op1_load rfl rfl (by exact S.g1 hS) rfl ?_; refine wpD_cons ?_; refine op1_mov rfl (by (conv => lhs; whnf) <;> rfl) ?_; refine wpD_cons ?_; refine op1_len rfl rfl ?_; refine wpD_cons ?_; refine op1_add rfl rfl rfl (by exact wrap_i64 (by omega) (by omega)) ?_; refine wpD_cons ?_; refine op1_mov rfl (by (conv => lhs; whnf) <;> rfl) ?_; refine wpD_cons ?_; refine op1_nilchk rfl rfl ?_; refine wpD_cons ?_; refine op1_faddr0 rfl rfl ?_; refine wpD_cons ?_; refine op1_load rfl rfl (by exact S.g1 hS) rfl ?_; refine wpD_cons ?_; refine op1_len rfl rfl ?_; refine wpD_cons ?_; refine op1_rem rfl rfl rfl (by omega) ?_; refine wpD_cons ?_; refine op1_nilchk rfl rfl ?_; refine wpD_cons ?_; refine op1_faddr0 rfl rfl ?_; refine wpD_cons ?_; (refine op1_store1S rfl rfl (by (conv => lhs; whnf) <;> rfl) rfl rfl (S.up1 hS) rfl ?_; intro H4 hS; replace hS := S.dn1 hS); refine wpD_nil ?_; refine dk_of ?_ ?_; refine chk_skip ?_; refine chk_skip ?_; refine chk_skip ?_; refine chk_skip ?_; refine chk_cons 13 rfl rfl rfl ?_ ?_; refine chkFs_cons 1 rfl rfl ?_ ?_; exact chk_load rfl (by exact S.g1 (by assumption)) rfl rfl; exact chkFs_nil; refine chk_skip ?_; refine chk_cons 11 rfl rfl rfl ?_ ?_; refine chkFs_cons 1 rfl rfl ?_ ?_; exact chk_len rfl rfl; exact chkFs_nil; refine chk_skip ?_; refine chk_skip ?_; refine chk_skip ?_; refine chk_skip ?_; refine chk_cons 6 rfl rfl rfl ?_ ?_; refine chkFs_cons 1 rfl rfl ?_ ?_; exact chk_load rfl (by exact S.g1 (by assumption)) rfl rfl; exact chkFs_nil; refine chk_cons 5 rfl rfl rfl ?_ ?_; refine chkFs_cons 1 rfl rfl ?_ ?_; exact chk_len rfl rfl; exact chkFs_nil; refine chk_skip ?_; refine chk_skip ?_; refine chk_skip ?_; refine chk_skip ?_; exact chk_end; refine seq_normal ?_; refine wp_seq ?_; refine wp_region ?_; refine wpO_cons ?_; refine op1_mov rfl (by (conv => lhs; whnf) <;> rfl) ?_; refine wpO_cons ?_; refine op1_nilchk rfl rfl ?_; refine wpO_cons ?_; refine op1_faddr0 rfl rfl ?_; refine wpO_cons ?_; refine op1_load rfl rfl (by exact S.g1 hS) rfl ?_; refine wpO_cons ?_; refine op1_mov rfl (by (conv => lhs; whnf) <;> rfl) ?_; refine wpO_cons ?_; refine op1_len rfl rfl ?_; refine wpO_cons ?_; refine op1_sub rfl rfl rfl (by exact wrap_i64 (by omega) (by omega)) ?_; refine wpO_cons ?_; refine op1_nilchk rfl rfl ?_; refine wpO_cons ?_; refine op1_faddr0 rfl rfl ?_; refine wpO_cons ?_; (refine op1_store1S rfl rfl (by (conv => lhs; whnf) <;> rfl) rfl rfl (S.up1 hS) rfl ?_; intro H5 hS; replace hS := S.dn1 hS); refine wpO_nil ?_; refine seq_normal ?_; refine wp_seq ?_; refine wp_region ?_; refine wpO_cons ?_; refine op1_mov rfl (by (conv => lhs; whnf) <;> rfl) ?_; refine wpO_cons ?_; refine op1_mov rfl (by (conv => lhs; whnf) <;> rfl) ?_; refine wpO_nil ?_; refine seq_normal ?_; refine wp_ret ?_; refine ret_of ?_; refine rk_tmp (by (conv => lhs; whnf) <;> rfl) ?_; refine rk_nil ?_
  have h8 := S.slNew hS (l := m) (by simp)
  rw [hrem, show (n : Int) - (m : Int) = ((n - m : Nat) : Int) by omega] at h8
  exact ⟨ha2, _, _, rfl, h8⟩
end Go.E.Pi
