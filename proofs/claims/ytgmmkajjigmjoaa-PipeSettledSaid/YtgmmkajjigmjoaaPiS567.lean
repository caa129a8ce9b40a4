/- Sorting whole numbers: the heap. -/
import Derived.Test.YtgmmkajjigmjoaaPiS34
namespace Go.E.Pi
open Go Go.E Go.Proofs.Ytgmmkajjigmjoaa Go.Proofs
set_option linter.unusedVariables false
set_option linter.unusedSimpArgs false
set_option maxRecDepth 100000
section
variable {B H : AHeap} {As : List Asn} {b off n c : Nat} {l : List Int}
theorem L88 {r0 hi f : Nat} (hS : S B H (sl 1 (.slice (some ⟨b, off, none⟩) n c) (i64s l) :: As)) (hn : l.length = n) (h1 : f + hi ≤ n) (h2 : r0 ≤ n) (hb : n ≤ 1000000) :
    wpF C 88 [.slice (some ⟨b, off, none⟩) n c, .int .i64 r0, .int .i64 hi, .int .i64 f] H fun v H' => ∃ l', l'.Perm l ∧ S B H' (sl 1 (.slice (some ⟨b, off, none⟩) n c) (i64s l') :: As) := by
  refine wpF_ofW o88 rfl rfl ?_
  refine zsr ?_; refine zw1 ?_; refine zw1 ?_; refine zns ?_; refine wp_block ?_
  refine wp_loop [8] (fun k vs H' => ∃ (r : Nat) (m : List Int), vs = [.int .i64 r] ∧ k = n - r ∧ r ≤ n ∧ m.Perm l ∧ S B H' (sl 1 (.slice (some ⟨b, off, none⟩) n c) (i64s m) :: As))
    ⟨_, _, l, rfl, rfl, by omega, .refl _, hS⟩ ?_
  clear hS
  rintro k vs T' H1 ⟨r, m, rfl, hk, hr, hp, hS⟩
  have hml := hp.length_eq
  have ec : (2 : Int) * (r : Int) + 1 = ((2 * r + 1 : Nat) : Int) := by omega
  refine wp_block ?_; refine zsr ?_; refine zw1 ?_; refine wpO_cons ?_; refine op1_mul rfl rfl rfl (by exact wrap_i64 (by omega) (by omega)) ?_; refine wpO_cons ?_; refine op1_add rfl rfl rfl (by exact wrap_i64 (by omega) (by omega)) ?_; refine zw1 ?_; refine zns ?_; refine wp_seq ?_; refine zsr ?_; refine zw1 ?_; refine zw1 ?_; refine wpO_cons ?_; refine op1_geq rfl rfl rfl ?_; refine zns ?_
  rw [ec]
  refine wp_dec rfl (fun hq => ?_) (fun hq => ?_)
  · refine wp_exit ?_; refine seq_exit ?_; refine block_other rfl ?_; refine iter_exit ?_; refine block_exit ?_; refine nrm_of ?_; refine rk_nil ?_
    exact ⟨m, hp, hS⟩
  refine wp_skip ?_; refine seq_normal ?_
  refine wp_cut [9] (fun vs H' => ∃ ch : Nat, vs = [.int .i64 ch] ∧ r < ch ∧ ch < hi ∧ H1 = H') ?_ ?_
  · refine wp_seq ?_; refine wp_regionD ?_; refine zd1 ?_; refine wpD_cons ?_; refine op1_add rfl rfl rfl (by exact wrap_i64 (by omega) (by omega)) ?_; refine zd1 ?_; refine wpD_cons ?_; refine op1_lss rfl rfl rfl ?_; refine zd1 ?_; refine wpD_cons ?_
    have ec2 : ((2 * r + 2 : Nat) : Int) = ((2 * r + 1 : Nat) : Int) + 1 := by omega
    refine op1_dec rfl (fun hg => ?_) (fun hg => ?_)
    · obtain ⟨x, hx⟩ : ∃ x, m[f + (2 * r + 1)]? = some x := ⟨m[f + (2 * r + 1)]'(by omega), by simp⟩
      obtain ⟨y, hy⟩ : ∃ y, m[f + (2 * r + 2)]? = some y := ⟨m[f + (2 * r + 2)]'(by omega), by simp⟩
      refine op1_mov rfl (by (conv => lhs; whnf) <;> rfl) ?_; refine zd1 ?_; refine zd1 ?_; refine wpD_cons ?_; refine op1_add rfl rfl rfl (by exact wrap_i64 (by omega) (by omega)) ?_; refine wpD_cons ?_; refine op1_iaddr rfl rfl rfl (by omega) (by omega) ?_; refine wpD_cons ?_
      refine op1_loadL (k := (f + (2 * r + 1)) * 1) rfl rfl hS (by omega) (by omega) (i64s_at hx) ?_
      refine zd1 ?_; refine zd1 ?_; refine zd1 ?_; refine wpD_cons ?_; refine op1_add rfl rfl rfl (by exact wrap_i64 (by omega) (by omega)) ?_; refine wpD_cons ?_; refine op1_add rfl rfl rfl (by exact wrap_i64 (by omega) (by omega)) ?_; refine wpD_cons ?_; refine op1_iaddr rfl rfl rfl (by omega) (by omega) ?_; refine wpD_cons ?_
      refine op1_loadL (k := (f + (2 * r + 2)) * 1) rfl rfl hS (by omega) (by omega) (i64s_at hy) ?_
      refine wpD_cons ?_; refine op1_call2 rfl (by (conv => lhs; whnf) <;> rfl) (by (conv => lhs; whnf) <;> rfl) ?_
      refine wpF_mono L81 ?_
      rintro _ _ ⟨rfl, rfl⟩
      refine wpD_cons ?_; refine op1_pick_t rfl rfl (by (conv => lhs; whnf) <;> rfl) ?_; refine wpD_nil ?_; refine dk_of ?_ ?_; (iterate 10 refine chk_skip ?_); refine chk_cons 10 rfl rfl rfl ?_ ?_; refine chkFs_cons 2 rfl rfl ?_ ?_
      · exact chk_loadL (k := (f + (2 * r + 1)) * 1) rfl hS (by omega) (by omega) (i64s_at hx) rfl
      exact chkFs_nil; (iterate 6 refine chk_skip ?_); refine chk_cons 3 rfl rfl rfl ?_ ?_; refine chkFs_cons 2 rfl rfl ?_ ?_
      · exact chk_loadL (k := (f + (2 * r + 2)) * 1) rfl hS (by omega) (by omega) (i64s_at hy) rfl
      exact chkFs_nil; (iterate 2 refine chk_skip ?_); exact chk_end; refine seq_normal ?_
      refine wp_dec rfl (fun hxy => ?_) (fun hxy => ?_)
      · refine wp_region ?_; refine zw1 ?_; refine wpO_cons ?_; refine op1_add rfl rfl rfl (by exact wrap_i64 (by omega) (by omega)) ?_; refine zw1 ?_; refine wpO_nil ?_; refine cut1 (by (conv => lhs; whnf) <;> rfl) ?_
        exact ⟨2 * r + 2, by rw [ec2], by omega, by omega, rfl⟩
      · refine wp_skip ?_; refine cut1 (by (conv => lhs; whnf) <;> rfl) ?_
        exact ⟨2 * r + 1, rfl, by omega, by omega, rfl⟩
    · refine op1_skip rfl ?_; refine wpD_cons ?_; refine op1_skip rfl ?_; refine wpD_cons ?_; refine op1_skip rfl ?_; refine wpD_cons ?_; refine op1_skip rfl ?_; refine wpD_cons ?_; refine op1_skip rfl ?_; refine wpD_cons ?_; refine op1_skip rfl ?_; refine wpD_cons ?_; refine op1_skip rfl ?_; refine wpD_cons ?_; refine op1_skip rfl ?_; refine wpD_cons ?_; refine op1_skip rfl ?_; refine wpD_cons ?_; refine op1_skip rfl ?_; refine wpD_cons ?_; refine op1_skip rfl ?_; refine wpD_cons ?_; refine op1_skip rfl ?_; refine wpD_cons ?_; refine op1_skip rfl ?_; refine wpD_cons ?_; refine op1_skip rfl ?_; refine wpD_cons ?_; refine op1_pick_f rfl rfl (by (conv => lhs; whnf) <;> rfl) ?_; refine wpD_nil ?_; refine dk_of ?_ ?_; (iterate 10 refine chk_skip ?_); refine chk_unw 10 rfl rfl rfl ?_; (iterate 6 refine chk_skip ?_); refine chk_unw 3 rfl rfl rfl ?_; (iterate 2 refine chk_skip ?_); exact chk_end; refine seq_normal ?_; refine wp_false rfl ?_; refine wp_skip ?_; refine cut1 (by (conv => lhs; whnf) <;> rfl) ?_
      exact ⟨2 * r + 1, rfl, by omega, by omega, rfl⟩
  rintro vs5 T5 H10 ⟨ch, rfl, hc1, hc2, rfl⟩
  obtain ⟨x, hx⟩ : ∃ x, m[f + r]? = some x := ⟨m[f + r]'(by omega), by simp⟩
  obtain ⟨y, hy⟩ : ∃ y, m[f + ch]? = some y := ⟨m[f + ch]'(by omega), by simp⟩
  have hS0 := hS
  refine wp_seq ?_; refine wp_seq ?_; refine wp_regionD ?_; refine zd1 ?_; refine zd1 ?_; refine zd1 ?_; refine wpD_cons ?_; refine op1_add rfl rfl rfl (by exact wrap_i64 (by omega) (by omega)) ?_; refine wpD_cons ?_; refine op1_iaddr rfl rfl rfl (by omega) (by omega) ?_; refine wpD_cons ?_
  refine op1_loadL (k := (f + r) * 1) rfl rfl hS (by omega) (by omega) (i64s_at hx) ?_
  refine zd1 ?_; refine zd1 ?_; refine zd1 ?_; refine wpD_cons ?_; refine op1_add rfl rfl rfl (by exact wrap_i64 (by omega) (by omega)) ?_; refine wpD_cons ?_; refine op1_iaddr rfl rfl rfl (by omega) (by omega) ?_; refine wpD_cons ?_
  refine op1_loadL (k := (f + ch) * 1) rfl rfl hS (by omega) (by omega) (i64s_at hy) ?_
  refine wpD_cons ?_; refine op1_call2 rfl (by (conv => lhs; whnf) <;> rfl) (by (conv => lhs; whnf) <;> rfl) ?_
  refine wpF_mono L81 ?_
  rintro _ _ ⟨rfl, rfl⟩
  refine wpD_cons ?_; refine op1_not rfl rfl ?_; refine wpD_nil ?_; refine dk_of ?_ ?_; (iterate 5 refine chk_skip ?_); refine chk_cons 9 rfl rfl rfl ?_ ?_; refine chkFs_cons 2 rfl rfl ?_ ?_
  · exact chk_loadL (k := (f + r) * 1) rfl hS (by omega) (by omega) (i64s_at hx) rfl
  exact chkFs_nil; (iterate 5 refine chk_skip ?_); refine chk_cons 3 rfl rfl rfl ?_ ?_; refine chkFs_cons 2 rfl rfl ?_ ?_
  · exact chk_loadL (k := (f + ch) * 1) rfl hS (by omega) (by omega) (i64s_at hy) rfl
  exact chkFs_nil; (iterate 2 refine chk_skip ?_); exact chk_end; refine seq_normal ?_
  refine wp_ndec rfl (fun hxy => ?_) (fun hxy => ?_)
  · refine wp_ret ?_; refine seq_ret ?_; refine block_ret ?_; refine iter_ret ?_; refine block_ret ?_; refine ret_of ?_; refine rk_nil ?_
    exact ⟨m, hp, hS⟩
  refine wp_skip ?_; refine seq_normal ?_; refine wp_seq ?_; refine wp_regionD ?_; refine zd1 ?_; refine zd1 ?_; refine zd1 ?_; refine wpD_cons ?_; refine op1_add rfl rfl rfl (by exact wrap_i64 (by omega) (by omega)) ?_; refine zd1 ?_; refine zd1 ?_; refine zd1 ?_; refine wpD_cons ?_; refine op1_add rfl rfl rfl (by exact wrap_i64 (by omega) (by omega)) ?_; refine zd1 ?_; refine zd1 ?_; refine zd1 ?_; refine wpD_cons ?_; refine op1_add rfl rfl rfl (by exact wrap_i64 (by omega) (by omega)) ?_; refine wpD_cons ?_; refine op1_iaddr rfl rfl rfl (by omega) (by omega) ?_; refine wpD_cons ?_
  refine op1_loadL (k := (f + ch) * 1) rfl rfl hS (by omega) (by omega) (i64s_at hy) ?_
  refine zd1 ?_; refine zd1 ?_; refine zd1 ?_; refine wpD_cons ?_; refine op1_add rfl rfl rfl (by exact wrap_i64 (by omega) (by omega)) ?_; refine wpD_cons ?_; refine op1_iaddr rfl rfl rfl (by omega) (by omega) ?_; refine wpD_cons ?_
  refine op1_loadL (k := (f + r) * 1) rfl rfl hS (by omega) (by omega) (i64s_at hx) ?_
  refine wpD_cons ?_; refine op1_iaddr rfl rfl rfl (by omega) (by omega) ?_; refine wpD_cons ?_; (refine op1_store1L rfl rfl (by (conv => lhs; whnf) <;> rfl) rfl rfl (S.up0 hS) (by omega) ?_; intro H2 hS; replace hS := S.dn0 hS); refine wpD_cons ?_; refine op1_iaddr rfl rfl rfl (by omega) (by omega) ?_; refine wpD_cons ?_; (refine op1_store1L rfl rfl (by (conv => lhs; whnf) <;> rfl) rfl rfl (S.up0 hS) (by omega) ?_; intro H3 hS; replace hS := S.dn0 hS); refine wpD_nil ?_; refine dk_of ?_ ?_; (iterate 13 refine chk_skip ?_); refine chk_cons 11 rfl rfl rfl ?_ ?_; refine chkFs_cons 3 rfl rfl ?_ ?_
  · exact chk_loadL (k := (f + ch) * 1) rfl hS0 (by omega) (by omega) (i64s_at hy) rfl
  exact chkFs_nil; (iterate 5 refine chk_skip ?_); refine chk_cons 5 rfl rfl rfl ?_ ?_; refine chkFs_cons 3 rfl rfl ?_ ?_
  · exact chk_loadL (k := (f + r) * 1) rfl hS0 (by omega) (by omega) (i64s_at hx) rfl
  exact chkFs_nil; (iterate 4 refine chk_skip ?_); exact chk_end; refine seq_normal ?_; refine wp_region ?_; refine zw1 ?_; refine zw1 ?_; refine wpO_nil ?_; refine block_normal ?_
  rw [show ((f : Int) + (r : Int)).toNat = f + r by omega, show ((f : Int) + (ch : Int)).toNat = f + ch by omega, i64s_set, i64s_set] at hS
  exact ⟨n - ch, by omega, ch, _, rfl, rfl, by omega, (swap_perm hx hy).trans hp, hS⟩
theorem L76 {lo hi : Nat} (hS : S B H (sl 1 (.slice (some ⟨b, off, none⟩) n c) (i64s l) :: As)) (hn : l.length = n) (h1 : lo < hi) (h2 : hi ≤ n) (hb : n ≤ 1000000) :
    wpF C 76 [.slice (some ⟨b, off, none⟩) n c, .int .i64 lo, .int .i64 hi] H fun v H' => ∃ l', l'.Perm l ∧ S B H' (sl 1 (.slice (some ⟨b, off, none⟩) n c) (i64s l') :: As) := by
  refine wpF_ofW o76 rfl rfl ?_
  obtain ⟨L, hL⟩ : ∃ L : Nat, hi = lo + (L + 1) := ⟨hi - lo - 1, by omega⟩
  have eL : (hi : Int) - lo = ((L + 1 : Nat) : Int) := by omega
  have eM : ((L + 1 : Nat) : Int) - 1 = (L : Int) := by omega
  refine zsr ?_; refine zw1 ?_; refine zw1 ?_; refine zns ?_; refine zsr ?_; refine zw1 ?_; refine zns ?_; refine zsr ?_; refine zw1 ?_; refine zw1 ?_; refine wpO_cons ?_; refine op1_sub rfl rfl rfl (by exact wrap_i64 (by omega) (by omega)) ?_; refine zw1 ?_; refine zns ?_; refine wp_seq ?_; refine zsr ?_; refine zw1 ?_; refine wpO_cons ?_; refine op1_sub rfl rfl rfl (by exact wrap_i64 (by omega) (by omega)) ?_; refine wpO_cons ?_
  rw [eL, eM]
  refine op1_quo rfl rfl rfl (by omega) (by rw [show ((L : Nat) : Int).tdiv 2 = ((L / 2 : Nat) : Int) from rfl]; exact wrap_i64 (by omega) (by omega)) ?_
  rw [show ((L : Nat) : Int).tdiv 2 = ((L / 2 : Nat) : Int) from rfl]
  refine zw1 ?_; refine zns ?_; refine wp_block ?_
  refine wp_loop [9] (fun k vs H' => ∃ (m : List Int), vs = [.int .i64 ((k : Int) - 1)] ∧ k ≤ n ∧ m.Perm l ∧ S B H' (sl 1 (.slice (some ⟨b, off, none⟩) n c) (i64s m) :: As))
    ⟨L / 2 + 1, l, by rw [show ((L / 2 + 1 : Nat) : Int) - 1 = ((L / 2 : Nat) : Int) by omega]; rfl, by omega, .refl _, hS⟩ ?_
  clear hS
  rintro k vs T' H1 ⟨m, rfl, hk, hp, hS⟩
  have hml := hp.length_eq
  refine wp_seq ?_; refine zsr ?_; refine zw1 ?_; refine wpO_cons ?_; refine op1_geq rfl rfl rfl ?_; refine zns ?_
  refine wp_dec rfl (fun hq => ?_) (fun hq => ?_)
  · obtain ⟨k, rfl⟩ : ∃ t, k = t + 1 := ⟨k - 1, by omega⟩
    have ek : ((k + 1 : Nat) : Int) - 1 = (k : Int) := by omega
    refine wp_skip ?_; refine seq_normal ?_; refine wp_seq ?_; refine wp_block ?_; refine wp_region ?_; (iterate 4 refine zw1 ?_); refine wpO_cons ?_; refine op1_call4 rfl (by (conv => lhs; whnf) <;> rfl) (by (conv => lhs; whnf) <;> rfl) (by (conv => lhs; whnf) <;> rfl) (by (conv => lhs; whnf) <;> rfl) ?_
    rw [ek]
    refine wpF_mono (L88 (r0 := k) (hi := L + 1) (f := lo) hS (by omega) (by omega) (by omega) hb) ?_
    rintro v H2 ⟨m2, hp2, hS⟩
    refine wpO_nil ?_; refine block_normal ?_; refine seq_normal ?_; refine wp_region ?_; refine zw1 ?_; refine wpO_cons ?_; refine op1_sub rfl rfl rfl (by exact wrap_i64 (by omega) (by omega)) ?_; refine zw1 ?_; refine wpO_nil ?_
    exact ⟨k, by omega, m2, rfl, by omega, hp2.trans hp, hS⟩
  refine wp_exit ?_; refine seq_exit ?_; refine iter_exit ?_; refine block_exit ?_; refine seq_normal ?_; refine zsr ?_; refine zw1 ?_; refine wpO_cons ?_; refine op1_sub rfl rfl rfl (by exact wrap_i64 (by omega) (by omega)) ?_; refine zw1 ?_; refine zns ?_; refine wp_block ?_
  rw [eM]
  refine wp_loop [10] (fun k vs H' => ∃ (m : List Int), vs = [.int .i64 ((k : Int) - 1)] ∧ k ≤ L + 1 ∧ m.Perm l ∧ S B H' (sl 1 (.slice (some ⟨b, off, none⟩) n c) (i64s m) :: As))
    ⟨L + 1, m, by rw [eM]; rfl, by omega, hp, hS⟩ ?_
  clear hS hp hml
  rintro k vs T' H1 ⟨m, rfl, hk, hp, hS⟩
  have hml := hp.length_eq
  refine wp_seq ?_; refine zsr ?_; refine zw1 ?_; refine wpO_cons ?_; refine op1_geq rfl rfl rfl ?_; refine zns ?_
  refine wp_dec rfl (fun hq => ?_) (fun hq => ?_)
  · obtain ⟨k, rfl⟩ : ∃ t, k = t + 1 := ⟨k - 1, by omega⟩
    have ek : ((k + 1 : Nat) : Int) - 1 = (k : Int) := by omega
    obtain ⟨x, hx⟩ : ∃ x, m[lo]? = some x := ⟨m[lo]'(by omega), by simp⟩
    obtain ⟨y, hy⟩ : ∃ y, m[lo + k]? = some y := ⟨m[lo + k]'(by omega), by simp⟩
    have hS0 := hS
    rw [ek]
    refine wp_skip ?_; refine seq_normal ?_; refine wp_seq ?_; refine wp_block ?_; refine wp_seq ?_; refine wp_regionD ?_; (iterate 5 refine zd1 ?_); refine wpD_cons ?_; refine op1_add rfl rfl rfl (by exact wrap_i64 (by omega) (by omega)) ?_; refine zd1 ?_; refine zd1 ?_; refine zd1 ?_; refine wpD_cons ?_; refine op1_add rfl rfl rfl (by exact wrap_i64 (by omega) (by omega)) ?_; refine wpD_cons ?_; refine op1_iaddr rfl rfl rfl (by omega) (by omega) ?_; refine wpD_cons ?_
    refine op1_loadL (k := (lo + k) * 1) rfl rfl hS (by omega) (by omega) (i64s_at hy) ?_
    refine zd1 ?_; refine zd1 ?_; refine wpD_cons ?_; refine op1_iaddr rfl rfl rfl (by omega) (by omega) ?_; refine wpD_cons ?_
    refine op1_loadL rfl rfl hS rfl (by omega) (i64s_at hx) ?_
    refine wpD_cons ?_; refine op1_iaddr rfl rfl rfl (by omega) (by omega) ?_; refine wpD_cons ?_; (refine op1_store1L rfl rfl (by (conv => lhs; whnf) <;> rfl) rfl rfl (S.up0 hS) (by omega) ?_; intro H2 hS; replace hS := S.dn0 hS); refine wpD_cons ?_; refine op1_iaddr rfl rfl rfl (by omega) (by omega) ?_; refine wpD_cons ?_; (refine op1_store1L rfl rfl (by (conv => lhs; whnf) <;> rfl) rfl rfl (S.up0 hS) (by omega) ?_; intro H3 hS; replace hS := S.dn0 hS); refine wpD_nil ?_; refine dk_of ?_ ?_; (iterate 11 refine chk_skip ?_); refine chk_cons 9 rfl rfl rfl ?_ ?_; refine chkFs_cons 3 rfl rfl ?_ ?_
    · exact chk_loadL (k := (lo + k) * 1) rfl hS0 (by omega) (by omega) (i64s_at hy) rfl
    exact chkFs_nil; (iterate 3 refine chk_skip ?_); refine chk_cons 5 rfl rfl rfl ?_ ?_; refine chkFs_cons 3 rfl rfl ?_ ?_
    · exact chk_loadL rfl hS0 rfl (by omega) (i64s_at hx) rfl
    exact chkFs_nil; (iterate 4 refine chk_skip ?_); exact chk_end; refine seq_normal ?_; refine wp_region ?_; (iterate 4 refine zw1 ?_); refine wpO_cons ?_; refine op1_call4 rfl (by (conv => lhs; whnf) <;> rfl) (by (conv => lhs; whnf) <;> rfl) (by (conv => lhs; whnf) <;> rfl) (by (conv => lhs; whnf) <;> rfl) ?_
    rw [show ((lo : Int) + (k : Int)).toNat = lo + k by omega, show ((lo : Nat) : Int).toNat = lo from rfl, i64s_set, i64s_set] at hS
    have hp3 := (swap_perm hx hy).trans hp
    refine wpF_mono (L88 (r0 := 0) (hi := k) (f := lo) hS (by rw [hp3.length_eq]; exact hn) (by omega) (by omega) hb) ?_
    rintro v H2 ⟨m2, hp2, hS⟩
    refine wpO_nil ?_; refine block_normal ?_; refine seq_normal ?_; refine wp_region ?_; refine zw1 ?_; refine wpO_cons ?_; refine op1_sub rfl rfl rfl (by exact wrap_i64 (by omega) (by omega)) ?_; refine zw1 ?_; refine wpO_nil ?_
    exact ⟨k, by omega, m2, rfl, by omega, hp2.trans hp3, hS⟩
  refine wp_exit ?_; refine seq_exit ?_; refine iter_exit ?_; refine block_exit ?_; refine nrm_of ?_; refine rk_nil ?_
  exact ⟨m, hp, hS⟩
end
end Go.E.Pi
/- Sorting whole numbers: copying, twins, logarithms. -/
namespace Go.E.Pi
open Go Go.E Go.Proofs.Ytgmmkajjigmjoaa Go.Proofs
set_option linter.unusedVariables false
set_option linter.unusedSimpArgs false
set_option maxRecDepth 100000
section
variable {B H : AHeap} {As : List Asn} {b off n c : Nat} {l : List Int}
theorem L34 {v : Value} (hd : RD B As 1 v (i64s l)) (hS : S B H As) (hl : l.length ≤ 1000000) : wpF C 34 [v] H fun v' H' => S B H' (sl 1 v' (i64s l) :: As) := by
  obtain ⟨r, hr, _⟩ := hd H hS
  obtain ⟨a, c, rfl⟩ := hr.i1
  refine wpF_ofW o34 rfl rfl ?_
  cases a with
  | none =>
    have hd0 : l = [] := by
      generalize hx : i64s l = xs at hr
      generalize hn : l.length = n at hr
      cases hr
      simpa [i64s] using hx
    subst hd0
    refine zsr ?_; refine zw1 ?_; refine zns ?_; refine wp_seq ?_; refine zsr ?_; refine zw1 ?_; refine wpO_cons ?_; refine op1_bin_true rfl (by (conv => lhs; whnf) <;> rfl) (by (conv => lhs; whnf) <;> rfl) rfl ?_; refine zns ?_; refine wp_true rfl ?_; refine zsr ?_; refine zw1 ?_; refine zns ?_; refine wp_ret ?_; refine seq_ret ?_; refine ret_of ?_; refine rk_tmp (by (conv => lhs; whnf) <;> rfl) ?_; refine rk_nil ?_
    exact hS.slNil
  | some a =>
    refine zsr ?_; refine zw1 ?_; refine zns ?_; refine wp_seq ?_; refine zsr ?_; refine zw1 ?_; refine wpO_cons ?_; refine op1_bin_false rfl (by (conv => lhs; whnf) <;> rfl) (by (conv => lhs; whnf) <;> rfl) rfl ?_; refine zns ?_; refine wp_false rfl ?_; refine wp_skip ?_; refine seq_normal ?_; refine zsr ?_; refine wpO_cons ?_; refine op1_bsliceS rfl hS ?_; refine bk_nil ?_; intro p1 H1 hS; refine zw1 ?_; refine wpO_cons ?_
    replace hS := S.slNew (l := 0) (es := 1) hS rfl
    obtain ⟨r2, hr2, _⟩ := hd _ hS.drop
    refine op1_appRS rfl rfl (by (conv => lhs; whnf) <;> rfl) rfl hr2 (by simp) (i64s_one _) hS (by omega) ?_
    rw [List.nil_append, Nat.zero_add]
    intro a1 c1 H2 hS
    refine zw1 ?_; refine zns ?_; refine wp_ret ?_; refine ret_of ?_; refine rk_tmp (by (conv => lhs; whnf) <;> rfl) ?_; refine rk_nil ?_
    exact hS
theorem L33 {v : Value} (hd : RD B As 1 v (i64s l)) (hS : S B H As) (hl : l.length ≤ 1000000) (hnd : l.Nodup) : wpF C 33 [v] H fun v' H' => v' = v ∧ H = H' := by
  obtain ⟨r, hr, _⟩ := hd H hS
  obtain ⟨a, c, rfl⟩ := hr.i1
  refine wpF_ofW o33 rfl rfl ?_
  refine zsr ?_; refine zw1 ?_; refine zns ?_; refine wp_seq ?_; refine zsr ?_; refine zw1 ?_; refine wpO_cons ?_; refine op1_len rfl rfl ?_; refine wpO_cons ?_; refine op1_lss rfl rfl rfl ?_; refine zns ?_
  refine wp_dec rfl (fun h2 => ?_) (fun h2 => ?_)
  · refine zsr ?_; refine zw1 ?_; refine zw1 ?_; refine zns ?_; refine wp_ret ?_; refine seq_ret ?_; refine ret_of ?_; refine rk_tmp (by (conv => lhs; whnf) <;> rfl) ?_; refine rk_nil ?_
    exact ⟨rfl, rfl⟩
  refine wp_skip ?_; refine seq_normal ?_; refine wp_seq ?_; refine zsr ?_; refine zw1 ?_; refine zns ?_; refine wp_block ?_
  refine wp_loop [3] (fun k vs H' => ∃ i : Nat, vs = [.int .i64 i] ∧ 1 ≤ i ∧ i + k = l.length ∧ H = H') ⟨l.length - 1, 1, rfl, by omega, by omega, rfl⟩ ?_
  rintro k vs T' H1 ⟨i, rfl, hi, hk, rfl⟩
  refine wp_seq ?_; refine zsr ?_; refine zw1 ?_; refine zw1 ?_; refine wpO_cons ?_; refine op1_len rfl rfl ?_; refine wpO_cons ?_; refine op1_lss rfl rfl rfl ?_; refine zns ?_
  refine wp_dec rfl (fun hc => ?_) (fun hc => ?_)
  · obtain ⟨i, rfl⟩ : ∃ t, i = t + 1 := ⟨i - 1, by omega⟩
    have ei : ((i + 1 : Nat) : Int) - 1 = (i : Int) := by omega
    obtain ⟨b, off, cs, e, ro, v, rfl, _, hg, hv, hx⟩ := hr.at1 (i := i + 1) (by omega)
    obtain ⟨y, hy, rfl⟩ := i64s_get hx
    obtain ⟨b2, off2, cs2, e2, ro2, v2, he, _, hg2, hv2, hx2⟩ := hr.at1 (i := i) (by omega)
    cases he
    obtain ⟨z, hz, rfl⟩ := i64s_get hx2
    have hne : y ≠ z := by
      intro e
      subst e
      have := (List.getElem?_inj (i := i) (j := i + 1) (by omega) hnd).1 (hz.trans hy.symm)
      omega
    refine wp_skip ?_; refine seq_normal ?_; refine wp_seq ?_; refine wp_block ?_; refine wp_seq ?_; refine wp_regionD ?_; refine zd1 ?_; refine zd1 ?_; refine wpD_cons ?_; refine op1_iaddr rfl rfl rfl (by omega) (by omega) ?_; refine wpD_cons ?_
    refine op1_load rfl rfl hg hv ?_
    refine zd1 ?_; refine zd1 ?_; refine wpD_cons ?_; refine op1_sub rfl rfl rfl (by exact wrap_i64 (by omega) (by omega)) ?_; refine wpD_cons ?_; refine op1_iaddr rfl rfl rfl (by omega) (by omega) ?_; refine wpD_cons ?_
    rw [ei]
    refine op1_load rfl rfl hg2 hv2 ?_
    refine wpD_cons ?_; refine op1_eqlI rfl rfl rfl ?_; refine wpD_nil ?_; refine dk_of ?_ ?_; (iterate 3 refine chk_skip ?_); refine chk_cons 7 rfl rfl rfl ?_ ?_; refine chkFs_cons 0 rfl rfl ?_ ?_
    · exact chk_load rfl hg hv rfl
    exact chkFs_nil; (iterate 4 refine chk_skip ?_); refine chk_cons 2 rfl rfl rfl ?_ ?_; refine chkFs_cons 0 rfl rfl ?_ ?_
    · exact chk_load rfl hg2 hv2 rfl
    exact chkFs_nil; refine chk_skip ?_; exact chk_end; refine seq_normal ?_
    refine wp_dec rfl (fun hq => ?_) (fun hq => ?_)
    · exact absurd hq hne
    refine wp_skip ?_; refine block_normal ?_; refine seq_normal ?_; refine wp_region ?_; refine zw1 ?_; refine wpO_cons ?_; refine op1_add rfl rfl rfl (by exact wrap_i64 (by omega) (by omega)) ?_; refine zw1 ?_; refine wpO_nil ?_
    exact ⟨k - 1, by omega, i + 2, rfl, by omega, by omega, rfl⟩
  · refine wp_exit ?_; refine seq_exit ?_; refine iter_exit ?_; refine block_exit ?_; refine seq_normal ?_; refine zsr ?_; refine zw1 ?_; refine zw1 ?_; refine zns ?_; refine wp_ret ?_; refine ret_of ?_; refine rk_tmp (by (conv => lhs; whnf) <;> rfl) ?_; refine rk_nil ?_
    exact ⟨rfl, rfl⟩
def lenC (z : Nat) : UInt8 := if z = 0 then 0 else (Nat.log2 z + 1).toUInt8
theorem lenC_ok : ∀ z, z < 256 → z < 2 ^ (lenC z).toNat ∧ (0 < z → 2 ^ (lenC z).toNat ≤ 2 * z) ∧ (lenC z).toNat ≤ 8 := by decide +kernel
theorem L85 {z : Nat} (hz : z < 256) : wpF C 85 [.int .u64 z] H fun v H' => (∃ k : Nat, v = .int .i64 k ∧ z < 2 ^ k ∧ (0 < z → 2 ^ k ≤ 2 * z) ∧ k ≤ 8) ∧ H = H' := by
  refine wpF_ofW o85 rfl rfl ?_
  refine zsr ?_; refine zw1 ?_; refine zns ?_; refine wp_seq ?_; refine zsr ?_; refine zw1 ?_; refine wpO_cons ?_; refine op1_geq rfl rfl rfl ?_; refine zns ?_
  refine wp_dec rfl (fun h1 => ?_) (fun h1 => ?_)
  · omega
  refine wp_skip ?_; refine seq_normal ?_; refine wp_seq ?_; refine zsr ?_; refine zw1 ?_; refine wpO_cons ?_; refine op1_geq rfl rfl rfl ?_; refine zns ?_
  refine wp_dec rfl (fun h2 => ?_) (fun h2 => ?_)
  · omega
  refine wp_skip ?_; refine seq_normal ?_; refine wp_seq ?_; refine zsr ?_; refine zw1 ?_; refine wpO_cons ?_; refine op1_geq rfl rfl rfl ?_; refine zns ?_
  refine wp_dec rfl (fun h3 => ?_) (fun h3 => ?_)
  · omega
  refine wp_skip ?_; refine seq_normal ?_; refine zsr ?_; refine zw1 ?_; refine zw1 ?_; refine wpO_cons ?_; refine op1_convInt rfl rfl (by exact wrap_u8 (by omega) (by omega)) ?_; refine wpO_cons ?_
  refine op1_idxStr (c := lenC z) rfl rfl rfl (by omega) ?_ ?_
  · clear h1 h2 h3
    revert hz
    revert z
    decide +kernel
  obtain ⟨k1, k2, k3⟩ := lenC_ok z hz
  generalize (lenC z).toNat = q at *
  refine wpO_cons ?_; refine op1_convInt rfl rfl (by exact wrap_i64 (by omega) (by omega)) ?_; refine wpO_cons ?_; refine op1_add rfl rfl rfl (by exact wrap_i64 (by omega) (by omega)) ?_; refine zw1 ?_; refine zns ?_; refine wp_ret ?_; refine ret_of ?_; refine rk_tmp (by (conv => lhs; whnf) <;> rfl) ?_; refine rk_nil ?_
  exact ⟨⟨q, by simp [resultV], k1, k2, k3⟩, rfl⟩
theorem L63 {z : Nat} (hz : z < 256) : wpF C 63 [.int .u64 z] H fun v H' => (∃ k : Nat, v = .int .i64 k ∧ z < 2 ^ k ∧ (0 < z → 2 ^ k ≤ 2 * z) ∧ k ≤ 8) ∧ H = H' := by
  refine wpF_ofW o63 rfl rfl ?_
  refine zsr ?_; refine zw1 ?_; refine zns ?_; refine wp_seq ?_; refine wp_false rfl ?_; refine wp_skip ?_; refine seq_normal ?_; refine zsr ?_; refine zw1 ?_; refine wpO_cons ?_; refine op1_call1 rfl (by (conv => lhs; whnf) <;> rfl) ?_
  refine wpF_mono (L85 hz) ?_
  rintro _ _ ⟨⟨k, rfl, q1, q2, q3⟩, rfl⟩
  refine zw1 ?_; refine zns ?_; refine wp_ret ?_; refine ret_of ?_; refine rk_tmp (by (conv => lhs; whnf) <;> rfl) ?_; refine rk_nil ?_
  exact ⟨⟨k, rfl, q1, q2, q3⟩, rfl⟩
theorem pow_wrap : ∀ k, k < 9 → IntKind.u64.wrap (1 * 2 ^ (min ((k : Nat) : Int).toNat IntKind.u64.bits)) = ((2 ^ k : Nat) : Int) := by decide +kernel
theorem L89 {z : Nat} (hz : z < 256) : wpF C 89 [.int .i64 z] H fun v H' => (∃ k : Nat, v = .int .u64 (2 ^ k : Nat) ∧ z < 2 ^ k ∧ (0 < z → 2 ^ k ≤ 2 * z) ∧ k ≤ 8) ∧ H = H' := by
  refine wpF_ofW o89 rfl rfl ?_
  refine zsr ?_; refine zw1 ?_; refine zns ?_; refine zsr ?_; refine zw1 ?_; refine wpO_cons ?_; refine op1_convInt rfl rfl (by exact wrap_u64 (by omega) (by omega)) ?_; refine wpO_cons ?_; refine op1_call1 rfl (by (conv => lhs; whnf) <;> rfl) ?_
  refine wpF_mono (L63 hz) ?_
  rintro _ _ ⟨⟨k, rfl, q1, q2, q3⟩, rfl⟩
  refine wpO_cons ?_
  refine op1_shl rfl rfl rfl (by omega) ?_
  rw [pow_wrap k (by omega)]
  refine zw1 ?_; refine zns ?_; refine wp_ret ?_; refine ret_of ?_; refine rk_tmp (by (conv => lhs; whnf) <;> rfl) ?_; refine rk_nil ?_
  exact ⟨⟨k, rfl, q1, q2, q3⟩, rfl⟩
end
end Go.E.Pi
/- Sorting whole numbers: breaking patterns. -/
namespace Go.E.Pi
open Go Go.E Go.Proofs.Ytgmmkajjigmjoaa Go.Proofs
set_option linter.unusedVariables false
set_option linter.unusedSimpArgs false
set_option maxRecDepth 100000
theorem bitAnd_le {x y : Int} (h0 : 0 ≤ y) (h1 : y < 1000000) : 0 ≤ bitAnd .u64 x y ∧ bitAnd .u64 x y ≤ y := by
  have e : (BitVec.ofInt 64 y).toNat = y.toNat := by
    rw [BitVec.toNat_ofInt]
    omega
  have h2 : (BitVec.ofInt 64 x &&& BitVec.ofInt 64 y).toNat ≤ y.toNat := by
    rw [BitVec.toNat_and, e]
    exact Nat.and_le_right
  have e2 : bitAnd .u64 x y = IntKind.u64.wrap ((BitVec.ofInt 64 x &&& BitVec.ofInt 64 y).toNat : Int) := rfl
  rw [e2, wrap_u64 (by omega) (by omega)]
  omega
section
variable {B H : AHeap} {As : List Asn} {b off n c : Nat} {l : List Int}
theorem L77 {lo hi : Nat} (hS : S B H (sl 1 (.slice (some ⟨b, off, none⟩) n c) (i64s l) :: As)) (hn : l.length = n) (h1 : lo + 8 ≤ hi) (h2 : hi ≤ n) (hb : n ≤ 1000000) (hL8 : hi < lo + 256) :
    wpF C 77 [.slice (some ⟨b, off, none⟩) n c, .int .i64 lo, .int .i64 hi] H fun v H' => ∃ l', l'.Perm l ∧ S B H' (sl 1 (.slice (some ⟨b, off, none⟩) n c) (i64s l') :: As) := by
  refine wpF_ofW o77 rfl rfl ?_
  obtain ⟨L, hL⟩ : ∃ L : Nat, hi = lo + L := ⟨hi - lo, by omega⟩
  have eL : (hi : Int) - lo = (L : Nat) := by omega
  refine zsr ?_; refine zw1 ?_; refine zw1 ?_; refine wpO_cons ?_; refine op1_sub rfl rfl rfl (by exact wrap_i64 (by omega) (by omega)) ?_; refine zw1 ?_; refine zns ?_; refine zsr ?_; refine zw1 ?_; refine wpO_cons ?_; refine op1_geq rfl rfl rfl ?_; refine zns ?_
  rw [eL]
  refine wp_dec rfl (fun h8 => ?_) (fun h8 => ?_)
  rotate_left
  · omega
  refine zsr ?_; refine zw1 ?_; refine wpO_cons ?_; refine op1_convInt rfl rfl (by exact wrap_u64 (by omega) (by omega)) ?_; refine wpO_cons ?_; refine op1_allocS rfl hS ?_; intro p1 H1 hS; refine wpO_cons ?_; (refine op1_store1S rfl rfl (by (conv => lhs; whnf) <;> rfl) rfl rfl (S.up0 hS) rfl ?_; intro H2 hS; replace hS := S.dn0 hS); refine zns ?_; refine zsr ?_; refine zw1 ?_; refine wpO_cons ?_; refine op1_call1 rfl (by (conv => lhs; whnf) <;> rfl) ?_
  refine wpF_mono (L89 (z := L) (by omega)) ?_
  rintro _ _ ⟨⟨k, rfl, q1, q2, q3⟩, rfl⟩
  have q4 := q2 (by omega)
  generalize 2 ^ k = M at *
  refine zw1 ?_; refine zns ?_; refine zsr ?_; refine zw1 ?_; refine zw1 ?_; refine wpO_cons ?_
  refine op1_quo rfl rfl rfl (by omega) (by rw [show ((L : Nat) : Int).tdiv 4 = ((L / 4 : Nat) : Int) from rfl]; exact wrap_i64 (by omega) (by omega)) ?_
  rw [show ((L : Nat) : Int).tdiv 4 = ((L / 4 : Nat) : Int) from rfl]
  have e1 : (lo : Int) + ((L / 4 : Nat) : Int) * 2 - 1 = ((lo + L / 4 * 2 - 1 : Nat) : Int) := by omega
  refine wpO_cons ?_; refine op1_mul rfl rfl rfl (by exact wrap_i64 (by omega) (by omega)) ?_; refine wpO_cons ?_; refine op1_add rfl rfl rfl (by exact wrap_i64 (by omega) (by omega)) ?_; refine wpO_cons ?_; refine op1_sub rfl rfl rfl (by exact wrap_i64 (by omega) (by omega)) ?_; refine zw1 ?_; refine zns ?_; refine wp_block ?_
  rw [e1]
  refine wp_loop [9] (fun k vs H' => ∃ (i : Nat) (m : List Int) (z : Int), vs = [.int .i64 i] ∧ k = lo + L / 4 * 2 + 2 - i ∧ lo < i ∧ i ≤ lo + L / 4 * 2 + 2 ∧ m.Perm l ∧ S B H' (pto p1 (.cells [.int .u64 z] 0 false) :: sl 1 (.slice (some ⟨b, off, none⟩) n c) (i64s m) :: As))
    ⟨_, _, l, _, rfl, rfl, by omega, by omega, .refl _, hS⟩ ?_
  clear hS
  rintro k2 vs T' H1 ⟨i, m, z, rfl, hk, hi1, hi2, hp, hS⟩
  have hml := hp.length_eq
  refine wp_seq ?_; refine zsr ?_; refine zw1 ?_; refine zw1 ?_; refine zw1 ?_; refine wpO_cons ?_
  refine op1_quo rfl rfl rfl (by omega) (by rw [show ((L : Nat) : Int).tdiv 4 = ((L / 4 : Nat) : Int) from rfl]; exact wrap_i64 (by omega) (by omega)) ?_
  rw [show ((L : Nat) : Int).tdiv 4 = ((L / 4 : Nat) : Int) from rfl]
  refine wpO_cons ?_; refine op1_mul rfl rfl rfl (by exact wrap_i64 (by omega) (by omega)) ?_; refine wpO_cons ?_; refine op1_add rfl rfl rfl (by exact wrap_i64 (by omega) (by omega)) ?_; refine wpO_cons ?_; refine op1_add rfl rfl rfl (by exact wrap_i64 (by omega) (by omega)) ?_; refine wpO_cons ?_; refine op1_leq rfl rfl rfl ?_; refine zns ?_
  refine wp_dec rfl (fun hq => ?_) (fun hq => ?_)
  rotate_left
  · refine wp_exit ?_; refine seq_exit ?_; refine iter_exit ?_; refine block_exit ?_; refine nrm_of ?_; refine rk_nil ?_
    exact ⟨m, hp, S.drop hS⟩
  refine wp_skip ?_; refine seq_normal ?_; refine wp_seq ?_; refine wp_block ?_; refine zsr ?_; refine wpO_cons ?_; refine op1_call1 rfl (by (conv => lhs; whnf) <;> rfl) ?_
  refine wpF_mono (L90 hS) ?_
  rintro _ H2 ⟨z2, rfl, hS⟩
  refine zw1 ?_; refine wpO_cons ?_; refine op1_sub rfl rfl rfl (by exact wrap_u64 (by omega) (by omega)) ?_; refine wpO_cons ?_; refine op1_and rfl rfl rfl ?_; refine wpO_cons ?_
  have hba := bitAnd_le (x := z2) (y := (M : Int) - 1) (by omega) (by omega)
  obtain ⟨o, ho⟩ : ∃ o : Nat, bitAnd .u64 z2 ((M : Int) - 1) = o := ⟨(bitAnd .u64 z2 ((M : Int) - 1)).toNat, by omega⟩
  rw [ho] at hba ⊢
  refine op1_convInt rfl rfl (by exact wrap_i64 (by omega) (by omega)) ?_; refine zw1 ?_; refine zns ?_
  refine wp_cut [10] (fun vs H' => ∃ o2 : Nat, vs = [.int .i64 o2] ∧ o2 < L ∧ H2 = H') ?_ ?_
  · refine zsr ?_; refine zw1 ?_; refine zw1 ?_; refine wpO_cons ?_; refine op1_geq rfl rfl rfl ?_; refine zns ?_
    refine wp_dec rfl (fun hg => ?_) (fun hg => ?_)
    · have eo : (o : Int) - (L : Int) = ((o - L : Nat) : Int) := by omega
      refine wp_region ?_; refine zw1 ?_; refine zw1 ?_; refine wpO_cons ?_; refine op1_sub rfl rfl rfl (by exact wrap_i64 (by omega) (by omega)) ?_; refine zw1 ?_; refine wpO_nil ?_; refine cut1 (by (conv => lhs; whnf) <;> rfl) ?_
      exact ⟨o - L, by rw [← eo], by omega, rfl⟩
    · refine wp_skip ?_; refine cut1 (by (conv => lhs; whnf) <;> rfl) ?_
      exact ⟨o, rfl, by omega, rfl⟩
  rintro vs5 T5 H10 ⟨o2, rfl, ho2, rfl⟩
  obtain ⟨x, hx⟩ : ∃ x, m[i]? = some x := ⟨m[i]'(by omega), by simp⟩
  obtain ⟨y, hy⟩ : ∃ y, m[lo + o2]? = some y := ⟨m[lo + o2]'(by omega), by simp⟩
  have hS0 := hS
  refine wp_regionD ?_; (iterate 5 refine zd1 ?_); refine wpD_cons ?_; refine op1_add rfl rfl rfl (by exact wrap_i64 (by omega) (by omega)) ?_; refine zd1 ?_; refine zd1 ?_; refine zd1 ?_; refine wpD_cons ?_; refine op1_add rfl rfl rfl (by exact wrap_i64 (by omega) (by omega)) ?_; refine wpD_cons ?_; refine op1_iaddr rfl rfl rfl (by omega) (by omega) ?_; refine wpD_cons ?_
  refine op1_loadL (k := (lo + o2) * 1) rfl rfl (S.up1 hS) (by omega) (by omega) (i64s_at hy) ?_
  refine zd1 ?_; refine zd1 ?_; refine wpD_cons ?_; refine op1_iaddr rfl rfl rfl (by omega) (by omega) ?_; refine wpD_cons ?_
  refine op1_loadL rfl rfl (S.up1 hS) rfl (by omega) (i64s_at hx) ?_
  refine wpD_cons ?_; refine op1_iaddr rfl rfl rfl (by omega) (by omega) ?_; refine wpD_cons ?_; (refine op1_store1L rfl rfl (by (conv => lhs; whnf) <;> rfl) rfl rfl (S.up1 hS) (by omega) ?_; intro H3 hS; replace hS := S.dn1 hS); refine wpD_cons ?_; refine op1_iaddr rfl rfl rfl (by omega) (by omega) ?_; refine wpD_cons ?_; (refine op1_store1L rfl rfl (by (conv => lhs; whnf) <;> rfl) rfl rfl (S.up1 hS) (by omega) ?_; intro H4 hS; replace hS := S.dn1 hS); refine wpD_nil ?_; refine dk_of ?_ ?_; (iterate 11 refine chk_skip ?_); refine chk_cons 9 rfl rfl rfl ?_ ?_; refine chkFs_cons 3 rfl rfl ?_ ?_
  · exact chk_loadL (k := (lo + o2) * 1) rfl (S.up1 hS0) (by omega) (by omega) (i64s_at hy) rfl
  exact chkFs_nil; (iterate 3 refine chk_skip ?_); refine chk_cons 5 rfl rfl rfl ?_ ?_; refine chkFs_cons 3 rfl rfl ?_ ?_
  · exact chk_loadL rfl (S.up1 hS0) rfl (by omega) (i64s_at hx) rfl
  exact chkFs_nil; (iterate 4 refine chk_skip ?_); exact chk_end; refine block_normal ?_; refine seq_normal ?_; refine wp_region ?_; refine zw1 ?_; refine wpO_cons ?_; refine op1_add rfl rfl rfl (by exact wrap_i64 (by omega) (by omega)) ?_; refine zw1 ?_; refine wpO_nil ?_
  rw [show ((lo : Int) + (o2 : Int)).toNat = lo + o2 by omega, show ((i : Nat) : Int).toNat = i from rfl, i64s_set, i64s_set] at hS
  exact ⟨lo + L / 4 * 2 + 2 - (i + 1), by omega, i + 1, _, z2, rfl, rfl, by omega, by omega, (swap_perm hx hy).trans hp, hS⟩
end
end Go.E.Pi
