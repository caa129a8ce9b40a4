/- Sorting whole numbers: a partial insertion sort. -/
import Derived.Test.YtgmmkajjigmjoaaPiS567
namespace Go.E.Pi
open Go Go.E Go.Proofs.Ytgmmkajjigmjoaa Go.Proofs
set_option linter.unusedVariables false
set_option linter.unusedSimpArgs false
set_option maxRecDepth 100000
section
variable {B H : AHeap} {As : List Asn} {b off n c : Nat} {l : List Int}
theorem L80 {lo hi : Nat} (hS : S B H (sl 1 (.slice (some ⟨b, off, none⟩) n c) (i64s l) :: As)) (hn : l.length = n) (h1 : lo < hi) (h2 : hi ≤ n) (hb : n ≤ 1000000) :
    wpF C 80 [.slice (some ⟨b, off, none⟩) n c, .int .i64 lo, .int .i64 hi] H fun v H' => ∃ (f : Bool) (l' : List Int), v = .bool f ∧ l'.Perm l ∧ S B H' (sl 1 (.slice (some ⟨b, off, none⟩) n c) (i64s l') :: As) := by
  refine wpF_ofW o80 rfl rfl ?_
  have elo : (lo : Int) + 1 = ((lo + 1 : Nat) : Int) := by omega
  refine zsr ?_; refine zw1 ?_; refine zns ?_; refine zsr ?_; refine zw1 ?_; refine wpO_cons ?_; refine op1_add rfl rfl rfl (by exact wrap_i64 (by omega) (by omega)) ?_; refine zw1 ?_; refine zns ?_; refine wp_seq ?_; refine zsr ?_; refine zw1 ?_; refine zns ?_; refine wp_block ?_
  rw [elo]
  refine wp_loop [8, 7] (fun k vs H' => ∃ (s i : Nat) (m : List Int), vs = [.int .i64 s, .int .i64 i] ∧ k = 5 - s ∧ s ≤ 5 ∧ lo < i ∧ i ≤ hi ∧ m.Perm l ∧ S B H' (sl 1 (.slice (some ⟨b, off, none⟩) n c) (i64s m) :: As))
    ⟨_, 0, _, l, rfl, rfl, by omega, by omega, by omega, .refl _, hS⟩ ?_
  clear hS
  rintro k vs T' H1 ⟨s, i, m, rfl, hk, hs, hi1, hi2, hp, hS⟩
  have hml := hp.length_eq
  refine wp_seq ?_; refine zsr ?_; refine zw1 ?_; refine wpO_cons ?_; refine op1_lss rfl rfl rfl ?_; refine zns ?_
  refine wp_dec rfl (fun hq => ?_) (fun hq => ?_)
  rotate_left
  · refine wp_exit ?_; refine seq_exit ?_; refine iter_exit ?_; refine block_exit ?_; refine seq_normal ?_; refine zsr ?_; refine zw1 ?_; refine zns ?_; refine wp_ret ?_; refine ret_of ?_; refine rk_tmp (by (conv => lhs; whnf) <;> rfl) ?_; refine rk_nil ?_
    exact ⟨_, m, rfl, hp, hS⟩
  refine wp_skip ?_; refine seq_normal ?_; refine wp_seq ?_; refine wp_block ?_
  refine wp_cut [7] (fun vs H' => ∃ i : Nat, vs = [.int .i64 i] ∧ lo < i ∧ i ≤ hi ∧ H1 = H') ?_ ?_
  · refine wp_block ?_
    refine wp_loop [7] (fun k vs H' => ∃ i : Nat, vs = [.int .i64 i] ∧ k = hi - i ∧ lo < i ∧ i ≤ hi ∧ H1 = H') ⟨_, i, rfl, rfl, hi1, hi2, rfl⟩ ?_
    clear hk hi1 hi2
    rintro k vs T' H0 ⟨i, rfl, hk, hi1, hi2, rfl⟩
    refine wp_seq ?_; refine wp_seq ?_; refine wp_regionD ?_; refine zd1 ?_; refine zd1 ?_; refine wpD_cons ?_; refine op1_lss rfl rfl rfl ?_; refine zd1 ?_; refine wpD_cons ?_
    refine op1_dec rfl (fun hg => ?_) (fun hg => ?_)
    · obtain ⟨i, rfl⟩ : ∃ t, i = t + 1 := ⟨i - 1, by omega⟩
      obtain ⟨x, hx⟩ : ∃ x, m[i + 1]? = some x := ⟨m[i + 1]'(by omega), by simp⟩
      obtain ⟨y, hy⟩ : ∃ y, m[i]? = some y := ⟨m[i]'(by omega), by simp⟩
      have ej : ((i + 1 : Nat) : Int) - 1 = (i : Int) := by omega
      have hS0 := hS
      refine op1_mov rfl (by (conv => lhs; whnf) <;> rfl) ?_; refine zd1 ?_; refine wpD_cons ?_; refine op1_iaddr rfl rfl rfl (by omega) (by omega) ?_; refine wpD_cons ?_
      refine op1_loadL rfl rfl hS rfl (by omega) (i64s_at hx) ?_
      refine zd1 ?_; refine zd1 ?_; refine wpD_cons ?_; refine op1_sub rfl rfl rfl (by exact wrap_i64 (by omega) (by omega)) ?_; refine wpD_cons ?_; refine op1_iaddr rfl rfl rfl (by omega) (by omega) ?_; refine wpD_cons ?_
      rw [ej]
      skip
      refine op1_loadL rfl rfl hS rfl (by omega) (i64s_at hy) ?_
      refine wpD_cons ?_; refine op1_call2 rfl (by (conv => lhs; whnf) <;> rfl) (by (conv => lhs; whnf) <;> rfl) ?_
      refine wpF_mono L81 ?_
      rintro _ _ ⟨rfl, rfl⟩
      refine wpD_cons ?_; refine op1_not rfl rfl ?_; refine wpD_cons ?_; refine op1_pick_t rfl rfl (by (conv => lhs; whnf) <;> rfl) ?_; refine wpD_nil ?_; refine dk_of ?_ ?_; (iterate 7 refine chk_skip ?_); refine chk_cons 9 rfl rfl rfl ?_ ?_; refine chkFs_cons 3 rfl rfl ?_ ?_
      · exact chk_loadL rfl hS rfl (by omega) (i64s_at hx) rfl
      exact chkFs_nil; (iterate 4 refine chk_skip ?_); refine chk_cons 4 rfl rfl rfl ?_ ?_; refine chkFs_cons 3 rfl rfl ?_ ?_
      · exact chk_loadL rfl hS rfl (by omega) (i64s_at hy) rfl
      exact chkFs_nil; (iterate 3 refine chk_skip ?_); exact chk_end; refine seq_normal ?_
      refine wp_ndec rfl (fun hxy => ?_) (fun hxy => ?_)
      · refine wp_skip ?_; refine seq_normal ?_; refine wp_block ?_; refine wp_region ?_; refine zw1 ?_; refine wpO_cons ?_; refine op1_add rfl rfl rfl (by exact wrap_i64 (by omega) (by omega)) ?_; refine zw1 ?_; refine wpO_nil ?_; refine block_normal ?_
        exact ⟨hi - (i + 2), by omega, i + 2, rfl, rfl, by omega, by omega, rfl⟩
      · refine wp_exit ?_; refine seq_exit ?_; refine iter_exit ?_; refine block_exit ?_; refine cut1 (by (conv => lhs; whnf) <;> rfl) ?_
        exact ⟨i + 1, rfl, hi1, hi2, rfl⟩
    · refine op1_skip rfl ?_; refine wpD_cons ?_; refine op1_skip rfl ?_; refine wpD_cons ?_; refine op1_skip rfl ?_; refine wpD_cons ?_; refine op1_skip rfl ?_; refine wpD_cons ?_; refine op1_skip rfl ?_; refine wpD_cons ?_; refine op1_skip rfl ?_; refine wpD_cons ?_; refine op1_skip rfl ?_; refine wpD_cons ?_; refine op1_skip rfl ?_; refine wpD_cons ?_; refine op1_skip rfl ?_; refine wpD_cons ?_; refine op1_skip rfl ?_; refine wpD_cons ?_; refine op1_skip rfl ?_; refine wpD_cons ?_; refine op1_pick_f rfl rfl (by (conv => lhs; whnf) <;> rfl) ?_; refine wpD_nil ?_; refine dk_of ?_ ?_; (iterate 7 refine chk_skip ?_); refine chk_unw 9 rfl rfl rfl ?_; (iterate 4 refine chk_skip ?_); refine chk_unw 4 rfl rfl rfl ?_; (iterate 3 refine chk_skip ?_); exact chk_end; refine seq_normal ?_; refine wp_false rfl ?_; refine wp_exit ?_; refine seq_exit ?_; refine iter_exit ?_; refine block_exit ?_; refine cut1 (by (conv => lhs; whnf) <;> rfl) ?_
      exact ⟨i, rfl, hi1, hi2, rfl⟩
  clear hi1 hi2
  rintro vs5 T5 H10 ⟨i, rfl, hi1, hi2, rfl⟩
  refine wp_seq ?_; refine zsr ?_; refine zw1 ?_; refine zw1 ?_; refine wpO_cons ?_; refine op1_eqlI rfl rfl rfl ?_; refine zns ?_
  refine wp_dec rfl (fun hend => ?_) (fun hend => ?_)
  · refine zsr ?_; refine zw1 ?_; refine zns ?_; refine wp_ret ?_; refine seq_ret ?_; refine block_ret ?_; refine seq_ret ?_; refine iter_ret ?_; refine block_ret ?_; refine seq_ret ?_; refine ret_of ?_; refine rk_tmp (by (conv => lhs; whnf) <;> rfl) ?_; refine rk_nil ?_
    exact ⟨_, m, rfl, hp, hS⟩
  have eL : (hi : Int) - lo = ((hi - lo : Nat) : Int) := by omega
  refine wp_skip ?_; refine seq_normal ?_; refine wp_seq ?_; refine zsr ?_; refine zw1 ?_; refine zw1 ?_; refine wpO_cons ?_; refine op1_sub rfl rfl rfl (by exact wrap_i64 (by omega) (by omega)) ?_; refine wpO_cons ?_; refine op1_lss rfl rfl rfl ?_; refine zns ?_
  refine wp_dec rfl (fun h50 => ?_) (fun h50 => ?_)
  · refine zsr ?_; refine zw1 ?_; refine zns ?_; refine wp_ret ?_; refine seq_ret ?_; refine block_ret ?_; refine seq_ret ?_; refine iter_ret ?_; refine block_ret ?_; refine seq_ret ?_; refine ret_of ?_; refine rk_tmp (by (conv => lhs; whnf) <;> rfl) ?_; refine rk_nil ?_
    exact ⟨_, m, rfl, hp, hS⟩
  obtain ⟨i, rfl⟩ : ∃ t, i = t + 1 := ⟨i - 1, by omega⟩
  obtain ⟨x, hx⟩ : ∃ x, m[i + 1]? = some x := ⟨m[i + 1]'(by omega), by simp⟩
  obtain ⟨y, hy⟩ : ∃ y, m[i]? = some y := ⟨m[i]'(by omega), by simp⟩
  have ej : ((i + 1 : Nat) : Int) - 1 = (i : Int) := by omega
  have hS0 := hS
  refine wp_skip ?_; refine seq_normal ?_; refine wp_seq ?_; refine wp_regionD ?_; (iterate 4 refine zd1 ?_); refine wpD_cons ?_; refine op1_sub rfl rfl rfl (by exact wrap_i64 (by omega) (by omega)) ?_; refine zd1 ?_; refine zd1 ?_; refine wpD_cons ?_; refine op1_sub rfl rfl rfl (by exact wrap_i64 (by omega) (by omega)) ?_; refine wpD_cons ?_; refine op1_iaddr rfl rfl rfl (by omega) (by omega) ?_; refine wpD_cons ?_
  rw [ej]
  skip
  refine op1_loadL rfl rfl hS rfl (by omega) (i64s_at hy) ?_
  refine zd1 ?_; refine zd1 ?_; refine wpD_cons ?_; refine op1_iaddr rfl rfl rfl (by omega) (by omega) ?_; refine wpD_cons ?_
  refine op1_loadL rfl rfl hS rfl (by omega) (i64s_at hx) ?_
  refine wpD_cons ?_; refine op1_iaddr rfl rfl rfl (by omega) (by omega) ?_; refine wpD_cons ?_; (refine op1_store1L rfl rfl (by (conv => lhs; whnf) <;> rfl) rfl rfl (S.up0 hS) (by omega) ?_; intro H2 hS; replace hS := S.dn0 hS); refine wpD_cons ?_; refine op1_iaddr rfl rfl rfl (by omega) (by omega) ?_; refine wpD_cons ?_; (refine op1_store1L rfl rfl (by (conv => lhs; whnf) <;> rfl) rfl rfl (S.up0 hS) (by omega) ?_; intro H3 hS; replace hS := S.dn0 hS); refine wpD_nil ?_; refine dk_of ?_ ?_; (iterate 9 refine chk_skip ?_); refine chk_cons 9 rfl rfl rfl ?_ ?_; refine chkFs_cons 3 rfl rfl ?_ ?_
  · exact chk_loadL rfl hS0 rfl (by omega) (i64s_at hy) rfl
  exact chkFs_nil; (iterate 3 refine chk_skip ?_); refine chk_cons 5 rfl rfl rfl ?_ ?_; refine chkFs_cons 3 rfl rfl ?_ ?_
  · exact chk_loadL rfl hS0 rfl (by omega) (i64s_at hx) rfl
  exact chkFs_nil; (iterate 4 refine chk_skip ?_); exact chk_end; refine seq_normal ?_
  rw [show ((i + 1 : Nat) : Int).toNat = i + 1 from rfl, show ((i : Nat) : Int).toNat = i from rfl, i64s_set, i64s_set] at hS
  replace hp := (swap_perm hx hy).trans hp
  clear hx hy hS0
  obtain ⟨m, hm2⟩ : ∃ z, z = (m.set (i + 1) y).set i x := ⟨_, rfl⟩
  rw [← hm2] at hS hp
  clear hm2
  have hml := hp.length_eq
  refine wp_cut [7] (fun vs H' => ∃ m : List Int, vs = [.int .i64 ((i + 1 : Nat) : Int)] ∧ m.Perm l ∧ S B H' (sl 1 (.slice (some ⟨b, off, none⟩) n c) (i64s m) :: As)) ?_ ?_
  · refine zsr ?_; refine zw1 ?_; refine zw1 ?_; refine wpO_cons ?_; refine op1_sub rfl rfl rfl (by exact wrap_i64 (by omega) (by omega)) ?_; refine wpO_cons ?_; refine op1_geq rfl rfl rfl ?_; refine zns ?_
    refine wp_dec rfl (fun hA => ?_) (fun hA => ?_)
    · refine zsr ?_; refine zw1 ?_; refine wpO_cons ?_; refine op1_sub rfl rfl rfl (by exact wrap_i64 (by omega) (by omega)) ?_; refine zw1 ?_; refine zns ?_; refine wp_block ?_
      rw [ej]
      refine wp_loop [9] (fun k vs H' => ∃ m : List Int, vs = [.int .i64 (k : Nat)] ∧ k ≤ i ∧ m.Perm l ∧ S B H' (sl 1 (.slice (some ⟨b, off, none⟩) n c) (i64s m) :: As)) ⟨i, m, rfl, Nat.le_refl _, hp, hS⟩ ?_
      clear hS hp hml
      rintro k vs T' H0 ⟨m, rfl, hki, hp, hS⟩
      have hml := hp.length_eq
      refine wp_seq ?_; refine zsr ?_; refine zw1 ?_; refine wpO_cons ?_; refine op1_geq rfl rfl rfl ?_; refine zns ?_
      refine wp_dec rfl (fun hg => ?_) (fun hg => ?_)
      · obtain ⟨j, rfl⟩ : ∃ t, k = t + 1 := ⟨k - 1, by omega⟩
        have ei := ej
        clear ej
        obtain ⟨x, hx⟩ : ∃ x, m[j + 1]? = some x := ⟨m[j + 1]'(by omega), by simp⟩
        obtain ⟨y, hy⟩ : ∃ y, m[j]? = some y := ⟨m[j]'(by omega), by simp⟩
        have ej : ((j + 1 : Nat) : Int) - 1 = (j : Int) := by omega
        have hS0 := hS
        refine wp_skip ?_; refine seq_normal ?_; refine wp_seq ?_; refine wp_block ?_; refine wp_seq ?_; refine wp_seq ?_; refine wp_regionD ?_; refine zd1 ?_; refine zd1 ?_; refine wpD_cons ?_; refine op1_iaddr rfl rfl rfl (by omega) (by omega) ?_; refine wpD_cons ?_
        refine op1_loadL rfl rfl hS rfl (by omega) (i64s_at hx) ?_
        refine zd1 ?_; refine zd1 ?_; refine wpD_cons ?_; refine op1_sub rfl rfl rfl (by exact wrap_i64 (by omega) (by omega)) ?_; refine wpD_cons ?_; refine op1_iaddr rfl rfl rfl (by omega) (by omega) ?_; refine wpD_cons ?_
        rw [ej]
        skip
        refine op1_loadL rfl rfl hS rfl (by omega) (i64s_at hy) ?_
        refine wpD_cons ?_; refine op1_call2 rfl (by (conv => lhs; whnf) <;> rfl) (by (conv => lhs; whnf) <;> rfl) ?_
        refine wpF_mono L81 ?_
        rintro _ _ ⟨rfl, rfl⟩
        refine wpD_cons ?_; refine op1_not rfl rfl ?_; refine wpD_nil ?_; refine dk_of ?_ ?_; (iterate 3 refine chk_skip ?_); refine chk_cons 8 rfl rfl rfl ?_ ?_; refine chkFs_cons 2 rfl rfl ?_ ?_
        · exact chk_loadL rfl hS rfl (by omega) (i64s_at hx) rfl
        exact chkFs_nil; (iterate 4 refine chk_skip ?_); refine chk_cons 3 rfl rfl rfl ?_ ?_; refine chkFs_cons 2 rfl rfl ?_ ?_
        · exact chk_loadL rfl hS rfl (by omega) (i64s_at hy) rfl
        exact chkFs_nil; (iterate 2 refine chk_skip ?_); exact chk_end; refine seq_normal ?_
        refine wp_ndec rfl (fun hxy => ?_) (fun hxy => ?_)
        · refine wp_exit ?_; refine seq_exit ?_; refine block_other rfl ?_; refine seq_exit ?_; refine iter_exit ?_; refine block_exit ?_; refine cut1 (by (conv => lhs; whnf) <;> rfl) ?_
          exact ⟨m, rfl, hp, hS⟩
        refine wp_skip ?_; refine seq_normal ?_; refine wp_regionD ?_; (iterate 4 refine zd1 ?_); refine wpD_cons ?_; refine op1_sub rfl rfl rfl (by exact wrap_i64 (by omega) (by omega)) ?_; refine zd1 ?_; refine zd1 ?_; refine wpD_cons ?_; refine op1_sub rfl rfl rfl (by exact wrap_i64 (by omega) (by omega)) ?_; refine wpD_cons ?_; refine op1_iaddr rfl rfl rfl (by omega) (by omega) ?_; refine wpD_cons ?_
        rw [ej]
        skip
        refine op1_loadL rfl rfl hS rfl (by omega) (i64s_at hy) ?_
        refine zd1 ?_; refine zd1 ?_; refine wpD_cons ?_; refine op1_iaddr rfl rfl rfl (by omega) (by omega) ?_; refine wpD_cons ?_
        refine op1_loadL rfl rfl hS rfl (by omega) (i64s_at hx) ?_
        refine wpD_cons ?_; refine op1_iaddr rfl rfl rfl (by omega) (by omega) ?_; refine wpD_cons ?_; (refine op1_store1L rfl rfl (by (conv => lhs; whnf) <;> rfl) rfl rfl (S.up0 hS) (by omega) ?_; intro H4 hS; replace hS := S.dn0 hS); refine wpD_cons ?_; refine op1_iaddr rfl rfl rfl (by omega) (by omega) ?_; refine wpD_cons ?_; (refine op1_store1L rfl rfl (by (conv => lhs; whnf) <;> rfl) rfl rfl (S.up0 hS) (by omega) ?_; intro H5 hS; replace hS := S.dn0 hS); refine wpD_nil ?_; refine dk_of ?_ ?_; (iterate 9 refine chk_skip ?_); refine chk_cons 9 rfl rfl rfl ?_ ?_; refine chkFs_cons 3 rfl rfl ?_ ?_
        · exact chk_loadL rfl hS0 rfl (by omega) (i64s_at hy) rfl
        exact chkFs_nil; (iterate 3 refine chk_skip ?_); refine chk_cons 5 rfl rfl rfl ?_ ?_; refine chkFs_cons 3 rfl rfl ?_ ?_
        · exact chk_loadL rfl hS0 rfl (by omega) (i64s_at hx) rfl
        exact chkFs_nil; (iterate 4 refine chk_skip ?_); exact chk_end; refine block_normal ?_; refine seq_normal ?_; refine wp_region ?_; refine zw1 ?_; refine wpO_cons ?_; refine op1_sub rfl rfl rfl (by exact wrap_i64 (by omega) (by omega)) ?_; refine zw1 ?_; refine wpO_nil ?_
        rw [show ((j + 1 : Nat) : Int).toNat = j + 1 from rfl, show ((j : Nat) : Int).toNat = j from rfl, i64s_set, i64s_set] at hS
        replace hp := (swap_perm hx hy).trans hp
        clear hx hy hS0
        obtain ⟨m, hm2⟩ : ∃ z, z = (m.set (j + 1) y).set j x := ⟨_, rfl⟩
        rw [← hm2] at hS hp
        clear hm2
        have hml := hp.length_eq
        skip
        exact ⟨j, by omega, m, by rw [← ej]; rfl, by omega, hp, hS⟩
      · refine wp_exit ?_; refine seq_exit ?_; refine iter_exit ?_; refine block_exit ?_; refine cut1 (by (conv => lhs; whnf) <;> rfl) ?_
        exact ⟨m, rfl, hp, hS⟩
    · refine wp_skip ?_; refine cut1 (by (conv => lhs; whnf) <;> rfl) ?_
      exact ⟨m, rfl, hp, hS⟩
  clear hS hp hml
  rintro vs6 T6 H11 ⟨m, rfl, hp, hS⟩
  have hml := hp.length_eq
  refine zsr ?_; refine zw1 ?_; refine zw1 ?_; refine wpO_cons ?_; refine op1_sub rfl rfl rfl (by exact wrap_i64 (by omega) (by omega)) ?_; refine wpO_cons ?_; refine op1_geq rfl rfl rfl ?_; refine zns ?_
  have e2 : ((i + 1 : Nat) : Int) + 1 = ((i + 2 : Nat) : Int) := by omega
  clear ej
  refine wp_dec rfl (fun hB => ?_) (fun hB => ?_)
  · refine zsr ?_; refine zw1 ?_; refine wpO_cons ?_; refine op1_add rfl rfl rfl (by exact wrap_i64 (by omega) (by omega)) ?_; refine zw1 ?_; refine zns ?_; refine wp_block ?_
    rw [e2]
    refine wp_loop [10] (fun k vs H' => ∃ (j : Nat) (m : List Int), vs = [.int .i64 j] ∧ k = hi - j ∧ 1 ≤ j ∧ j ≤ hi ∧ m.Perm l ∧ S B H' (sl 1 (.slice (some ⟨b, off, none⟩) n c) (i64s m) :: As)) ⟨_, i + 2, m, rfl, rfl, by omega, by omega, hp, hS⟩ ?_
    clear hS hp hml
    rintro k vs T' H0 ⟨j, m, rfl, hkj, hj1, hj2, hp, hS⟩
    have hml := hp.length_eq
    refine wp_seq ?_; refine zsr ?_; refine zw1 ?_; refine zw1 ?_; refine wpO_cons ?_; refine op1_lss rfl rfl rfl ?_; refine zns ?_
    refine wp_dec rfl (fun hg => ?_) (fun hg => ?_)
    · obtain ⟨j, rfl⟩ : ∃ t, j = t + 1 := ⟨j - 1, by omega⟩
      obtain ⟨x, hx⟩ : ∃ x, m[j + 1]? = some x := ⟨m[j + 1]'(by omega), by simp⟩
      obtain ⟨y, hy⟩ : ∃ y, m[j]? = some y := ⟨m[j]'(by omega), by simp⟩
      have ej : ((j + 1 : Nat) : Int) - 1 = (j : Int) := by omega
      have hS0 := hS
      refine wp_skip ?_; refine seq_normal ?_; refine wp_seq ?_; refine wp_block ?_; refine wp_seq ?_; refine wp_seq ?_; refine wp_regionD ?_; refine zd1 ?_; refine zd1 ?_; refine wpD_cons ?_; refine op1_iaddr rfl rfl rfl (by omega) (by omega) ?_; refine wpD_cons ?_
      refine op1_loadL rfl rfl hS rfl (by omega) (i64s_at hx) ?_
      refine zd1 ?_; refine zd1 ?_; refine wpD_cons ?_; refine op1_sub rfl rfl rfl (by exact wrap_i64 (by omega) (by omega)) ?_; refine wpD_cons ?_; refine op1_iaddr rfl rfl rfl (by omega) (by omega) ?_; refine wpD_cons ?_
      rw [ej]
      skip
      refine op1_loadL rfl rfl hS rfl (by omega) (i64s_at hy) ?_
      refine wpD_cons ?_; refine op1_call2 rfl (by (conv => lhs; whnf) <;> rfl) (by (conv => lhs; whnf) <;> rfl) ?_
      refine wpF_mono L81 ?_
      rintro _ _ ⟨rfl, rfl⟩
      refine wpD_cons ?_; refine op1_not rfl rfl ?_; refine wpD_nil ?_; refine dk_of ?_ ?_; (iterate 3 refine chk_skip ?_); refine chk_cons 8 rfl rfl rfl ?_ ?_; refine chkFs_cons 2 rfl rfl ?_ ?_
      · exact chk_loadL rfl hS rfl (by omega) (i64s_at hx) rfl
      exact chkFs_nil; (iterate 4 refine chk_skip ?_); refine chk_cons 3 rfl rfl rfl ?_ ?_; refine chkFs_cons 2 rfl rfl ?_ ?_
      · exact chk_loadL rfl hS rfl (by omega) (i64s_at hy) rfl
      exact chkFs_nil; (iterate 2 refine chk_skip ?_); exact chk_end; refine seq_normal ?_
      refine wp_ndec rfl (fun hxy => ?_) (fun hxy => ?_)
      · refine wp_exit ?_; refine seq_exit ?_; refine block_other rfl ?_; refine seq_exit ?_; refine iter_exit ?_; refine block_exit ?_; refine block_normal ?_; refine seq_normal ?_; refine wp_region ?_; refine zw1 ?_; refine wpO_cons ?_; refine op1_add rfl rfl rfl (by exact wrap_i64 (by omega) (by omega)) ?_; refine zw1 ?_; refine wpO_nil ?_
        exact ⟨5 - (s + 1), by omega, s + 1, i + 1, m, rfl, rfl, by omega, by omega, by omega, hp, hS⟩
      refine wp_skip ?_; refine seq_normal ?_; refine wp_regionD ?_; (iterate 4 refine zd1 ?_); refine wpD_cons ?_; refine op1_sub rfl rfl rfl (by exact wrap_i64 (by omega) (by omega)) ?_; refine zd1 ?_; refine zd1 ?_; refine wpD_cons ?_; refine op1_sub rfl rfl rfl (by exact wrap_i64 (by omega) (by omega)) ?_; refine wpD_cons ?_; refine op1_iaddr rfl rfl rfl (by omega) (by omega) ?_; refine wpD_cons ?_
      rw [ej]
      skip
      refine op1_loadL rfl rfl hS rfl (by omega) (i64s_at hy) ?_
      refine zd1 ?_; refine zd1 ?_; refine wpD_cons ?_; refine op1_iaddr rfl rfl rfl (by omega) (by omega) ?_; refine wpD_cons ?_
      refine op1_loadL rfl rfl hS rfl (by omega) (i64s_at hx) ?_
      refine wpD_cons ?_; refine op1_iaddr rfl rfl rfl (by omega) (by omega) ?_; refine wpD_cons ?_; (refine op1_store1L rfl rfl (by (conv => lhs; whnf) <;> rfl) rfl rfl (S.up0 hS) (by omega) ?_; intro H4 hS; replace hS := S.dn0 hS); refine wpD_cons ?_; refine op1_iaddr rfl rfl rfl (by omega) (by omega) ?_; refine wpD_cons ?_; (refine op1_store1L rfl rfl (by (conv => lhs; whnf) <;> rfl) rfl rfl (S.up0 hS) (by omega) ?_; intro H5 hS; replace hS := S.dn0 hS); refine wpD_nil ?_; refine dk_of ?_ ?_; (iterate 9 refine chk_skip ?_); refine chk_cons 9 rfl rfl rfl ?_ ?_; refine chkFs_cons 3 rfl rfl ?_ ?_
      · exact chk_loadL rfl hS0 rfl (by omega) (i64s_at hy) rfl
      exact chkFs_nil; (iterate 3 refine chk_skip ?_); refine chk_cons 5 rfl rfl rfl ?_ ?_; refine chkFs_cons 3 rfl rfl ?_ ?_
      · exact chk_loadL rfl hS0 rfl (by omega) (i64s_at hx) rfl
      exact chkFs_nil; (iterate 4 refine chk_skip ?_); exact chk_end; refine block_normal ?_; refine seq_normal ?_; refine wp_region ?_; refine zw1 ?_; refine wpO_cons ?_; refine op1_add rfl rfl rfl (by exact wrap_i64 (by omega) (by omega)) ?_; refine zw1 ?_; refine wpO_nil ?_
      rw [show ((j + 1 : Nat) : Int).toNat = j + 1 from rfl, show ((j : Nat) : Int).toNat = j from rfl, i64s_set, i64s_set] at hS
      replace hp := (swap_perm hx hy).trans hp
      clear hx hy hS0
      obtain ⟨m, hm2⟩ : ∃ z, z = (m.set (j + 1) y).set j x := ⟨_, rfl⟩
      rw [← hm2] at hS hp
      clear hm2
      have hml := hp.length_eq
      skip
      exact ⟨hi - (j + 2), by omega, j + 2, m, rfl, rfl, by omega, by omega, hp, hS⟩
    · refine wp_exit ?_; refine seq_exit ?_; refine iter_exit ?_; refine block_exit ?_; refine block_normal ?_; refine seq_normal ?_; refine wp_region ?_; refine zw1 ?_; refine wpO_cons ?_; refine op1_add rfl rfl rfl (by exact wrap_i64 (by omega) (by omega)) ?_; refine zw1 ?_; refine wpO_nil ?_
      exact ⟨5 - (s + 1), by omega, s + 1, i + 1, m, rfl, rfl, by omega, by omega, by omega, hp, hS⟩
  · refine wp_skip ?_; refine block_normal ?_; refine seq_normal ?_; refine wp_region ?_; refine zw1 ?_; refine wpO_cons ?_; refine op1_add rfl rfl rfl (by exact wrap_i64 (by omega) (by omega)) ?_; refine zw1 ?_; refine wpO_nil ?_
    exact ⟨5 - (s + 1), by omega, s + 1, i + 1, m, rfl, rfl, by omega, by omega, by omega, hp, hS⟩
end
end Go.E.Pi
/- Sorting whole numbers: pdqsort, Sort: what it leaves is a permutation. -/
namespace Go.E
open Go
/-- a cut behind which the first part may also have returned -/
structure CutR (ds : List Nat) (J : List Value → AHeap → Prop) (Q : Post) (x : NX) (T : FEnv) (H : AHeap) : Prop where
  out : match x with
    | .normal => J (ds.map T) H
    | x => Q x T H
theorem cutR_ret {ds : List Nat} {J : List Value → AHeap → Prop} {Q : Post} {T : FEnv} {H : AHeap} (k : Q .ret T H) : CutR ds J Q .ret T H := ⟨k⟩
theorem cutR_exit {ds : List Nat} {J : List Value → AHeap → Prop} {Q : Post} {T : FEnv} {H : AHeap} {i : Nat} (k : Q (.exit i) T H) : CutR ds J Q (.exit i) T H := ⟨k⟩
theorem cutR0 {J : List Value → AHeap → Prop} {Q : Post} {T : FEnv} {H : AHeap} (k : J [] H) : CutR [] J Q .normal T H := ⟨k⟩
theorem cutR1 {d0 : Nat} {v0 : Value} {J : List Value → AHeap → Prop} {Q : Post} {T : FEnv} {H : AHeap} (h0 : T d0 = v0) (k : J [v0] H) : CutR [d0] J Q .normal T H := by subst h0; exact ⟨k⟩
theorem wp_cutR {C : Nat → Callee} {a b : NCode} {T : FEnv} {H : AHeap} {Q : Post} (ds : List Nat) (J : List Value → AHeap → Prop) (h1 : WP C a T H (CutR ds J Q))
    (h2 : ∀ vs T' H', J vs H' → WP C b (updL (havoc (asg a) T T') ds vs) H' Q) : WP C (.seq a b) T H Q :=
  ⟨fun Q' hQ => wp_mono (c := a) (fun x T' H' ⟨k, ha⟩ => by
    cases x with
    | normal =>
      have := h2 _ T' H' k.out
      rw [havoc_eq ha, updL_self] at this
      exact this.out Q' hQ
    | ret => exact hQ _ _ _ k.out
    | exit i => exact hQ _ _ _ k.out) (wp_frame (c := a) (h1.out _ fun _ _ _ k => k))⟩
end Go.E
namespace Go.E.Pi
open Go Go.E Go.Proofs.Ytgmmkajjigmjoaa Go.Proofs
set_option linter.unusedVariables false
set_option linter.unusedSimpArgs false
set_option maxRecDepth 100000
theorem L62 (N : Nat) : ∀ {B H : AHeap} {As : List Asn} {b off n c : Nat} {l : List Int} {lo hi lim : Nat} (hS : S B H (sl 1 (.slice (some ⟨b, off, none⟩) n c) (i64s l) :: As)) (hn : l.length = n) (h1 : lo ≤ hi) (h2 : hi ≤ n) (hb : n ≤ 255) (hN : hi - lo ≤ N) (hlim : lim ≤ 1000),
    wpF C 62 [.slice (some ⟨b, off, none⟩) n c, .int .i64 lo, .int .i64 hi, .int .i64 lim] H fun v H' => ∃ l', l'.Perm l ∧ S B H' (sl 1 (.slice (some ⟨b, off, none⟩) n c) (i64s l') :: As) := by
  induction N using Nat.strongRecOn with
  | ind N ih =>
  intro B H As b off n c l lo hi lim hS hn h1 h2 hb hN hlim
  refine wpF_ofW o62 rfl rfl ?_
  refine zsr ?_; refine zw1 ?_; refine zns ?_; refine zsr ?_; refine zw1 ?_; refine zns ?_; refine wp_block ?_
  refine wp_loop [1, 2, 3, 8, 9] (fun k vs H' => ∃ (lo hi lim : Nat) (wb wp : Bool) (m : List Int), vs = [.int .i64 lo, .int .i64 hi, .int .i64 lim, .bool wb, .bool wp] ∧ k = hi - lo ∧ lo ≤ hi ∧ hi ≤ n ∧ hi - lo ≤ N ∧ lim ≤ 1000 ∧ m.Perm l ∧ S B H' (sl 1 (.slice (some ⟨b, off, none⟩) n c) (i64s m) :: As))
    ⟨_, lo, hi, lim, true, true, l, rfl, rfl, h1, h2, hN, hlim, .refl _, hS⟩ ?_
  clear hS h1 h2 hN hlim
  rintro k vs T' H0 ⟨lo, hi, lim, wb, wp, m, rfl, hk, h1, h2, hN, hlim, hp, hS⟩
  have hml := hp.length_eq
  refine wp_block ?_; refine zsr ?_; refine zw1 ?_; refine zw1 ?_; refine wpO_cons ?_; refine op1_sub rfl rfl rfl (by exact wrap_i64 (by omega) (by omega)) ?_; refine zw1 ?_; refine zns ?_; refine wp_seq ?_; refine zsr ?_; refine zw1 ?_; refine wpO_cons ?_; refine op1_leq rfl rfl rfl ?_; refine zns ?_
  refine wp_dec rfl (fun h12 => ?_) (fun h12 => ?_)
  · refine zsr ?_; refine zw1 ?_; refine zw1 ?_; refine zw1 ?_; refine wpO_cons ?_; refine op1_call3 rfl (by (conv => lhs; whnf) <;> rfl) (by (conv => lhs; whnf) <;> rfl) (by (conv => lhs; whnf) <;> rfl) ?_
    refine wpF_mono (L75 (lo := lo) (hi := hi) hS (by omega) h1 h2 (by omega)) ?_
    rintro _ H1 ⟨m', hp', hS⟩
    refine zns ?_; refine wp_ret ?_; refine seq_ret ?_; refine block_ret ?_; refine iter_ret ?_; refine block_ret ?_; refine ret_of ?_; refine rk_nil ?_
    exact ⟨m', hp'.trans hp, hS⟩
  refine wp_skip ?_; refine seq_normal ?_; refine wp_seq ?_; refine zsr ?_; refine zw1 ?_; refine wpO_cons ?_; refine op1_eqlI rfl rfl rfl ?_; refine zns ?_
  refine wp_dec rfl (fun hl0 => ?_) (fun hl0 => ?_)
  · refine zsr ?_; refine zw1 ?_; refine zw1 ?_; refine zw1 ?_; refine wpO_cons ?_; refine op1_call3 rfl (by (conv => lhs; whnf) <;> rfl) (by (conv => lhs; whnf) <;> rfl) (by (conv => lhs; whnf) <;> rfl) ?_
    refine wpF_mono (L76 (lo := lo) (hi := hi) hS (by omega) (by omega) h2 (by omega)) ?_
    rintro _ H1 ⟨m', hp', hS⟩
    refine zns ?_; refine wp_ret ?_; refine seq_ret ?_; refine block_ret ?_; refine iter_ret ?_; refine block_ret ?_; refine ret_of ?_; refine rk_nil ?_
    exact ⟨m', hp'.trans hp, hS⟩
  refine wp_skip ?_; refine seq_normal ?_
  refine wp_cut [3] (fun vs H' => ∃ (lim : Nat) (m : List Int), vs = [.int .i64 lim] ∧ lim ≤ 1000 ∧ m.Perm l ∧ S B H' (sl 1 (.slice (some ⟨b, off, none⟩) n c) (i64s m) :: As)) ?_ ?_
  · cases wb
    · refine zsr ?_; refine zw1 ?_; refine wpO_cons ?_; refine op1_not_f rfl rfl ?_; refine zns ?_; refine wp_true rfl ?_; refine zsr ?_; refine zw1 ?_; refine zw1 ?_; refine zw1 ?_; refine wpO_cons ?_; refine op1_call3 rfl (by (conv => lhs; whnf) <;> rfl) (by (conv => lhs; whnf) <;> rfl) (by (conv => lhs; whnf) <;> rfl) ?_
      refine wpF_mono (L77 (lo := lo) (hi := hi) hS (by omega) (by omega) h2 (by omega) (by omega)) ?_
      rintro _ H1 ⟨m', hp', hS⟩
      refine zns ?_; refine wp_region ?_; refine zw1 ?_; refine wpO_cons ?_; refine op1_sub rfl rfl rfl (by exact wrap_i64 (by omega) (by omega)) ?_; refine zw1 ?_; refine wpO_nil ?_; refine cut1 (by (conv => lhs; whnf) <;> rfl) ?_
      exact ⟨lim - 1, m', by congr 2; omega, by omega, hp'.trans hp, hS⟩
    · refine zsr ?_; refine zw1 ?_; refine wpO_cons ?_; refine op1_not_t rfl rfl ?_; refine zns ?_; refine wp_false rfl ?_; refine wp_skip ?_; refine cut1 (by (conv => lhs; whnf) <;> rfl) ?_
      exact ⟨lim, m, rfl, hlim, hp, hS⟩
  clear hS hp hml hl0 hlim
  rintro vs1 T1 H1 ⟨lim, m, rfl, hlim, hp, hS⟩
  have hml := hp.length_eq
  refine zsr ?_; refine zw1 ?_; refine zw1 ?_; refine zw1 ?_; refine wpO_cons ?_; refine op1_call3 rfl (by (conv => lhs; whnf) <;> rfl) (by (conv => lhs; whnf) <;> rfl) (by (conv => lhs; whnf) <;> rfl) ?_
  refine wpF_mono (L78 (lo := lo) (hi := hi) hS (by omega) (by omega) h2 (by omega)) ?_
  rintro _ H2 ⟨pv, hint, rfl, hv1, hv2, hS⟩
  refine zw1 ?_; refine wpO_cons ?_; refine op1_extract rfl rfl rfl ?_; refine wpO_cons ?_; refine op1_extract rfl rfl rfl ?_; refine zw1 ?_; refine zw1 ?_; refine zns ?_
  refine wp_cut [11, 12] (fun vs H' => ∃ (pv : Nat) (hint : Int) (m : List Int), vs = [.int .i64 pv, .int .i64 hint] ∧ lo ≤ pv ∧ pv < hi ∧ m.Perm l ∧ S B H' (sl 1 (.slice (some ⟨b, off, none⟩) n c) (i64s m) :: As)) ?_ ?_
  · refine zsr ?_; refine zw1 ?_; refine wpO_cons ?_; refine op1_eqlI rfl rfl rfl ?_; refine zns ?_
    refine wp_dec rfl (fun h2q => ?_) (fun h2q => ?_)
    · refine zsr ?_; refine zw1 ?_; refine zw1 ?_; refine zw1 ?_; refine wpO_cons ?_; refine op1_call3 rfl (by (conv => lhs; whnf) <;> rfl) (by (conv => lhs; whnf) <;> rfl) (by (conv => lhs; whnf) <;> rfl) ?_
      refine wpF_mono (L79 (lo := lo) (hi := hi) hS (by omega) (by omega) h2 (by omega)) ?_
      rintro _ H3 ⟨m', hp', hS⟩
      refine zns ?_; refine zsr ?_; refine zw1 ?_; refine wpO_cons ?_; refine op1_sub rfl rfl rfl (by exact wrap_i64 (by omega) (by omega)) ?_; refine zw1 ?_; refine zw1 ?_; refine wpO_cons ?_; refine op1_sub rfl rfl rfl (by exact wrap_i64 (by omega) (by omega)) ?_; refine wpO_cons ?_; refine op1_sub rfl rfl rfl (by exact wrap_i64 (by omega) (by omega)) ?_; refine zw1 ?_; refine zns ?_; refine wp_region ?_; refine zw1 ?_; refine wpO_nil ?_; refine cut2 (by (conv => lhs; whnf) <;> rfl) (by (conv => lhs; whnf) <;> rfl) ?_
      exact ⟨hi - 1 - (pv - lo), 1, m', by congr 2; omega, by omega, by omega, hp'.trans hp, hS⟩
    · refine wp_skip ?_; refine cut2 (by (conv => lhs; whnf) <;> rfl) (by (conv => lhs; whnf) <;> rfl) ?_
      exact ⟨pv, hint, m, rfl, hv1, hv2, hp, hS⟩
  clear hS hp hml hv1 hv2
  rintro vs3 T3 H3 ⟨pv, hint, m, rfl, hv1, hv2, hp, hS⟩
  have hml := hp.length_eq
  skip
  refine wp_cutR [] (fun vs H' => ∃ (m : List Int), m.Perm l ∧ S B H' (sl 1 (.slice (some ⟨b, off, none⟩) n c) (i64s m) :: As)) ?_ ?_
  · cases wb
    · refine zsr ?_; refine zw1 ?_; refine zw1 ?_; refine wpO_cons ?_; refine op1_skip rfl ?_; refine wpO_cons ?_; refine op1_pick_f rfl rfl (by (conv => lhs; whnf) <;> rfl) ?_; refine zw1 ?_; refine wpO_cons ?_; refine op1_skip rfl ?_; refine wpO_cons ?_; refine op1_skip rfl ?_; refine wpO_cons ?_; refine op1_pick_f rfl rfl (by (conv => lhs; whnf) <;> rfl) ?_; refine zns ?_; refine wp_false rfl ?_; refine wp_skip ?_
      exact cutR0 ⟨m, hp, hS⟩
    · cases wp
      · refine zsr ?_; refine zw1 ?_; refine zw1 ?_; refine zw1 ?_; refine wpO_cons ?_; refine op1_pick_t rfl rfl (by (conv => lhs; whnf) <;> rfl) ?_; refine zw1 ?_; refine wpO_cons ?_; refine op1_skip rfl ?_; refine wpO_cons ?_; refine op1_skip rfl ?_; refine wpO_cons ?_; refine op1_pick_f rfl rfl (by (conv => lhs; whnf) <;> rfl) ?_; refine zns ?_; refine wp_false rfl ?_; refine wp_skip ?_
        exact cutR0 ⟨m, hp, hS⟩
      · refine zsr ?_; refine zw1 ?_; refine zw1 ?_; refine zw1 ?_; refine wpO_cons ?_; refine op1_pick_t rfl rfl (by (conv => lhs; whnf) <;> rfl) ?_; refine zw1 ?_; refine zw1 ?_; refine wpO_cons ?_; refine op1_eqlI rfl rfl rfl ?_; refine wpO_cons ?_; refine op1_pick_t rfl rfl (by (conv => lhs; whnf) <;> rfl) ?_; refine zns ?_
        refine wp_dec rfl (fun hh => ?_) (fun hh => ?_)
        · refine zsr ?_; refine zw1 ?_; refine zw1 ?_; refine zw1 ?_; refine wpO_cons ?_; refine op1_call3 rfl (by (conv => lhs; whnf) <;> rfl) (by (conv => lhs; whnf) <;> rfl) (by (conv => lhs; whnf) <;> rfl) ?_
          refine wpF_mono (L80 (lo := lo) (hi := hi) hS (by omega) (by omega) h2 (by omega)) ?_
          rintro _ H3 ⟨f, m', rfl, hp', hS⟩
          cases f
          · refine zns ?_; refine wp_false rfl ?_; refine wp_skip ?_
            exact cutR0 ⟨m', hp'.trans hp, hS⟩
          · refine zns ?_; refine wp_true rfl ?_; refine wp_ret ?_
            refine cutR_ret ?_
            refine block_ret ?_; refine iter_ret ?_; refine block_ret ?_; refine ret_of ?_; refine rk_nil ?_
            exact ⟨m', hp'.trans hp, hS⟩
        · refine wp_skip ?_
          exact cutR0 ⟨m, hp, hS⟩
  clear hS hp hml
  rintro vs4 T4 H4 ⟨m, hp, hS⟩
  have hml := hp.length_eq
  skip
  refine wp_cutR [1] (fun vs H' => vs = [.int .i64 lo] ∧ H4 = H') ?_ ?_
  · refine wp_seq ?_; refine wp_regionD ?_; refine zd1 ?_; refine wpD_cons ?_; refine op1_gtr rfl rfl rfl ?_; refine zd1 ?_; refine wpD_cons ?_
    refine op1_dec rfl (fun hlo => ?_) (fun hlo => ?_)
    · obtain ⟨j, rfl⟩ : ∃ t, lo = t + 1 := ⟨lo - 1, by omega⟩
      have ej : ((j + 1 : Nat) : Int) - 1 = (j : Int) := by omega
      obtain ⟨x, hx⟩ : ∃ x, m[j]? = some x := ⟨m[j]'(by omega), by simp⟩
      obtain ⟨y, hy⟩ : ∃ y, m[pv]? = some y := ⟨m[pv]'(by omega), by simp⟩
      refine op1_mov rfl (by (conv => lhs; whnf) <;> rfl) ?_; refine zd1 ?_; refine wpD_cons ?_; refine op1_sub rfl rfl rfl (by exact wrap_i64 (by omega) (by omega)) ?_; refine wpD_cons ?_; refine op1_iaddr rfl rfl rfl (by omega) (by omega) ?_; refine wpD_cons ?_
      rw [ej]
      skip
      refine op1_loadL rfl rfl hS rfl (by omega) (i64s_at hx) ?_
      refine zd1 ?_; refine zd1 ?_; refine wpD_cons ?_; refine op1_iaddr rfl rfl rfl (by omega) (by omega) ?_; refine wpD_cons ?_
      refine op1_loadL rfl rfl hS rfl (by omega) (i64s_at hy) ?_
      refine wpD_cons ?_; refine op1_call2 rfl (by (conv => lhs; whnf) <;> rfl) (by (conv => lhs; whnf) <;> rfl) ?_
      refine wpF_mono L81 ?_
      rintro _ _ ⟨rfl, rfl⟩
      refine wpD_cons ?_; refine op1_not rfl rfl ?_; refine wpD_cons ?_; refine op1_pick_t rfl rfl (by (conv => lhs; whnf) <;> rfl) ?_; refine wpD_nil ?_; refine dk_of ?_ ?_; (iterate 7 refine chk_skip ?_); refine chk_cons 8 rfl rfl rfl ?_ ?_; refine chkFs_cons 3 rfl rfl ?_ ?_
      · exact chk_loadL rfl hS rfl (by omega) (i64s_at hx) rfl
      exact chkFs_nil; (iterate 3 refine chk_skip ?_); refine chk_cons 4 rfl rfl rfl ?_ ?_; refine chkFs_cons 3 rfl rfl ?_ ?_
      · exact chk_loadL rfl hS rfl (by omega) (i64s_at hy) rfl
      exact chkFs_nil; (iterate 3 refine chk_skip ?_); exact chk_end; refine seq_normal ?_
      refine wp_ndec rfl (fun hxy => ?_) (fun hxy => ?_)
      · refine zsr ?_; (iterate 4 refine zw1 ?_); refine wpO_cons ?_; refine op1_call4 rfl (by (conv => lhs; whnf) <;> rfl) (by (conv => lhs; whnf) <;> rfl) (by (conv => lhs; whnf) <;> rfl) (by (conv => lhs; whnf) <;> rfl) ?_
        refine wpF_mono (L82 (lo := j + 1) (hi := hi) (pv := pv) hS (by omega) hv1 hv2 h2 (by omega)) ?_
        rintro _ H5 ⟨r, m', rfl, hr1, hr2, hp', hS⟩
        refine zw1 ?_; refine zns ?_; refine zsr ?_; refine zw1 ?_; refine zw1 ?_; refine zns ?_; refine wp_exit ?_
        refine cutR_exit ?_
        refine block_exit ?_
        exact ⟨hi - r, by omega, r, hi, lim, _, _, m', rfl, rfl, hr2, h2, by omega, hlim, hp'.trans hp, hS⟩
      · refine wp_skip ?_
        exact cutR1 (by (conv => lhs; whnf) <;> rfl) ⟨rfl, rfl⟩
    · refine op1_skip rfl ?_; refine wpD_cons ?_; refine op1_skip rfl ?_; refine wpD_cons ?_; refine op1_skip rfl ?_; refine wpD_cons ?_; refine op1_skip rfl ?_; refine wpD_cons ?_; refine op1_skip rfl ?_; refine wpD_cons ?_; refine op1_skip rfl ?_; refine wpD_cons ?_; refine op1_skip rfl ?_; refine wpD_cons ?_; refine op1_skip rfl ?_; refine wpD_cons ?_; refine op1_skip rfl ?_; refine wpD_cons ?_; refine op1_skip rfl ?_; refine wpD_cons ?_; refine op1_skip rfl ?_; refine wpD_cons ?_; refine op1_pick_f rfl rfl (by (conv => lhs; whnf) <;> rfl) ?_; refine wpD_nil ?_; refine dk_of ?_ ?_; (iterate 7 refine chk_skip ?_); refine chk_unw 8 rfl rfl rfl ?_; (iterate 3 refine chk_skip ?_); refine chk_unw 4 rfl rfl rfl ?_; (iterate 3 refine chk_skip ?_); exact chk_end; refine seq_normal ?_; refine wp_false rfl ?_; refine wp_skip ?_
      exact cutR1 (by (conv => lhs; whnf) <;> rfl) ⟨rfl, rfl⟩
  rintro vs5 T5 H5 ⟨rfl, rfl⟩
  refine zsr ?_; (iterate 4 refine zw1 ?_); refine wpO_cons ?_; refine op1_call4 rfl (by (conv => lhs; whnf) <;> rfl) (by (conv => lhs; whnf) <;> rfl) (by (conv => lhs; whnf) <;> rfl) (by (conv => lhs; whnf) <;> rfl) ?_
  refine wpF_mono (L83 (lo := lo) (hi := hi) (pv := pv) hS (by omega) hv1 hv2 h2 (by omega)) ?_
  rintro _ H5 ⟨r, f, m', rfl, hr1, hr2, hp', hS⟩
  have hml' := hp'.length_eq
  refine zw1 ?_; refine wpO_cons ?_; refine op1_extract rfl rfl rfl ?_; refine wpO_cons ?_; refine op1_extract rfl rfl rfl ?_; refine zw1 ?_; refine zw1 ?_; refine zns ?_; refine zsr ?_; refine zw1 ?_; refine zw1 ?_; refine zns ?_; refine zsr ?_; refine zw1 ?_; refine zw1 ?_; refine wpO_cons ?_; refine op1_sub rfl rfl rfl (by exact wrap_i64 (by omega) (by omega)) ?_; refine zw1 ?_; refine zw1 ?_; refine wpO_cons ?_; refine op1_sub rfl rfl rfl (by exact wrap_i64 (by omega) (by omega)) ?_; refine zw1 ?_; refine zw1 ?_; refine zns ?_; refine zsr ?_; refine zw1 ?_; refine wpO_cons ?_
  rw [show (hi : Int) - (lo : Int) = ((hi - lo : Nat) : Int) by omega]
  refine op1_quo rfl rfl rfl (by omega) (by rw [show ((hi - lo : Nat) : Int).tdiv 8 = (((hi - lo) / 8 : Nat) : Int) from rfl]; exact wrap_i64 (by omega) (by omega)) ?_
  refine zw1 ?_; refine zns ?_; refine zsr ?_; refine zw1 ?_; refine zw1 ?_; refine wpO_cons ?_; refine op1_lss rfl rfl rfl ?_; refine zns ?_
  refine wp_dec rfl (fun hc => ?_) (fun hc => ?_)
  · refine zsr ?_; refine zw1 ?_; refine zw1 ?_; refine wpO_cons ?_; refine op1_geq rfl rfl rfl ?_; refine zw1 ?_; refine zns ?_; refine zsr ?_; (iterate 4 refine zw1 ?_); refine wpO_cons ?_; refine op1_call4 rfl (by (conv => lhs; whnf) <;> rfl) (by (conv => lhs; whnf) <;> rfl) (by (conv => lhs; whnf) <;> rfl) (by (conv => lhs; whnf) <;> rfl) ?_
    refine wpF_mono (ih (r - lo) (by omega) (lo := lo) (hi := r) (lim := lim) hS (by omega) hr1 (by omega) hb (Nat.le_refl _) hlim) ?_
    rintro _ H6 ⟨m'', hp'', hS⟩
    refine zns ?_; refine wp_region ?_; refine zw1 ?_; refine wpO_cons ?_; refine op1_add rfl rfl rfl (by exact wrap_i64 (by omega) (by omega)) ?_; refine zw1 ?_; refine wpO_nil ?_; refine block_normal ?_
    exact ⟨hi - (r + 1), by omega, r + 1, hi, lim, _, _, m'', rfl, rfl, by omega, h2, by omega, hlim, hp''.trans (hp'.trans hp), hS⟩
  · refine zsr ?_; refine zw1 ?_; refine zw1 ?_; refine wpO_cons ?_; refine op1_geq rfl rfl rfl ?_; refine zw1 ?_; refine zns ?_; refine zsr ?_; refine zw1 ?_; refine zw1 ?_; refine wpO_cons ?_; refine op1_add rfl rfl rfl (by exact wrap_i64 (by omega) (by omega)) ?_; refine zw1 ?_; refine zw1 ?_; refine wpO_cons ?_; refine op1_call4 rfl (by (conv => lhs; whnf) <;> rfl) (by (conv => lhs; whnf) <;> rfl) (by (conv => lhs; whnf) <;> rfl) (by (conv => lhs; whnf) <;> rfl) ?_
    rw [show (r : Int) + 1 = ((r + 1 : Nat) : Int) by omega]
    refine wpF_mono (ih (hi - (r + 1)) (by omega) (lo := r + 1) (hi := hi) (lim := lim) hS (by omega) (by omega) h2 hb (Nat.le_refl _) hlim) ?_
    rintro _ H6 ⟨m'', hp'', hS⟩
    refine zns ?_; refine wp_region ?_; refine zw1 ?_; refine zw1 ?_; refine wpO_nil ?_; refine block_normal ?_
    exact ⟨r - lo, by omega, lo, r, lim, _, _, m'', rfl, rfl, hr1, by omega, by omega, hlim, hp''.trans (hp'.trans hp), hS⟩

theorem L75z {H : AHeap} {v : Value} : wpF C 75 [v, .int .i64 0, .int .i64 0] H fun _ H' => H = H' := by
  refine wpF_ofW o75 rfl rfl ?_
  refine zsr ?_; refine zw1 ?_; refine wpO_cons ?_; refine op1_add rfl rfl rfl (by exact wrap_i64 (by omega) (by omega)) ?_; refine zw1 ?_; refine zns ?_; refine wp_block ?_
  refine wp_loop [6] (fun k vs H' => vs = [.int .i64 1] ∧ H = H') ⟨0, rfl, rfl⟩ ?_
  rintro k vs T' H1 ⟨rfl, rfl⟩
  refine wp_seq ?_; refine zsr ?_; refine zw1 ?_; refine zw1 ?_; refine wpO_cons ?_; refine op1_lss rfl rfl rfl ?_; refine zns ?_; refine wp_false rfl ?_; refine wp_exit ?_; refine seq_exit ?_; refine iter_exit ?_; refine block_exit ?_; refine nrm_of ?_; refine rk_nil ?_
  rfl
theorem L62z {H : AHeap} {v : Value} {lim : Nat} : wpF C 62 [v, .int .i64 0, .int .i64 0, .int .i64 lim] H fun _ H' => H = H' := by
  refine wpF_ofW o62 rfl rfl ?_
  refine zsr ?_; refine zw1 ?_; refine zns ?_; refine zsr ?_; refine zw1 ?_; refine zns ?_; refine wp_block ?_
  refine wp_loop [1, 2] (fun k vs H' => vs = [.int .i64 0, .int .i64 0] ∧ H = H') ⟨0, rfl, rfl⟩ ?_
  rintro k vs T' H1 ⟨rfl, rfl⟩
  refine wp_block ?_; refine zsr ?_; refine zw1 ?_; refine zw1 ?_; refine wpO_cons ?_; refine op1_sub rfl rfl rfl (by exact wrap_i64 (by omega) (by omega)) ?_; refine zw1 ?_; refine zns ?_; refine wp_seq ?_; refine zsr ?_; refine zw1 ?_; refine wpO_cons ?_; refine op1_leq rfl rfl rfl ?_; refine zns ?_; refine wp_true rfl ?_; refine zsr ?_; refine zw1 ?_; refine zw1 ?_; refine zw1 ?_; refine wpO_cons ?_; refine op1_call3 rfl (by (conv => lhs; whnf) <;> rfl) (by (conv => lhs; whnf) <;> rfl) (by (conv => lhs; whnf) <;> rfl) ?_
  refine wpF_mono L75z ?_
  rintro _ _ rfl
  refine zns ?_; refine wp_ret ?_; refine seq_ret ?_; refine block_ret ?_; refine iter_ret ?_; refine block_ret ?_; refine ret_of ?_; refine rk_nil ?_
  rfl
theorem L32 {B H : AHeap} {As : List Asn} {v : Value} {l : List Int} (hS : S B H (sl 1 v (i64s l) :: As)) (hb : l.length ≤ 255) :
    wpF C 32 [v] H fun _ H' => ∃ l', l'.Perm l ∧ S B H' (sl 1 v (i64s l') :: As) := by
  obtain ⟨a, c, rfl⟩ := hS.i1
  refine wpF_ofW o32 rfl rfl ?_
  refine zsr ?_; refine zw1 ?_; refine wpO_cons ?_; refine op1_len rfl rfl ?_; refine zw1 ?_; refine zns ?_; refine wp_region ?_; refine zw1 ?_; refine zw1 ?_; refine zw1 ?_; refine wpO_cons ?_; refine op1_convInt rfl rfl (by exact wrap_u64 (by omega) (by omega)) ?_; refine wpO_cons ?_; refine op1_call1 rfl (by (conv => lhs; whnf) <;> rfl) ?_
  refine wpF_mono (L63 (z := l.length) (by omega)) ?_
  rintro _ _ ⟨⟨k, rfl, hk1, hk2, hk3⟩, rfl⟩
  refine wpO_cons ?_; refine op1_call4 rfl (by (conv => lhs; whnf) <;> rfl) (by (conv => lhs; whnf) <;> rfl) (by (conv => lhs; whnf) <;> rfl) (by (conv => lhs; whnf) <;> rfl) ?_
  by_cases h0 : l.length = 0
  · rw [h0]
    refine wpF_mono L62z ?_
    rintro _ _ rfl
    refine wpO_nil ?_; refine nrm_of ?_; refine rk_nil ?_
    rw [h0] at hS
    exact ⟨l, .refl _, hS⟩
  · obtain ⟨b, off, cs, rfl, _⟩ := S.slBlk hS h0
    refine wpF_mono (L62 l.length (lo := 0) (hi := l.length) (lim := k) hS rfl (by omega) (Nat.le_refl _) hb (by omega) (by omega)) ?_
    rintro _ H6 ⟨m'', hp'', hS⟩
    refine wpO_nil ?_; refine nrm_of ?_; refine rk_nil ?_
    exact ⟨m'', hp'', hS⟩
end Go.E.Pi
