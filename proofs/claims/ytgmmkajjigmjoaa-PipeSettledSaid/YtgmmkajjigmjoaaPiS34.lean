/- Sorting whole numbers: partitioning. -/
import Derived.Test.YtgmmkajjigmjoaaPiS12
namespace Go.E.Pi
open Go Go.E Go.Proofs.Ytgmmkajjigmjoaa Go.Proofs
set_option linter.unusedVariables false
set_option linter.unusedSimpArgs false
set_option maxRecDepth 100000
/- scans: up with the temporary $1, down with $1; $2 the heap -/
section
variable {B H : AHeap} {As : List Asn} {b off n c : Nat} {l : List Int}
theorem L83 {lo hi pv : Nat} (hS : S B H (sl 1 (.slice (some ⟨b, off, none⟩) n c) (i64s l) :: As)) (hn : l.length = n) (h1 : lo ≤ pv) (h2 : pv < hi) (h3 : hi ≤ n) (hb : n ≤ 1000000) :
    wpF C 83 [.slice (some ⟨b, off, none⟩) n c, .int .i64 lo, .int .i64 hi, .int .i64 pv] H fun v H' => ∃ (r : Nat) (f : Bool) (l' : List Int), v = .tuple ⟨[.int .i64 r, .bool f]⟩ ∧ lo ≤ r ∧ r < hi ∧ l'.Perm l ∧ S B H' (sl 1 (.slice (some ⟨b, off, none⟩) n c) (i64s l') :: As) := by
  refine wpF_ofW o83 rfl rfl ?_
  obtain ⟨m, hm⟩ : ∃ m, m = l := ⟨_, rfl⟩
  have hp : m.Perm l := by rw [hm]
  rw [← hm] at hS
  clear hm
  have hml := hp.length_eq
  obtain ⟨x, hx⟩ : ∃ x, m[lo]? = some x := ⟨m[lo]'(by omega), by simp⟩
  obtain ⟨y, hy⟩ : ∃ y, m[pv]? = some y := ⟨m[pv]'(by omega), by simp⟩
  have hS0 := hS
  refine zsr ?_; refine zw1 ?_; refine zw1 ?_; refine zns ?_; refine wp_seq ?_; refine wp_regionD ?_; (iterate 6 refine zd1 ?_); refine wpD_cons ?_; refine op1_iaddr rfl rfl rfl (by omega) (by omega) ?_; refine wpD_cons ?_
  refine op1_loadL rfl rfl hS rfl (by omega) (i64s_at hy) ?_
  refine zd1 ?_; refine zd1 ?_; refine wpD_cons ?_; refine op1_iaddr rfl rfl rfl (by omega) (by omega) ?_; refine wpD_cons ?_
  refine op1_loadL rfl rfl hS rfl (by omega) (i64s_at hx) ?_
  refine wpD_cons ?_; refine op1_iaddr rfl rfl rfl (by omega) (by omega) ?_; refine wpD_cons ?_; (refine op1_store1L rfl rfl (by (conv => lhs; whnf) <;> rfl) rfl rfl (S.up0 hS) (by omega) ?_; intro H1 hS; replace hS := S.dn0 hS); refine wpD_cons ?_; refine op1_iaddr rfl rfl rfl (by omega) (by omega) ?_; refine wpD_cons ?_; (refine op1_store1L rfl rfl (by (conv => lhs; whnf) <;> rfl) rfl rfl (S.up0 hS) (by omega) ?_; intro H2 hS; replace hS := S.dn0 hS); refine wpD_nil ?_; refine dk_of ?_ ?_; (iterate 7 refine chk_skip ?_); refine chk_cons 9 rfl rfl rfl ?_ ?_; refine chkFs_cons 3 rfl rfl ?_ ?_
  · exact chk_loadL rfl hS0 rfl (by omega) (i64s_at hy) rfl
  exact chkFs_nil; (iterate 3 refine chk_skip ?_); refine chk_cons 5 rfl rfl rfl ?_ ?_; refine chkFs_cons 3 rfl rfl ?_ ?_
  · exact chk_loadL rfl hS0 rfl (by omega) (i64s_at hx) rfl
  exact chkFs_nil; (iterate 4 refine chk_skip ?_); exact chk_end; refine seq_normal ?_
  rw [show ((lo : Nat) : Int).toNat = lo from rfl, show ((pv : Nat) : Int).toNat = pv from rfl, i64s_set, i64s_set] at hS
  replace hp := (swap_perm hx hy).trans hp
  clear hx hy hS0
  obtain ⟨m, hm2⟩ : ∃ z, z = (m.set lo y).set pv x := ⟨_, rfl⟩
  rw [← hm2] at hS hp
  clear hm2
  have hml := hp.length_eq
  have ehi : (hi : Int) - 1 = ((hi - 1 : Nat) : Int) := by omega
  have elo : (lo : Int) + 1 = ((lo + 1 : Nat) : Int) := by omega
  refine zsr ?_; refine zw1 ?_; refine wpO_cons ?_; refine op1_add rfl rfl rfl (by exact wrap_i64 (by omega) (by omega)) ?_; refine zw1 ?_; refine wpO_cons ?_; refine op1_sub rfl rfl rfl (by exact wrap_i64 (by omega) (by omega)) ?_; refine zw1 ?_; refine zw1 ?_; refine zns ?_
  rw [ehi, elo]
  obtain ⟨i0, hi0⟩ : ∃ z, z = lo + 1 := ⟨_, rfl⟩
  refine wp_cut [10] (fun vs H' => ∃ i : Nat, vs = [.int .i64 i] ∧ i0 ≤ i ∧ i ≤ hi ∧ H2 = H') ?_ ?_
  · refine wp_block ?_
    refine wp_loop [10] (fun k vs H' => ∃ i : Nat, vs = [.int .i64 i] ∧ k = hi - i ∧ i0 ≤ i ∧ i ≤ hi ∧ H2 = H') ⟨_, _, rfl, rfl, by omega, by omega, rfl⟩ ?_
    rintro k vs T' H0 ⟨i, rfl, hk, hi1, hi2, rfl⟩
    refine wp_seq ?_; refine wp_seq ?_; refine wp_regionD ?_; refine zd1 ?_; refine zd1 ?_; refine wpD_cons ?_; refine op1_leq rfl rfl rfl ?_; refine zd1 ?_; refine wpD_cons ?_
    refine op1_dec rfl (fun hg => ?_) (fun hg => ?_)
    · obtain ⟨x, hx⟩ : ∃ x, m[i]? = some x := ⟨m[i]'(by omega), by simp⟩
      obtain ⟨y, hy⟩ : ∃ y, m[lo]? = some y := ⟨m[lo]'(by omega), by simp⟩
      refine op1_mov rfl (by (conv => lhs; whnf) <;> rfl) ?_; refine zd1 ?_; refine wpD_cons ?_; refine op1_iaddr rfl rfl rfl (by omega) (by omega) ?_; refine wpD_cons ?_
      refine op1_loadL rfl rfl hS rfl (by omega) (i64s_at hx) ?_
      refine zd1 ?_; refine zd1 ?_; refine wpD_cons ?_; refine op1_iaddr rfl rfl rfl (by omega) (by omega) ?_; refine wpD_cons ?_
      refine op1_loadL rfl rfl hS rfl (by omega) (i64s_at hy) ?_
      refine wpD_cons ?_; refine op1_call2 rfl (by (conv => lhs; whnf) <;> rfl) (by (conv => lhs; whnf) <;> rfl) ?_
      refine wpF_mono L81 ?_
      rintro _ _ ⟨rfl, rfl⟩
      refine wpD_cons ?_; refine op1_pick_t rfl rfl (by (conv => lhs; whnf) <;> rfl) ?_; refine wpD_nil ?_; refine dk_of ?_ ?_; (iterate 7 refine chk_skip ?_); refine chk_cons 7 rfl rfl rfl ?_ ?_; refine chkFs_cons 2 rfl rfl ?_ ?_
      · exact chk_loadL rfl hS rfl (by omega) (i64s_at hx) rfl
      exact chkFs_nil; (iterate 3 refine chk_skip ?_); refine chk_cons 3 rfl rfl rfl ?_ ?_; refine chkFs_cons 2 rfl rfl ?_ ?_
      · exact chk_loadL rfl hS rfl (by omega) (i64s_at hy) rfl
      exact chkFs_nil; (iterate 2 refine chk_skip ?_); exact chk_end; refine seq_normal ?_
      refine wp_dec rfl (fun hxy => ?_) (fun hxy => ?_)
      · refine wp_skip ?_; refine seq_normal ?_; refine wp_block ?_; refine wp_region ?_; refine zw1 ?_; refine wpO_cons ?_; refine op1_add rfl rfl rfl (by exact wrap_i64 (by omega) (by omega)) ?_; refine zw1 ?_; refine wpO_nil ?_; refine block_normal ?_
        exact ⟨hi - (i + 1), by omega, i + 1, rfl, rfl, by omega, by omega, rfl⟩
      · refine wp_exit ?_; refine seq_exit ?_; refine iter_exit ?_; refine block_exit ?_; refine cut1 (by (conv => lhs; whnf) <;> rfl) ?_
        exact ⟨i, rfl, hi1, hi2, rfl⟩
    · refine op1_skip rfl ?_; refine wpD_cons ?_; refine op1_skip rfl ?_; refine wpD_cons ?_; refine op1_skip rfl ?_; refine wpD_cons ?_; refine op1_skip rfl ?_; refine wpD_cons ?_; refine op1_skip rfl ?_; refine wpD_cons ?_; refine op1_skip rfl ?_; refine wpD_cons ?_; refine op1_skip rfl ?_; refine wpD_cons ?_; refine op1_skip rfl ?_; refine wpD_cons ?_; refine op1_skip rfl ?_; refine wpD_cons ?_; refine op1_pick_f rfl rfl (by (conv => lhs; whnf) <;> rfl) ?_; refine wpD_nil ?_; refine dk_of ?_ ?_; (iterate 7 refine chk_skip ?_); refine chk_unw 7 rfl rfl rfl ?_; (iterate 3 refine chk_skip ?_); refine chk_unw 3 rfl rfl rfl ?_; (iterate 2 refine chk_skip ?_); exact chk_end; refine seq_normal ?_; refine wp_false rfl ?_; refine wp_exit ?_; refine seq_exit ?_; refine iter_exit ?_; refine block_exit ?_; refine cut1 (by (conv => lhs; whnf) <;> rfl) ?_
      exact ⟨i, rfl, hi1, hi2, rfl⟩
  rintro vs3 T3 H3 ⟨i, rfl, hi1, hi2, rfl⟩
  refine wp_cut [11] (fun vs H' => ∃ j : Nat, vs = [.int .i64 j] ∧ lo ≤ j ∧ j < hi ∧ H2 = H') ?_ ?_
  · refine wp_block ?_
    refine wp_loop [11] (fun k vs H' => ∃ j : Nat, vs = [.int .i64 j] ∧ k = j ∧ lo ≤ j ∧ j < hi ∧ H2 = H') ⟨_, _, rfl, rfl, by omega, by omega, rfl⟩ ?_
    rintro k vs T' H0 ⟨j, rfl, hk, hj1, hj2, rfl⟩
    refine wp_seq ?_; refine wp_seq ?_; refine wp_regionD ?_; refine zd1 ?_; refine zd1 ?_; refine wpD_cons ?_; refine op1_leq rfl rfl rfl ?_; refine zd1 ?_; refine wpD_cons ?_
    refine op1_dec rfl (fun hg => ?_) (fun hg => ?_)
    · obtain ⟨x, hx⟩ : ∃ x, m[j]? = some x := ⟨m[j]'(by omega), by simp⟩
      obtain ⟨y, hy⟩ : ∃ y, m[lo]? = some y := ⟨m[lo]'(by omega), by simp⟩
      have ej : (j : Int) - 1 = ((j - 1 : Nat) : Int) := by omega
      refine op1_mov rfl (by (conv => lhs; whnf) <;> rfl) ?_; refine zd1 ?_; refine wpD_cons ?_; refine op1_iaddr rfl rfl rfl (by omega) (by omega) ?_; refine wpD_cons ?_
      refine op1_loadL rfl rfl hS rfl (by omega) (i64s_at hx) ?_
      refine zd1 ?_; refine zd1 ?_; refine wpD_cons ?_; refine op1_iaddr rfl rfl rfl (by omega) (by omega) ?_; refine wpD_cons ?_
      refine op1_loadL rfl rfl hS rfl (by omega) (i64s_at hy) ?_
      refine wpD_cons ?_; refine op1_call2 rfl (by (conv => lhs; whnf) <;> rfl) (by (conv => lhs; whnf) <;> rfl) ?_
      refine wpF_mono L81 ?_
      rintro _ _ ⟨rfl, rfl⟩
      refine wpD_cons ?_; refine op1_not rfl rfl ?_; refine wpD_cons ?_; refine op1_pick_t rfl rfl (by (conv => lhs; whnf) <;> rfl) ?_; refine wpD_nil ?_; refine dk_of ?_ ?_; (iterate 7 refine chk_skip ?_); refine chk_cons 8 rfl rfl rfl ?_ ?_; refine chkFs_cons 3 rfl rfl ?_ ?_
      · exact chk_loadL rfl hS rfl (by omega) (i64s_at hx) rfl
      exact chkFs_nil; (iterate 3 refine chk_skip ?_); refine chk_cons 4 rfl rfl rfl ?_ ?_; refine chkFs_cons 3 rfl rfl ?_ ?_
      · exact chk_loadL rfl hS rfl (by omega) (i64s_at hy) rfl
      exact chkFs_nil; (iterate 3 refine chk_skip ?_); exact chk_end; refine seq_normal ?_
      refine wp_ndec rfl (fun hxy => ?_) (fun hxy => ?_)
      · refine wp_skip ?_; refine seq_normal ?_; refine wp_block ?_; refine wp_region ?_; refine zw1 ?_; refine wpO_cons ?_; refine op1_sub rfl rfl rfl (by exact wrap_i64 (by omega) (by omega)) ?_; refine zw1 ?_; refine wpO_nil ?_; refine block_normal ?_
        exact ⟨j - 1, by omega, j - 1, by rw [← ej]; rfl, rfl, by omega, by omega, rfl⟩
      · refine wp_exit ?_; refine seq_exit ?_; refine iter_exit ?_; refine block_exit ?_; refine cut1 (by (conv => lhs; whnf) <;> rfl) ?_
        exact ⟨j, rfl, hj1, hj2, rfl⟩
    · refine op1_skip rfl ?_; refine wpD_cons ?_; refine op1_skip rfl ?_; refine wpD_cons ?_; refine op1_skip rfl ?_; refine wpD_cons ?_; refine op1_skip rfl ?_; refine wpD_cons ?_; refine op1_skip rfl ?_; refine wpD_cons ?_; refine op1_skip rfl ?_; refine wpD_cons ?_; refine op1_skip rfl ?_; refine wpD_cons ?_; refine op1_skip rfl ?_; refine wpD_cons ?_; refine op1_skip rfl ?_; refine wpD_cons ?_; refine op1_skip rfl ?_; refine wpD_cons ?_; refine op1_pick_f rfl rfl (by (conv => lhs; whnf) <;> rfl) ?_; refine wpD_nil ?_; refine dk_of ?_ ?_; (iterate 7 refine chk_skip ?_); refine chk_unw 8 rfl rfl rfl ?_; (iterate 3 refine chk_skip ?_); refine chk_unw 4 rfl rfl rfl ?_; (iterate 3 refine chk_skip ?_); exact chk_end; refine seq_normal ?_; refine wp_false rfl ?_; refine wp_exit ?_; refine seq_exit ?_; refine iter_exit ?_; refine block_exit ?_; refine cut1 (by (conv => lhs; whnf) <;> rfl) ?_
      exact ⟨j, rfl, hj1, hj2, rfl⟩
  rintro vs4 T4 H4 ⟨j, rfl, hj1, hj2, rfl⟩
  refine wp_seq ?_; refine zsr ?_; refine zw1 ?_; refine zw1 ?_; refine wpO_cons ?_; refine op1_gtr rfl rfl rfl ?_; refine zns ?_
  refine wp_dec rfl (fun hq => ?_) (fun hq => ?_)
  · obtain ⟨x, hx⟩ : ∃ x, m[j]? = some x := ⟨m[j]'(by omega), by simp⟩
    obtain ⟨y, hy⟩ : ∃ y, m[lo]? = some y := ⟨m[lo]'(by omega), by simp⟩
    have hS0 := hS
    refine wp_seq ?_; refine wp_regionD ?_; (iterate 6 refine zd1 ?_); refine wpD_cons ?_; refine op1_iaddr rfl rfl rfl (by omega) (by omega) ?_; refine wpD_cons ?_
    refine op1_loadL rfl rfl hS rfl (by omega) (i64s_at hy) ?_
    refine zd1 ?_; refine zd1 ?_; refine wpD_cons ?_; refine op1_iaddr rfl rfl rfl (by omega) (by omega) ?_; refine wpD_cons ?_
    refine op1_loadL rfl rfl hS rfl (by omega) (i64s_at hx) ?_
    refine wpD_cons ?_; refine op1_iaddr rfl rfl rfl (by omega) (by omega) ?_; refine wpD_cons ?_; (refine op1_store1L rfl rfl (by (conv => lhs; whnf) <;> rfl) rfl rfl (S.up0 hS) (by omega) ?_; intro H3 hS; replace hS := S.dn0 hS); refine wpD_cons ?_; refine op1_iaddr rfl rfl rfl (by omega) (by omega) ?_; refine wpD_cons ?_; (refine op1_store1L rfl rfl (by (conv => lhs; whnf) <;> rfl) rfl rfl (S.up0 hS) (by omega) ?_; intro H4 hS; replace hS := S.dn0 hS); refine wpD_nil ?_; refine dk_of ?_ ?_; (iterate 7 refine chk_skip ?_); refine chk_cons 9 rfl rfl rfl ?_ ?_; refine chkFs_cons 3 rfl rfl ?_ ?_
    · exact chk_loadL rfl hS0 rfl (by omega) (i64s_at hy) rfl
    exact chkFs_nil; (iterate 3 refine chk_skip ?_); refine chk_cons 5 rfl rfl rfl ?_ ?_; refine chkFs_cons 3 rfl rfl ?_ ?_
    · exact chk_loadL rfl hS0 rfl (by omega) (i64s_at hx) rfl
    exact chkFs_nil; (iterate 4 refine chk_skip ?_); exact chk_end; refine seq_normal ?_
    rw [show ((j : Nat) : Int).toNat = j from rfl, show ((lo : Nat) : Int).toNat = lo from rfl, i64s_set, i64s_set] at hS
    replace hp := (swap_perm hx hy).trans hp
    clear hx hy hS0
    obtain ⟨m, hm2⟩ : ∃ z, z = (m.set j y).set lo x := ⟨_, rfl⟩
    rw [← hm2] at hS hp
    clear hm2
    have hml := hp.length_eq
    refine zsr ?_; refine zw1 ?_; refine zw1 ?_; refine zw1 ?_; refine zns ?_; refine wp_ret ?_; refine seq_ret ?_; refine ret_of ?_; refine rk_tmp (by (conv => lhs; whnf) <;> rfl) ?_; refine rk_tmp (by (conv => lhs; whnf) <;> rfl) ?_; refine rk_nil ?_
    exact ⟨j, _, m, rfl, hj1, hj2, hp, hS⟩
  obtain ⟨x, hx⟩ : ∃ x, m[i]? = some x := ⟨m[i]'(by omega), by simp⟩
  obtain ⟨y, hy⟩ : ∃ y, m[j]? = some y := ⟨m[j]'(by omega), by simp⟩
  have hS0 := hS
  refine wp_skip ?_; refine seq_normal ?_; refine wp_seq ?_; refine wp_regionD ?_; (iterate 6 refine zd1 ?_); refine wpD_cons ?_; refine op1_iaddr rfl rfl rfl (by omega) (by omega) ?_; refine wpD_cons ?_
  refine op1_loadL rfl rfl hS rfl (by omega) (i64s_at hy) ?_
  refine zd1 ?_; refine zd1 ?_; refine wpD_cons ?_; refine op1_iaddr rfl rfl rfl (by omega) (by omega) ?_; refine wpD_cons ?_
  refine op1_loadL rfl rfl hS rfl (by omega) (i64s_at hx) ?_
  refine wpD_cons ?_; refine op1_iaddr rfl rfl rfl (by omega) (by omega) ?_; refine wpD_cons ?_; (refine op1_store1L rfl rfl (by (conv => lhs; whnf) <;> rfl) rfl rfl (S.up0 hS) (by omega) ?_; intro H3 hS; replace hS := S.dn0 hS); refine wpD_cons ?_; refine op1_iaddr rfl rfl rfl (by omega) (by omega) ?_; refine wpD_cons ?_; (refine op1_store1L rfl rfl (by (conv => lhs; whnf) <;> rfl) rfl rfl (S.up0 hS) (by omega) ?_; intro H4 hS; replace hS := S.dn0 hS); refine wpD_nil ?_; refine dk_of ?_ ?_; (iterate 7 refine chk_skip ?_); refine chk_cons 9 rfl rfl rfl ?_ ?_; refine chkFs_cons 3 rfl rfl ?_ ?_
  · exact chk_loadL rfl hS0 rfl (by omega) (i64s_at hy) rfl
  exact chkFs_nil; (iterate 3 refine chk_skip ?_); refine chk_cons 5 rfl rfl rfl ?_ ?_; refine chkFs_cons 3 rfl rfl ?_ ?_
  · exact chk_loadL rfl hS0 rfl (by omega) (i64s_at hx) rfl
  exact chkFs_nil; (iterate 4 refine chk_skip ?_); exact chk_end; refine seq_normal ?_
  rw [show ((i : Nat) : Int).toNat = i from rfl, show ((j : Nat) : Int).toNat = j from rfl, i64s_set, i64s_set] at hS
  replace hp := (swap_perm hx hy).trans hp
  clear hx hy hS0
  obtain ⟨m, hm2⟩ : ∃ z, z = (m.set i y).set j x := ⟨_, rfl⟩
  rw [← hm2] at hS hp
  clear hm2
  have hml := hp.length_eq
  have ei : (i : Int) + 1 = ((i + 1 : Nat) : Int) := by omega
  have ej : (j : Int) - 1 = ((j - 1 : Nat) : Int) := by omega
  refine zsr ?_; refine zw1 ?_; refine wpO_cons ?_; refine op1_add rfl rfl rfl (by exact wrap_i64 (by omega) (by omega)) ?_; refine zw1 ?_; refine zns ?_; refine zsr ?_; refine zw1 ?_; refine wpO_cons ?_; refine op1_sub rfl rfl rfl (by exact wrap_i64 (by omega) (by omega)) ?_; refine zw1 ?_; refine zns ?_; refine wp_seq ?_; refine wp_block ?_
  rw [ei, ej]
  refine wp_loop [10, 11] (fun k vs H' => ∃ (i j : Nat) (m : List Int), vs = [.int .i64 i, .int .i64 j] ∧ k = hi - i ∧ lo < i ∧ i ≤ hi ∧ lo ≤ j ∧ j < hi ∧ m.Perm l ∧ S B H' (sl 1 (.slice (some ⟨b, off, none⟩) n c) (i64s m) :: As))
    ⟨_, _, _, m, rfl, rfl, by omega, by omega, by omega, by omega, hp, hS⟩ ?_
  clear hS hp hml hi0 hi1 hi2 hj1 hj2 hq ei ej
  rintro k vs T' H9 ⟨i, j, m, rfl, hk, hi1, hi2, hj1, hj2, hp, hS⟩
  have hml := hp.length_eq
  obtain ⟨i0, hi0⟩ : ∃ z, z = i := ⟨_, rfl⟩
  refine wp_block ?_
  refine wp_cut [10] (fun vs H' => ∃ i : Nat, vs = [.int .i64 i] ∧ i0 ≤ i ∧ i ≤ hi ∧ H9 = H') ?_ ?_
  · refine wp_block ?_
    refine wp_loop [10] (fun k vs H' => ∃ i : Nat, vs = [.int .i64 i] ∧ k = hi - i ∧ i0 ≤ i ∧ i ≤ hi ∧ H9 = H') ⟨_, _, rfl, rfl, by omega, by omega, rfl⟩ ?_
    rintro k vs T' H0 ⟨i, rfl, hk, hi1, hi2, rfl⟩
    refine wp_seq ?_; refine wp_seq ?_; refine wp_regionD ?_; refine zd1 ?_; refine zd1 ?_; refine wpD_cons ?_; refine op1_leq rfl rfl rfl ?_; refine zd1 ?_; refine wpD_cons ?_
    refine op1_dec rfl (fun hg => ?_) (fun hg => ?_)
    · obtain ⟨x, hx⟩ : ∃ x, m[i]? = some x := ⟨m[i]'(by omega), by simp⟩
      obtain ⟨y, hy⟩ : ∃ y, m[lo]? = some y := ⟨m[lo]'(by omega), by simp⟩
      refine op1_mov rfl (by (conv => lhs; whnf) <;> rfl) ?_; refine zd1 ?_; refine wpD_cons ?_; refine op1_iaddr rfl rfl rfl (by omega) (by omega) ?_; refine wpD_cons ?_
      refine op1_loadL rfl rfl hS rfl (by omega) (i64s_at hx) ?_
      refine zd1 ?_; refine zd1 ?_; refine wpD_cons ?_; refine op1_iaddr rfl rfl rfl (by omega) (by omega) ?_; refine wpD_cons ?_
      refine op1_loadL rfl rfl hS rfl (by omega) (i64s_at hy) ?_
      refine wpD_cons ?_; refine op1_call2 rfl (by (conv => lhs; whnf) <;> rfl) (by (conv => lhs; whnf) <;> rfl) ?_
      refine wpF_mono L81 ?_
      rintro _ _ ⟨rfl, rfl⟩
      refine wpD_cons ?_; refine op1_pick_t rfl rfl (by (conv => lhs; whnf) <;> rfl) ?_; refine wpD_nil ?_; refine dk_of ?_ ?_; (iterate 7 refine chk_skip ?_); refine chk_cons 7 rfl rfl rfl ?_ ?_; refine chkFs_cons 2 rfl rfl ?_ ?_
      · exact chk_loadL rfl hS rfl (by omega) (i64s_at hx) rfl
      exact chkFs_nil; (iterate 3 refine chk_skip ?_); refine chk_cons 3 rfl rfl rfl ?_ ?_; refine chkFs_cons 2 rfl rfl ?_ ?_
      · exact chk_loadL rfl hS rfl (by omega) (i64s_at hy) rfl
      exact chkFs_nil; (iterate 2 refine chk_skip ?_); exact chk_end; refine seq_normal ?_
      refine wp_dec rfl (fun hxy => ?_) (fun hxy => ?_)
      · refine wp_skip ?_; refine seq_normal ?_; refine wp_block ?_; refine wp_region ?_; refine zw1 ?_; refine wpO_cons ?_; refine op1_add rfl rfl rfl (by exact wrap_i64 (by omega) (by omega)) ?_; refine zw1 ?_; refine wpO_nil ?_; refine block_normal ?_
        exact ⟨hi - (i + 1), by omega, i + 1, rfl, rfl, by omega, by omega, rfl⟩
      · refine wp_exit ?_; refine seq_exit ?_; refine iter_exit ?_; refine block_exit ?_; refine cut1 (by (conv => lhs; whnf) <;> rfl) ?_
        exact ⟨i, rfl, hi1, hi2, rfl⟩
    · refine op1_skip rfl ?_; refine wpD_cons ?_; refine op1_skip rfl ?_; refine wpD_cons ?_; refine op1_skip rfl ?_; refine wpD_cons ?_; refine op1_skip rfl ?_; refine wpD_cons ?_; refine op1_skip rfl ?_; refine wpD_cons ?_; refine op1_skip rfl ?_; refine wpD_cons ?_; refine op1_skip rfl ?_; refine wpD_cons ?_; refine op1_skip rfl ?_; refine wpD_cons ?_; refine op1_skip rfl ?_; refine wpD_cons ?_; refine op1_pick_f rfl rfl (by (conv => lhs; whnf) <;> rfl) ?_; refine wpD_nil ?_; refine dk_of ?_ ?_; (iterate 7 refine chk_skip ?_); refine chk_unw 7 rfl rfl rfl ?_; (iterate 3 refine chk_skip ?_); refine chk_unw 3 rfl rfl rfl ?_; (iterate 2 refine chk_skip ?_); exact chk_end; refine seq_normal ?_; refine wp_false rfl ?_; refine wp_exit ?_; refine seq_exit ?_; refine iter_exit ?_; refine block_exit ?_; refine cut1 (by (conv => lhs; whnf) <;> rfl) ?_
      exact ⟨i, rfl, hi1, hi2, rfl⟩
  rintro vs5 T5 H10 ⟨i, rfl, hi1, hi2, rfl⟩
  refine wp_cut [11] (fun vs H' => ∃ j : Nat, vs = [.int .i64 j] ∧ lo ≤ j ∧ j < hi ∧ H9 = H') ?_ ?_
  · refine wp_block ?_
    refine wp_loop [11] (fun k vs H' => ∃ j : Nat, vs = [.int .i64 j] ∧ k = j ∧ lo ≤ j ∧ j < hi ∧ H9 = H') ⟨_, _, rfl, rfl, by omega, by omega, rfl⟩ ?_
    rintro k vs T' H0 ⟨j, rfl, hk, hj1, hj2, rfl⟩
    refine wp_seq ?_; refine wp_seq ?_; refine wp_regionD ?_; refine zd1 ?_; refine zd1 ?_; refine wpD_cons ?_; refine op1_leq rfl rfl rfl ?_; refine zd1 ?_; refine wpD_cons ?_
    refine op1_dec rfl (fun hg => ?_) (fun hg => ?_)
    · obtain ⟨x, hx⟩ : ∃ x, m[j]? = some x := ⟨m[j]'(by omega), by simp⟩
      obtain ⟨y, hy⟩ : ∃ y, m[lo]? = some y := ⟨m[lo]'(by omega), by simp⟩
      have ej : (j : Int) - 1 = ((j - 1 : Nat) : Int) := by omega
      refine op1_mov rfl (by (conv => lhs; whnf) <;> rfl) ?_; refine zd1 ?_; refine wpD_cons ?_; refine op1_iaddr rfl rfl rfl (by omega) (by omega) ?_; refine wpD_cons ?_
      refine op1_loadL rfl rfl hS rfl (by omega) (i64s_at hx) ?_
      refine zd1 ?_; refine zd1 ?_; refine wpD_cons ?_; refine op1_iaddr rfl rfl rfl (by omega) (by omega) ?_; refine wpD_cons ?_
      refine op1_loadL rfl rfl hS rfl (by omega) (i64s_at hy) ?_
      refine wpD_cons ?_; refine op1_call2 rfl (by (conv => lhs; whnf) <;> rfl) (by (conv => lhs; whnf) <;> rfl) ?_
      refine wpF_mono L81 ?_
      rintro _ _ ⟨rfl, rfl⟩
      refine wpD_cons ?_; refine op1_not rfl rfl ?_; refine wpD_cons ?_; refine op1_pick_t rfl rfl (by (conv => lhs; whnf) <;> rfl) ?_; refine wpD_nil ?_; refine dk_of ?_ ?_; (iterate 7 refine chk_skip ?_); refine chk_cons 8 rfl rfl rfl ?_ ?_; refine chkFs_cons 3 rfl rfl ?_ ?_
      · exact chk_loadL rfl hS rfl (by omega) (i64s_at hx) rfl
      exact chkFs_nil; (iterate 3 refine chk_skip ?_); refine chk_cons 4 rfl rfl rfl ?_ ?_; refine chkFs_cons 3 rfl rfl ?_ ?_
      · exact chk_loadL rfl hS rfl (by omega) (i64s_at hy) rfl
      exact chkFs_nil; (iterate 3 refine chk_skip ?_); exact chk_end; refine seq_normal ?_
      refine wp_ndec rfl (fun hxy => ?_) (fun hxy => ?_)
      · refine wp_skip ?_; refine seq_normal ?_; refine wp_block ?_; refine wp_region ?_; refine zw1 ?_; refine wpO_cons ?_; refine op1_sub rfl rfl rfl (by exact wrap_i64 (by omega) (by omega)) ?_; refine zw1 ?_; refine wpO_nil ?_; refine block_normal ?_
        exact ⟨j - 1, by omega, j - 1, by rw [← ej]; rfl, rfl, by omega, by omega, rfl⟩
      · refine wp_exit ?_; refine seq_exit ?_; refine iter_exit ?_; refine block_exit ?_; refine cut1 (by (conv => lhs; whnf) <;> rfl) ?_
        exact ⟨j, rfl, hj1, hj2, rfl⟩
    · refine op1_skip rfl ?_; refine wpD_cons ?_; refine op1_skip rfl ?_; refine wpD_cons ?_; refine op1_skip rfl ?_; refine wpD_cons ?_; refine op1_skip rfl ?_; refine wpD_cons ?_; refine op1_skip rfl ?_; refine wpD_cons ?_; refine op1_skip rfl ?_; refine wpD_cons ?_; refine op1_skip rfl ?_; refine wpD_cons ?_; refine op1_skip rfl ?_; refine wpD_cons ?_; refine op1_skip rfl ?_; refine wpD_cons ?_; refine op1_skip rfl ?_; refine wpD_cons ?_; refine op1_pick_f rfl rfl (by (conv => lhs; whnf) <;> rfl) ?_; refine wpD_nil ?_; refine dk_of ?_ ?_; (iterate 7 refine chk_skip ?_); refine chk_unw 8 rfl rfl rfl ?_; (iterate 3 refine chk_skip ?_); refine chk_unw 4 rfl rfl rfl ?_; (iterate 3 refine chk_skip ?_); exact chk_end; refine seq_normal ?_; refine wp_false rfl ?_; refine wp_exit ?_; refine seq_exit ?_; refine iter_exit ?_; refine block_exit ?_; refine cut1 (by (conv => lhs; whnf) <;> rfl) ?_
      exact ⟨j, rfl, hj1, hj2, rfl⟩
  rintro vs6 T6 H11 ⟨j, rfl, hj1, hj2, rfl⟩
  refine wp_seq ?_; refine zsr ?_; refine zw1 ?_; refine zw1 ?_; refine wpO_cons ?_; refine op1_gtr rfl rfl rfl ?_; refine zns ?_
  refine wp_dec rfl (fun hq => ?_) (fun hq => ?_)
  · obtain ⟨x, hx⟩ : ∃ x, m[j]? = some x := ⟨m[j]'(by omega), by simp⟩
    obtain ⟨y, hy⟩ : ∃ y, m[lo]? = some y := ⟨m[lo]'(by omega), by simp⟩
    have hS0 := hS
    refine wp_exit ?_; refine seq_exit ?_; refine block_other rfl ?_; refine iter_exit ?_; refine block_exit ?_; refine seq_normal ?_; refine wp_seq ?_; refine wp_regionD ?_; (iterate 6 refine zd1 ?_); refine wpD_cons ?_; refine op1_iaddr rfl rfl rfl (by omega) (by omega) ?_; refine wpD_cons ?_
    refine op1_loadL rfl rfl hS rfl (by omega) (i64s_at hy) ?_
    refine zd1 ?_; refine zd1 ?_; refine wpD_cons ?_; refine op1_iaddr rfl rfl rfl (by omega) (by omega) ?_; refine wpD_cons ?_
    refine op1_loadL rfl rfl hS rfl (by omega) (i64s_at hx) ?_
    refine wpD_cons ?_; refine op1_iaddr rfl rfl rfl (by omega) (by omega) ?_; refine wpD_cons ?_; (refine op1_store1L rfl rfl (by (conv => lhs; whnf) <;> rfl) rfl rfl (S.up0 hS) (by omega) ?_; intro H5 hS; replace hS := S.dn0 hS); refine wpD_cons ?_; refine op1_iaddr rfl rfl rfl (by omega) (by omega) ?_; refine wpD_cons ?_; (refine op1_store1L rfl rfl (by (conv => lhs; whnf) <;> rfl) rfl rfl (S.up0 hS) (by omega) ?_; intro H6 hS; replace hS := S.dn0 hS); refine wpD_nil ?_; refine dk_of ?_ ?_; (iterate 7 refine chk_skip ?_); refine chk_cons 9 rfl rfl rfl ?_ ?_; refine chkFs_cons 3 rfl rfl ?_ ?_
    · exact chk_loadL rfl hS0 rfl (by omega) (i64s_at hy) rfl
    exact chkFs_nil; (iterate 3 refine chk_skip ?_); refine chk_cons 5 rfl rfl rfl ?_ ?_; refine chkFs_cons 3 rfl rfl ?_ ?_
    · exact chk_loadL rfl hS0 rfl (by omega) (i64s_at hx) rfl
    exact chkFs_nil; (iterate 4 refine chk_skip ?_); exact chk_end; refine seq_normal ?_
    rw [show ((j : Nat) : Int).toNat = j from rfl, show ((lo : Nat) : Int).toNat = lo from rfl, i64s_set, i64s_set] at hS
    replace hp := (swap_perm hx hy).trans hp
    clear hx hy hS0
    obtain ⟨m, hm2⟩ : ∃ z, z = (m.set j y).set lo x := ⟨_, rfl⟩
    rw [← hm2] at hS hp
    clear hm2
    have hml := hp.length_eq
    refine zsr ?_; refine zw1 ?_; refine zw1 ?_; refine zw1 ?_; refine zns ?_; refine wp_ret ?_; refine ret_of ?_; refine rk_tmp (by (conv => lhs; whnf) <;> rfl) ?_; refine rk_tmp (by (conv => lhs; whnf) <;> rfl) ?_; refine rk_nil ?_
    exact ⟨j, _, m, rfl, hj1, hj2, hp, hS⟩
  obtain ⟨x, hx⟩ : ∃ x, m[i]? = some x := ⟨m[i]'(by omega), by simp⟩
  obtain ⟨y, hy⟩ : ∃ y, m[j]? = some y := ⟨m[j]'(by omega), by simp⟩
  have hS0 := hS
  refine wp_skip ?_; refine seq_normal ?_; refine wp_seq ?_; refine wp_regionD ?_; (iterate 6 refine zd1 ?_); refine wpD_cons ?_; refine op1_iaddr rfl rfl rfl (by omega) (by omega) ?_; refine wpD_cons ?_
  refine op1_loadL rfl rfl hS rfl (by omega) (i64s_at hy) ?_
  refine zd1 ?_; refine zd1 ?_; refine wpD_cons ?_; refine op1_iaddr rfl rfl rfl (by omega) (by omega) ?_; refine wpD_cons ?_
  refine op1_loadL rfl rfl hS rfl (by omega) (i64s_at hx) ?_
  refine wpD_cons ?_; refine op1_iaddr rfl rfl rfl (by omega) (by omega) ?_; refine wpD_cons ?_; (refine op1_store1L rfl rfl (by (conv => lhs; whnf) <;> rfl) rfl rfl (S.up0 hS) (by omega) ?_; intro H5 hS; replace hS := S.dn0 hS); refine wpD_cons ?_; refine op1_iaddr rfl rfl rfl (by omega) (by omega) ?_; refine wpD_cons ?_; (refine op1_store1L rfl rfl (by (conv => lhs; whnf) <;> rfl) rfl rfl (S.up0 hS) (by omega) ?_; intro H6 hS; replace hS := S.dn0 hS); refine wpD_nil ?_; refine dk_of ?_ ?_; (iterate 7 refine chk_skip ?_); refine chk_cons 9 rfl rfl rfl ?_ ?_; refine chkFs_cons 3 rfl rfl ?_ ?_
  · exact chk_loadL rfl hS0 rfl (by omega) (i64s_at hy) rfl
  exact chkFs_nil; (iterate 3 refine chk_skip ?_); refine chk_cons 5 rfl rfl rfl ?_ ?_; refine chkFs_cons 3 rfl rfl ?_ ?_
  · exact chk_loadL rfl hS0 rfl (by omega) (i64s_at hx) rfl
  exact chkFs_nil; (iterate 4 refine chk_skip ?_); exact chk_end; refine seq_normal ?_
  rw [show ((i : Nat) : Int).toNat = i from rfl, show ((j : Nat) : Int).toNat = j from rfl, i64s_set, i64s_set] at hS
  replace hp := (swap_perm hx hy).trans hp
  clear hx hy hS0
  obtain ⟨m, hm2⟩ : ∃ z, z = (m.set i y).set j x := ⟨_, rfl⟩
  rw [← hm2] at hS hp
  clear hm2
  have hml := hp.length_eq
  have ei : (i : Int) + 1 = ((i + 1 : Nat) : Int) := by omega
  have ej : (j : Int) - 1 = ((j - 1 : Nat) : Int) := by omega
  refine zsr ?_; refine zw1 ?_; refine wpO_cons ?_; refine op1_add rfl rfl rfl (by exact wrap_i64 (by omega) (by omega)) ?_; refine zw1 ?_; refine zns ?_; refine wp_region ?_; refine zw1 ?_; refine wpO_cons ?_; refine op1_sub rfl rfl rfl (by exact wrap_i64 (by omega) (by omega)) ?_; refine zw1 ?_; refine wpO_nil ?_; refine block_normal ?_
  exact ⟨hi - (i + 1), by omega, i + 1, j - 1, m, by rw [← ei, ← ej]; rfl, rfl, by omega, by omega, by omega, by omega, hp, hS⟩
end
end Go.E.Pi
/- Sorting whole numbers: partitioning what is equal. -/
namespace Go.E.Pi
open Go Go.E Go.Proofs.Ytgmmkajjigmjoaa Go.Proofs
set_option linter.unusedVariables false
set_option linter.unusedSimpArgs false
set_option maxRecDepth 100000
/- scans: up with the temporary $1, down with $1; $2 the heap -/
section
variable {B H : AHeap} {As : List Asn} {b off n c : Nat} {l : List Int}
theorem L82 {lo hi pv : Nat} (hS : S B H (sl 1 (.slice (some ⟨b, off, none⟩) n c) (i64s l) :: As)) (hn : l.length = n) (h1 : lo ≤ pv) (h2 : pv < hi) (h3 : hi ≤ n) (hb : n ≤ 1000000) :
    wpF C 82 [.slice (some ⟨b, off, none⟩) n c, .int .i64 lo, .int .i64 hi, .int .i64 pv] H fun v H' => ∃ (r : Nat) (l' : List Int), v = .int .i64 r ∧ lo < r ∧ r ≤ hi ∧ l'.Perm l ∧ S B H' (sl 1 (.slice (some ⟨b, off, none⟩) n c) (i64s l') :: As) := by
  refine wpF_ofW o82 rfl rfl ?_
  obtain ⟨m, hm⟩ : ∃ m, m = l := ⟨_, rfl⟩
  have hp : m.Perm l := by rw [hm]
  rw [← hm] at hS
  clear hm
  have hml := hp.length_eq
  obtain ⟨x, hx⟩ : ∃ x, m[lo]? = some x := ⟨m[lo]'(by omega), by simp⟩
  obtain ⟨y, hy⟩ : ∃ y, m[pv]? = some y := ⟨m[pv]'(by omega), by simp⟩
  have hS0 := hS
  refine zsr ?_; refine zw1 ?_; refine zns ?_; refine wp_seq ?_; refine wp_regionD ?_; (iterate 6 refine zd1 ?_); refine wpD_cons ?_; refine op1_iaddr rfl rfl rfl (by omega) (by omega) ?_; refine wpD_cons ?_
  refine op1_loadL rfl rfl hS rfl (by omega) (i64s_at hy) ?_
  refine zd1 ?_; refine zd1 ?_; refine wpD_cons ?_; refine op1_iaddr rfl rfl rfl (by omega) (by omega) ?_; refine wpD_cons ?_
  refine op1_loadL rfl rfl hS rfl (by omega) (i64s_at hx) ?_
  refine wpD_cons ?_; refine op1_iaddr rfl rfl rfl (by omega) (by omega) ?_; refine wpD_cons ?_; (refine op1_store1L rfl rfl (by (conv => lhs; whnf) <;> rfl) rfl rfl (S.up0 hS) (by omega) ?_; intro H1 hS; replace hS := S.dn0 hS); refine wpD_cons ?_; refine op1_iaddr rfl rfl rfl (by omega) (by omega) ?_; refine wpD_cons ?_; (refine op1_store1L rfl rfl (by (conv => lhs; whnf) <;> rfl) rfl rfl (S.up0 hS) (by omega) ?_; intro H2 hS; replace hS := S.dn0 hS); refine wpD_nil ?_; refine dk_of ?_ ?_; (iterate 7 refine chk_skip ?_); refine chk_cons 9 rfl rfl rfl ?_ ?_; refine chkFs_cons 3 rfl rfl ?_ ?_
  · exact chk_loadL rfl hS0 rfl (by omega) (i64s_at hy) rfl
  exact chkFs_nil; (iterate 3 refine chk_skip ?_); refine chk_cons 5 rfl rfl rfl ?_ ?_; refine chkFs_cons 3 rfl rfl ?_ ?_
  · exact chk_loadL rfl hS0 rfl (by omega) (i64s_at hx) rfl
  exact chkFs_nil; (iterate 4 refine chk_skip ?_); exact chk_end; refine seq_normal ?_
  rw [show ((lo : Nat) : Int).toNat = lo from rfl, show ((pv : Nat) : Int).toNat = pv from rfl, i64s_set, i64s_set] at hS
  replace hp := (swap_perm hx hy).trans hp
  clear hx hy hS0
  obtain ⟨m, hm2⟩ : ∃ z, z = (m.set lo y).set pv x := ⟨_, rfl⟩
  rw [← hm2] at hS hp
  clear hm2
  have hml := hp.length_eq
  have ehi : (hi : Int) - 1 = ((hi - 1 : Nat) : Int) := by omega
  have elo : (lo : Int) + 1 = ((lo + 1 : Nat) : Int) := by omega
  refine zsr ?_; refine zw1 ?_; refine wpO_cons ?_; refine op1_add rfl rfl rfl (by exact wrap_i64 (by omega) (by omega)) ?_; refine zw1 ?_; refine wpO_cons ?_; refine op1_sub rfl rfl rfl (by exact wrap_i64 (by omega) (by omega)) ?_; refine zw1 ?_; refine zw1 ?_; refine zns ?_; refine wp_seq ?_; refine wp_block ?_
  rw [ehi, elo]
  refine wp_loop [9, 10] (fun k vs H' => ∃ (i j : Nat) (m : List Int), vs = [.int .i64 i, .int .i64 j] ∧ k = hi - i ∧ lo < i ∧ i ≤ hi ∧ lo ≤ j ∧ j < hi ∧ m.Perm l ∧ S B H' (sl 1 (.slice (some ⟨b, off, none⟩) n c) (i64s m) :: As))
    ⟨_, _, _, m, rfl, rfl, by omega, by omega, by omega, by omega, hp, hS⟩ ?_
  clear hS hp hml
  rintro k vs T' H9 ⟨i, j, m, rfl, hk, hi1, hi2, hj1, hj2, hp, hS⟩
  have hml := hp.length_eq
  obtain ⟨i0, hi0⟩ : ∃ z, z = i := ⟨_, rfl⟩
  refine wp_block ?_
  refine wp_cut [9] (fun vs H' => ∃ i : Nat, vs = [.int .i64 i] ∧ i0 ≤ i ∧ i ≤ hi ∧ H9 = H') ?_ ?_
  · refine wp_block ?_
    refine wp_loop [9] (fun k vs H' => ∃ i : Nat, vs = [.int .i64 i] ∧ k = hi - i ∧ i0 ≤ i ∧ i ≤ hi ∧ H9 = H') ⟨_, _, rfl, rfl, by omega, by omega, rfl⟩ ?_
    rintro k vs T' H0 ⟨i, rfl, hk, hi1, hi2, rfl⟩
    refine wp_seq ?_; refine wp_seq ?_; refine wp_regionD ?_; refine zd1 ?_; refine zd1 ?_; refine wpD_cons ?_; refine op1_leq rfl rfl rfl ?_; refine zd1 ?_; refine wpD_cons ?_
    refine op1_dec rfl (fun hg => ?_) (fun hg => ?_)
    · obtain ⟨x, hx⟩ : ∃ x, m[i]? = some x := ⟨m[i]'(by omega), by simp⟩
      obtain ⟨y, hy⟩ : ∃ y, m[lo]? = some y := ⟨m[lo]'(by omega), by simp⟩
      refine op1_mov rfl (by (conv => lhs; whnf) <;> rfl) ?_; refine zd1 ?_; refine wpD_cons ?_; refine op1_iaddr rfl rfl rfl (by omega) (by omega) ?_; refine wpD_cons ?_
      refine op1_loadL rfl rfl hS rfl (by omega) (i64s_at hy) ?_
      refine zd1 ?_; refine zd1 ?_; refine wpD_cons ?_; refine op1_iaddr rfl rfl rfl (by omega) (by omega) ?_; refine wpD_cons ?_
      refine op1_loadL rfl rfl hS rfl (by omega) (i64s_at hx) ?_
      refine wpD_cons ?_; refine op1_call2 rfl (by (conv => lhs; whnf) <;> rfl) (by (conv => lhs; whnf) <;> rfl) ?_
      refine wpF_mono L81 ?_
      rintro _ _ ⟨rfl, rfl⟩
      refine wpD_cons ?_; refine op1_not rfl rfl ?_; refine wpD_cons ?_; refine op1_pick_t rfl rfl (by (conv => lhs; whnf) <;> rfl) ?_; refine wpD_nil ?_; refine dk_of ?_ ?_; (iterate 7 refine chk_skip ?_); refine chk_cons 8 rfl rfl rfl ?_ ?_; refine chkFs_cons 3 rfl rfl ?_ ?_
      · exact chk_loadL rfl hS rfl (by omega) (i64s_at hy) rfl
      exact chkFs_nil; (iterate 3 refine chk_skip ?_); refine chk_cons 4 rfl rfl rfl ?_ ?_; refine chkFs_cons 3 rfl rfl ?_ ?_
      · exact chk_loadL rfl hS rfl (by omega) (i64s_at hx) rfl
      exact chkFs_nil; (iterate 3 refine chk_skip ?_); exact chk_end; refine seq_normal ?_
      refine wp_ndec rfl (fun hxy => ?_) (fun hxy => ?_)
      · refine wp_skip ?_; refine seq_normal ?_; refine wp_block ?_; refine wp_region ?_; refine zw1 ?_; refine wpO_cons ?_; refine op1_add rfl rfl rfl (by exact wrap_i64 (by omega) (by omega)) ?_; refine zw1 ?_; refine wpO_nil ?_; refine block_normal ?_
        exact ⟨hi - (i + 1), by omega, i + 1, rfl, rfl, by omega, by omega, rfl⟩
      · refine wp_exit ?_; refine seq_exit ?_; refine iter_exit ?_; refine block_exit ?_; refine cut1 (by (conv => lhs; whnf) <;> rfl) ?_
        exact ⟨i, rfl, hi1, hi2, rfl⟩
    · refine op1_skip rfl ?_; refine wpD_cons ?_; refine op1_skip rfl ?_; refine wpD_cons ?_; refine op1_skip rfl ?_; refine wpD_cons ?_; refine op1_skip rfl ?_; refine wpD_cons ?_; refine op1_skip rfl ?_; refine wpD_cons ?_; refine op1_skip rfl ?_; refine wpD_cons ?_; refine op1_skip rfl ?_; refine wpD_cons ?_; refine op1_skip rfl ?_; refine wpD_cons ?_; refine op1_skip rfl ?_; refine wpD_cons ?_; refine op1_skip rfl ?_; refine wpD_cons ?_; refine op1_pick_f rfl rfl (by (conv => lhs; whnf) <;> rfl) ?_; refine wpD_nil ?_; refine dk_of ?_ ?_; (iterate 7 refine chk_skip ?_); refine chk_unw 8 rfl rfl rfl ?_; (iterate 3 refine chk_skip ?_); refine chk_unw 4 rfl rfl rfl ?_; (iterate 3 refine chk_skip ?_); exact chk_end; refine seq_normal ?_; refine wp_false rfl ?_; refine wp_exit ?_; refine seq_exit ?_; refine iter_exit ?_; refine block_exit ?_; refine cut1 (by (conv => lhs; whnf) <;> rfl) ?_
      exact ⟨i, rfl, hi1, hi2, rfl⟩
  rintro vs5 T5 H10 ⟨i, rfl, hi1, hi2, rfl⟩
  refine wp_cut [10] (fun vs H' => ∃ j : Nat, vs = [.int .i64 j] ∧ lo ≤ j ∧ j < hi ∧ H9 = H') ?_ ?_
  · refine wp_block ?_
    refine wp_loop [10] (fun k vs H' => ∃ j : Nat, vs = [.int .i64 j] ∧ k = j ∧ lo ≤ j ∧ j < hi ∧ H9 = H') ⟨_, _, rfl, rfl, by omega, by omega, rfl⟩ ?_
    rintro k vs T' H0 ⟨j, rfl, hk, hj1, hj2, rfl⟩
    refine wp_seq ?_; refine wp_seq ?_; refine wp_regionD ?_; refine zd1 ?_; refine zd1 ?_; refine wpD_cons ?_; refine op1_leq rfl rfl rfl ?_; refine zd1 ?_; refine wpD_cons ?_
    refine op1_dec rfl (fun hg => ?_) (fun hg => ?_)
    · obtain ⟨x, hx⟩ : ∃ x, m[j]? = some x := ⟨m[j]'(by omega), by simp⟩
      obtain ⟨y, hy⟩ : ∃ y, m[lo]? = some y := ⟨m[lo]'(by omega), by simp⟩
      have ej : (j : Int) - 1 = ((j - 1 : Nat) : Int) := by omega
      refine op1_mov rfl (by (conv => lhs; whnf) <;> rfl) ?_; refine zd1 ?_; refine wpD_cons ?_; refine op1_iaddr rfl rfl rfl (by omega) (by omega) ?_; refine wpD_cons ?_
      refine op1_loadL rfl rfl hS rfl (by omega) (i64s_at hy) ?_
      refine zd1 ?_; refine zd1 ?_; refine wpD_cons ?_; refine op1_iaddr rfl rfl rfl (by omega) (by omega) ?_; refine wpD_cons ?_
      refine op1_loadL rfl rfl hS rfl (by omega) (i64s_at hx) ?_
      refine wpD_cons ?_; refine op1_call2 rfl (by (conv => lhs; whnf) <;> rfl) (by (conv => lhs; whnf) <;> rfl) ?_
      refine wpF_mono L81 ?_
      rintro _ _ ⟨rfl, rfl⟩
      refine wpD_cons ?_; refine op1_pick_t rfl rfl (by (conv => lhs; whnf) <;> rfl) ?_; refine wpD_nil ?_; refine dk_of ?_ ?_; (iterate 7 refine chk_skip ?_); refine chk_cons 7 rfl rfl rfl ?_ ?_; refine chkFs_cons 2 rfl rfl ?_ ?_
      · exact chk_loadL rfl hS rfl (by omega) (i64s_at hy) rfl
      exact chkFs_nil; (iterate 3 refine chk_skip ?_); refine chk_cons 3 rfl rfl rfl ?_ ?_; refine chkFs_cons 2 rfl rfl ?_ ?_
      · exact chk_loadL rfl hS rfl (by omega) (i64s_at hx) rfl
      exact chkFs_nil; (iterate 2 refine chk_skip ?_); exact chk_end; refine seq_normal ?_
      refine wp_dec rfl (fun hxy => ?_) (fun hxy => ?_)
      · refine wp_skip ?_; refine seq_normal ?_; refine wp_block ?_; refine wp_region ?_; refine zw1 ?_; refine wpO_cons ?_; refine op1_sub rfl rfl rfl (by exact wrap_i64 (by omega) (by omega)) ?_; refine zw1 ?_; refine wpO_nil ?_; refine block_normal ?_
        exact ⟨j - 1, by omega, j - 1, by rw [← ej]; rfl, rfl, by omega, by omega, rfl⟩
      · refine wp_exit ?_; refine seq_exit ?_; refine iter_exit ?_; refine block_exit ?_; refine cut1 (by (conv => lhs; whnf) <;> rfl) ?_
        exact ⟨j, rfl, hj1, hj2, rfl⟩
    · refine op1_skip rfl ?_; refine wpD_cons ?_; refine op1_skip rfl ?_; refine wpD_cons ?_; refine op1_skip rfl ?_; refine wpD_cons ?_; refine op1_skip rfl ?_; refine wpD_cons ?_; refine op1_skip rfl ?_; refine wpD_cons ?_; refine op1_skip rfl ?_; refine wpD_cons ?_; refine op1_skip rfl ?_; refine wpD_cons ?_; refine op1_skip rfl ?_; refine wpD_cons ?_; refine op1_skip rfl ?_; refine wpD_cons ?_; refine op1_pick_f rfl rfl (by (conv => lhs; whnf) <;> rfl) ?_; refine wpD_nil ?_; refine dk_of ?_ ?_; (iterate 7 refine chk_skip ?_); refine chk_unw 7 rfl rfl rfl ?_; (iterate 3 refine chk_skip ?_); refine chk_unw 3 rfl rfl rfl ?_; (iterate 2 refine chk_skip ?_); exact chk_end; refine seq_normal ?_; refine wp_false rfl ?_; refine wp_exit ?_; refine seq_exit ?_; refine iter_exit ?_; refine block_exit ?_; refine cut1 (by (conv => lhs; whnf) <;> rfl) ?_
      exact ⟨j, rfl, hj1, hj2, rfl⟩
  rintro vs6 T6 H11 ⟨j, rfl, hj1, hj2, rfl⟩
  refine wp_seq ?_; refine zsr ?_; refine zw1 ?_; refine zw1 ?_; refine wpO_cons ?_; refine op1_gtr rfl rfl rfl ?_; refine zns ?_
  refine wp_dec rfl (fun hq => ?_) (fun hq => ?_)
  · refine wp_exit ?_; refine seq_exit ?_; refine block_other rfl ?_; refine iter_exit ?_; refine block_exit ?_; refine seq_normal ?_; refine zsr ?_; refine zw1 ?_; refine zw1 ?_; refine zns ?_; refine wp_ret ?_; refine ret_of ?_; refine rk_tmp (by (conv => lhs; whnf) <;> rfl) ?_; refine rk_nil ?_
    exact ⟨i, m, rfl, by omega, hi2, hp, hS⟩
  obtain ⟨x, hx⟩ : ∃ x, m[i]? = some x := ⟨m[i]'(by omega), by simp⟩
  obtain ⟨y, hy⟩ : ∃ y, m[j]? = some y := ⟨m[j]'(by omega), by simp⟩
  have hS0 := hS
  refine wp_skip ?_; refine seq_normal ?_; refine wp_seq ?_; refine wp_regionD ?_; (iterate 6 refine zd1 ?_); refine wpD_cons ?_; refine op1_iaddr rfl rfl rfl (by omega) (by omega) ?_; refine wpD_cons ?_
  refine op1_loadL rfl rfl hS rfl (by omega) (i64s_at hy) ?_
  refine zd1 ?_; refine zd1 ?_; refine wpD_cons ?_; refine op1_iaddr rfl rfl rfl (by omega) (by omega) ?_; refine wpD_cons ?_
  refine op1_loadL rfl rfl hS rfl (by omega) (i64s_at hx) ?_
  refine wpD_cons ?_; refine op1_iaddr rfl rfl rfl (by omega) (by omega) ?_; refine wpD_cons ?_; (refine op1_store1L rfl rfl (by (conv => lhs; whnf) <;> rfl) rfl rfl (S.up0 hS) (by omega) ?_; intro H3 hS; replace hS := S.dn0 hS); refine wpD_cons ?_; refine op1_iaddr rfl rfl rfl (by omega) (by omega) ?_; refine wpD_cons ?_; (refine op1_store1L rfl rfl (by (conv => lhs; whnf) <;> rfl) rfl rfl (S.up0 hS) (by omega) ?_; intro H4 hS; replace hS := S.dn0 hS); refine wpD_nil ?_; refine dk_of ?_ ?_; (iterate 7 refine chk_skip ?_); refine chk_cons 9 rfl rfl rfl ?_ ?_; refine chkFs_cons 3 rfl rfl ?_ ?_
  · exact chk_loadL rfl hS0 rfl (by omega) (i64s_at hy) rfl
  exact chkFs_nil; (iterate 3 refine chk_skip ?_); refine chk_cons 5 rfl rfl rfl ?_ ?_; refine chkFs_cons 3 rfl rfl ?_ ?_
  · exact chk_loadL rfl hS0 rfl (by omega) (i64s_at hx) rfl
  exact chkFs_nil; (iterate 4 refine chk_skip ?_); exact chk_end; refine seq_normal ?_
  rw [show ((i : Nat) : Int).toNat = i from rfl, show ((j : Nat) : Int).toNat = j from rfl, i64s_set, i64s_set] at hS
  replace hp := (swap_perm hx hy).trans hp
  clear hx hy hS0
  obtain ⟨m, hm2⟩ : ∃ z, z = (m.set i y).set j x := ⟨_, rfl⟩
  rw [← hm2] at hS hp
  clear hm2
  have hml := hp.length_eq
  have ei : (i : Int) + 1 = ((i + 1 : Nat) : Int) := by omega
  have ej : (j : Int) - 1 = ((j - 1 : Nat) : Int) := by omega
  refine zsr ?_; refine zw1 ?_; refine wpO_cons ?_; refine op1_add rfl rfl rfl (by exact wrap_i64 (by omega) (by omega)) ?_; refine zw1 ?_; refine zns ?_; refine wp_region ?_; refine zw1 ?_; refine wpO_cons ?_; refine op1_sub rfl rfl rfl (by exact wrap_i64 (by omega) (by omega)) ?_; refine zw1 ?_; refine wpO_nil ?_; refine block_normal ?_
  exact ⟨hi - (i + 1), by omega, i + 1, j - 1, m, by rw [← ei, ← ej]; rfl, rfl, by omega, by omega, by omega, by omega, hp, hS⟩
end
end Go.E.Pi
