/- The reference's connection: the small parts. -/
import Derived.Test.YtamcfhhcmjagnaaStCy
namespace Go.E.St
open Go Go.E Go.Proofs.Ytamcfhhcmjagnaa Go.Proofs
set_option linter.unusedVariables false
set_option linter.unusedSimpArgs false
set_option maxRecDepth 100000
def hasT (f k : Int) : Bool := decide ((f.tdiv k).tmod 2 = 1)
theorem hasT_eq {f k : Int} (hf : 0 ≤ f ∧ f ≤ 15) (hk : k = 1 ∨ k = 2 ∨ k = 4 ∨ k = 8) : hasT f k = has f k := by
  have h : f = 0 ∨ f = 1 ∨ f = 2 ∨ f = 3 ∨ f = 4 ∨ f = 5 ∨ f = 6 ∨ f = 7 ∨ f = 8 ∨ f = 9 ∨ f = 10 ∨ f = 11 ∨ f = 12 ∨ f = 13 ∨ f = 14 ∨ f = 15 := by omega
  rcases h with rfl | rfl | rfl | rfl | rfl | rfl | rfl | rfl | rfl | rfl | rfl | rfl | rfl | rfl | rfl | rfl <;> rcases hk with rfl | rfl | rfl | rfl <;> decide
theorem badF_eq {f : Int} (hf : 0 ≤ f ∧ f ≤ 15) : badF f = ((has f 1 && (has f 4 || has f 8)) || (!has f 2 && !has f 1 && !has f 8)) := by
  have h : f = 0 ∨ f = 1 ∨ f = 2 ∨ f = 3 ∨ f = 4 ∨ f = 5 ∨ f = 6 ∨ f = 7 ∨ f = 8 ∨ f = 9 ∨ f = 10 ∨ f = 11 ∨ f = 12 ∨ f = 13 ∨ f = 14 ∨ f = 15 := by omega
  rcases h with rfl | rfl | rfl | rfl | rfl | rfl | rfl | rfl | rfl | rfl | rfl | rfl | rfl | rfl | rfl | rfl <;> decide
section
variable {B H : AHeap} {As : List Asn} {p : Nat} {s : Cn} {g : Sg}
theorem L40 {f k : Int} (hf : 0 ≤ f ∧ f ≤ 15) (hk : k = 1 ∨ k = 2 ∨ k = 4 ∨ k = 8) : wpF C 40 [.int .i64 f, .int .i64 k] H fun v H' => v = .bool (has f k) ∧ H = H' := by
  rw [← hasT_eq hf hk]
  unfold hasT
  have hq : f.tdiv k = f / k := by rw [Int.tdiv_eq_ediv]; simp [hf.1]
  have hb : 0 ≤ f / k ∧ f / k ≤ 15 := by
    rcases hk with rfl | rfl | rfl | rfl <;> omega
  refine wpF_ofW o40 rfl rfl ?_
  refine zsr ?_; refine zw1 ?_; refine zns ?_; refine zsr ?_; refine zw1 ?_; refine zw1 ?_; refine wpO_cons ?_
  refine op1_quo rfl rfl rfl (by omega) (by rw [hq, wrap_i64 (by omega) (by omega)]) ?_
  refine wpO_cons ?_; refine op1_rem rfl rfl rfl (by omega) ?_; refine wpO_cons ?_; refine op1_eqlI rfl rfl rfl ?_; refine zw1 ?_; refine zns ?_; refine wp_ret ?_; refine ret_of ?_; refine zr ?_; refine rk_nil ?_
  exact ⟨rfl, rfl⟩
theorem L11 {a b : Int} : wpF C 11 [.int .u32 a, .int .u32 b] H fun v H' => v = .bool (before a b) ∧ H = H' := by
  refine wpF_ofW o11 rfl rfl ?_
  unfold before
  refine zsr ?_; refine zw1 ?_; refine zns ?_; refine zsr ?_; refine zw1 ?_; refine zw1 ?_; refine wpO_cons ?_
  refine op1_subW rfl rfl rfl ?_
  refine wpO_cons ?_
  refine op1_convIntW rfl rfl ?_
  refine wpO_cons ?_; refine op1_lss rfl rfl rfl ?_; refine zw1 ?_; refine zns ?_; refine wp_ret ?_; refine ret_of ?_; refine zr ?_; refine rk_nil ?_
  exact ⟨rfl, rfl⟩
theorem L79 {n : Int} : wpF C 79 [.int .i64 n] H fun v H' => v = .bool (decide (0 ≤ n ∧ n ≤ 1099511627776)) ∧ H = H' := by
  refine wpF_ofW o79 rfl rfl ?_
  refine zsr ?_; refine zw1 ?_; refine zns ?_; refine zsr ?_; refine zw1 ?_; refine wpO_cons ?_; refine op1_geq rfl rfl rfl ?_; refine zw1 ?_; refine wpO_cons ?_
  refine op1_dec rfl (fun h1 => ?_) (fun h1 => ?_)
  · refine op1_mov rfl (by (conv => lhs; whnf) <;> rfl) ?_; refine wpO_cons ?_; refine op1_leq rfl rfl rfl ?_; refine zt ?_; refine zw1 ?_; refine zns ?_; refine wp_ret ?_; refine ret_of ?_; refine zr ?_; refine rk_nil ?_
    refine ⟨?_, rfl⟩
    show Value.bool _ = _
    congr 1
    rw [decide_eq_decide]; omega
  · refine op1_skip rfl ?_; refine zk ?_; refine zu ?_; refine zw1 ?_; refine zns ?_; refine wp_ret ?_; refine ret_of ?_; refine zr ?_; refine rk_nil ?_
    refine ⟨?_, rfl⟩
    rw [decide_eq_false (by omega)]; rfl
theorem L81 {ad : Option Addr} {cd : Nat} (hf : 0 ≤ g.fl ∧ g.fl ≤ 15) (hl : g.data.length ≤ 4096) (hS : S B H As) : wpF C 81 [.agg ⟨sgC g (.slice ad g.data.length cd)⟩] H fun v H' => v = .int .i64 (lenS g) ∧ S B H' As := by
  refine wpF_ofW o81 rfl rfl ?_
  unfold lenS sgC
  refine zsr ?_; refine wpO_cons ?_; refine op1_boxNS rfl rfl rfl hS ?_; intro p1 H1 hS; refine zw1 ?_; refine zns ?_; refine zsr ?_; refine zf ?_; refine zh (S.g0 hS) ?_; refine wpO_cons ?_; refine op1_len rfl rfl ?_; refine zw1 ?_; refine zns ?_; refine wp_seq ?_; refine zsr ?_; refine zf ?_; refine zh (S.g0 hS) ?_; refine wpO_cons ?_; refine op1_call2 rfl (by (conv => lhs; whnf) <;> rfl) (by (conv => lhs; whnf) <;> rfl) ?_
  refine wpF_mono (L40 (k := 1) hf (by decide)) ?_
  rintro _ H2 ⟨rfl, rfl⟩
  obtain ⟨h1, hh1⟩ : ∃ z, z = has g.fl 1 := ⟨_, rfl⟩
  obtain ⟨h4, hh4⟩ : ∃ z, z = has g.fl 4 := ⟨_, rfl⟩
  rw [← hh1, ← hh4]
  cases h1 <;> cases h4
  · refine zns ?_; refine wp_false rfl ?_; refine wp_skip ?_; refine seq_normal ?_; refine wp_seq ?_; refine zsr ?_; refine zf ?_; refine zh (S.g0 hS) ?_; refine wpO_cons ?_; refine op1_call2 rfl (by (conv => lhs; whnf) <;> rfl) (by (conv => lhs; whnf) <;> rfl) ?_
    refine wpF_mono (L40 (k := 4) hf (by decide)) ?_
    rw [← hh4]
    rintro _ H3 ⟨rfl, rfl⟩
    refine zns ?_; refine wp_false rfl ?_; refine wp_skip ?_; refine seq_normal ?_; refine zsr ?_; refine zw1 ?_; refine zw1 ?_; refine zns ?_; refine wp_ret ?_; refine ret_of ?_; refine zr ?_; refine rk_nil ?_
    exact ⟨rfl, S.drop hS⟩
  · refine zns ?_; refine wp_false rfl ?_; refine wp_skip ?_; refine seq_normal ?_; refine wp_seq ?_; refine zsr ?_; refine zf ?_; refine zh (S.g0 hS) ?_; refine wpO_cons ?_; refine op1_call2 rfl (by (conv => lhs; whnf) <;> rfl) (by (conv => lhs; whnf) <;> rfl) ?_
    refine wpF_mono (L40 (k := 4) hf (by decide)) ?_
    rw [← hh4]
    rintro _ H3 ⟨rfl, rfl⟩
    refine zns ?_; refine wp_true rfl ?_; refine wp_region ?_; refine zw1 ?_; refine wpO_cons ?_; refine op1_add rfl rfl rfl (by exact wrap_i64 (by omega) (by omega)) ?_; refine zw1 ?_; refine zns ?_; refine zsr ?_; refine zw1 ?_; refine zw1 ?_; refine zns ?_; refine wp_ret ?_; refine ret_of ?_; refine zr ?_; refine rk_nil ?_
    exact ⟨rfl, S.drop hS⟩
  · refine zns ?_; refine wp_true rfl ?_; refine wp_region ?_; refine zw1 ?_; refine wpO_cons ?_; refine op1_add rfl rfl rfl (by exact wrap_i64 (by omega) (by omega)) ?_; refine zw1 ?_; refine zns ?_; refine wp_seq ?_; refine zsr ?_; refine zf ?_; refine zh (S.g0 hS) ?_; refine wpO_cons ?_; refine op1_call2 rfl (by (conv => lhs; whnf) <;> rfl) (by (conv => lhs; whnf) <;> rfl) ?_
    refine wpF_mono (L40 (k := 4) hf (by decide)) ?_
    rw [← hh4]
    rintro _ H3 ⟨rfl, rfl⟩
    refine zns ?_; refine wp_false rfl ?_; refine wp_skip ?_; refine seq_normal ?_; refine zsr ?_; refine zw1 ?_; refine zw1 ?_; refine zns ?_; refine wp_ret ?_; refine ret_of ?_; refine zr ?_; refine rk_nil ?_
    exact ⟨rfl, S.drop hS⟩
  · refine zns ?_; refine wp_true rfl ?_; refine wp_region ?_; refine zw1 ?_; refine wpO_cons ?_; refine op1_add rfl rfl rfl (by exact wrap_i64 (by omega) (by omega)) ?_; refine zw1 ?_; refine zns ?_; refine wp_seq ?_; refine zsr ?_; refine zf ?_; refine zh (S.g0 hS) ?_; refine wpO_cons ?_; refine op1_call2 rfl (by (conv => lhs; whnf) <;> rfl) (by (conv => lhs; whnf) <;> rfl) ?_
    refine wpF_mono (L40 (k := 4) hf (by decide)) ?_
    rw [← hh4]
    rintro _ H3 ⟨rfl, rfl⟩
    refine zns ?_; refine wp_true rfl ?_; refine wp_region ?_; refine zw1 ?_; refine wpO_cons ?_; refine op1_add rfl rfl rfl (by exact wrap_i64 (by omega) (by omega)) ?_; refine zw1 ?_; refine zns ?_; refine zsr ?_; refine zw1 ?_; refine zw1 ?_; refine zns ?_; refine wp_ret ?_; refine ret_of ?_; refine zr ?_; refine rk_nil ?_
    exact ⟨rfl, S.drop hS⟩
theorem L13 {ad : Option Addr} {cd : Nat} (hS : S B H As) : wpF C 13 [.agg ⟨sgC g (.slice ad g.data.length cd)⟩] H fun v H' => v = .int .i64 (validE g) ∧ S B H' As := by
  refine wpF_ofW o13 rfl rfl ?_
  unfold validE sgC
  refine zsr ?_; refine wpO_cons ?_; refine op1_boxNS rfl rfl rfl hS ?_; intro p1 H1 hS; refine zw1 ?_; refine zns ?_; refine wp_seq ?_; refine zsr ?_; refine zf ?_; refine zh (S.g0 hS) ?_; refine wpO_cons ?_; refine op1_lss rfl rfl rfl ?_; refine zw1 ?_; refine wpO_cons ?_
  refine op1_dec rfl (fun h1 => ?_) (fun h1 => ?_)
  · rw [if_pos (.inl h1)]
    refine op1_skip rfl ?_; refine zk ?_; refine zk ?_; refine zt ?_; refine zns ?_; refine wp_true rfl ?_; refine zsr ?_; refine zw1 ?_; refine zns ?_; refine wp_ret ?_; refine seq_ret ?_; refine ret_of ?_; refine zr ?_; refine rk_nil ?_
    exact ⟨rfl, S.drop hS⟩
  refine op1_faddr0 rfl rfl ?_; refine zh (S.g0 hS) ?_; refine wpO_cons ?_; refine op1_gtr rfl rfl rfl ?_; refine zu ?_; refine zns ?_
  refine wp_dec rfl (fun h2 => ?_) (fun h2 => ?_)
  · rw [if_pos (.inr h2)]
    refine zsr ?_; refine zw1 ?_; refine zns ?_; refine wp_ret ?_; refine seq_ret ?_; refine ret_of ?_; refine zr ?_; refine rk_nil ?_
    exact ⟨rfl, S.drop hS⟩
  rw [if_neg (by omega)]
  refine wp_skip ?_; refine seq_normal ?_; refine wp_seq ?_; refine zsr ?_; refine zf ?_; refine zh (S.g0 hS) ?_; refine wpO_cons ?_; refine op1_lss rfl rfl rfl ?_; refine zw1 ?_; refine wpO_cons ?_
  refine op1_dec rfl (fun h3 => ?_) (fun h3 => ?_)
  · rw [if_pos (.inl h3)]
    refine op1_skip rfl ?_; refine zk ?_; refine zk ?_; refine zt ?_; refine zns ?_; refine wp_true rfl ?_; refine zsr ?_; refine zw1 ?_; refine zns ?_; refine wp_ret ?_; refine seq_ret ?_; refine ret_of ?_; refine zr ?_; refine rk_nil ?_
    exact ⟨rfl, S.drop hS⟩
  refine op1_faddr0 rfl rfl ?_; refine zh (S.g0 hS) ?_; refine wpO_cons ?_; refine op1_gtr rfl rfl rfl ?_; refine zu ?_; refine zns ?_
  refine wp_dec rfl (fun h4 => ?_) (fun h4 => ?_)
  · rw [if_pos (.inr h4)]
    refine zsr ?_; refine zw1 ?_; refine zns ?_; refine wp_ret ?_; refine seq_ret ?_; refine ret_of ?_; refine zr ?_; refine rk_nil ?_
    exact ⟨rfl, S.drop hS⟩
  rw [if_neg (by omega)]
  refine wp_skip ?_; refine seq_normal ?_; refine wp_seq ?_; refine zsr ?_; refine zf ?_; refine zh (S.g0 hS) ?_; refine wpO_cons ?_; refine op1_len rfl rfl ?_; refine wpO_cons ?_; refine op1_gtr rfl rfl rfl ?_; refine zns ?_
  refine wp_dec rfl (fun h5 => ?_) (fun h5 => ?_)
  · rw [if_pos (by omega)]
    refine zsr ?_; refine zw1 ?_; refine zns ?_; refine wp_ret ?_; refine seq_ret ?_; refine ret_of ?_; refine zr ?_; refine rk_nil ?_
    exact ⟨rfl, S.drop hS⟩
  rw [if_neg (by omega)]
  have hf : 0 ≤ g.fl ∧ g.fl ≤ 15 := by omega
  rw [badF_eq hf]
  refine wp_skip ?_; refine seq_normal ?_; refine wp_seq ?_; refine wp_regionD ?_; refine zg ?_; refine zj (S.g0 hS) ?_; refine zg ?_; refine zj (S.g0 hS) ?_; refine zg ?_; refine zj (S.g0 hS) ?_; refine zg ?_; refine zj (S.g0 hS) ?_; refine wpD_cons ?_; refine op1_call2 rfl (by (conv => lhs; whnf) <;> rfl) (by (conv => lhs; whnf) <;> rfl) ?_
  refine wpF_mono (L40 (k := 1) hf (by decide)) ?_
  rintro _ H3 ⟨rfl, rfl⟩
  refine wpD_cons ?_; refine op1_call2 rfl (by (conv => lhs; whnf) <;> rfl) (by (conv => lhs; whnf) <;> rfl) ?_
  refine wpF_mono (L40 (k := 2) hf (by decide)) ?_
  rintro _ H3 ⟨rfl, rfl⟩
  refine wpD_cons ?_; refine op1_call2 rfl (by (conv => lhs; whnf) <;> rfl) (by (conv => lhs; whnf) <;> rfl) ?_
  refine wpF_mono (L40 (k := 4) hf (by decide)) ?_
  rintro _ H3 ⟨rfl, rfl⟩
  refine wpD_cons ?_; refine op1_call2 rfl (by (conv => lhs; whnf) <;> rfl) (by (conv => lhs; whnf) <;> rfl) ?_
  refine wpF_mono (L40 (k := 8) hf (by decide)) ?_
  rintro _ H3 ⟨rfl, rfl⟩
  obtain ⟨k1, hk1⟩ : ∃ z, z = has g.fl 1 := ⟨_, rfl⟩
  obtain ⟨k2, hk2⟩ : ∃ z, z = has g.fl 2 := ⟨_, rfl⟩
  obtain ⟨k4, hk4⟩ : ∃ z, z = has g.fl 4 := ⟨_, rfl⟩
  obtain ⟨k8, hk8⟩ : ∃ z, z = has g.fl 8 := ⟨_, rfl⟩
  rw [← hk1, ← hk2, ← hk4, ← hk8]
  clear hk1 hk2 hk4 hk8
  cases k1 <;> cases k2 <;> cases k4 <;> cases k8
  · (iterate 4 refine zd1 ?_); refine wpD_nil ?_; refine dk_of ?_ ?_; refine chk_skip ?_; refine zx 15 ?_ ?_; refine zy 8 ?_ ?_; exact zq (S.g0 hS); exact chkFs_nil; refine chk_skip ?_; refine zx 13 ?_ ?_; refine zy 8 ?_ ?_; exact zq (S.g0 hS); refine zy 7 ?_ ?_; exact zq (S.g0 hS); exact chkFs_nil; refine chk_skip ?_; refine zx 11 ?_ ?_; refine zy 8 ?_ ?_; exact zq (S.g0 hS); refine zy 7 ?_ ?_; exact zq (S.g0 hS); refine zy 6 ?_ ?_; exact zq (S.g0 hS); exact chkFs_nil; refine chk_skip ?_; refine zx 9 ?_ ?_; refine zy 8 ?_ ?_; exact zq (S.g0 hS); refine zy 7 ?_ ?_; exact zq (S.g0 hS); refine zy 6 ?_ ?_; exact zq (S.g0 hS); refine zy 5 ?_ ?_; exact zq (S.g0 hS); exact chkFs_nil; (iterate 8 refine chk_skip ?_); exact chk_end; refine seq_normal ?_; refine wp_seq ?_; refine zsr ?_; refine zw1 ?_; refine zw1 ?_; (iterate 4 refine zk ?_); refine zu ?_; refine zw1 ?_; refine zw1 ?_; refine wpO_cons ?_; refine op1_not_f rfl rfl ?_; refine zw1 ?_; refine zw1 ?_; refine wpO_cons ?_; refine op1_not_f rfl rfl ?_; refine zt ?_; refine zw1 ?_; refine zw1 ?_; refine wpO_cons ?_; refine op1_not_f rfl rfl ?_; refine zt ?_; refine zu ?_; refine zns ?_; refine wp_true rfl ?_; refine zsr ?_; refine zw1 ?_; refine zns ?_; refine wp_ret ?_; refine seq_ret ?_; refine ret_of ?_; refine zr ?_; refine rk_nil ?_
    exact ⟨rfl, S.drop hS⟩
  · (iterate 4 refine zd1 ?_); refine wpD_nil ?_; refine dk_of ?_ ?_; refine chk_skip ?_; refine zx 15 ?_ ?_; refine zy 8 ?_ ?_; exact zq (S.g0 hS); exact chkFs_nil; refine chk_skip ?_; refine zx 13 ?_ ?_; refine zy 8 ?_ ?_; exact zq (S.g0 hS); refine zy 7 ?_ ?_; exact zq (S.g0 hS); exact chkFs_nil; refine chk_skip ?_; refine zx 11 ?_ ?_; refine zy 8 ?_ ?_; exact zq (S.g0 hS); refine zy 7 ?_ ?_; exact zq (S.g0 hS); refine zy 6 ?_ ?_; exact zq (S.g0 hS); exact chkFs_nil; refine chk_skip ?_; refine zx 9 ?_ ?_; refine zy 8 ?_ ?_; exact zq (S.g0 hS); refine zy 7 ?_ ?_; exact zq (S.g0 hS); refine zy 6 ?_ ?_; exact zq (S.g0 hS); refine zy 5 ?_ ?_; exact zq (S.g0 hS); exact chkFs_nil; (iterate 8 refine chk_skip ?_); exact chk_end; refine seq_normal ?_; refine wp_seq ?_; refine zsr ?_; refine zw1 ?_; refine zw1 ?_; (iterate 4 refine zk ?_); refine zu ?_; refine zw1 ?_; refine zw1 ?_; refine wpO_cons ?_; refine op1_not_f rfl rfl ?_; refine zw1 ?_; refine zw1 ?_; refine wpO_cons ?_; refine op1_not_f rfl rfl ?_; refine zt ?_; refine zw1 ?_; refine zw1 ?_; refine wpO_cons ?_; refine op1_not_t rfl rfl ?_; refine zt ?_; refine zu ?_; refine zns ?_; refine wp_false rfl ?_; refine wp_skip ?_; refine seq_normal ?_; refine zsr ?_; refine zw1 ?_; refine zns ?_; refine wp_ret ?_; refine ret_of ?_; refine zr ?_; refine rk_nil ?_
    exact ⟨rfl, S.drop hS⟩
  · (iterate 4 refine zd1 ?_); refine wpD_nil ?_; refine dk_of ?_ ?_; refine chk_skip ?_; refine zx 15 ?_ ?_; refine zy 8 ?_ ?_; exact zq (S.g0 hS); exact chkFs_nil; refine chk_skip ?_; refine zx 13 ?_ ?_; refine zy 8 ?_ ?_; exact zq (S.g0 hS); refine zy 7 ?_ ?_; exact zq (S.g0 hS); exact chkFs_nil; refine chk_skip ?_; refine zx 11 ?_ ?_; refine zy 8 ?_ ?_; exact zq (S.g0 hS); refine zy 7 ?_ ?_; exact zq (S.g0 hS); refine zy 6 ?_ ?_; exact zq (S.g0 hS); exact chkFs_nil; refine chk_skip ?_; refine zx 9 ?_ ?_; refine zy 8 ?_ ?_; exact zq (S.g0 hS); refine zy 7 ?_ ?_; exact zq (S.g0 hS); refine zy 6 ?_ ?_; exact zq (S.g0 hS); refine zy 5 ?_ ?_; exact zq (S.g0 hS); exact chkFs_nil; (iterate 8 refine chk_skip ?_); exact chk_end; refine seq_normal ?_; refine wp_seq ?_; refine zsr ?_; refine zw1 ?_; refine zw1 ?_; (iterate 4 refine zk ?_); refine zu ?_; refine zw1 ?_; refine zw1 ?_; refine wpO_cons ?_; refine op1_not_f rfl rfl ?_; refine zw1 ?_; refine zw1 ?_; refine wpO_cons ?_; refine op1_not_f rfl rfl ?_; refine zt ?_; refine zw1 ?_; refine zw1 ?_; refine wpO_cons ?_; refine op1_not_f rfl rfl ?_; refine zt ?_; refine zu ?_; refine zns ?_; refine wp_true rfl ?_; refine zsr ?_; refine zw1 ?_; refine zns ?_; refine wp_ret ?_; refine seq_ret ?_; refine ret_of ?_; refine zr ?_; refine rk_nil ?_
    exact ⟨rfl, S.drop hS⟩
  · (iterate 4 refine zd1 ?_); refine wpD_nil ?_; refine dk_of ?_ ?_; refine chk_skip ?_; refine zx 15 ?_ ?_; refine zy 8 ?_ ?_; exact zq (S.g0 hS); exact chkFs_nil; refine chk_skip ?_; refine zx 13 ?_ ?_; refine zy 8 ?_ ?_; exact zq (S.g0 hS); refine zy 7 ?_ ?_; exact zq (S.g0 hS); exact chkFs_nil; refine chk_skip ?_; refine zx 11 ?_ ?_; refine zy 8 ?_ ?_; exact zq (S.g0 hS); refine zy 7 ?_ ?_; exact zq (S.g0 hS); refine zy 6 ?_ ?_; exact zq (S.g0 hS); exact chkFs_nil; refine chk_skip ?_; refine zx 9 ?_ ?_; refine zy 8 ?_ ?_; exact zq (S.g0 hS); refine zy 7 ?_ ?_; exact zq (S.g0 hS); refine zy 6 ?_ ?_; exact zq (S.g0 hS); refine zy 5 ?_ ?_; exact zq (S.g0 hS); exact chkFs_nil; (iterate 8 refine chk_skip ?_); exact chk_end; refine seq_normal ?_; refine wp_seq ?_; refine zsr ?_; refine zw1 ?_; refine zw1 ?_; (iterate 4 refine zk ?_); refine zu ?_; refine zw1 ?_; refine zw1 ?_; refine wpO_cons ?_; refine op1_not_f rfl rfl ?_; refine zw1 ?_; refine zw1 ?_; refine wpO_cons ?_; refine op1_not_f rfl rfl ?_; refine zt ?_; refine zw1 ?_; refine zw1 ?_; refine wpO_cons ?_; refine op1_not_t rfl rfl ?_; refine zt ?_; refine zu ?_; refine zns ?_; refine wp_false rfl ?_; refine wp_skip ?_; refine seq_normal ?_; refine zsr ?_; refine zw1 ?_; refine zns ?_; refine wp_ret ?_; refine ret_of ?_; refine zr ?_; refine rk_nil ?_
    exact ⟨rfl, S.drop hS⟩
  · (iterate 4 refine zd1 ?_); refine wpD_nil ?_; refine dk_of ?_ ?_; refine chk_skip ?_; refine zx 15 ?_ ?_; refine zy 8 ?_ ?_; exact zq (S.g0 hS); exact chkFs_nil; refine chk_skip ?_; refine zx 13 ?_ ?_; refine zy 8 ?_ ?_; exact zq (S.g0 hS); refine zy 7 ?_ ?_; exact zq (S.g0 hS); exact chkFs_nil; refine chk_skip ?_; refine zx 11 ?_ ?_; refine zy 8 ?_ ?_; exact zq (S.g0 hS); refine zy 7 ?_ ?_; exact zq (S.g0 hS); refine zy 6 ?_ ?_; exact zq (S.g0 hS); exact chkFs_nil; refine chk_skip ?_; refine zx 9 ?_ ?_; refine zy 8 ?_ ?_; exact zq (S.g0 hS); refine zy 7 ?_ ?_; exact zq (S.g0 hS); refine zy 6 ?_ ?_; exact zq (S.g0 hS); refine zy 5 ?_ ?_; exact zq (S.g0 hS); exact chkFs_nil; (iterate 8 refine chk_skip ?_); exact chk_end; refine seq_normal ?_; refine wp_seq ?_; refine zsr ?_; refine zw1 ?_; refine zw1 ?_; (iterate 4 refine zk ?_); refine zu ?_; refine zw1 ?_; refine zw1 ?_; refine wpO_cons ?_; refine op1_not_t rfl rfl ?_; refine zw1 ?_; refine zk ?_; refine zk ?_; refine zu ?_; refine zw1 ?_; refine zk ?_; refine zk ?_; refine zu ?_; refine zu ?_; refine zns ?_; refine wp_false rfl ?_; refine wp_skip ?_; refine seq_normal ?_; refine zsr ?_; refine zw1 ?_; refine zns ?_; refine wp_ret ?_; refine ret_of ?_; refine zr ?_; refine rk_nil ?_
    exact ⟨rfl, S.drop hS⟩
  · (iterate 4 refine zd1 ?_); refine wpD_nil ?_; refine dk_of ?_ ?_; refine chk_skip ?_; refine zx 15 ?_ ?_; refine zy 8 ?_ ?_; exact zq (S.g0 hS); exact chkFs_nil; refine chk_skip ?_; refine zx 13 ?_ ?_; refine zy 8 ?_ ?_; exact zq (S.g0 hS); refine zy 7 ?_ ?_; exact zq (S.g0 hS); exact chkFs_nil; refine chk_skip ?_; refine zx 11 ?_ ?_; refine zy 8 ?_ ?_; exact zq (S.g0 hS); refine zy 7 ?_ ?_; exact zq (S.g0 hS); refine zy 6 ?_ ?_; exact zq (S.g0 hS); exact chkFs_nil; refine chk_skip ?_; refine zx 9 ?_ ?_; refine zy 8 ?_ ?_; exact zq (S.g0 hS); refine zy 7 ?_ ?_; exact zq (S.g0 hS); refine zy 6 ?_ ?_; exact zq (S.g0 hS); refine zy 5 ?_ ?_; exact zq (S.g0 hS); exact chkFs_nil; (iterate 8 refine chk_skip ?_); exact chk_end; refine seq_normal ?_; refine wp_seq ?_; refine zsr ?_; refine zw1 ?_; refine zw1 ?_; (iterate 4 refine zk ?_); refine zu ?_; refine zw1 ?_; refine zw1 ?_; refine wpO_cons ?_; refine op1_not_t rfl rfl ?_; refine zw1 ?_; refine zk ?_; refine zk ?_; refine zu ?_; refine zw1 ?_; refine zk ?_; refine zk ?_; refine zu ?_; refine zu ?_; refine zns ?_; refine wp_false rfl ?_; refine wp_skip ?_; refine seq_normal ?_; refine zsr ?_; refine zw1 ?_; refine zns ?_; refine wp_ret ?_; refine ret_of ?_; refine zr ?_; refine rk_nil ?_
    exact ⟨rfl, S.drop hS⟩
  · (iterate 4 refine zd1 ?_); refine wpD_nil ?_; refine dk_of ?_ ?_; refine chk_skip ?_; refine zx 15 ?_ ?_; refine zy 8 ?_ ?_; exact zq (S.g0 hS); exact chkFs_nil; refine chk_skip ?_; refine zx 13 ?_ ?_; refine zy 8 ?_ ?_; exact zq (S.g0 hS); refine zy 7 ?_ ?_; exact zq (S.g0 hS); exact chkFs_nil; refine chk_skip ?_; refine zx 11 ?_ ?_; refine zy 8 ?_ ?_; exact zq (S.g0 hS); refine zy 7 ?_ ?_; exact zq (S.g0 hS); refine zy 6 ?_ ?_; exact zq (S.g0 hS); exact chkFs_nil; refine chk_skip ?_; refine zx 9 ?_ ?_; refine zy 8 ?_ ?_; exact zq (S.g0 hS); refine zy 7 ?_ ?_; exact zq (S.g0 hS); refine zy 6 ?_ ?_; exact zq (S.g0 hS); refine zy 5 ?_ ?_; exact zq (S.g0 hS); exact chkFs_nil; (iterate 8 refine chk_skip ?_); exact chk_end; refine seq_normal ?_; refine wp_seq ?_; refine zsr ?_; refine zw1 ?_; refine zw1 ?_; (iterate 4 refine zk ?_); refine zu ?_; refine zw1 ?_; refine zw1 ?_; refine wpO_cons ?_; refine op1_not_t rfl rfl ?_; refine zw1 ?_; refine zk ?_; refine zk ?_; refine zu ?_; refine zw1 ?_; refine zk ?_; refine zk ?_; refine zu ?_; refine zu ?_; refine zns ?_; refine wp_false rfl ?_; refine wp_skip ?_; refine seq_normal ?_; refine zsr ?_; refine zw1 ?_; refine zns ?_; refine wp_ret ?_; refine ret_of ?_; refine zr ?_; refine rk_nil ?_
    exact ⟨rfl, S.drop hS⟩
  · (iterate 4 refine zd1 ?_); refine wpD_nil ?_; refine dk_of ?_ ?_; refine chk_skip ?_; refine zx 15 ?_ ?_; refine zy 8 ?_ ?_; exact zq (S.g0 hS); exact chkFs_nil; refine chk_skip ?_; refine zx 13 ?_ ?_; refine zy 8 ?_ ?_; exact zq (S.g0 hS); refine zy 7 ?_ ?_; exact zq (S.g0 hS); exact chkFs_nil; refine chk_skip ?_; refine zx 11 ?_ ?_; refine zy 8 ?_ ?_; exact zq (S.g0 hS); refine zy 7 ?_ ?_; exact zq (S.g0 hS); refine zy 6 ?_ ?_; exact zq (S.g0 hS); exact chkFs_nil; refine chk_skip ?_; refine zx 9 ?_ ?_; refine zy 8 ?_ ?_; exact zq (S.g0 hS); refine zy 7 ?_ ?_; exact zq (S.g0 hS); refine zy 6 ?_ ?_; exact zq (S.g0 hS); refine zy 5 ?_ ?_; exact zq (S.g0 hS); exact chkFs_nil; (iterate 8 refine chk_skip ?_); exact chk_end; refine seq_normal ?_; refine wp_seq ?_; refine zsr ?_; refine zw1 ?_; refine zw1 ?_; (iterate 4 refine zk ?_); refine zu ?_; refine zw1 ?_; refine zw1 ?_; refine wpO_cons ?_; refine op1_not_t rfl rfl ?_; refine zw1 ?_; refine zk ?_; refine zk ?_; refine zu ?_; refine zw1 ?_; refine zk ?_; refine zk ?_; refine zu ?_; refine zu ?_; refine zns ?_; refine wp_false rfl ?_; refine wp_skip ?_; refine seq_normal ?_; refine zsr ?_; refine zw1 ?_; refine zns ?_; refine wp_ret ?_; refine ret_of ?_; refine zr ?_; refine rk_nil ?_
    exact ⟨rfl, S.drop hS⟩
  · (iterate 4 refine zd1 ?_); refine wpD_nil ?_; refine dk_of ?_ ?_; refine chk_skip ?_; refine zx 15 ?_ ?_; refine zy 8 ?_ ?_; exact zq (S.g0 hS); exact chkFs_nil; refine chk_skip ?_; refine zx 13 ?_ ?_; refine zy 8 ?_ ?_; exact zq (S.g0 hS); refine zy 7 ?_ ?_; exact zq (S.g0 hS); exact chkFs_nil; refine chk_skip ?_; refine zx 11 ?_ ?_; refine zy 8 ?_ ?_; exact zq (S.g0 hS); refine zy 7 ?_ ?_; exact zq (S.g0 hS); refine zy 6 ?_ ?_; exact zq (S.g0 hS); exact chkFs_nil; refine chk_skip ?_; refine zx 9 ?_ ?_; refine zy 8 ?_ ?_; exact zq (S.g0 hS); refine zy 7 ?_ ?_; exact zq (S.g0 hS); refine zy 6 ?_ ?_; exact zq (S.g0 hS); refine zy 5 ?_ ?_; exact zq (S.g0 hS); exact chkFs_nil; (iterate 8 refine chk_skip ?_); exact chk_end; refine seq_normal ?_; refine wp_seq ?_; refine zsr ?_; (iterate 5 refine zw1 ?_); refine zu ?_; refine zt ?_; refine zw1 ?_; refine zw1 ?_; refine wpO_cons ?_; refine op1_not_f rfl rfl ?_; refine zw1 ?_; refine zw1 ?_; refine wpO_cons ?_; refine op1_not_t rfl rfl ?_; refine zt ?_; refine zw1 ?_; refine zk ?_; refine zk ?_; refine zu ?_; refine zu ?_; refine zns ?_; refine wp_false rfl ?_; refine wp_skip ?_; refine seq_normal ?_; refine zsr ?_; refine zw1 ?_; refine zns ?_; refine wp_ret ?_; refine ret_of ?_; refine zr ?_; refine rk_nil ?_
    exact ⟨rfl, S.drop hS⟩
  · (iterate 4 refine zd1 ?_); refine wpD_nil ?_; refine dk_of ?_ ?_; refine chk_skip ?_; refine zx 15 ?_ ?_; refine zy 8 ?_ ?_; exact zq (S.g0 hS); exact chkFs_nil; refine chk_skip ?_; refine zx 13 ?_ ?_; refine zy 8 ?_ ?_; exact zq (S.g0 hS); refine zy 7 ?_ ?_; exact zq (S.g0 hS); exact chkFs_nil; refine chk_skip ?_; refine zx 11 ?_ ?_; refine zy 8 ?_ ?_; exact zq (S.g0 hS); refine zy 7 ?_ ?_; exact zq (S.g0 hS); refine zy 6 ?_ ?_; exact zq (S.g0 hS); exact chkFs_nil; refine chk_skip ?_; refine zx 9 ?_ ?_; refine zy 8 ?_ ?_; exact zq (S.g0 hS); refine zy 7 ?_ ?_; exact zq (S.g0 hS); refine zy 6 ?_ ?_; exact zq (S.g0 hS); refine zy 5 ?_ ?_; exact zq (S.g0 hS); exact chkFs_nil; (iterate 8 refine chk_skip ?_); exact chk_end; refine seq_normal ?_; refine wp_seq ?_; refine zsr ?_; (iterate 5 refine zw1 ?_); refine zu ?_; refine zt ?_; refine zw1 ?_; (iterate 10 refine zk ?_); refine zt ?_; refine zns ?_; refine wp_true rfl ?_; refine zsr ?_; refine zw1 ?_; refine zns ?_; refine wp_ret ?_; refine seq_ret ?_; refine ret_of ?_; refine zr ?_; refine rk_nil ?_
    exact ⟨rfl, S.drop hS⟩
  · (iterate 4 refine zd1 ?_); refine wpD_nil ?_; refine dk_of ?_ ?_; refine chk_skip ?_; refine zx 15 ?_ ?_; refine zy 8 ?_ ?_; exact zq (S.g0 hS); exact chkFs_nil; refine chk_skip ?_; refine zx 13 ?_ ?_; refine zy 8 ?_ ?_; exact zq (S.g0 hS); refine zy 7 ?_ ?_; exact zq (S.g0 hS); exact chkFs_nil; refine chk_skip ?_; refine zx 11 ?_ ?_; refine zy 8 ?_ ?_; exact zq (S.g0 hS); refine zy 7 ?_ ?_; exact zq (S.g0 hS); refine zy 6 ?_ ?_; exact zq (S.g0 hS); exact chkFs_nil; refine chk_skip ?_; refine zx 9 ?_ ?_; refine zy 8 ?_ ?_; exact zq (S.g0 hS); refine zy 7 ?_ ?_; exact zq (S.g0 hS); refine zy 6 ?_ ?_; exact zq (S.g0 hS); refine zy 5 ?_ ?_; exact zq (S.g0 hS); exact chkFs_nil; (iterate 8 refine chk_skip ?_); exact chk_end; refine seq_normal ?_; refine wp_seq ?_; refine zsr ?_; (iterate 4 refine zw1 ?_); refine zk ?_; refine zt ?_; refine zt ?_; refine zw1 ?_; (iterate 10 refine zk ?_); refine zt ?_; refine zns ?_; refine wp_true rfl ?_; refine zsr ?_; refine zw1 ?_; refine zns ?_; refine wp_ret ?_; refine seq_ret ?_; refine ret_of ?_; refine zr ?_; refine rk_nil ?_
    exact ⟨rfl, S.drop hS⟩
  · (iterate 4 refine zd1 ?_); refine wpD_nil ?_; refine dk_of ?_ ?_; refine chk_skip ?_; refine zx 15 ?_ ?_; refine zy 8 ?_ ?_; exact zq (S.g0 hS); exact chkFs_nil; refine chk_skip ?_; refine zx 13 ?_ ?_; refine zy 8 ?_ ?_; exact zq (S.g0 hS); refine zy 7 ?_ ?_; exact zq (S.g0 hS); exact chkFs_nil; refine chk_skip ?_; refine zx 11 ?_ ?_; refine zy 8 ?_ ?_; exact zq (S.g0 hS); refine zy 7 ?_ ?_; exact zq (S.g0 hS); refine zy 6 ?_ ?_; exact zq (S.g0 hS); exact chkFs_nil; refine chk_skip ?_; refine zx 9 ?_ ?_; refine zy 8 ?_ ?_; exact zq (S.g0 hS); refine zy 7 ?_ ?_; exact zq (S.g0 hS); refine zy 6 ?_ ?_; exact zq (S.g0 hS); refine zy 5 ?_ ?_; exact zq (S.g0 hS); exact chkFs_nil; (iterate 8 refine chk_skip ?_); exact chk_end; refine seq_normal ?_; refine wp_seq ?_; refine zsr ?_; (iterate 4 refine zw1 ?_); refine zk ?_; refine zt ?_; refine zt ?_; refine zw1 ?_; (iterate 10 refine zk ?_); refine zt ?_; refine zns ?_; refine wp_true rfl ?_; refine zsr ?_; refine zw1 ?_; refine zns ?_; refine wp_ret ?_; refine seq_ret ?_; refine ret_of ?_; refine zr ?_; refine rk_nil ?_
    exact ⟨rfl, S.drop hS⟩
  · (iterate 4 refine zd1 ?_); refine wpD_nil ?_; refine dk_of ?_ ?_; refine chk_skip ?_; refine zx 15 ?_ ?_; refine zy 8 ?_ ?_; exact zq (S.g0 hS); exact chkFs_nil; refine chk_skip ?_; refine zx 13 ?_ ?_; refine zy 8 ?_ ?_; exact zq (S.g0 hS); refine zy 7 ?_ ?_; exact zq (S.g0 hS); exact chkFs_nil; refine chk_skip ?_; refine zx 11 ?_ ?_; refine zy 8 ?_ ?_; exact zq (S.g0 hS); refine zy 7 ?_ ?_; exact zq (S.g0 hS); refine zy 6 ?_ ?_; exact zq (S.g0 hS); exact chkFs_nil; refine chk_skip ?_; refine zx 9 ?_ ?_; refine zy 8 ?_ ?_; exact zq (S.g0 hS); refine zy 7 ?_ ?_; exact zq (S.g0 hS); refine zy 6 ?_ ?_; exact zq (S.g0 hS); refine zy 5 ?_ ?_; exact zq (S.g0 hS); exact chkFs_nil; (iterate 8 refine chk_skip ?_); exact chk_end; refine seq_normal ?_; refine wp_seq ?_; refine zsr ?_; (iterate 5 refine zw1 ?_); refine zu ?_; refine zt ?_; refine zw1 ?_; refine zw1 ?_; refine wpO_cons ?_; refine op1_not_t rfl rfl ?_; refine zw1 ?_; refine zk ?_; refine zk ?_; refine zu ?_; refine zw1 ?_; refine zk ?_; refine zk ?_; refine zu ?_; refine zu ?_; refine zns ?_; refine wp_false rfl ?_; refine wp_skip ?_; refine seq_normal ?_; refine zsr ?_; refine zw1 ?_; refine zns ?_; refine wp_ret ?_; refine ret_of ?_; refine zr ?_; refine rk_nil ?_
    exact ⟨rfl, S.drop hS⟩
  · (iterate 4 refine zd1 ?_); refine wpD_nil ?_; refine dk_of ?_ ?_; refine chk_skip ?_; refine zx 15 ?_ ?_; refine zy 8 ?_ ?_; exact zq (S.g0 hS); exact chkFs_nil; refine chk_skip ?_; refine zx 13 ?_ ?_; refine zy 8 ?_ ?_; exact zq (S.g0 hS); refine zy 7 ?_ ?_; exact zq (S.g0 hS); exact chkFs_nil; refine chk_skip ?_; refine zx 11 ?_ ?_; refine zy 8 ?_ ?_; exact zq (S.g0 hS); refine zy 7 ?_ ?_; exact zq (S.g0 hS); refine zy 6 ?_ ?_; exact zq (S.g0 hS); exact chkFs_nil; refine chk_skip ?_; refine zx 9 ?_ ?_; refine zy 8 ?_ ?_; exact zq (S.g0 hS); refine zy 7 ?_ ?_; exact zq (S.g0 hS); refine zy 6 ?_ ?_; exact zq (S.g0 hS); refine zy 5 ?_ ?_; exact zq (S.g0 hS); exact chkFs_nil; (iterate 8 refine chk_skip ?_); exact chk_end; refine seq_normal ?_; refine wp_seq ?_; refine zsr ?_; (iterate 5 refine zw1 ?_); refine zu ?_; refine zt ?_; refine zw1 ?_; (iterate 10 refine zk ?_); refine zt ?_; refine zns ?_; refine wp_true rfl ?_; refine zsr ?_; refine zw1 ?_; refine zns ?_; refine wp_ret ?_; refine seq_ret ?_; refine ret_of ?_; refine zr ?_; refine rk_nil ?_
    exact ⟨rfl, S.drop hS⟩
  · (iterate 4 refine zd1 ?_); refine wpD_nil ?_; refine dk_of ?_ ?_; refine chk_skip ?_; refine zx 15 ?_ ?_; refine zy 8 ?_ ?_; exact zq (S.g0 hS); exact chkFs_nil; refine chk_skip ?_; refine zx 13 ?_ ?_; refine zy 8 ?_ ?_; exact zq (S.g0 hS); refine zy 7 ?_ ?_; exact zq (S.g0 hS); exact chkFs_nil; refine chk_skip ?_; refine zx 11 ?_ ?_; refine zy 8 ?_ ?_; exact zq (S.g0 hS); refine zy 7 ?_ ?_; exact zq (S.g0 hS); refine zy 6 ?_ ?_; exact zq (S.g0 hS); exact chkFs_nil; refine chk_skip ?_; refine zx 9 ?_ ?_; refine zy 8 ?_ ?_; exact zq (S.g0 hS); refine zy 7 ?_ ?_; exact zq (S.g0 hS); refine zy 6 ?_ ?_; exact zq (S.g0 hS); refine zy 5 ?_ ?_; exact zq (S.g0 hS); exact chkFs_nil; (iterate 8 refine chk_skip ?_); exact chk_end; refine seq_normal ?_; refine wp_seq ?_; refine zsr ?_; (iterate 4 refine zw1 ?_); refine zk ?_; refine zt ?_; refine zt ?_; refine zw1 ?_; (iterate 10 refine zk ?_); refine zt ?_; refine zns ?_; refine wp_true rfl ?_; refine zsr ?_; refine zw1 ?_; refine zns ?_; refine wp_ret ?_; refine seq_ret ?_; refine ret_of ?_; refine zr ?_; refine rk_nil ?_
    exact ⟨rfl, S.drop hS⟩
  · (iterate 4 refine zd1 ?_); refine wpD_nil ?_; refine dk_of ?_ ?_; refine chk_skip ?_; refine zx 15 ?_ ?_; refine zy 8 ?_ ?_; exact zq (S.g0 hS); exact chkFs_nil; refine chk_skip ?_; refine zx 13 ?_ ?_; refine zy 8 ?_ ?_; exact zq (S.g0 hS); refine zy 7 ?_ ?_; exact zq (S.g0 hS); exact chkFs_nil; refine chk_skip ?_; refine zx 11 ?_ ?_; refine zy 8 ?_ ?_; exact zq (S.g0 hS); refine zy 7 ?_ ?_; exact zq (S.g0 hS); refine zy 6 ?_ ?_; exact zq (S.g0 hS); exact chkFs_nil; refine chk_skip ?_; refine zx 9 ?_ ?_; refine zy 8 ?_ ?_; exact zq (S.g0 hS); refine zy 7 ?_ ?_; exact zq (S.g0 hS); refine zy 6 ?_ ?_; exact zq (S.g0 hS); refine zy 5 ?_ ?_; exact zq (S.g0 hS); exact chkFs_nil; (iterate 8 refine chk_skip ?_); exact chk_end; refine seq_normal ?_; refine wp_seq ?_; refine zsr ?_; (iterate 4 refine zw1 ?_); refine zk ?_; refine zt ?_; refine zt ?_; refine zw1 ?_; (iterate 10 refine zk ?_); refine zt ?_; refine zns ?_; refine wp_true rfl ?_; refine zsr ?_; refine zw1 ?_; refine zns ?_; refine wp_ret ?_; refine seq_ret ?_; refine ret_of ?_; refine zr ?_; refine rk_nil ?_
    exact ⟨rfl, S.drop hS⟩
theorem L48 (hS : S B H (repD p s :: As)) : wpF C 48 [ptC p] H fun v H' => v = .int .i64 (s.start 1).1 ∧ S B H' (repD p (s.start 1).2 :: As) := by
  refine wpF_ofW o48 rfl rfl ?_
  have hS0 := hS
  obtain ⟨ao, co, ai, ci, ho, hi, hO⟩ := openD hS
  clear hS
  have hS := hO
  clear hO
  unfold rfC at hS
  unfold ptC Cn.start
  refine zsr ?_; refine zw1 ?_; refine zns ?_; refine wp_seq ?_; refine zsr ?_; refine zw1 ?_; refine zn ?_; refine zf ?_; refine zh (S.g0 hS) ?_; refine wpO_cons ?_; refine op1_neqI rfl rfl rfl ?_; refine zns ?_
  refine wp_ndec rfl (fun h => ?_) (fun h => ?_)
  · rw [if_neg h]
    refine zsr ?_; refine zw1 ?_; refine zns ?_; refine wp_ret ?_; refine seq_ret ?_; refine ret_of ?_; refine zr ?_; refine rk_nil ?_
    exact ⟨rfl, hS0⟩
  · rw [if_pos h]
    refine wp_skip ?_; refine seq_normal ?_; refine zsr ?_; refine zw1 ?_; refine zn ?_; refine zf ?_; refine wpO_cons ?_; (refine op1_store1S rfl rfl (by (conv => lhs; whnf) <;> rfl) rfl rfl (S.up0 hS) rfl ?_; intro H1 hS; replace hS := S.dn0 hS); refine zns ?_; refine zsr ?_; refine zw1 ?_; refine zns ?_; refine wp_ret ?_; refine ret_of ?_; refine zr ?_; refine rk_nil ?_
    exact ⟨rfl, closeD (s := { s with st := 1 }) hS⟩
theorem L49 (hS : S B H (repD p s :: As)) : wpF C 49 [ptC p] H fun v H' => v = .int .i64 (s.start 2).1 ∧ S B H' (repD p (s.start 2).2 :: As) := by
  refine wpF_ofW o49 rfl rfl ?_
  have hS0 := hS
  obtain ⟨ao, co, ai, ci, ho, hi, hO⟩ := openD hS
  clear hS
  have hS := hO
  clear hO
  unfold rfC at hS
  unfold ptC Cn.start
  refine zsr ?_; refine zw1 ?_; refine zns ?_; refine wp_seq ?_; refine zsr ?_; refine zw1 ?_; refine zn ?_; refine zf ?_; refine zh (S.g0 hS) ?_; refine wpO_cons ?_; refine op1_neqI rfl rfl rfl ?_; refine zns ?_
  refine wp_ndec rfl (fun h => ?_) (fun h => ?_)
  · rw [if_neg h]
    refine zsr ?_; refine zw1 ?_; refine zns ?_; refine wp_ret ?_; refine seq_ret ?_; refine ret_of ?_; refine zr ?_; refine rk_nil ?_
    exact ⟨rfl, hS0⟩
  · rw [if_pos h]
    refine wp_skip ?_; refine seq_normal ?_; refine zsr ?_; refine zw1 ?_; refine zn ?_; refine zf ?_; refine wpO_cons ?_; (refine op1_store1S rfl rfl (by (conv => lhs; whnf) <;> rfl) rfl rfl (S.up0 hS) rfl ?_; intro H1 hS; replace hS := S.dn0 hS); refine zns ?_; refine zsr ?_; refine zw1 ?_; refine zns ?_; refine wp_ret ?_; refine ret_of ?_; refine zr ?_; refine rk_nil ?_
    exact ⟨rfl, closeD (s := { s with st := 2 }) hS⟩
theorem L77 (hS : S B H (repD p s :: As)) : wpF C 77 [ptC p] H fun v H' => v = .bool (!s.asked && decide (s.st = 4 ∨ s.st = 6 ∨ s.st = 2 ∨ s.st = 3)) ∧ H = H' := by
  refine wpF_ofW o77 rfl rfl ?_
  obtain ⟨ao, co, ai, ci, ho, hi, hO⟩ := openD hS
  clear hS
  have hS := hO
  clear hO
  unfold rfC at hS
  unfold ptC
  obtain ⟨ak, hak⟩ : ∃ z, z = s.asked := ⟨_, rfl⟩
  rw [← hak]
  refine zsr ?_; refine zw1 ?_; refine zns ?_; refine zsr ?_; refine zw1 ?_; refine zn ?_; refine zf ?_; refine zh (S.g0 hS) ?_; refine wpO_cons ?_; refine op1_not rfl rfl ?_; refine zw1 ?_; refine wpO_cons ?_
  rw [← hak]
  cases ak
  rotate_left
  · refine op1_skip rfl ?_; (iterate 25 refine zk ?_); refine zu ?_; refine zw1 ?_; refine zns ?_; refine wp_ret ?_; refine ret_of ?_; refine zr ?_; refine rk_nil ?_
    exact ⟨rfl, rfl⟩
  refine op1_mov rfl (by (conv => lhs; whnf) <;> rfl) ?_; refine zn ?_; refine zf ?_; refine zh (S.g0 hS) ?_; refine wpO_cons ?_; refine op1_eqlI rfl rfl rfl ?_; refine zw1 ?_; refine wpO_cons ?_
  refine op1_dec rfl (fun h1 => ?_) (fun h1 => ?_)
  · refine op1_skip rfl ?_; (iterate 4 refine zk ?_); refine zt ?_; refine zw1 ?_; (iterate 5 refine zk ?_); refine zt ?_; refine zw1 ?_; (iterate 5 refine zk ?_); refine zt ?_; refine zt ?_; refine zw1 ?_; refine zns ?_; refine wp_ret ?_; refine ret_of ?_; refine zr ?_; refine rk_nil ?_
    refine ⟨?_, rfl⟩
    show Value.bool true = _
    congr 1
    simp [h1]
  refine op1_mov rfl (by (conv => lhs; whnf) <;> rfl) ?_; refine zn ?_; refine zf ?_; refine zh (S.g0 hS) ?_; refine wpO_cons ?_; refine op1_eqlI rfl rfl rfl ?_; refine zu ?_; refine zw1 ?_; refine wpO_cons ?_
  refine op1_dec rfl (fun h2 => ?_) (fun h2 => ?_)
  · refine op1_skip rfl ?_; (iterate 4 refine zk ?_); refine zt ?_; refine zw1 ?_; (iterate 5 refine zk ?_); refine zt ?_; refine zt ?_; refine zw1 ?_; refine zns ?_; refine wp_ret ?_; refine ret_of ?_; refine zr ?_; refine rk_nil ?_
    refine ⟨?_, rfl⟩
    show Value.bool true = _
    congr 1
    simp [h2]
  refine op1_mov rfl (by (conv => lhs; whnf) <;> rfl) ?_; refine zn ?_; refine zf ?_; refine zh (S.g0 hS) ?_; refine wpO_cons ?_; refine op1_eqlI rfl rfl rfl ?_; refine zu ?_; refine zw1 ?_; refine wpO_cons ?_
  refine op1_dec rfl (fun h3 => ?_) (fun h3 => ?_)
  · refine op1_skip rfl ?_; (iterate 4 refine zk ?_); refine zt ?_; refine zt ?_; refine zw1 ?_; refine zns ?_; refine wp_ret ?_; refine ret_of ?_; refine zr ?_; refine rk_nil ?_
    refine ⟨?_, rfl⟩
    show Value.bool true = _
    congr 1
    simp [h3]
  refine op1_mov rfl (by (conv => lhs; whnf) <;> rfl) ?_; refine zn ?_; refine zf ?_; refine zh (S.g0 hS) ?_; refine wpO_cons ?_; refine op1_eqlI rfl rfl rfl ?_; refine zu ?_; refine zt ?_; refine zw1 ?_; refine zns ?_; refine wp_ret ?_; refine ret_of ?_; refine zr ?_; refine rk_nil ?_
  refine ⟨?_, rfl⟩
  show Value.bool _ = _
  congr 1
  rw [Bool.not_false, Bool.true_and, decide_eq_decide]
  omega
theorem wrt_of (s : Cn) (h : s.st ≠ 9) : s.wrt = if (!s.asked && decide (s.st = 4 ∨ s.st = 6 ∨ s.st = 2 ∨ s.st = 3)) = true then 0 else 35 := by
  unfold Cn.wrt
  rw [if_neg h]
  cases s.asked <;> simp
theorem L52 (hS : S B H (repD p s :: As)) : wpF C 52 [ptC p] H fun v H' => v = .int .i64 s.close.1 ∧ S B H' (repD p s.close.2 :: As) := by
  refine wpF_ofW o52 rfl rfl ?_
  have hS0 := hS
  obtain ⟨ao, co, ai, ci, ho, hi, hO⟩ := openD hS
  clear hS
  have hS := hO
  clear hO
  unfold rfC at hS
  unfold ptC
  refine zsr ?_; refine zw1 ?_; refine zns ?_; refine wp_seq ?_; refine zsr ?_; refine zw1 ?_; refine zn ?_; refine zf ?_; refine zh (S.g0 hS) ?_; refine wpO_cons ?_; refine op1_eqlI rfl rfl rfl ?_; refine zns ?_
  refine wp_dec rfl (fun h => ?_) (fun h => ?_)
  · have e : s.close = (4, s) := by unfold Cn.close; rw [show s.wrt = 4 by unfold Cn.wrt; rw [if_pos h]]; rfl
    rw [e]
    refine zsr ?_; refine zw1 ?_; refine zns ?_; refine wp_ret ?_; refine seq_ret ?_; refine ret_of ?_; refine zr ?_; refine rk_nil ?_
    exact ⟨rfl, hS0⟩
  refine wp_skip ?_; refine seq_normal ?_; refine wp_seq ?_; refine zsr ?_; refine zw1 ?_; refine wpO_cons ?_; refine op1_call1 rfl (by (conv => lhs; whnf) <;> rfl) ?_
  refine wpF_mono (L77 hS0) ?_
  rintro _ H2 ⟨rfl, rfl⟩
  have hw := wrt_of s h
  obtain ⟨o, ho'⟩ : ∃ z, z = (!s.asked && decide (s.st = 4 ∨ s.st = 6 ∨ s.st = 2 ∨ s.st = 3)) := ⟨_, rfl⟩
  rw [← ho'] at hw
  rw [← ho']
  clear ho'
  cases o
  · have e : s.close = (35, s) := by unfold Cn.close; rw [hw]; rfl
    rw [e]
    refine wpO_cons ?_; refine op1_not_f rfl rfl ?_; refine zns ?_; refine wp_true rfl ?_; refine zsr ?_; refine zw1 ?_; refine zns ?_; refine wp_ret ?_; refine seq_ret ?_; refine ret_of ?_; refine zr ?_; refine rk_nil ?_
    exact ⟨rfl, hS0⟩
  have e : s.close = (0, { s with asked := true, st := if s.st = 4 then 5 else if s.st = 6 then 7 else s.st }) := by unfold Cn.close; rw [hw]; rfl
  rw [e]
  refine wpO_cons ?_; refine op1_not_t rfl rfl ?_; refine zns ?_; refine wp_false rfl ?_; refine wp_skip ?_; refine seq_normal ?_; refine zsr ?_; refine zw1 ?_; refine zn ?_; refine zf ?_; refine wpO_cons ?_; (refine op1_store1S rfl rfl (by (conv => lhs; whnf) <;> rfl) rfl rfl (S.up0 hS) rfl ?_; intro H1 hS; replace hS := S.dn0 hS); refine zns ?_; refine wp_seq ?_; refine zsr ?_; refine zw1 ?_; refine zn ?_; refine zf ?_; refine zh (S.g0 hS) ?_; refine zns ?_; refine wp_block ?_; refine zsr ?_; refine wpO_cons ?_; refine op1_eqlI rfl rfl rfl ?_; refine zw1 ?_; refine zns ?_
  refine wp_dec rfl (fun h1 => ?_) (fun h1 => ?_)
  · rw [if_pos h1]
    refine wp_region ?_; refine zw1 ?_; refine zn ?_; refine zf ?_; refine wpO_cons ?_; (refine op1_store1S rfl rfl (by (conv => lhs; whnf) <;> rfl) rfl rfl (S.up0 hS) rfl ?_; intro H2 hS; replace hS := S.dn0 hS); refine wpO_nil ?_; refine block_normal ?_; refine seq_normal ?_; refine zsr ?_; refine zw1 ?_; refine zns ?_; refine wp_ret ?_; refine ret_of ?_; refine zr ?_; refine rk_nil ?_
    exact ⟨rfl, closeD (s := { s with asked := true, st := 5 }) hS⟩
  refine zsr ?_; refine wpO_cons ?_; refine op1_eqlI rfl rfl rfl ?_; refine zw1 ?_; refine zns ?_
  refine wp_dec rfl (fun h2 => ?_) (fun h2 => ?_)
  · rw [if_neg h1, if_pos h2]
    refine wp_region ?_; refine zw1 ?_; refine zn ?_; refine zf ?_; refine wpO_cons ?_; (refine op1_store1S rfl rfl (by (conv => lhs; whnf) <;> rfl) rfl rfl (S.up0 hS) rfl ?_; intro H2 hS; replace hS := S.dn0 hS); refine wpO_nil ?_; refine block_normal ?_; refine seq_normal ?_; refine zsr ?_; refine zw1 ?_; refine zns ?_; refine wp_ret ?_; refine ret_of ?_; refine zr ?_; refine rk_nil ?_
    exact ⟨rfl, closeD (s := { s with asked := true, st := 7 }) hS⟩
  · rw [if_neg h1, if_neg h2]
    refine wp_skip ?_; refine block_normal ?_; refine seq_normal ?_; refine zsr ?_; refine zw1 ?_; refine zns ?_; refine wp_ret ?_; refine ret_of ?_; refine zr ?_; refine rk_nil ?_
    exact ⟨rfl, closeD (s := { s with asked := true }) hS⟩
theorem L54 (hS : S B H (repD p s :: As)) : wpF C 54 [ptC p] H fun v H' => v = .int .i64 s.abort.1 ∧ S B H' (repD p s.abort.2 :: As) := by
  refine wpF_ofW o54 rfl rfl ?_
  have hS0 := hS
  obtain ⟨ao, co, ai, ci, ho, hi, hO⟩ := openD hS
  clear hS
  have hS := hO
  clear hO
  unfold rfC at hS
  unfold ptC Cn.abort
  refine zsr ?_; refine zw1 ?_; refine zns ?_; refine wp_seq ?_; refine zsr ?_; refine zw1 ?_; refine zn ?_; refine zf ?_; refine zh (S.g0 hS) ?_; refine wpO_cons ?_; refine op1_eqlI rfl rfl rfl ?_; refine zns ?_
  refine wp_dec rfl (fun h => ?_) (fun h => ?_)
  · rw [if_neg (by omega), if_pos h]
    refine zsr ?_; refine zw1 ?_; refine zns ?_; refine wp_ret ?_; refine seq_ret ?_; refine ret_of ?_; refine zr ?_; refine rk_nil ?_
    exact ⟨rfl, hS0⟩
  refine wp_skip ?_; refine seq_normal ?_; refine wp_seq ?_; refine zsr ?_; refine zw1 ?_; refine zn ?_; refine zf ?_; refine zh (S.g0 hS) ?_; refine wpO_cons ?_; refine op1_eqlI rfl rfl rfl ?_; refine zns ?_
  refine wp_dec rfl (fun h1 => ?_) (fun h1 => ?_)
  · rw [if_pos h1]
    refine zsr ?_; refine zw1 ?_; refine zns ?_; refine wp_ret ?_; refine seq_ret ?_; refine ret_of ?_; refine zr ?_; refine rk_nil ?_
    exact ⟨rfl, hS0⟩
  · rw [if_neg h1, if_neg h]
    refine wp_skip ?_; refine seq_normal ?_; refine zsr ?_; refine zw1 ?_; refine zw1 ?_; refine zn ?_; refine zf ?_; refine wpO_cons ?_; (refine op1_store1S rfl rfl (by (conv => lhs; whnf) <;> rfl) rfl rfl (S.up0 hS) rfl ?_; intro H1 hS; replace hS := S.dn0 hS); refine zn ?_; refine zf ?_; refine wpO_cons ?_; (refine op1_store1S rfl rfl (by (conv => lhs; whnf) <;> rfl) rfl rfl (S.up0 hS) rfl ?_; intro H2 hS; replace hS := S.dn0 hS); refine zns ?_; refine zsr ?_; refine zw1 ?_; refine zns ?_; refine wp_ret ?_; refine ret_of ?_; refine zr ?_; refine rk_nil ?_
    exact ⟨rfl, closeD (s := { s with st := 9, rst := true }) hS⟩
theorem L78 {vo : Value} {ai : Option Addr} {ci n : Nat} (hn : n ≤ 4096) (hS : S B H (pto p (.cells (rfC s vo (.slice ai n ci)) 0 false) :: As)) : wpF C 78 [ptC p] H fun v H' => v = .int .i64 (4096 - n) ∧ H = H' := by
  refine wpF_ofW o78 rfl rfl ?_
  unfold rfC at hS
  unfold ptC
  refine zsr ?_; refine zw1 ?_; refine zns ?_; refine zsr ?_; refine zw1 ?_; refine zn ?_; refine zf ?_; refine zh (S.g0 hS) ?_; refine wpO_cons ?_; refine op1_len rfl rfl ?_; refine wpO_cons ?_; refine op1_sub rfl rfl rfl (by exact wrap_i64 (by omega) (by omega)) ?_; refine zw1 ?_; refine zns ?_; refine wp_ret ?_; refine ret_of ?_; refine zr ?_; refine rk_nil ?_
  exact ⟨rfl, rfl⟩
theorem L60 (hS : S B H (repD p s :: As)) : wpF C 60 [ptC p] H fun v H' => v = .tuple ⟨[.int .u32 s.una, .int .u32 s.nxt, .int .u32 s.rcv]⟩ ∧ H = H' := by
  refine wpF_ofW o60 rfl rfl ?_
  obtain ⟨ao, co, ai, ci, ho, hi, hO⟩ := openD hS
  clear hS
  have hS := hO
  clear hO
  unfold rfC at hS
  unfold ptC
  refine zsr ?_; refine zw1 ?_; refine zw1 ?_; refine zw1 ?_; refine zns ?_; refine wp_seq ?_; refine wp_regionD ?_; refine zd1 ?_; refine zm ?_; refine zg ?_; refine zj (S.g0 hS) ?_; refine zd1 ?_; refine zm ?_; refine zg ?_; refine zj (S.g0 hS) ?_; refine zd1 ?_; refine zm ?_; refine zg ?_; refine zj (S.g0 hS) ?_; refine zd1 ?_; refine zd1 ?_; refine zd1 ?_; refine wpD_nil ?_; refine dk_of ?_ ?_; (iterate 3 refine chk_skip ?_); refine zx 12 ?_ ?_; refine zy 0 ?_ ?_; exact zq (S.g0 hS); exact chkFs_nil; (iterate 3 refine chk_skip ?_); refine zx 8 ?_ ?_; refine zy 0 ?_ ?_; exact zq (S.g0 hS); exact chkFs_nil; (iterate 3 refine chk_skip ?_); refine zx 4 ?_ ?_; refine zy 0 ?_ ?_; exact zq (S.g0 hS); exact chkFs_nil; (iterate 3 refine chk_skip ?_); exact chk_end; refine seq_normal ?_; refine wp_ret ?_; refine ret_of ?_; refine zr ?_; refine zr ?_; refine zr ?_; refine rk_nil ?_
  exact ⟨rfl, rfl⟩
theorem L82 (hS : S B H (repD p s :: As)) : wpF C 82 [ptC p] H fun v H' => S B H' (repD p s.estab :: As) := by
  refine wpF_ofW o82 rfl rfl ?_
  obtain ⟨ao, co, ai, ci, ho, hi, hO⟩ := openD hS
  clear hS
  have hS := hO
  clear hO
  unfold rfC at hS
  unfold ptC
  refine zsr ?_; refine zw1 ?_; refine zn ?_; refine zf ?_; refine wpO_cons ?_; (refine op1_store1S rfl rfl (by (conv => lhs; whnf) <;> rfl) rfl rfl (S.up0 hS) rfl ?_; intro H1 hS; replace hS := S.dn0 hS); refine zns ?_; refine zsr ?_; refine zw1 ?_; refine zn ?_; refine zf ?_; refine zh (S.g0 hS) ?_; refine zns ?_
  obtain ⟨as_, has⟩ : ∃ z, z = s.asked := ⟨_, rfl⟩
  rw [← has]
  cases as_
  · refine wp_false rfl ?_; refine wp_skip ?_; refine nrm_of ?_; refine rk_nil ?_
    have e : s.estab = { s with st := 4 } := by unfold Cn.estab; rw [← has]; rfl
    rw [e]
    exact closeD (s := { s with st := 4 }) hS
  · refine wp_true rfl ?_; refine wp_region ?_; refine zw1 ?_; refine zn ?_; refine zf ?_; refine wpO_cons ?_; (refine op1_store1S rfl rfl (by (conv => lhs; whnf) <;> rfl) rfl rfl (S.up0 hS) rfl ?_; intro H2 hS; replace hS := S.dn0 hS); refine wpO_nil ?_; refine nrm_of ?_; refine rk_nil ?_
    have e : s.estab = { s with st := 5 } := by unfold Cn.estab; rw [← has]; rfl
    rw [e]
    exact closeD (s := { s with st := 5 }) hS
end
end Go.E.St
/- The reference's connection: moving on, writing, reading, copying. -/
namespace Go.E.St
open Go Go.E Go.Proofs.Ytamcfhhcmjagnaa Go.Proofs
set_option linter.unusedVariables false
set_option linter.unusedSimpArgs false
set_option maxRecDepth 100000
section
variable {B H : AHeap} {As : List Asn} {p : Nat} {s : Cn} {g : Sg}
theorem L83 {num now : Int} (hol : s.out.length ≤ 4096) (hil : s.inc.length ≤ 4096) (hn : 0 ≤ num ∧ num ≤ 4294967295) (hk : 0 ≤ s.ackN num) (hS : S B H (repD p s :: As)) : wpF C 83 [ptC p, .int .u32 num, .int .i64 now] H fun v H' => S B H' (repD p (s.acked num now) :: As) := by
  refine wpF_ofW o83 rfl rfl ?_
  obtain ⟨ao, co, ai, ci, ho, hi, hO⟩ := openD hS
  clear hS
  have hS := hO
  clear hO
  unfold rfC at hS
  unfold ptC
  refine zsr ?_; refine zw1 ?_; refine zw1 ?_; refine zn ?_; refine zf ?_; refine zh (S.g0 hS) ?_; refine wpO_cons ?_
  refine op1_subW rfl rfl rfl ?_
  refine wpO_cons ?_
  obtain ⟨n0, hn0⟩ : ∃ z, z = IntKind.u32.wrap (num - s.una) := ⟨_, rfl⟩
  have hn0b : 0 ≤ n0 ∧ n0 ≤ 4294967295 := by rw [hn0, wrap_u32]; omega
  have hak : s.ackN num = if s.una = s.first then n0 - 1 else n0 := by unfold Cn.ackN; rw [← hn0]
  rw [← hn0]
  obtain ⟨n1, hn1⟩ : ∃ z, z = s.ackN num := ⟨_, rfl⟩
  rw [← hn1] at hak hk
  refine op1_convInt rfl rfl (by rw [wrap_i64 (by omega) (by omega)]) ?_
  refine zw1 ?_; refine zns ?_
  refine wp_cut [6] (fun vs H' => vs = [.int .i64 n1] ∧ H = H') ?_ ?_
  · refine wp_seq ?_; refine wp_regionD ?_; refine zd1 ?_; refine zm ?_; refine zg ?_; refine zj (S.g0 hS) ?_; refine zd1 ?_; refine zm ?_; refine zg ?_; refine zj (S.g0 hS) ?_; refine wpD_cons ?_; refine op1_eqlI rfl rfl rfl ?_; refine wpD_nil ?_; refine dk_of ?_ ?_; (iterate 3 refine chk_skip ?_); refine zx 6 ?_ ?_; refine zy 0 ?_ ?_; exact zq (S.g0 hS); exact chkFs_nil; (iterate 3 refine chk_skip ?_); refine zx 2 ?_ ?_; refine zy 0 ?_ ?_; exact zq (S.g0 hS); exact chkFs_nil; refine chk_skip ?_; exact chk_end; refine seq_normal ?_
    refine wp_dec rfl (fun h1 => ?_) (fun h1 => ?_)
    · rw [if_pos h1] at hak
      refine wp_region ?_; refine zw1 ?_; refine wpO_cons ?_; refine op1_sub rfl rfl rfl (by exact wrap_i64 (by omega) (by omega)) ?_; refine zw1 ?_; refine wpO_nil ?_; refine cut1 (by (conv => lhs; whnf) <;> rfl) ?_
      exact ⟨by rw [hak], rfl⟩
    · rw [if_neg h1] at hak
      refine wp_skip ?_; refine cut1 (by (conv => lhs; whnf) <;> rfl) ?_
      exact ⟨by rw [hak], rfl⟩
  rintro vs2 T2 H2 ⟨rfl, rfl⟩
  obtain ⟨m, hm⟩ : ∃ z : Nat, z = (min n1 s.out.length).toNat := ⟨_, rfl⟩
  have hmi : (m : Int) = min n1 s.out.length := by omega
  have hmo : m ≤ s.out.length := by omega
  obtain ⟨fg, hfg⟩ : ∃ z, z = s.ackF num := ⟨_, rfl⟩
  have hfg2 : fg = (s.finGone || decide ((s.out.length : Int) < n1)) := by rw [hfg]; unfold Cn.ackF; rw [← hn1]
  have he : s.acked num now = { s with out := s.out.drop m, una := num, reps := 0, tmo := s.pat, run := (!decide (num = s.nxt)), since := now, finGone := fg, st := if fg = true ∧ s.st = 7 then 8 else s.st } := by
    unfold Cn.acked; rw [← hfg, ← hn1, ← hm]
  skip
  refine wp_cut [6] (fun vs H' => vs = [.int .i64 m] ∧ S B H' (pto p (.cells (rfC { s with finGone := fg } (.slice ao s.out.length co) (.slice ai s.inc.length ci)) 0 false) :: sl 1 (.slice ao s.out.length co) (u8s s.out) :: sl 1 (.slice ai s.inc.length ci) (u8s s.inc) :: As)) ?_ ?_
  · refine zsr ?_; refine zw1 ?_; refine zw1 ?_; refine zn ?_; refine zf ?_; refine zh (S.g0 hS) ?_; refine wpO_cons ?_; refine op1_len rfl rfl ?_; refine wpO_cons ?_; refine op1_gtr rfl rfl rfl ?_; refine zns ?_
    refine wp_dec rfl (fun h1 => ?_) (fun h1 => ?_)
    · have e1 : fg = true := by rw [hfg2, decide_eq_true h1, Bool.or_true]
      rw [e1]
      refine zsr ?_; refine zw1 ?_; refine zn ?_; refine zf ?_; refine wpO_cons ?_; (refine op1_store1S rfl rfl (by (conv => lhs; whnf) <;> rfl) rfl rfl (S.up0 hS) rfl ?_; intro H1 hS; replace hS := S.dn0 hS); refine zns ?_; refine wp_region ?_; refine zw1 ?_; refine zn ?_; refine zf ?_; refine zh (S.g0 hS) ?_; refine wpO_cons ?_; refine op1_len rfl rfl ?_; refine zw1 ?_; refine wpO_nil ?_; refine cut1 (by (conv => lhs; whnf) <;> rfl) ?_
      exact ⟨by rw [show (m : Int) = s.out.length by omega], hS⟩
    · have e1 : fg = s.finGone := by rw [hfg2, decide_eq_false h1, Bool.or_false]
      rw [e1]
      refine wp_skip ?_; refine cut1 (by (conv => lhs; whnf) <;> rfl) ?_
      exact ⟨by rw [show (m : Int) = n1 by omega], hS⟩
  clear hS
  rintro vs3 T3 H3 ⟨rfl, hS⟩
  unfold rfC at hS
  dsimp only at hS
  refine zsr ?_; refine zw1 ?_; refine wpO_cons ?_; refine op1_bsliceS rfl hS ?_; refine bk_nil ?_; intro p1 H1 hS; refine zw1 ?_; refine zn ?_; refine zf ?_; refine zh (S.g1 hS) ?_; refine zw1 ?_; refine wpO_cons ?_
  replace hS := S.slNew (l := 0) (es := 1) hS rfl
  refine op1_sliceD rfl rfl (RD.cons (RD.cons RD.head)) hS (bnds_lo (by omega) (by omega) ho) (by simp only [Int.toNat_natCast]; omega) (Nat.le_refl _) ?_
  simp only [Int.toNat_natCast, Nat.mul_one]
  intro a5 c5 hd5 hck5
  rw [u8s_drop, u8s_take, List.take_of_length_le (by rw [List.length_drop]; omega)] at hd5
  obtain ⟨r5, hr5, _⟩ := hd5 _ hS
  refine wpO_cons ?_
  refine op1_appRS rfl rfl (by (conv => lhs; whnf) <;> rfl) rfl hr5 (by simp) (u8s_one _) hS (by omega) ?_
  rw [List.nil_append, Nat.zero_add]
  intro a6 c6 H6 hS
  clear hck5 hd5 hr5
  have hdl : (s.out.drop m).length = s.out.length - m := by rw [List.length_drop]
  rw [he]
  clear he hfg hfg2
  refine zn ?_; refine zf ?_; refine wpO_cons ?_; (refine op1_store1S rfl rfl (by (conv => lhs; whnf) <;> rfl) rfl rfl (S.up1 hS) rfl ?_; intro H2 hS; replace hS := S.dn1 hS); refine zns ?_; refine zsr ?_; refine zw1 ?_; refine zw1 ?_; refine zn ?_; refine zf ?_; refine wpO_cons ?_; (refine op1_store1S rfl rfl (by (conv => lhs; whnf) <;> rfl) rfl rfl (S.up1 hS) rfl ?_; intro H4 hS; replace hS := S.dn1 hS); refine zns ?_; refine zsr ?_; refine zw1 ?_; refine zw1 ?_; refine zw1 ?_; refine zn ?_; refine zf ?_; refine zh (S.g1 hS) ?_; refine zn ?_; refine zf ?_; refine wpO_cons ?_; (refine op1_store1S rfl rfl (by (conv => lhs; whnf) <;> rfl) rfl rfl (S.up1 hS) rfl ?_; intro H5 hS; replace hS := S.dn1 hS); refine zn ?_; refine zf ?_; refine wpO_cons ?_; (refine op1_store1S rfl rfl (by (conv => lhs; whnf) <;> rfl) rfl rfl (S.up1 hS) rfl ?_; intro H7 hS; replace hS := S.dn1 hS); refine zns ?_; refine wp_seq ?_; refine wp_regionD ?_; refine zd1 ?_; refine zd1 ?_; refine zd1 ?_; refine zm ?_; refine zg ?_; refine zj (S.g1 hS) ?_; refine zd1 ?_; refine zm ?_; refine zg ?_; refine zj (S.g1 hS) ?_; refine wpD_cons ?_; refine op1_neqI rfl rfl rfl ?_; refine zd1 ?_; refine zm ?_; refine zg ?_; refine wpD_cons ?_; (refine op1_store1S rfl rfl (by (conv => lhs; whnf) <;> rfl) rfl rfl (S.up1 hS) rfl ?_; intro H8 hS; replace hS := S.dn1 hS); refine zm ?_; refine zg ?_; refine wpD_cons ?_; (refine op1_store1S rfl rfl (by (conv => lhs; whnf) <;> rfl) rfl rfl (S.up1 hS) rfl ?_; intro H9 hS; replace hS := S.dn1 hS); refine wpD_nil ?_; refine dk_of ?_ ?_; (iterate 5 refine chk_skip ?_); refine zx 13 ?_ ?_; refine zy 4 ?_ ?_; exact chk_load rfl (by exact S.g1 (by assumption)) rfl rfl; exact chkFs_nil; (iterate 3 refine chk_skip ?_); refine zx 9 ?_ ?_; refine zy 4 ?_ ?_; exact chk_load rfl (by exact S.g1 (by assumption)) rfl rfl; exact chkFs_nil; (iterate 8 refine chk_skip ?_); exact chk_end; refine seq_normal ?_; refine zsr ?_; refine zw1 ?_; refine zn ?_; refine zf ?_; refine zh (S.g1 hS) ?_; refine zw1 ?_; refine wpO_cons ?_
  cases fg
  · refine op1_skip rfl ?_; (iterate 4 refine zk ?_); refine zu ?_; refine zns ?_; refine wp_false rfl ?_; refine wp_skip ?_; refine nrm_of ?_; refine rk_nil ?_
    exact closeD (s := { s with out := s.out.drop m, una := num, reps := 0, tmo := s.pat, run := (!decide (num = s.nxt)), since := now, finGone := false }) (S.drop (S.up2 (S.up1 hS)))
  · refine op1_mov rfl (by (conv => lhs; whnf) <;> rfl) ?_; refine zn ?_; refine zf ?_; refine zh (S.g1 hS) ?_; refine wpO_cons ?_; refine op1_eqlI rfl rfl rfl ?_; refine zt ?_; refine zns ?_
    refine wp_dec rfl (fun h1 => ?_) (fun h1 => ?_)
    · refine wp_region ?_; refine zw1 ?_; refine zn ?_; refine zf ?_; refine wpO_cons ?_; (refine op1_store1S rfl rfl (by (conv => lhs; whnf) <;> rfl) rfl rfl (S.up1 hS) rfl ?_; intro H10 hS; replace hS := S.dn1 hS); refine wpO_nil ?_; refine nrm_of ?_; refine rk_nil ?_
      rw [if_pos ⟨rfl, h1⟩]
      exact closeD (s := { s with out := s.out.drop m, una := num, reps := 0, tmo := s.pat, run := (!decide (num = s.nxt)), since := now, finGone := true, st := 8 }) (S.drop (S.up2 (S.up1 hS)))
    · refine wp_skip ?_; refine nrm_of ?_; refine rk_nil ?_
      rw [if_neg (fun h => h1 h.2)]
      exact closeD (s := { s with out := s.out.drop m, una := num, reps := 0, tmo := s.pat, run := (!decide (num = s.nxt)), since := now, finGone := true }) (S.drop (S.up2 (S.up1 hS)))
theorem L50 {vd : Value} {d : List Int} (hok : Ok s) (hd : RD B As 1 vd (u8s d)) (hl : d.length ≤ 9223372036854775807) (hS : S B H (repD p s :: As)) :
    wpF C 50 [ptC p, vd] H fun v H' => v = .tuple ⟨[.int .i64 (s.write d).1, .int .i64 (s.write d).2.1]⟩ ∧ S B H' (repD p (s.write d).2.2 :: As) := by
  obtain ⟨a, c, rfl⟩ := hd.u1 hS.drop
  have hol := hok.out
  refine wpF_ofW o50 rfl rfl ?_
  have hS0 := hS
  obtain ⟨ao, co, ai, ci, ho, hi, hO⟩ := openD hS
  clear hS
  have hS := hO
  clear hO
  unfold rfC at hS
  have hS0' := hS
  unfold ptC
  refine zsr ?_; refine zw1 ?_; refine zw1 ?_; refine zns ?_; refine wp_seq ?_; refine zsr ?_; refine zw1 ?_; refine zn ?_; refine zf ?_; refine wpO_cons ?_; refine op1_load rfl rfl (by exact S.g0 hS0') rfl ?_; refine wpO_cons ?_; refine op1_eqlI rfl rfl rfl ?_; refine zns ?_
  refine wp_dec rfl (fun h => ?_) (fun h => ?_)
  · have e : s.write d = (0, 4, s) := by unfold Cn.write; rw [show s.wrt = 4 by unfold Cn.wrt; rw [if_pos h]]; rfl
    rw [e]
    refine zsr ?_; refine zw1 ?_; refine zw1 ?_; refine zns ?_; refine wp_ret ?_; refine seq_ret ?_; refine ret_of ?_; refine zr ?_; refine zr ?_; refine rk_nil ?_
    exact ⟨rfl, hS0⟩
  refine wp_skip ?_; refine seq_normal ?_; refine wp_seq ?_; refine zsr ?_; refine zw1 ?_; refine wpO_cons ?_; refine op1_call1 rfl (by (conv => lhs; whnf) <;> rfl) ?_
  refine wpF_mono (L77 hS0) ?_
  rintro _ H2 ⟨rfl, rfl⟩
  have hw := wrt_of s h
  obtain ⟨o, ho'⟩ : ∃ z, z = (!s.asked && decide (s.st = 4 ∨ s.st = 6 ∨ s.st = 2 ∨ s.st = 3)) := ⟨_, rfl⟩
  rw [← ho'] at hw
  rw [← ho']
  clear ho'
  cases o
  · have e : s.write d = (0, 35, s) := by unfold Cn.write; rw [hw]; rfl
    rw [e]
    refine wpO_cons ?_; refine op1_not_f rfl rfl ?_; refine zns ?_; refine wp_true rfl ?_; refine zsr ?_; refine zw1 ?_; refine zw1 ?_; refine zns ?_; refine wp_ret ?_; refine seq_ret ?_; refine ret_of ?_; refine zr ?_; refine zr ?_; refine rk_nil ?_
    exact ⟨rfl, hS0⟩
  unfold Cn.write
  rw [hw, if_neg (by simp)]
  refine wpO_cons ?_; refine op1_not_t rfl rfl ?_; refine zns ?_; refine wp_false rfl ?_; refine wp_skip ?_; refine seq_normal ?_; refine zsr ?_; refine zw1 ?_; refine wpO_cons ?_; refine op1_len rfl rfl ?_; refine zw1 ?_; refine zn ?_; refine zf ?_; refine wpO_cons ?_; refine op1_load rfl rfl (by exact S.g0 hS0') rfl ?_; refine wpO_cons ?_; refine op1_len rfl rfl ?_; refine wpO_cons ?_; refine op1_sub rfl rfl rfl (by exact wrap_i64 (by omega) (by omega)) ?_; refine wpO_cons ?_; refine op1_min rfl rfl rfl ?_; refine zw1 ?_; refine zns ?_; refine wp_seq ?_; refine zsr ?_; refine zw1 ?_; refine wpO_cons ?_; refine op1_eqlI rfl rfl rfl ?_; refine zw1 ?_; refine wpO_cons ?_
  obtain ⟨m, hm⟩ : ∃ m : Nat, m = min d.length (4096 - s.out.length) := ⟨_, rfl⟩
  rw [show (min (d.length : Int) (4096 - (s.out.length : Int))) = (m : Int) by omega, ← hm]
  skip
  refine op1_dec rfl (fun h1 => ?_) (fun h1 => ?_)
  · refine op1_mov rfl (by (conv => lhs; whnf) <;> rfl) ?_; refine wpO_cons ?_; refine op1_len rfl rfl ?_; refine wpO_cons ?_; refine op1_gtr rfl rfl rfl ?_; refine zt ?_; refine zns ?_
    refine wp_dec rfl (fun h2 => ?_) (fun h2 => ?_)
    · rw [if_pos (by omega)]
      refine zsr ?_; refine zw1 ?_; refine zw1 ?_; refine zns ?_; refine wp_ret ?_; refine seq_ret ?_; refine ret_of ?_; refine zr ?_; refine zr ?_; refine rk_nil ?_
      exact ⟨rfl, hS0⟩
    · rw [if_neg (by omega)]
      refine wp_skip ?_; refine seq_normal ?_; refine wp_seq ?_; refine wp_regionD ?_; refine zd1 ?_; refine wpD_cons ?_; refine op1_bsliceS rfl hS ?_; refine bk_nil ?_; intro p1 H1 hS; refine zd1 ?_; refine zm ?_; refine zg ?_; refine zj (S.g1 hS) ?_; refine zd1 ?_; refine zd1 ?_; refine wpD_cons ?_
      have hmd : m ≤ d.length := by omega
      have hcap : d.length ≤ c := by obtain ⟨_, hz, _⟩ := hd _ (S.drop (S.drop (S.drop hS0'))); exact hz.le_cap
      replace hS := S.slNew (l := 0) (es := 1) hS rfl
      have hT := hS
      refine op1_sliceD rfl rfl hd (S.drop (S.drop (S.drop (S.drop hS)))) (bnds_hi (by omega) (by omega)) (by omega) (by simp only [Int.toNat_natCast]; omega) ?_
      simp only [Int.toNat_natCast, Nat.zero_mul, List.drop_zero, Nat.sub_zero, Nat.mul_one]
      intro a1 c1 hd1 hck
      rw [u8s_take] at hd1
      have hml : (d.take m).length = m := by rw [List.length_take]; omega
      obtain ⟨r0, hr0, _⟩ := (RD.cons (RD.cons RD.head) : RD B _ 1 (.slice ao s.out.length co) (u8s s.out)) _ hS
      refine wpD_cons ?_
      refine op1_appRS rfl rfl (by (conv => lhs; whnf) <;> rfl) rfl hr0 (by simp) (u8s_one _) hS (by omega) ?_
      rw [List.nil_append, Nat.zero_add]
      intro a3 c3 H3 hS
      have hT2 := hS
      obtain ⟨r1, hr1, _⟩ := hd1 _ (S.drop (S.drop (S.drop (S.drop hS))))
      refine wpD_cons ?_
      refine op1_appRS rfl rfl (by (conv => lhs; whnf) <;> rfl) rfl hr1 (by simp [hml]) (u8s_one _) hS (by omega) ?_
      intro a2 c2 H4 hS
      rw [← u8s_append] at hS
      refine zm ?_; refine zg ?_; refine wpD_cons ?_; (refine op1_store1S rfl rfl (by (conv => lhs; whnf) <;> rfl) rfl rfl (S.up1 hS) rfl ?_; intro H2 hS; replace hS := S.dn1 hS); refine wpD_nil ?_; refine dk_of ?_ ?_; (iterate 5 refine chk_skip ?_); refine zx 9 ?_ ?_; refine zy 5 ?_ ?_; exact zq (S.g1 hT); exact chkFs_nil; (iterate 2 refine chk_skip ?_); refine zx 6 ?_ ?_; refine zy 5 ?_ ?_
      · exact hck _ _ (S.drop (S.drop (S.drop (S.drop hT)))) rfl
      refine zy 4 ?_ ?_
      · exact hck _ _ (S.drop (S.drop (S.drop (S.drop hT2)))) rfl
      exact chkFs_nil; (iterate 5 refine chk_skip ?_); exact chk_end; refine seq_normal ?_; refine zsr ?_; refine zw1 ?_; refine zw1 ?_; refine zw1 ?_; refine zns ?_; refine wp_ret ?_; refine ret_of ?_; refine zr ?_; refine zr ?_; refine rk_nil ?_
      exact ⟨rfl, closeD (s := { s with out := s.out ++ d.take m }) (S.drop (S.up2 (S.up1 hS)))⟩
  · rw [if_neg (by omega)]
    refine op1_skip rfl ?_; refine zk ?_; refine zk ?_; refine zu ?_; refine zns ?_; refine wp_false rfl ?_; refine wp_skip ?_; refine seq_normal ?_; refine wp_seq ?_; refine wp_regionD ?_; refine zd1 ?_; refine wpD_cons ?_; refine op1_bsliceS rfl hS ?_; refine bk_nil ?_; intro p1 H1 hS; refine zd1 ?_; refine zm ?_; refine zg ?_; refine zj (S.g1 hS) ?_; refine zd1 ?_; refine zd1 ?_; refine wpD_cons ?_
    have hmd : m ≤ d.length := by omega
    have hcap : d.length ≤ c := by obtain ⟨_, hz, _⟩ := hd _ (S.drop (S.drop (S.drop hS0'))); exact hz.le_cap
    replace hS := S.slNew (l := 0) (es := 1) hS rfl
    have hT := hS
    refine op1_sliceD rfl rfl hd (S.drop (S.drop (S.drop (S.drop hS)))) (bnds_hi (by omega) (by omega)) (by omega) (by simp only [Int.toNat_natCast]; omega) ?_
    simp only [Int.toNat_natCast, Nat.zero_mul, List.drop_zero, Nat.sub_zero, Nat.mul_one]
    intro a1 c1 hd1 hck
    rw [u8s_take] at hd1
    have hml : (d.take m).length = m := by rw [List.length_take]; omega
    obtain ⟨r0, hr0, _⟩ := (RD.cons (RD.cons RD.head) : RD B _ 1 (.slice ao s.out.length co) (u8s s.out)) _ hS
    refine wpD_cons ?_
    refine op1_appRS rfl rfl (by (conv => lhs; whnf) <;> rfl) rfl hr0 (by simp) (u8s_one _) hS (by omega) ?_
    rw [List.nil_append, Nat.zero_add]
    intro a3 c3 H3 hS
    have hT2 := hS
    obtain ⟨r1, hr1, _⟩ := hd1 _ (S.drop (S.drop (S.drop (S.drop hS))))
    refine wpD_cons ?_
    refine op1_appRS rfl rfl (by (conv => lhs; whnf) <;> rfl) rfl hr1 (by simp [hml]) (u8s_one _) hS (by omega) ?_
    intro a2 c2 H4 hS
    rw [← u8s_append] at hS
    refine zm ?_; refine zg ?_; refine wpD_cons ?_; (refine op1_store1S rfl rfl (by (conv => lhs; whnf) <;> rfl) rfl rfl (S.up1 hS) rfl ?_; intro H2 hS; replace hS := S.dn1 hS); refine wpD_nil ?_; refine dk_of ?_ ?_; (iterate 5 refine chk_skip ?_); refine zx 9 ?_ ?_; refine zy 5 ?_ ?_; exact zq (S.g1 hT); exact chkFs_nil; (iterate 2 refine chk_skip ?_); refine zx 6 ?_ ?_; refine zy 5 ?_ ?_
    · exact hck _ _ (S.drop (S.drop (S.drop (S.drop hT)))) rfl
    refine zy 4 ?_ ?_
    · exact hck _ _ (S.drop (S.drop (S.drop (S.drop hT2)))) rfl
    exact chkFs_nil; (iterate 5 refine chk_skip ?_); exact chk_end; refine seq_normal ?_; refine zsr ?_; refine zw1 ?_; refine zw1 ?_; refine zw1 ?_; refine zns ?_; refine wp_ret ?_; refine ret_of ?_; refine zr ?_; refine zr ?_; refine rk_nil ?_
    exact ⟨rfl, closeD (s := { s with out := s.out ++ d.take m }) (S.drop (S.up2 (S.up1 hS)))⟩
theorem L86 (hok : Ok s) (hS : S B H (repD p s :: As)) : wpF C 86 [ptC p] H fun v H' => ∃ q, v = ptC q ∧ S B H' (repD q s :: repD p s :: As) := by
  have hol := hok.out
  have hil := hok.inc
  refine wpF_ofW o86 rfl rfl ?_
  obtain ⟨ao, co, ai, ci, ho, hi, hO⟩ := openD hS
  clear hS
  have hS := hO
  clear hO
  unfold rfC at hS
  unfold ptC
  refine zsr ?_; refine zw1 ?_; refine zns ?_; refine zsr ?_; refine zw1 ?_; refine zn ?_; refine wpO_cons ?_
  refine op1_loadN rfl rfl hS.get (by simp) rfl ?_
  refine wpO_cons ?_; refine op1_allocS rfl hS ?_; intro p1 H1 hS; refine wpO_cons ?_; (refine op1_storeNS rfl rfl (by (conv => lhs; whnf) <;> rfl) rfl rfl (S.up0 hS) (Nat.le_of_ble_eq_true rfl) ?_; intro H2 hS; replace hS := S.dn0 hS); refine zns ?_; refine wp_seq ?_; refine wp_regionD ?_; refine wpD_cons ?_; refine op1_bsliceS rfl hS ?_; refine bk_nil ?_; intro p2 H3 hS; refine zd1 ?_; refine zm ?_; refine zg ?_; refine zj (S.g2 hS) ?_; refine wpD_cons ?_; refine op1_bsliceS rfl hS ?_; refine bk_nil ?_; intro p3 H4 hS; refine zd1 ?_; refine zm ?_; refine zg ?_; refine zj (S.g3 hS) ?_; refine wpD_cons ?_
  replace hS := S.slNew (l := 0) (es := 1) (S.up1 hS) rfl
  have hT := hS
  obtain ⟨r0, hr0, _⟩ := (RD.cons (RD.cons (RD.cons (RD.cons RD.head))) : RD B _ 1 (.slice ao s.out.length co) (u8s s.out)) _ hS
  refine op1_appRS rfl rfl (by (conv => lhs; whnf) <;> rfl) rfl hr0 (by simp) (u8s_one _) hS (by omega) ?_
  rw [List.nil_append, Nat.zero_add]
  intro a3 c3 H5 hS
  have hT2 := hS
  refine wpD_cons ?_
  replace hS := S.slNew (l := 0) (es := 1) (S.up1 hS) rfl
  obtain ⟨r1, hr1, _⟩ := (RD.cons (RD.cons (RD.cons (RD.cons (RD.cons RD.head)))) : RD B _ 1 (.slice ai s.inc.length ci) (u8s s.inc)) _ hS
  refine op1_appRS rfl rfl (by (conv => lhs; whnf) <;> rfl) rfl hr1 (by simp) (u8s_one _) hS (by omega) ?_
  rw [List.nil_append, Nat.zero_add]
  intro a4 c4 H6 hS
  refine zg ?_; refine wpD_cons ?_; (refine op1_store1S rfl rfl (by (conv => lhs; whnf) <;> rfl) rfl rfl (S.up2 hS) rfl ?_; intro H7 hS; replace hS := S.dn2 hS); refine zg ?_; refine wpD_cons ?_; (refine op1_store1S rfl rfl (by (conv => lhs; whnf) <;> rfl) rfl rfl (S.up2 hS) rfl ?_; intro H8 hS; replace hS := S.dn2 hS); refine wpD_nil ?_; refine dk_of ?_ ?_; (iterate 4 refine chk_skip ?_); refine zx 12 ?_ ?_; refine zy 6 ?_ ?_; exact zq (S.g3 hT); exact chkFs_nil; (iterate 4 refine chk_skip ?_); refine zx 7 ?_ ?_; refine zy 6 ?_ ?_; exact zq (S.g3 hT); refine zy 5 ?_ ?_; exact chk_load rfl (by exact S.g3 (by assumption)) rfl rfl; exact chkFs_nil; (iterate 6 refine chk_skip ?_); exact chk_end; refine seq_normal ?_; refine zsr ?_; refine zw1 ?_; refine zns ?_; refine wp_ret ?_; refine ret_of ?_; refine zr ?_; refine rk_nil ?_
  have h9 := closeD (s := s) (p := p1) (S.up2 (S.up1 hS))
  exact ⟨p1, rfl, S.up1 (closeD (s := s) (S.up3 (S.up3 (S.up3 h9))))⟩
theorem L51 {n : Int} (hok : Ok s) (hS : S B H (repD p s :: As)) : wpF C 51 [ptC p, .int .i64 n] H fun v H' => ∃ v0, v = .tuple ⟨[v0, .int .i64 (s.read n).2.1]⟩ ∧ S B H' (sl 1 v0 (u8s (s.read n).1) :: repD p (s.read n).2.2 :: As) := by
  have hol := hok.out
  have hil := hok.inc
  refine wpF_ofW o51 rfl rfl ?_
  have hS0 := hS
  obtain ⟨ao, co, ai, ci, ho, hi, hO⟩ := openD hS
  clear hS
  have hS := hO
  clear hO
  unfold rfC at hS
  unfold ptC
  refine zsr ?_; refine zw1 ?_; refine zw1 ?_; refine zns ?_; refine wp_seq ?_; refine zsr ?_; refine zw1 ?_; refine wpO_cons ?_; refine op1_lss rfl rfl rfl ?_; refine zns ?_
  refine wp_dec rfl (fun h1 => ?_) (fun h1 => ?_)
  · have e : s.read n = ([], 34, s) := s.read_err (by unfold Cn.readE; rw [if_pos h1]) (by decide)
    rw [e]
    refine zsr ?_; refine zw1 ?_; refine zw1 ?_; refine zns ?_; refine wp_ret ?_; refine seq_ret ?_; refine ret_of ?_; refine zr ?_; refine zr ?_; refine rk_nil ?_
    exact ⟨_, rfl, S.slNil hS0⟩
  refine wp_skip ?_; refine seq_normal ?_
  refine wp_cutR [] (fun vs H' => vs = [] ∧ H = H' ∧ s.readE n = 0) ?_ ?_
  · refine zsr ?_; refine zw1 ?_; refine zn ?_; refine zf ?_; refine zh (S.g0 hS) ?_; refine wpO_cons ?_; refine op1_len rfl rfl ?_; refine wpO_cons ?_; refine op1_eqlI rfl rfl rfl ?_; refine zns ?_
    refine wp_dec rfl (fun h2 => ?_) (fun h2 => ?_)
    rotate_left
    · have e : s.readE n = 0 := by unfold Cn.readE; rw [if_neg h1, if_pos (by omega)]
      refine wp_skip ?_
      exact cutR0 ⟨rfl, rfl, e⟩
    refine wp_block ?_; refine zsr ?_; refine zw1 ?_; refine zn ?_; refine zf ?_; refine zh (S.g0 hS) ?_; refine wpO_cons ?_; refine op1_eqlI rfl rfl rfl ?_; refine zw1 ?_; refine zns ?_
    refine wp_dec rfl (fun h3 => ?_) (fun h3 => ?_)
    · have e : s.read n = ([], 4, s) := s.read_err (by unfold Cn.readE; rw [if_neg h1, if_neg (by omega), if_pos h3]) (by decide)
      rw [e]
      refine zsr ?_; refine zw1 ?_; refine zw1 ?_; refine zns ?_; refine wp_ret ?_; refine block_ret ?_
      refine cutR_ret ?_
      refine ret_of ?_; refine zr ?_; refine zr ?_; refine rk_nil ?_
      exact ⟨_, rfl, S.slNil hS0⟩
    refine zsr ?_; refine zw1 ?_; refine zn ?_; refine zf ?_; refine zh (S.g0 hS) ?_; refine zw1 ?_; refine zns ?_
    obtain ⟨en, hen⟩ : ∃ z, z = s.ended := ⟨_, rfl⟩
    rw [← hen]
    cases en
    · refine wp_false rfl ?_; refine zsr ?_; refine zw1 ?_; refine wpO_cons ?_; refine op1_gtr rfl rfl rfl ?_; refine zw1 ?_; refine zns ?_
      refine wp_dec rfl (fun h4 => ?_) (fun h4 => ?_)
      · have e : s.read n = ([], 2, s) := s.read_err (by unfold Cn.readE; rw [if_neg h1, if_neg (by omega), if_neg h3, ← hen, if_neg (by simp), if_pos h4]) (by decide)
        rw [e]
        refine zsr ?_; refine zw1 ?_; refine zw1 ?_; refine zns ?_; refine wp_ret ?_; refine block_ret ?_
        refine cutR_ret ?_
        refine ret_of ?_; refine zr ?_; refine zr ?_; refine rk_nil ?_
        exact ⟨_, rfl, S.slNil hS0⟩
      · have e : s.readE n = 0 := by unfold Cn.readE; rw [if_neg h1, if_neg (by omega), if_neg h3, ← hen, if_neg (by simp), if_neg h4]
        refine wp_skip ?_; refine block_normal ?_
        exact cutR0 ⟨rfl, rfl, e⟩
    · have e : s.read n = ([], 33, s) := s.read_err (by unfold Cn.readE; rw [if_neg h1, if_neg (by omega), if_neg h3, ← hen, if_pos rfl]) (by decide)
      rw [e]
      refine wp_true rfl ?_; refine zsr ?_; refine zw1 ?_; refine zw1 ?_; refine zns ?_; refine wp_ret ?_; refine block_ret ?_
      refine cutR_ret ?_
      refine ret_of ?_; refine zr ?_; refine zr ?_; refine rk_nil ?_
      exact ⟨_, rfl, S.slNil hS0⟩
  rintro vs T2 H2 ⟨rfl, rfl, he⟩
  have hn0 : 0 ≤ n := by omega
  have er : s.read n = (s.inc.take (s.readK n), 0, { s with due := s.due || decide (4096 - s.inc.length = 0 ∧ 0 < s.readK n), inc := s.inc.drop (s.readK n) }) := by unfold Cn.read; rw [if_neg (by omega)]
  rw [er]
  obtain ⟨k, hk⟩ : ∃ k, k = s.readK n := ⟨_, rfl⟩
  rw [← hk]
  have hkn : (k : Int) = min n s.inc.length := by rw [hk]; unfold Cn.readK; omega
  have hkl : k ≤ s.inc.length := by omega
  obtain ⟨dn, hdn⟩ : ∃ z, z = (s.due || decide (4096 - s.inc.length = 0 ∧ 0 < k)) := ⟨_, rfl⟩
  rw [← hdn]
  refine zsr ?_; refine zw1 ?_; refine zw1 ?_; refine zn ?_; refine zf ?_; refine zh (S.g0 hS) ?_; refine wpO_cons ?_; refine op1_len rfl rfl ?_; refine wpO_cons ?_; refine op1_min rfl rfl rfl ?_; refine zw1 ?_; refine zns ?_
  rw [← hkn]
  refine wp_cut [] (fun vs H' => vs = [] ∧ S B H' (pto p (.cells (rfC { s with due := dn } (.slice ao s.out.length co) (.slice ai s.inc.length ci)) 0 false) :: sl 1 (.slice ao s.out.length co) (u8s s.out) :: sl 1 (.slice ai s.inc.length ci) (u8s s.inc) :: As)) ?_ ?_
  · refine zsr ?_; refine zw1 ?_; refine wpO_cons ?_; refine op1_call1 rfl (by (conv => lhs; whnf) <;> rfl) ?_
    refine wpF_mono (L78 (s := s) (by omega) hS) ?_
    rintro _ H4 ⟨rfl, rfl⟩
    refine wpO_cons ?_; refine op1_eqlI rfl rfl rfl ?_; refine zw1 ?_; refine wpO_cons ?_
    refine op1_dec rfl (fun h5 => ?_) (fun h5 => ?_)
    · refine op1_mov rfl (by (conv => lhs; whnf) <;> rfl) ?_; refine wpO_cons ?_; refine op1_gtr rfl rfl rfl ?_; refine zt ?_; refine zns ?_
      refine wp_dec rfl (fun h6 => ?_) (fun h6 => ?_)
      · have ed : dn = true := by rw [hdn, decide_eq_true (by omega), Bool.or_true]
        rw [ed]
        refine wp_region ?_; refine zw1 ?_; refine zn ?_; refine zf ?_; refine wpO_cons ?_; (refine op1_store1S rfl rfl (by (conv => lhs; whnf) <;> rfl) rfl rfl (S.up0 hS) rfl ?_; intro H1 hS; replace hS := S.dn0 hS); refine wpO_nil ?_; refine cut0  ?_
        exact ⟨rfl, hS⟩
      · have ed : dn = s.due := by rw [hdn, decide_eq_false (by omega), Bool.or_false]
        rw [ed]
        refine wp_skip ?_; refine cut0  ?_
        exact ⟨rfl, hS⟩
    · have ed : dn = s.due := by rw [hdn, decide_eq_false (by omega), Bool.or_false]
      rw [ed]
      refine op1_skip rfl ?_; refine zk ?_; refine zu ?_; refine zns ?_; refine wp_false rfl ?_; refine wp_skip ?_; refine cut0  ?_
      exact ⟨rfl, hS⟩
  clear hS
  rintro vs4 T4 H4 ⟨rfl, hS⟩
  unfold rfC at hS
  dsimp only at hS
  have hml : (s.inc.take k).length = k := by rw [List.length_take]; omega
  have hdl : (s.inc.drop k).length = s.inc.length - k := by rw [List.length_drop]
  refine zsr ?_; refine wpO_cons ?_; refine op1_bsliceS rfl hS ?_; refine bk_nil ?_; intro p1 H1 hS; refine zw1 ?_; refine zn ?_; refine zf ?_; refine zh (S.g1 hS) ?_; refine zw1 ?_; refine wpO_cons ?_
  replace hS := S.slNew (l := 0) (es := 1) hS rfl
  refine op1_sliceD rfl rfl (RD.cons (RD.cons (RD.cons RD.head))) hS (bnds_hi (by omega) (by omega)) (by omega) (by simp only [Int.toNat_natCast]; omega) ?_
  simp only [Int.toNat_natCast, Nat.zero_mul, List.drop_zero, Nat.sub_zero, Nat.mul_one]
  intro a1 c1 hd1 hck
  clear hck
  rw [u8s_take] at hd1
  obtain ⟨r1, hr1, _⟩ := hd1 _ hS
  refine wpO_cons ?_
  refine op1_appRS rfl rfl (by (conv => lhs; whnf) <;> rfl) rfl hr1 (by simp [hml]) (u8s_one _) hS (by omega) ?_
  rw [List.nil_append, Nat.zero_add]
  intro a2 c2 H5 hS
  clear hd1 hr1
  refine zw1 ?_; refine zns ?_; refine zsr ?_; refine zw1 ?_; refine wpO_cons ?_; refine op1_bsliceS rfl hS ?_; refine bk_nil ?_; intro p2 H2 hS; refine zw1 ?_; refine zn ?_; refine zf ?_; refine zh (S.g2 hS) ?_; refine zw1 ?_; refine wpO_cons ?_
  replace hS := S.slNew (l := 0) (es := 1) hS rfl
  refine op1_sliceD rfl rfl (RD.cons (RD.cons (RD.cons (RD.cons RD.head)))) hS (bnds_lo (by omega) (by omega) hi) (by simp only [Int.toNat_natCast]; omega) (Nat.le_refl _) ?_
  simp only [Int.toNat_natCast, Nat.mul_one]
  intro a3 c3 hd3 hck
  clear hck
  rw [u8s_drop, u8s_take, List.take_of_length_le (l := s.inc.drop k) (by rw [List.length_drop]; omega)] at hd3
  obtain ⟨r3, hr3, _⟩ := hd3 _ hS
  refine wpO_cons ?_
  refine op1_appRS rfl rfl (by (conv => lhs; whnf) <;> rfl) rfl hr3 (by simp) (u8s_one _) hS (by omega) ?_
  rw [List.nil_append, Nat.zero_add]
  intro a4 c4 H7 hS
  clear hd3 hr3
  refine zn ?_; refine zf ?_; refine wpO_cons ?_; (refine op1_store1S rfl rfl (by (conv => lhs; whnf) <;> rfl) rfl rfl (S.up2 hS) rfl ?_; intro H3 hS; replace hS := S.dn2 hS); refine zns ?_; refine zsr ?_; refine zw1 ?_; refine zw1 ?_; refine zw1 ?_; refine zns ?_; refine wp_ret ?_; refine ret_of ?_; refine zr ?_; refine zr ?_; refine rk_nil ?_
  exact ⟨_, rfl, S.up1 (closeD (s := { s with due := dn, inc := s.inc.drop k }) (S.up3 (S.up3 (S.drop (S.up4 hS)))))⟩
theorem L80 {ad : Option Addr} {cd : Nat} {now : Int} (hok : Ok s) (hg : SgOk g) (hst : s.st = 2) (hS : S B H (repD p s :: As)) :
    wpF C 80 [ptC p, .agg ⟨sgC g (.slice ad g.data.length cd)⟩, .int .i64 now] H fun v H' => S B H' (repD p (s.answered g now) :: As) := by
  have hol := hok.out
  have hil := hok.inc
  have hf := hok.first
  have hun := hok.syn hst
  refine wpF_ofW o80 rfl rfl ?_
  obtain ⟨ao, co, ai, ci, ho, hi, hO⟩ := openD hS
  clear hS
  have hS := hO
  clear hO
  unfold rfC at hS
  unfold ptC sgC
  refine zsr ?_; refine wpO_cons ?_; refine op1_boxNS rfl rfl rfl hS ?_; intro p1 H1 hS; refine zns ?_
  refine wp_cut [6] (fun vs H' => vs = [.bool (s.mine g)] ∧ H1 = H') ?_ ?_
  · unfold Cn.mine
    refine wp_regionD ?_; refine zg ?_; refine zj (S.g0 hS) ?_; refine zd1 ?_; refine zm ?_; refine zg ?_; refine zj (S.g1 hS) ?_; refine wpD_cons ?_
    refine op1_addW rfl rfl rfl ?_
    refine wpD_cons ?_; refine op1_eqlI rfl rfl rfl ?_; refine zd1 ?_; refine wpD_cons ?_
    refine op1_dec rfl (fun h1 => ?_) (fun h1 => ?_)
    · refine op1_mov rfl (by (conv => lhs; whnf) <;> rfl) ?_; refine zm ?_; refine zg ?_; refine zj (S.g1 hS) ?_; refine zd1 ?_; refine zm ?_; refine zg ?_; refine zj (S.g1 hS) ?_; refine wpD_cons ?_; refine op1_neqI rfl rfl rfl ?_; refine wpD_cons ?_; refine op1_pick_t rfl rfl (by (conv => lhs; whnf) <;> rfl) ?_; refine zd1 ?_; refine wpD_nil ?_; refine dk_of ?_ ?_; refine chk_skip ?_; refine zx 19 ?_ ?_; refine zy 0 ?_ ?_; exact zq (S.g0 hS); exact chkFs_nil; (iterate 3 refine chk_skip ?_); refine zx 15 ?_ ?_; refine zy 0 ?_ ?_; exact zq (S.g1 hS); exact chkFs_nil; (iterate 6 refine chk_skip ?_); refine zx 8 ?_ ?_; refine zy 0 ?_ ?_; exact zq (S.g1 hS); exact chkFs_nil; (iterate 3 refine chk_skip ?_); refine zx 4 ?_ ?_; refine zy 0 ?_ ?_; exact zq (S.g1 hS); exact chkFs_nil; (iterate 3 refine chk_skip ?_); exact chk_end; refine cut1 (by (conv => lhs; whnf) <;> rfl) ?_
      rw [decide_eq_true h1, Bool.true_and]
      exact ⟨rfl, rfl⟩
    · refine op1_skip rfl ?_; (iterate 8 refine zl ?_); refine wpD_cons ?_; refine op1_pick_f rfl rfl (by (conv => lhs; whnf) <;> rfl) ?_; refine zd1 ?_; refine wpD_nil ?_; refine dk_of ?_ ?_; refine chk_skip ?_; refine zx 19 ?_ ?_; refine zy 0 ?_ ?_; exact zq (S.g0 hS); exact chkFs_nil; (iterate 3 refine chk_skip ?_); refine zx 15 ?_ ?_; refine zy 0 ?_ ?_; exact zq (S.g1 hS); exact chkFs_nil; (iterate 6 refine chk_skip ?_); refine chk_unw 8 rfl rfl rfl ?_; (iterate 3 refine chk_skip ?_); refine chk_unw 4 rfl rfl rfl ?_; (iterate 3 refine chk_skip ?_); exact chk_end; refine cut1 (by (conv => lhs; whnf) <;> rfl) ?_
      rw [decide_eq_false h1, Bool.false_and]
      exact ⟨rfl, rfl⟩
  rintro vs2 T2 H2 ⟨rfl, rfl⟩
  obtain ⟨mi, hmi⟩ : ∃ z, z = s.mine g := ⟨_, rfl⟩
  obtain ⟨f8, hf8⟩ : ∃ z, z = has g.fl 8 := ⟨_, rfl⟩
  obtain ⟨f2, hf2⟩ : ∃ z, z = has g.fl 2 := ⟨_, rfl⟩
  have hA : s.answered g now = if f8 = true ∧ f2 = true ∧ mi = true then { s with st := 9 } else if g.fl = 3 ∧ mi = true then ({ s.greeted g with due := true } : Cn).estab.acked g.num now
    else if g.fl = 1 then { s.greeted g with nxt := s.first, run := false } else s := by unfold Cn.answered; rw [← hmi, ← hf8, ← hf2]
  rw [← hmi]
  refine wp_block ?_
  refine wp_cut [26] (fun vs H' => vs = [.bool (f8 && (f2 && mi))] ∧ H1 = H') ?_ ?_
  · refine wp_region ?_; refine zf ?_; refine zh (S.g0 hS) ?_; refine wpO_cons ?_; refine op1_call2 rfl (by (conv => lhs; whnf) <;> rfl) (by (conv => lhs; whnf) <;> rfl) ?_
    refine wpF_mono (L40 (k := 8) hg.fl (by decide)) ?_
    rw [← hf8]
    rintro _ H2 ⟨rfl, rfl⟩
    cases f8
    · refine zw1 ?_; (iterate 3 refine zk ?_); refine zu ?_; refine zw1 ?_; refine zk ?_; refine zu ?_; refine zw1 ?_; refine wpO_nil ?_; refine cut1 (by (conv => lhs; whnf) <;> rfl) ?_
      exact ⟨rfl, rfl⟩
    · refine zw1 ?_; refine zf ?_; refine zh (S.g0 hS) ?_; refine wpO_cons ?_; refine op1_call2 rfl (by (conv => lhs; whnf) <;> rfl) (by (conv => lhs; whnf) <;> rfl) ?_
      refine wpF_mono (L40 (k := 2) hg.fl (by decide)) ?_
      rw [← hf2]
      rintro _ H2 ⟨rfl, rfl⟩
      cases f2
      · refine zt ?_; refine zw1 ?_; refine zk ?_; refine zu ?_; refine zw1 ?_; refine wpO_nil ?_; refine cut1 (by (conv => lhs; whnf) <;> rfl) ?_
        exact ⟨rfl, rfl⟩
      · refine zt ?_; refine zw1 ?_; refine zw1 ?_; refine zt ?_; refine zw1 ?_; refine wpO_nil ?_; refine cut1 (by (conv => lhs; whnf) <;> rfl) ?_
        exact ⟨rfl, rfl⟩
  rintro vs3 T3 H3 ⟨rfl, rfl⟩
  obtain ⟨b1, hb1⟩ : ∃ z, z = (f8 && (f2 && mi)) := ⟨_, rfl⟩
  have hA1 : (f8 = true ∧ f2 = true ∧ mi = true) ↔ b1 = true := by rw [hb1]; simp
  simp only [hA1] at hA
  rw [← hb1, hA]
  clear hA1 hb1 hA
  cases b1
  rotate_left
  · rw [if_pos rfl]
    refine wp_true rfl ?_; refine wp_region ?_; refine zw1 ?_; refine zn ?_; refine zf ?_; refine wpO_cons ?_; (refine op1_store1S rfl rfl (by (conv => lhs; whnf) <;> rfl) rfl rfl (S.up1 hS) rfl ?_; intro H2 hS; replace hS := S.dn1 hS); refine wpO_nil ?_; refine block_normal ?_; refine nrm_of ?_; refine rk_nil ?_
    exact closeD (s := { s with st := 9 }) (S.drop hS)
  rw [if_neg (by simp)]
  clear ho hi
  refine wp_false rfl ?_; refine zsr ?_; refine zf ?_; refine zh (S.g0 hS) ?_; refine wpO_cons ?_; refine op1_eqlI rfl rfl rfl ?_; refine zw1 ?_; refine wpO_cons ?_
  refine op1_dec rfl (fun h3 => ?_) (fun h3 => ?_)
  · cases mi
    · rw [if_neg (by simp), if_neg (by omega)]
      refine op1_mov rfl (by (conv => lhs; whnf) <;> rfl) ?_; refine zt ?_; refine zw1 ?_; refine zns ?_; refine wp_false rfl ?_; refine zsr ?_; refine zf ?_; refine zh (S.g0 hS) ?_; refine wpO_cons ?_; refine op1_eqlI rfl rfl rfl ?_; refine zw1 ?_; refine zns ?_
      rw [decide_eq_false (show ¬ g.fl = 1 by omega)]
      refine wp_false rfl ?_; refine wp_skip ?_; refine block_normal ?_; refine nrm_of ?_; refine rk_nil ?_
      exact closeD (S.drop hS)
    · rw [if_pos ⟨h3, rfl⟩]
      refine op1_mov rfl (by (conv => lhs; whnf) <;> rfl) ?_; refine zt ?_; refine zw1 ?_; refine zns ?_; refine wp_true rfl ?_; refine wp_seq ?_; refine wp_regionD ?_; (iterate 4 refine zd1 ?_); refine zg ?_; refine zj (S.g0 hS) ?_; refine wpD_cons ?_
      refine op1_addW rfl rfl rfl ?_
      refine zg ?_; refine zj (S.g0 hS) ?_; refine zm ?_; refine zg ?_; refine wpD_cons ?_; (refine op1_store1S rfl rfl (by (conv => lhs; whnf) <;> rfl) rfl rfl (S.up1 hS) rfl ?_; intro H2 hS; replace hS := S.dn1 hS); refine zm ?_; refine zg ?_; refine wpD_cons ?_; (refine op1_store1S rfl rfl (by (conv => lhs; whnf) <;> rfl) rfl rfl (S.up1 hS) rfl ?_; intro H3 hS; replace hS := S.dn1 hS); refine zm ?_; refine zg ?_; refine wpD_cons ?_; (refine op1_store1S rfl rfl (by (conv => lhs; whnf) <;> rfl) rfl rfl (S.up1 hS) rfl ?_; intro H4 hS; replace hS := S.dn1 hS); refine zm ?_; refine zg ?_; refine wpD_cons ?_; (refine op1_store1S rfl rfl (by (conv => lhs; whnf) <;> rfl) rfl rfl (S.up1 hS) rfl ?_; intro H5 hS; replace hS := S.dn1 hS); refine wpD_nil ?_; refine dk_of ?_ ?_; (iterate 5 refine chk_skip ?_); refine zx 16 ?_ ?_; refine zy 10 ?_ ?_; exact chk_load rfl (by exact S.g0 (by assumption)) rfl rfl; exact chkFs_nil; (iterate 2 refine chk_skip ?_); refine zx 13 ?_ ?_; refine zy 10 ?_ ?_; exact chk_load rfl (by exact S.g0 (by assumption)) rfl rfl; refine zy 7 ?_ ?_; exact chk_load rfl (by exact S.g0 (by assumption)) rfl rfl; refine zy 4 ?_ ?_; exact chk_load rfl (by exact S.g0 (by assumption)) rfl rfl; exact chkFs_nil; (iterate 12 refine chk_skip ?_); exact chk_end; refine seq_normal ?_; refine zsr ?_; refine zw1 ?_; refine wpO_cons ?_; refine op1_call1 rfl (by (conv => lhs; whnf) <;> rfl) ?_
      refine wpF_mono (L82 (s := { s with rcv := IntKind.u32.wrap (g.seq + 1), synced := true, window := g.win, due := true }) (closeD (s := { s with rcv := IntKind.u32.wrap (g.seq + 1), synced := true, window := g.win, due := true }) (S.up3 (S.up3 (S.up3 hS))))) ?_
      clear hS
      intro v5 H5 hS
      have e : ({ s with rcv := IntKind.u32.wrap (g.seq + 1), synced := true, window := g.win, due := true } : Cn).estab = ({ s.greeted g with due := true } : Cn).estab := rfl
      rw [e] at hS
      have hnum : g.num = IntKind.u32.wrap (s.first + 1) := by
        unfold Cn.mine at hmi
        simp at hmi
        exact hmi.1
      have hnb := hg.num
      refine zns ?_; refine wp_region ?_; refine zw1 ?_; refine zf ?_; refine zh (S.g1 hS) ?_; refine zw1 ?_; refine wpO_cons ?_; refine op1_call3 rfl (by (conv => lhs; whnf) <;> rfl) (by (conv => lhs; whnf) <;> rfl) (by (conv => lhs; whnf) <;> rfl) ?_
      refine wpF_mono (L83 (num := g.num) (now := now) (s := ({ s.greeted g with due := true } : Cn).estab) hol hil hnb ?_ hS) ?_
      · unfold Cn.ackN
        show 0 ≤ if s.una = s.first then IntKind.u32.wrap (g.num - s.una) - 1 else _
        rw [if_pos hun, hun, hnum, wrap_u32, wrap_u32]
        omega
      clear hS
      intro v6 H6 hS
      refine wpO_nil ?_; refine block_normal ?_; refine nrm_of ?_; refine rk_nil ?_
      exact S.drop (S.up1 hS)
  · rw [if_neg (fun h => h3 h.1)]
    refine op1_skip rfl ?_; refine zu ?_; refine zw1 ?_; refine zns ?_; refine wp_false rfl ?_; refine zsr ?_; refine zf ?_; refine zh (S.g0 hS) ?_; refine wpO_cons ?_; refine op1_eqlI rfl rfl rfl ?_; refine zw1 ?_; refine zns ?_
    refine wp_dec rfl (fun h4 => ?_) (fun h4 => ?_)
    · rw [if_pos h4]
      refine wp_seq ?_; refine wp_regionD ?_; (iterate 4 refine zd1 ?_); refine zg ?_; refine zj (S.g0 hS) ?_; refine wpD_cons ?_
      refine op1_addW rfl rfl rfl ?_
      refine zg ?_; refine zj (S.g0 hS) ?_; refine zm ?_; refine zg ?_; refine wpD_cons ?_; (refine op1_store1S rfl rfl (by (conv => lhs; whnf) <;> rfl) rfl rfl (S.up1 hS) rfl ?_; intro H2 hS; replace hS := S.dn1 hS); refine zm ?_; refine zg ?_; refine wpD_cons ?_; (refine op1_store1S rfl rfl (by (conv => lhs; whnf) <;> rfl) rfl rfl (S.up1 hS) rfl ?_; intro H3 hS; replace hS := S.dn1 hS); refine zm ?_; refine zg ?_; refine wpD_cons ?_; (refine op1_store1S rfl rfl (by (conv => lhs; whnf) <;> rfl) rfl rfl (S.up1 hS) rfl ?_; intro H4 hS; replace hS := S.dn1 hS); refine zm ?_; refine zg ?_; refine wpD_cons ?_; (refine op1_store1S rfl rfl (by (conv => lhs; whnf) <;> rfl) rfl rfl (S.up1 hS) rfl ?_; intro H5 hS; replace hS := S.dn1 hS); refine wpD_nil ?_; refine dk_of ?_ ?_; (iterate 5 refine chk_skip ?_); refine zx 16 ?_ ?_; refine zy 10 ?_ ?_; exact chk_load rfl (by exact S.g0 (by assumption)) rfl rfl; refine zy 7 ?_ ?_; exact chk_load rfl (by exact S.g0 (by assumption)) rfl rfl; exact chkFs_nil; (iterate 2 refine chk_skip ?_); refine zx 13 ?_ ?_; refine zy 10 ?_ ?_; exact chk_load rfl (by exact S.g0 (by assumption)) rfl rfl; refine zy 7 ?_ ?_; exact chk_load rfl (by exact S.g0 (by assumption)) rfl rfl; refine zy 4 ?_ ?_; exact chk_load rfl (by exact S.g0 (by assumption)) rfl rfl; refine zy 1 ?_ ?_; exact chk_load rfl (by exact S.g0 (by assumption)) rfl rfl; exact chkFs_nil; (iterate 12 refine chk_skip ?_); exact chk_end; refine seq_normal ?_; refine wp_region ?_; refine zw1 ?_; refine zw1 ?_; refine zw1 ?_; refine zn ?_; refine zf ?_; refine zh (S.g1 hS) ?_; refine zn ?_; refine zf ?_; refine wpO_cons ?_; (refine op1_store1S rfl rfl (by (conv => lhs; whnf) <;> rfl) rfl rfl (S.up1 hS) rfl ?_; intro H6 hS; replace hS := S.dn1 hS); refine zn ?_; refine zf ?_; refine wpO_cons ?_; (refine op1_store1S rfl rfl (by (conv => lhs; whnf) <;> rfl) rfl rfl (S.up1 hS) rfl ?_; intro H7 hS; replace hS := S.dn1 hS); refine wpO_nil ?_; refine block_normal ?_; refine nrm_of ?_; refine rk_nil ?_
      exact closeD (s := { s.greeted g with nxt := s.first, run := false }) (S.drop hS)
    · rw [if_neg h4]
      refine wp_skip ?_; refine block_normal ?_; refine nrm_of ?_; refine rk_nil ?_
      exact closeD (S.drop hS)
end
end Go.E.St
