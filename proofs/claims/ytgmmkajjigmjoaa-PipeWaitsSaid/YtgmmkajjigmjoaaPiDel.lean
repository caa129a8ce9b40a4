/- Deleting from a slice in place. -/
import Derived.Test.YtgmmkajjigmjoaaPiCode
import Derived.Test.YtgmmkajjigmjoaaEngZh
namespace Go.E.Pi
open Go Go.E Go.Proofs.Ytgmmkajjigmjoaa Go.Proofs
set_option linter.unusedVariables false
set_option linter.unusedSimpArgs false
set_option maxRecDepth 100000

theorem L49 {B H : AHeap} {As : List Asn} {a : Option Addr} {n c : Nat} {cells : List Value} (i : Nat) {j : Int} (hj : j = (i : Int) + 1) (hS : S B H (sl 2 (.slice a n c) cells :: As)) (h1 : cells.all (·.oneCell') = true) (hi : i < n) (hn2 : n ≤ 1000000) :
    wpF C 49 [.slice a n c, .int .i64 i, .int .i64 j] H fun v H' => ∃ a' c', v = .slice a' (n - 1) c' ∧ S B H' (sl 2 (.slice a' (n - 1) c') (cells.take (i * 2) ++ cells.drop ((i + 1) * 2)) :: As) := by
  obtain ⟨b, off, cs, rfl, hc, hl, hcells, hS⟩ := hS.slBlk (by omega)
  have hg := hS.get
  subst hj
  have hb0 : sliceBnds n c (some (.int .i64 i)) (some (.int .i64 ((i : Int) + 1))) (some (.int .i64 n)) = some (i, i + 1, n) := by
    have e1 : (0 : Int) ≤ n ∧ (n : Int) ≤ c := by omega
    have e2 : (0 : Int) ≤ (i : Int) + 1 ∧ (i : Int) + 1 ≤ n := by omega
    have e3 : ((i : Int) + 1).toNat = i + 1 := by omega
    have e4 : (0 : Int) ≤ i ∧ (i : Int) ≤ (i + 1 : Nat) := by omega
    simp only [sliceBnds, bnd, Option.bind_some]
    rw [if_pos e1, Option.bind_some, Int.toNat_natCast, if_pos e2, Option.bind_some, e3, if_pos e4]
    rfl
  refine wpF_ofW o49 rfl rfl ?_
  refine wp_seq ?_; refine wp_region ?_; refine wpO_cons ?_; refine op1_mov rfl (by (conv => lhs; whnf) <;> rfl) ?_; refine wpO_nil ?_; refine seq_normal ?_; refine wp_seq ?_; refine wp_region ?_; refine wpO_cons ?_; refine op1_mov rfl (by (conv => lhs; whnf) <;> rfl) ?_; refine wpO_cons ?_; refine op1_mov rfl (by (conv => lhs; whnf) <;> rfl) ?_; refine wpO_cons ?_; refine op1_mov rfl (by (conv => lhs; whnf) <;> rfl) ?_; refine wpO_cons ?_; refine op1_mov rfl (by (conv => lhs; whnf) <;> rfl) ?_; refine wpO_cons ?_; refine op1_len rfl rfl ?_; refine wpO_cons ?_
  refine op1_slice rfl rfl (by omega) hb0 hg (.inr rfl) ?_
  refine wpO_nil ?_; refine seq_normal ?_; refine wp_seq ?_; refine wp_seq ?_; refine wp_region ?_; refine wpO_cons ?_; refine op1_mov rfl (by (conv => lhs; whnf) <;> rfl) ?_; refine wpO_cons ?_; refine op1_mov rfl (by (conv => lhs; whnf) <;> rfl) ?_; refine wpO_cons ?_; refine op1_eqlI rfl rfl rfl ?_; refine wpO_nil ?_; refine seq_normal ?_
  refine wp_dec rfl (fun hq => ?_) (fun hq => ?_)
  · omega
  have ei : ((i : Int) + 1).toNat = i + 1 := by omega
  refine wp_skip ?_; refine seq_normal ?_; refine wp_seq ?_; refine wp_region ?_; refine wpO_cons ?_; refine op1_mov rfl (by (conv => lhs; whnf) <;> rfl) ?_; refine wpO_cons ?_; refine op1_len rfl rfl ?_; refine wpO_cons ?_; refine op1_mov rfl (by (conv => lhs; whnf) <;> rfl) ?_; refine wpO_nil ?_; refine seq_normal ?_; refine wp_seq ?_; refine wp_regionD ?_; refine wpD_cons ?_; refine op1_mov rfl (by (conv => lhs; whnf) <;> rfl) ?_; refine wpD_cons ?_; refine op1_mov rfl (by (conv => lhs; whnf) <;> rfl) ?_; refine wpD_cons ?_
  refine op1_slice rfl rfl (by omega) (bnds_hi (i := .i64) (n := (i : Int)) (by omega) (by omega)) hg (.inr rfl) ?_
  rw [Int.toNat_natCast]
  refine wpD_cons ?_; refine op1_mov rfl (by (conv => lhs; whnf) <;> rfl) ?_; refine wpD_cons ?_; refine op1_mov rfl (by (conv => lhs; whnf) <;> rfl) ?_; refine wpD_cons ?_
  refine op1_slice rfl rfl (by omega) (bnds_lo (i := .i64) (n := (i : Int) + 1) (by omega) (by omega) hl) hg (.inr rfl) ?_
  rw [ei]
  refine wpD_cons ?_
  have hyl : (cells.drop ((i + 1) * 2)).length = (n - (i + 1)) * 2 := by
    rw [hcells]
    simp only [List.length_drop, List.length_take]; omega
  have hrd : RdS H 2 (.slice (some ⟨b, off + (i + 1) * 2, none⟩) (n - (i + 1)) (c - (i + 1))) (cells.drop ((i + 1) * 2)) [b] := by
    have hys : cells.drop ((i + 1) * 2) = (cs.drop (off + (i + 1) * 2)).take ((n - (i + 1)) * 2) := by
      rw [hcells, List.drop_take, List.drop_drop]
      congr 1
      omega
    rw [hys]
    exact .blk (l := n - (i + 1)) (off := off + (i + 1) * 2) hg (by omega) (.inr rfl) (by omega)
  have hy1 : (cells.drop ((i + 1) * 2)).all (·.oneCell') = true := by
    rw [List.all_eq_true] at h1 ⊢
    exact fun v hv => h1 v (List.mem_of_mem_drop hv)
  generalize hYS : cells.drop ((i + 1) * 2) = ys at *
  obtain ⟨H2, he, hg2, hk2, hn2'⟩ := append_inE (off := off) (l := i) (c := c) (k := n - (i + 1)) (w := .slice (some ⟨b, off + (i + 1) * 2, none⟩) (n - (i + 1)) (c - (i + 1))) hg (by omega) rfl (by rw [hrd.src (by omega) (k := n - (i + 1)) (by omega), List.take_of_length_le (by omega)]) hyl hy1 (by omega)
  have e0 : off + 0 * 2 = off := by omega
  have e1 : i + (n - (i + 1)) = n - 1 := by omega
  rw [e1] at he
  refine op1_append (u := .slice (some ⟨b, off, none⟩) i c) rfl (by (conv => lhs; whnf); simp [e0]) (by (conv => lhs; whnf) <;> rfl) he ?_
  refine wpD_cons ?_; refine op1_mov rfl (by (conv => lhs; whnf) <;> rfl) ?_; refine wpD_nil ?_; refine dk_of ?_ ?_; refine chk_skip ?_; refine chk_skip ?_; refine chk_cons 6 rfl rfl rfl ?_ ?_; refine chkFs_cons 2 rfl rfl ?_ ?_
  · refine chk_slice (l := n) (c := c) rfl (by omega) (bnds_hi (i := .i64) (n := (i : Int)) (by omega) (by omega)) hg (.inr rfl) ?_
    rw [Int.toNat_natCast]
    rfl
  · exact chkFs_nil
  refine chk_skip ?_; refine chk_skip ?_; refine chk_cons 3 rfl rfl rfl ?_ ?_; refine chkFs_cons 2 rfl rfl ?_ ?_
  · refine chk_slice (l := n) (c := c) rfl (by omega) (bnds_lo (i := .i64) (n := (i : Int) + 1) (by omega) (by omega) hl) hg (.inr rfl) ?_
    rw [ei]
    rfl
  · exact chkFs_nil
  · refine chk_skip ?_; refine chk_skip ?_; exact chk_end
  refine seq_normal ?_; refine wp_seq ?_; refine wp_region ?_; refine wpO_cons ?_; refine op1_mov rfl (by (conv => lhs; whnf) <;> rfl) ?_; refine wpO_cons ?_; refine op1_mov rfl (by (conv => lhs; whnf) <;> rfl) ?_; refine wpO_cons ?_; refine op1_len rfl rfl ?_; refine wpO_cons ?_; refine op1_mov rfl (by (conv => lhs; whnf) <;> rfl) ?_; refine wpO_cons ?_
  refine op1_slice (c := c) rfl rfl (by omega) (bnds_both (i := .i64) (j := .i64) (l := n - 1) (c := c) (n := ((n - 1 : Nat) : Int)) (m := (n : Int)) (by omega) (by omega) (by omega)) hg2 (.inr rfl) ?_
  have e2 : Int.toNat ↑n - (((n - 1 : Nat) : Int)).toNat = 1 := by simp only [Int.toNat_natCast]; omega
  rw [e2]
  simp only [Int.toNat_natCast]
  refine wpO_cons ?_
  have hl2 : (cs.take (off + i * 2) ++ ys ++ cs.drop (off + i * 2 + ys.length)).length = cs.length := by
    simp only [List.length_append, List.length_take, List.length_drop]; omega
  have hz : (zeroOf [.int .i64 0, .int .i64 0] 1).length = 2 := rfl
  refine op1_clearU rfl rfl (by omega) hg2 (by rw [hl2, hz]; omega) rfl ?_
  refine wpO_nil ?_; refine seq_normal ?_; refine wp_seq ?_; refine wp_region ?_; refine wpO_cons ?_; refine op1_mov rfl (by (conv => lhs; whnf) <;> rfl) ?_; refine wpO_cons ?_; refine op1_mov rfl (by (conv => lhs; whnf) <;> rfl) ?_; refine wpO_nil ?_; refine seq_normal ?_; refine wp_ret ?_; refine ret_of ?_; refine rk_tmp (by (conv => lhs; whnf) <;> rfl) ?_; refine rk_nil ?_
  have hS3 := (hS.step hg2 hk2 hn2').set (.cells ((cs.take (off + i * 2) ++ ys ++ cs.drop (off + i * 2 + ys.length)).take (off + (n - 1) * 2) ++ zeroOf [.int .i64 0, .int .i64 0] 1 ++ (cs.take (off + i * 2) ++ ys ++ cs.drop (off + i * 2 + ys.length)).drop (off + (n - 1) * 2 + (zeroOf [.int .i64 0, .int .i64 0] 1).length)) 2 false)
  have h5 := hS3.slOf (off := off) (l := n - 1) (c := c) (by
    simp only [List.length_append, List.length_take, List.length_drop, hz]; omega) (by omega)
  have e6 : (((cs.take (off + i * 2) ++ ys ++ cs.drop (off + i * 2 + ys.length)).take (off + (n - 1) * 2) ++ zeroOf [.int .i64 0, .int .i64 0] 1 ++ (cs.take (off + i * 2) ++ ys ++ cs.drop (off + i * 2 + ys.length)).drop (off + (n - 1) * 2 + (zeroOf [.int .i64 0, .int .i64 0] 1).length)).drop off).take ((n - 1) * 2) = cells.take (i * 2) ++ ys := by
    have e7 : (cs.take (off + i * 2) ++ ys ++ cs.drop (off + i * 2 + ys.length)).take (off + (n - 1) * 2) = cs.take (off + i * 2) ++ ys := by
      rw [List.take_append_of_le_length (by simp only [List.length_append, List.length_take]; omega), List.take_of_length_le (by simp only [List.length_append, List.length_take]; omega)]
    have e8 : (cs.take (off + i * 2)).drop off = cells.take (i * 2) := by
      rw [hcells, List.take_take, List.drop_take]
      congr 1
      omega
    rw [e7, List.append_assoc, List.append_assoc, List.drop_append_of_le_length (by simp only [List.length_take]; omega), e8, ← List.append_assoc, List.take_append_of_le_length (by rw [hcells]; simp only [List.length_append, List.length_take, List.length_drop]; omega), List.take_of_length_le (by rw [hcells]; simp only [List.length_append, List.length_take, List.length_drop]; omega)]
  rw [e6] at h5
  exact ⟨_, _, rfl, h5⟩
theorem L50 {B H : AHeap} {As : List Asn} {a : Option Addr} {n c : Nat} {cells : List Value} (i : Nat) {j : Int} (hj : j = (i : Int) + 1) (hS : S B H (sl 3 (.slice a n c) cells :: As)) (h1 : cells.all (·.oneCell') = true) (hi : i < n) (hn2 : n ≤ 1000000) :
    wpF C 50 [.slice a n c, .int .i64 i, .int .i64 j] H fun v H' => ∃ a' c', v = .slice a' (n - 1) c' ∧ S B H' (sl 3 (.slice a' (n - 1) c') (cells.take (i * 3) ++ cells.drop ((i + 1) * 3)) :: As) := by
  obtain ⟨b, off, cs, rfl, hc, hl, hcells, hS⟩ := hS.slBlk (by omega)
  have hg := hS.get
  subst hj
  have hb0 : sliceBnds n c (some (.int .i64 i)) (some (.int .i64 ((i : Int) + 1))) (some (.int .i64 n)) = some (i, i + 1, n) := by
    have e1 : (0 : Int) ≤ n ∧ (n : Int) ≤ c := by omega
    have e2 : (0 : Int) ≤ (i : Int) + 1 ∧ (i : Int) + 1 ≤ n := by omega
    have e3 : ((i : Int) + 1).toNat = i + 1 := by omega
    have e4 : (0 : Int) ≤ i ∧ (i : Int) ≤ (i + 1 : Nat) := by omega
    simp only [sliceBnds, bnd, Option.bind_some]
    rw [if_pos e1, Option.bind_some, Int.toNat_natCast, if_pos e2, Option.bind_some, e3, if_pos e4]
    rfl
  refine wpF_ofW o50 rfl rfl ?_
  refine wp_seq ?_; refine wp_region ?_; refine wpO_cons ?_; refine op1_mov rfl (by (conv => lhs; whnf) <;> rfl) ?_; refine wpO_nil ?_; refine seq_normal ?_; refine wp_seq ?_; refine wp_region ?_; refine wpO_cons ?_; refine op1_mov rfl (by (conv => lhs; whnf) <;> rfl) ?_; refine wpO_cons ?_; refine op1_mov rfl (by (conv => lhs; whnf) <;> rfl) ?_; refine wpO_cons ?_; refine op1_mov rfl (by (conv => lhs; whnf) <;> rfl) ?_; refine wpO_cons ?_; refine op1_mov rfl (by (conv => lhs; whnf) <;> rfl) ?_; refine wpO_cons ?_; refine op1_len rfl rfl ?_; refine wpO_cons ?_
  refine op1_slice rfl rfl (by omega) hb0 hg (.inr rfl) ?_
  refine wpO_nil ?_; refine seq_normal ?_; refine wp_seq ?_; refine wp_seq ?_; refine wp_region ?_; refine wpO_cons ?_; refine op1_mov rfl (by (conv => lhs; whnf) <;> rfl) ?_; refine wpO_cons ?_; refine op1_mov rfl (by (conv => lhs; whnf) <;> rfl) ?_; refine wpO_cons ?_; refine op1_eqlI rfl rfl rfl ?_; refine wpO_nil ?_; refine seq_normal ?_
  refine wp_dec rfl (fun hq => ?_) (fun hq => ?_)
  · omega
  have ei : ((i : Int) + 1).toNat = i + 1 := by omega
  refine wp_skip ?_; refine seq_normal ?_; refine wp_seq ?_; refine wp_region ?_; refine wpO_cons ?_; refine op1_mov rfl (by (conv => lhs; whnf) <;> rfl) ?_; refine wpO_cons ?_; refine op1_len rfl rfl ?_; refine wpO_cons ?_; refine op1_mov rfl (by (conv => lhs; whnf) <;> rfl) ?_; refine wpO_nil ?_; refine seq_normal ?_; refine wp_seq ?_; refine wp_regionD ?_; refine wpD_cons ?_; refine op1_mov rfl (by (conv => lhs; whnf) <;> rfl) ?_; refine wpD_cons ?_; refine op1_mov rfl (by (conv => lhs; whnf) <;> rfl) ?_; refine wpD_cons ?_
  refine op1_slice rfl rfl (by omega) (bnds_hi (i := .i64) (n := (i : Int)) (by omega) (by omega)) hg (.inr rfl) ?_
  rw [Int.toNat_natCast]
  refine wpD_cons ?_; refine op1_mov rfl (by (conv => lhs; whnf) <;> rfl) ?_; refine wpD_cons ?_; refine op1_mov rfl (by (conv => lhs; whnf) <;> rfl) ?_; refine wpD_cons ?_
  refine op1_slice rfl rfl (by omega) (bnds_lo (i := .i64) (n := (i : Int) + 1) (by omega) (by omega) hl) hg (.inr rfl) ?_
  rw [ei]
  refine wpD_cons ?_
  have hyl : (cells.drop ((i + 1) * 3)).length = (n - (i + 1)) * 3 := by
    rw [hcells]
    simp only [List.length_drop, List.length_take]; omega
  have hrd : RdS H 3 (.slice (some ⟨b, off + (i + 1) * 3, none⟩) (n - (i + 1)) (c - (i + 1))) (cells.drop ((i + 1) * 3)) [b] := by
    have hys : cells.drop ((i + 1) * 3) = (cs.drop (off + (i + 1) * 3)).take ((n - (i + 1)) * 3) := by
      rw [hcells, List.drop_take, List.drop_drop]
      congr 1
      omega
    rw [hys]
    exact .blk (l := n - (i + 1)) (off := off + (i + 1) * 3) hg (by omega) (.inr rfl) (by omega)
  have hy1 : (cells.drop ((i + 1) * 3)).all (·.oneCell') = true := by
    rw [List.all_eq_true] at h1 ⊢
    exact fun v hv => h1 v (List.mem_of_mem_drop hv)
  generalize hYS : cells.drop ((i + 1) * 3) = ys at *
  obtain ⟨H2, he, hg2, hk2, hn2'⟩ := append_inE (off := off) (l := i) (c := c) (k := n - (i + 1)) (w := .slice (some ⟨b, off + (i + 1) * 3, none⟩) (n - (i + 1)) (c - (i + 1))) hg (by omega) rfl (by rw [hrd.src (by omega) (k := n - (i + 1)) (by omega), List.take_of_length_le (by omega)]) hyl hy1 (by omega)
  have e0 : off + 0 * 3 = off := by omega
  have e1 : i + (n - (i + 1)) = n - 1 := by omega
  rw [e1] at he
  refine op1_append (u := .slice (some ⟨b, off, none⟩) i c) rfl (by (conv => lhs; whnf); simp [e0]) (by (conv => lhs; whnf) <;> rfl) he ?_
  refine wpD_cons ?_; refine op1_mov rfl (by (conv => lhs; whnf) <;> rfl) ?_; refine wpD_nil ?_; refine dk_of ?_ ?_; refine chk_skip ?_; refine chk_skip ?_; refine chk_cons 6 rfl rfl rfl ?_ ?_; refine chkFs_cons 2 rfl rfl ?_ ?_
  · refine chk_slice (l := n) (c := c) rfl (by omega) (bnds_hi (i := .i64) (n := (i : Int)) (by omega) (by omega)) hg (.inr rfl) ?_
    rw [Int.toNat_natCast]
    rfl
  · exact chkFs_nil
  refine chk_skip ?_; refine chk_skip ?_; refine chk_cons 3 rfl rfl rfl ?_ ?_; refine chkFs_cons 2 rfl rfl ?_ ?_
  · refine chk_slice (l := n) (c := c) rfl (by omega) (bnds_lo (i := .i64) (n := (i : Int) + 1) (by omega) (by omega) hl) hg (.inr rfl) ?_
    rw [ei]
    rfl
  · exact chkFs_nil
  · refine chk_skip ?_; refine chk_skip ?_; exact chk_end
  refine seq_normal ?_; refine wp_seq ?_; refine wp_region ?_; refine wpO_cons ?_; refine op1_mov rfl (by (conv => lhs; whnf) <;> rfl) ?_; refine wpO_cons ?_; refine op1_mov rfl (by (conv => lhs; whnf) <;> rfl) ?_; refine wpO_cons ?_; refine op1_len rfl rfl ?_; refine wpO_cons ?_; refine op1_mov rfl (by (conv => lhs; whnf) <;> rfl) ?_; refine wpO_cons ?_
  refine op1_slice (c := c) rfl rfl (by omega) (bnds_both (i := .i64) (j := .i64) (l := n - 1) (c := c) (n := ((n - 1 : Nat) : Int)) (m := (n : Int)) (by omega) (by omega) (by omega)) hg2 (.inr rfl) ?_
  have e2 : Int.toNat ↑n - (((n - 1 : Nat) : Int)).toNat = 1 := by simp only [Int.toNat_natCast]; omega
  rw [e2]
  simp only [Int.toNat_natCast]
  refine wpO_cons ?_
  have hl2 : (cs.take (off + i * 3) ++ ys ++ cs.drop (off + i * 3 + ys.length)).length = cs.length := by
    simp only [List.length_append, List.length_take, List.length_drop]; omega
  have hz : (zeroOf [.int .i64 0, .slice none 0 0, .int .i64 0] 1).length = 3 := rfl
  refine op1_clearU rfl rfl (by omega) hg2 (by rw [hl2, hz]; omega) rfl ?_
  refine wpO_nil ?_; refine seq_normal ?_; refine wp_seq ?_; refine wp_region ?_; refine wpO_cons ?_; refine op1_mov rfl (by (conv => lhs; whnf) <;> rfl) ?_; refine wpO_cons ?_; refine op1_mov rfl (by (conv => lhs; whnf) <;> rfl) ?_; refine wpO_nil ?_; refine seq_normal ?_; refine wp_ret ?_; refine ret_of ?_; refine rk_tmp (by (conv => lhs; whnf) <;> rfl) ?_; refine rk_nil ?_
  have hS3 := (hS.step hg2 hk2 hn2').set (.cells ((cs.take (off + i * 3) ++ ys ++ cs.drop (off + i * 3 + ys.length)).take (off + (n - 1) * 3) ++ zeroOf [.int .i64 0, .slice none 0 0, .int .i64 0] 1 ++ (cs.take (off + i * 3) ++ ys ++ cs.drop (off + i * 3 + ys.length)).drop (off + (n - 1) * 3 + (zeroOf [.int .i64 0, .slice none 0 0, .int .i64 0] 1).length)) 3 false)
  have h5 := hS3.slOf (off := off) (l := n - 1) (c := c) (by
    simp only [List.length_append, List.length_take, List.length_drop, hz]; omega) (by omega)
  have e6 : (((cs.take (off + i * 3) ++ ys ++ cs.drop (off + i * 3 + ys.length)).take (off + (n - 1) * 3) ++ zeroOf [.int .i64 0, .slice none 0 0, .int .i64 0] 1 ++ (cs.take (off + i * 3) ++ ys ++ cs.drop (off + i * 3 + ys.length)).drop (off + (n - 1) * 3 + (zeroOf [.int .i64 0, .slice none 0 0, .int .i64 0] 1).length)).drop off).take ((n - 1) * 3) = cells.take (i * 3) ++ ys := by
    have e7 : (cs.take (off + i * 3) ++ ys ++ cs.drop (off + i * 3 + ys.length)).take (off + (n - 1) * 3) = cs.take (off + i * 3) ++ ys := by
      rw [List.take_append_of_le_length (by simp only [List.length_append, List.length_take]; omega), List.take_of_length_le (by simp only [List.length_append, List.length_take]; omega)]
    have e8 : (cs.take (off + i * 3)).drop off = cells.take (i * 3) := by
      rw [hcells, List.take_take, List.drop_take]
      congr 1
      omega
    rw [e7, List.append_assoc, List.append_assoc, List.drop_append_of_le_length (by simp only [List.length_take]; omega), e8, ← List.append_assoc, List.take_append_of_le_length (by rw [hcells]; simp only [List.length_append, List.length_take, List.length_drop]; omega), List.take_of_length_le (by rw [hcells]; simp only [List.length_append, List.length_take, List.length_drop]; omega)]
  rw [e6] at h5
  exact ⟨_, _, rfl, h5⟩
end Go.E.Pi
