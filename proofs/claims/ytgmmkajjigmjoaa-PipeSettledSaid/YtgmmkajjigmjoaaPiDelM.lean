/- Deleting from a slice in place. -/
import Derived.Test.YtgmmkajjigmjoaaPiCode
import Derived.Test.YtgmmkajjigmjoaaEngZh
namespace Go.E.Pi
open Go Go.E Go.Proofs.Ytgmmkajjigmjoaa Go.Proofs
set_option linter.unusedVariables false
set_option linter.unusedSimpArgs false
set_option maxRecDepth 100000
theorem L49 {B H : AHeap} {As : List Asn} {a : Option Addr} {n c : Nat} {cells : List Value} (i : Nat) {j : Int} (hj : j = (i : Int) + 1) (hS : S B H (sl 2 (.slice a n c) cells :: As)) (h1 : cells.all (·.oneCell') = true) (hi : i < n) (hn2 : n ≤ 1000000) :
    wpF C 49 [.slice a n c, .int .i64 i, .int .i64 j] H fun v H' => ∃ a' c', v = .slice a' (n - 1) c' ∧ S B H' (sl 2 (.slice a' (n - 1) c') (cells.take (i * 2) ++ cells.drop ((i + 1) * 2)) :: As) := by
  obtain ⟨b, off, cs, rfl, hc, hl, hcells, hS⟩ := hS.slBlk (by omega)
  have hg := hS.get
  subst hj
  have hb0 : sliceBnds n c (some (.int .i64 i)) (some (.int .i64 ((i : Int) + 1))) (some (.int .i64 n)) = some (i, i + 1, n) := by
    have e1 : (0 : Int) ≤ n ∧ (n : Int) ≤ c := by omega
    have e2 : (0 : Int) ≤ (i : Int) + 1 ∧ (i : Int) + 1 ≤ n := by omega
    have e3 : ((i : Int) + 1).toNat = i + 1 := by omega
    have e4 : (0 : Int) ≤ i ∧ (i : Int) ≤ (i + 1 : Nat) := by omega
    simp only [sliceBnds, bnd, Option.bind_some]
    rw [if_pos e1, Option.bind_some, Int.toNat_natCast, if_pos e2, Option.bind_some, e3, if_pos e4]
    rfl
  refine wpF_ofW o49 rfl rfl ?_
  refine zsr ?_; refine zw1 ?_; refine zns ?_; refine zsr ?_; (iterate 4 refine zw1 ?_); refine wpO_cons ?_; refine op1_len rfl rfl ?_; refine wpO_cons ?_
  refine op1_slice rfl rfl (by omega) hb0 hg (.inr rfl) ?_
  refine zns ?_; refine wp_seq ?_; refine zsr ?_; refine zw1 ?_; refine zw1 ?_; refine wpO_cons ?_; refine op1_eqlI rfl rfl rfl ?_; refine zns ?_
  refine wp_dec rfl (fun hq => ?_) (fun hq => ?_)
  · omega
  have ei : ((i : Int) + 1).toNat = i + 1 := by omega
  refine wp_skip ?_; refine seq_normal ?_; refine zsr ?_; refine zw1 ?_; refine wpO_cons ?_; refine op1_len rfl rfl ?_; refine zw1 ?_; refine zns ?_; refine wp_seq ?_; refine wp_regionD ?_; refine zd1 ?_; refine zd1 ?_; refine wpD_cons ?_
  refine op1_slice rfl rfl (by omega) (bnds_hi (i := .i64) (n := (i : Int)) (by omega) (by omega)) hg (.inr rfl) ?_
  rw [Int.toNat_natCast]
  refine zd1 ?_; refine zd1 ?_; refine wpD_cons ?_
  refine op1_slice rfl rfl (by omega) (bnds_lo (i := .i64) (n := (i : Int) + 1) (by omega) (by omega) hl) hg (.inr rfl) ?_
  rw [ei]
  refine wpD_cons ?_
  have hyl : (cells.drop ((i + 1) * 2)).length = (n - (i + 1)) * 2 := by
    rw [hcells]
    simp only [List.length_drop, List.length_take]; omega
  have hrd : RdS H 2 (.slice (some ⟨b, off + (i + 1) * 2, none⟩) (n - (i + 1)) (c - (i + 1))) (cells.drop ((i + 1) * 2)) [b] := by
    have hys : cells.drop ((i + 1) * 2) = (cs.drop (off + (i + 1) * 2)).take ((n - (i + 1)) * 2) := by
      rw [hcells, List.drop_take, List.drop_drop]
      congr 1
      omega
    rw [hys]
    exact .blk (l := n - (i + 1)) (off := off + (i + 1) * 2) hg (by omega) (.inr rfl) (by omega)
  have hy1 : (cells.drop ((i + 1) * 2)).all (·.oneCell') = true := by
    rw [List.all_eq_true] at h1 ⊢
    exact fun v hv => h1 v (List.mem_of_mem_drop hv)
  generalize hYS : cells.drop ((i + 1) * 2) = ys at *
  obtain ⟨H2, he, hg2, hk2, hn2'⟩ := append_inE (off := off) (l := i) (c := c) (k := n - (i + 1)) (w := .slice (some ⟨b, off + (i + 1) * 2, none⟩) (n - (i + 1)) (c - (i + 1))) hg (by omega) rfl (by rw [hrd.src (by omega) (k := n - (i + 1)) (by omega), List.take_of_length_le (by omega)]) hyl hy1 (by omega)
  have e0 : off + 0 * 2 = off := by omega
  have e1 : i + (n - (i + 1)) = n - 1 := by omega
  rw [e1] at he
  refine op1_append (u := .slice (some ⟨b, off, none⟩) i c) rfl (by (conv => lhs; whnf); simp [e0]) (by (conv => lhs; whnf) <;> rfl) he ?_
  refine zd1 ?_; refine wpD_nil ?_; refine dk_of ?_ ?_; (iterate 2 refine chk_skip ?_); refine chk_cons 6 rfl rfl rfl ?_ ?_; refine chkFs_cons 2 rfl rfl ?_ ?_
  · refine chk_slice (l := n) (c := c) rfl (by omega) (bnds_hi (i := .i64) (n := (i : Int)) (by omega) (by omega)) hg (.inr rfl) ?_
    rw [Int.toNat_natCast]
    rfl
  · exact chkFs_nil
  (iterate 2 refine chk_skip ?_); refine chk_cons 3 rfl rfl rfl ?_ ?_; refine chkFs_cons 2 rfl rfl ?_ ?_
  · refine chk_slice (l := n) (c := c) rfl (by omega) (bnds_lo (i := .i64) (n := (i : Int) + 1) (by omega) (by omega) hl) hg (.inr rfl) ?_
    rw [ei]
    rfl
  · exact chkFs_nil
  · (iterate 2 refine chk_skip ?_); exact chk_end
  refine seq_normal ?_; refine zsr ?_; refine zw1 ?_; refine zw1 ?_; refine wpO_cons ?_; refine op1_len rfl rfl ?_; refine zw1 ?_; refine wpO_cons ?_
  refine op1_slice (c := c) rfl rfl (by omega) (bnds_both (i := .i64) (j := .i64) (l := n - 1) (c := c) (n := ((n - 1 : Nat) : Int)) (m := (n : Int)) (by omega) (by omega) (by omega)) hg2 (.inr rfl) ?_
  have e2 : Int.toNat ↑n - (((n - 1 : Nat) : Int)).toNat = 1 := by simp only [Int.toNat_natCast]; omega
  rw [e2]
  simp only [Int.toNat_natCast]
  refine wpO_cons ?_
  have hl2 : (cs.take (off + i * 2) ++ ys ++ cs.drop (off + i * 2 + ys.length)).length = cs.length := by
    simp only [List.length_append, List.length_take, List.length_drop]; omega
  have hz : (zeroOf [.int .i64 0, .int .i64 0] 1).length = 2 := rfl
  refine op1_clearU rfl rfl (by omega) hg2 (by rw [hl2, hz]; omega) rfl ?_
  refine zns ?_; refine zsr ?_; refine zw1 ?_; refine zw1 ?_; refine zns ?_; refine wp_ret ?_; refine ret_of ?_; refine rk_tmp (by (conv => lhs; whnf) <;> rfl) ?_; refine rk_nil ?_
  have hS3 := (hS.step hg2 hk2 hn2').set (.cells ((cs.take (off + i * 2) ++ ys ++ cs.drop (off + i * 2 + ys.length)).take (off + (n - 1) * 2) ++ zeroOf [.int .i64 0, .int .i64 0] 1 ++ (cs.take (off + i * 2) ++ ys ++ cs.drop (off + i * 2 + ys.length)).drop (off + (n - 1) * 2 + (zeroOf [.int .i64 0, .int .i64 0] 1).length)) 2 false)
  have h5 := hS3.slOf (off := off) (l := n - 1) (c := c) (by
    simp only [List.length_append, List.length_take, List.length_drop, hz]; omega) (by omega)
  have e6 : (((cs.take (off + i * 2) ++ ys ++ cs.drop (off + i * 2 + ys.length)).take (off + (n - 1) * 2) ++ zeroOf [.int .i64 0, .int .i64 0] 1 ++ (cs.take (off + i * 2) ++ ys ++ cs.drop (off + i * 2 + ys.length)).drop (off + (n - 1) * 2 + (zeroOf [.int .i64 0, .int .i64 0] 1).length)).drop off).take ((n - 1) * 2) = cells.take (i * 2) ++ ys := by
    have e7 : (cs.take (off + i * 2) ++ ys ++ cs.drop (off + i * 2 + ys.length)).take (off + (n - 1) * 2) = cs.take (off + i * 2) ++ ys := by
      rw [List.take_append_of_le_length (by simp only [List.length_append, List.length_take]; omega), List.take_of_length_le (by simp only [List.length_append, List.length_take]; omega)]
    have e8 : (cs.take (off + i * 2)).drop off = cells.take (i * 2) := by
      rw [hcells, List.take_take, List.drop_take]
      congr 1
      omega
    rw [e7, List.append_assoc, List.append_assoc, List.drop_append_of_le_length (by simp only [List.length_take]; omega), e8, ← List.append_assoc, List.take_append_of_le_length (by rw [hcells]; simp only [List.length_append, List.length_take, List.length_drop]; omega), List.take_of_length_le (by rw [hcells]; simp only [List.length_append, List.length_take, List.length_drop]; omega)]
  rw [e6] at h5
  exact ⟨_, _, rfl, h5⟩
theorem L50 {B H : AHeap} {As : List Asn} {a : Option Addr} {n c : Nat} {cells : List Value} (i : Nat) {j : Int} (hj : j = (i : Int) + 1) (hS : S B H (sl 3 (.slice a n c) cells :: As)) (h1 : cells.all (·.oneCell') = true) (hi : i < n) (hn2 : n ≤ 1000000) :
    wpF C 50 [.slice a n c, .int .i64 i, .int .i64 j] H fun v H' => ∃ a' c', v = .slice a' (n - 1) c' ∧ S B H' (sl 3 (.slice a' (n - 1) c') (cells.take (i * 3) ++ cells.drop ((i + 1) * 3)) :: As) := by
  obtain ⟨b, off, cs, rfl, hc, hl, hcells, hS⟩ := hS.slBlk (by omega)
  have hg := hS.get
  subst hj
  have hb0 : sliceBnds n c (some (.int .i64 i)) (some (.int .i64 ((i : Int) + 1))) (some (.int .i64 n)) = some (i, i + 1, n) := by
    have e1 : (0 : Int) ≤ n ∧ (n : Int) ≤ c := by omega
    have e2 : (0 : Int) ≤ (i : Int) + 1 ∧ (i : Int) + 1 ≤ n := by omega
    have e3 : ((i : Int) + 1).toNat = i + 1 := by omega
    have e4 : (0 : Int) ≤ i ∧ (i : Int) ≤ (i + 1 : Nat) := by omega
    simp only [sliceBnds, bnd, Option.bind_some]
    rw [if_pos e1, Option.bind_some, Int.toNat_natCast, if_pos e2, Option.bind_some, e3, if_pos e4]
    rfl
  refine wpF_ofW o50 rfl rfl ?_
  refine zsr ?_; refine zw1 ?_; refine zns ?_; refine zsr ?_; (iterate 4 refine zw1 ?_); refine wpO_cons ?_; refine op1_len rfl rfl ?_; refine wpO_cons ?_
  refine op1_slice rfl rfl (by omega) hb0 hg (.inr rfl) ?_
  refine zns ?_; refine wp_seq ?_; refine zsr ?_; refine zw1 ?_; refine zw1 ?_; refine wpO_cons ?_; refine op1_eqlI rfl rfl rfl ?_; refine zns ?_
  refine wp_dec rfl (fun hq => ?_) (fun hq => ?_)
  · omega
  have ei : ((i : Int) + 1).toNat = i + 1 := by omega
  refine wp_skip ?_; refine seq_normal ?_; refine zsr ?_; refine zw1 ?_; refine wpO_cons ?_; refine op1_len rfl rfl ?_; refine zw1 ?_; refine zns ?_; refine wp_seq ?_; refine wp_regionD ?_; refine zd1 ?_; refine zd1 ?_; refine wpD_cons ?_
  refine op1_slice rfl rfl (by omega) (bnds_hi (i := .i64) (n := (i : Int)) (by omega) (by omega)) hg (.inr rfl) ?_
  rw [Int.toNat_natCast]
  refine zd1 ?_; refine zd1 ?_; refine wpD_cons ?_
  refine op1_slice rfl rfl (by omega) (bnds_lo (i := .i64) (n := (i : Int) + 1) (by omega) (by omega) hl) hg (.inr rfl) ?_
  rw [ei]
  refine wpD_cons ?_
  have hyl : (cells.drop ((i + 1) * 3)).length = (n - (i + 1)) * 3 := by
    rw [hcells]
    simp only [List.length_drop, List.length_take]; omega
  have hrd : RdS H 3 (.slice (some ⟨b, off + (i + 1) * 3, none⟩) (n - (i + 1)) (c - (i + 1))) (cells.drop ((i + 1) * 3)) [b] := by
    have hys : cells.drop ((i + 1) * 3) = (cs.drop (off + (i + 1) * 3)).take ((n - (i + 1)) * 3) := by
      rw [hcells, List.drop_take, List.drop_drop]
      congr 1
      omega
    rw [hys]
    exact .blk (l := n - (i + 1)) (off := off + (i + 1) * 3) hg (by omega) (.inr rfl) (by omega)
  have hy1 : (cells.drop ((i + 1) * 3)).all (·.oneCell') = true := by
    rw [List.all_eq_true] at h1 ⊢
    exact fun v hv => h1 v (List.mem_of_mem_drop hv)
  generalize hYS : cells.drop ((i + 1) * 3) = ys at *
  obtain ⟨H2, he, hg2, hk2, hn2'⟩ := append_inE (off := off) (l := i) (c := c) (k := n - (i + 1)) (w := .slice (some ⟨b, off + (i + 1) * 3, none⟩) (n - (i + 1)) (c - (i + 1))) hg (by omega) rfl (by rw [hrd.src (by omega) (k := n - (i + 1)) (by omega), List.take_of_length_le (by omega)]) hyl hy1 (by omega)
  have e0 : off + 0 * 3 = off := by omega
  have e1 : i + (n - (i + 1)) = n - 1 := by omega
  rw [e1] at he
  refine op1_append (u := .slice (some ⟨b, off, none⟩) i c) rfl (by (conv => lhs; whnf); simp [e0]) (by (conv => lhs; whnf) <;> rfl) he ?_
  refine zd1 ?_; refine wpD_nil ?_; refine dk_of ?_ ?_; (iterate 2 refine chk_skip ?_); refine chk_cons 6 rfl rfl rfl ?_ ?_; refine chkFs_cons 2 rfl rfl ?_ ?_
  · refine chk_slice (l := n) (c := c) rfl (by omega) (bnds_hi (i := .i64) (n := (i : Int)) (by omega) (by omega)) hg (.inr rfl) ?_
    rw [Int.toNat_natCast]
    rfl
  · exact chkFs_nil
  (iterate 2 refine chk_skip ?_); refine chk_cons 3 rfl rfl rfl ?_ ?_; refine chkFs_cons 2 rfl rfl ?_ ?_
  · refine chk_slice (l := n) (c := c) rfl (by omega) (bnds_lo (i := .i64) (n := (i : Int) + 1) (by omega) (by omega) hl) hg (.inr rfl) ?_
    rw [ei]
    rfl
  · exact chkFs_nil
  · (iterate 2 refine chk_skip ?_); exact chk_end
  refine seq_normal ?_; refine zsr ?_; refine zw1 ?_; refine zw1 ?_; refine wpO_cons ?_; refine op1_len rfl rfl ?_; refine zw1 ?_; refine wpO_cons ?_
  refine op1_slice (c := c) rfl rfl (by omega) (bnds_both (i := .i64) (j := .i64) (l := n - 1) (c := c) (n := ((n - 1 : Nat) : Int)) (m := (n : Int)) (by omega) (by omega) (by omega)) hg2 (.inr rfl) ?_
  have e2 : Int.toNat ↑n - (((n - 1 : Nat) : Int)).toNat = 1 := by simp only [Int.toNat_natCast]; omega
  rw [e2]
  simp only [Int.toNat_natCast]
  refine wpO_cons ?_
  have hl2 : (cs.take (off + i * 3) ++ ys ++ cs.drop (off + i * 3 + ys.length)).length = cs.length := by
    simp only [List.length_append, List.length_take, List.length_drop]; omega
  have hz : (zeroOf [.int .i64 0, .slice none 0 0, .int .i64 0] 1).length = 3 := rfl
  refine op1_clearU rfl rfl (by omega) hg2 (by rw [hl2, hz]; omega) rfl ?_
  refine zns ?_; refine zsr ?_; refine zw1 ?_; refine zw1 ?_; refine zns ?_; refine wp_ret ?_; refine ret_of ?_; refine rk_tmp (by (conv => lhs; whnf) <;> rfl) ?_; refine rk_nil ?_
  have hS3 := (hS.step hg2 hk2 hn2').set (.cells ((cs.take (off + i * 3) ++ ys ++ cs.drop (off + i * 3 + ys.length)).take (off + (n - 1) * 3) ++ zeroOf [.int .i64 0, .slice none 0 0, .int .i64 0] 1 ++ (cs.take (off + i * 3) ++ ys ++ cs.drop (off + i * 3 + ys.length)).drop (off + (n - 1) * 3 + (zeroOf [.int .i64 0, .slice none 0 0, .int .i64 0] 1).length)) 3 false)
  have h5 := hS3.slOf (off := off) (l := n - 1) (c := c) (by
    simp only [List.length_append, List.length_take, List.length_drop, hz]; omega) (by omega)
  have e6 : (((cs.take (off + i * 3) ++ ys ++ cs.drop (off + i * 3 + ys.length)).take (off + (n - 1) * 3) ++ zeroOf [.int .i64 0, .slice none 0 0, .int .i64 0] 1 ++ (cs.take (off + i * 3) ++ ys ++ cs.drop (off + i * 3 + ys.length)).drop (off + (n - 1) * 3 + (zeroOf [.int .i64 0, .slice none 0 0, .int .i64 0] 1).length)).drop off).take ((n - 1) * 3) = cells.take (i * 3) ++ ys := by
    have e7 : (cs.take (off + i * 3) ++ ys ++ cs.drop (off + i * 3 + ys.length)).take (off + (n - 1) * 3) = cs.take (off + i * 3) ++ ys := by
      rw [List.take_append_of_le_length (by simp only [List.length_append, List.length_take]; omega), List.take_of_length_le (by simp only [List.length_append, List.length_take]; omega)]
    have e8 : (cs.take (off + i * 3)).drop off = cells.take (i * 3) := by
      rw [hcells, List.take_take, List.drop_take]
      congr 1
      omega
    rw [e7, List.append_assoc, List.append_assoc, List.drop_append_of_le_length (by simp only [List.length_take]; omega), e8, ← List.append_assoc, List.take_append_of_le_length (by rw [hcells]; simp only [List.length_append, List.length_take, List.length_drop]; omega), List.take_of_length_le (by rw [hcells]; simp only [List.length_append, List.length_take, List.length_drop]; omega)]
  rw [e6] at h5
  exact ⟨_, _, rfl, h5⟩
end Go.E.Pi
/- The pipe in plain Lean, and how it lies in the heap. -/
namespace Go.E.Pi
open Go Go.E Go.Proofs.Ytgmmkajjigmjoaa Go.Proofs
set_option linter.unusedVariables false
set_option linter.unusedSimpArgs false
set_option maxRecDepth 100000
/-! ### rings -/
def rix (c f i : Nat) : Nat := if f + i < c then f + i else f + i - c
def rot (r : List Int) (f n : Nat) : List Int := (List.range n).map fun i => r.getD (rix r.length f i) 0
@[simp] theorem rot_len (r : List Int) (f n : Nat) : (rot r f n).length = n := by simp [rot]
def splice (r : List Int) (o : Nat) (d : List Int) : List Int := r.take o ++ d ++ r.drop (o + d.length)
theorem splice_len {r d : List Int} {o : Nat} (h : o + d.length ≤ r.length) : (splice r o d).length = r.length := by
  simp only [splice, List.length_append, List.length_take, List.length_drop]; omega
theorem splice_get {r d : List Int} {o : Nat} (h : o + d.length ≤ r.length) (j : Nat) : (splice r o d).getD j 0 = if o ≤ j ∧ j < o + d.length then d.getD (j - o) 0 else r.getD j 0 := by
  simp only [splice, List.getD_eq_getElem?_getD, List.getElem?_append, List.length_append, List.length_take, List.getElem?_take, List.getElem?_drop, Nat.min_eq_left (show o ≤ r.length by omega)]
  by_cases h1 : j < o
  · rw [if_pos (by omega), if_pos h1, if_pos h1, if_neg (by omega)]
  · by_cases h2 : j < o + d.length
    · rw [if_pos h2, if_neg h1, if_pos ⟨by omega, h2⟩]
    · rw [if_neg h2, if_neg (by omega)]
      congr 2
      omega
theorem getD_take {d : List Int} {k j : Nat} (h : j < k) : (d.take k).getD j 0 = d.getD j 0 := by
  simp [List.getD_eq_getElem?_getD, List.getElem?_take, h]
theorem getD_drop {d : List Int} {k j : Nat} : (d.drop k).getD j 0 = d.getD (k + j) 0 := by
  simp [List.getD_eq_getElem?_getD, List.getElem?_drop]
theorem rot_get {r : List Int} {f n i : Nat} (h : i < n) : (rot r f n).getD i 0 = r.getD (rix r.length f i) 0 := by
  simp [rot, List.getD_eq_getElem?_getD, List.getElem?_map, List.getElem?_range h]
theorem list_eq {a b : List Int} (hl : a.length = b.length) (h : ∀ i, i < a.length → a.getD i 0 = b.getD i 0) : a = b := by
  apply List.ext_getElem hl
  intro i h1 h2
  have := h i h1
  simpa [List.getD_eq_getElem?_getD, h1, h2] using this
theorem getD_app {a b : List Int} {i : Nat} : (a ++ b).getD i 0 = if i < a.length then a.getD i 0 else b.getD (i - a.length) 0 := by
  simp only [List.getD_eq_getElem?_getD, List.getElem?_append]
  split <;> rfl

/-- what put leaves: the bytes behind those that were there -/
theorem rot_put {r d : List Int} {f n at_ k : Nat} (hf : f < r.length) (hn : n + d.length ≤ r.length) (ha : at_ = rix r.length f n) (ha2 : at_ < r.length) (hk : k = min d.length (r.length - at_)) :
    (splice (splice r at_ (d.take k)) 0 (d.drop k)).length = r.length ∧ rot (splice (splice r at_ (d.take k)) 0 (d.drop k)) f (n + d.length) = rot r f n ++ d := by
  have h1 : at_ + (d.take k).length ≤ r.length := by simp only [List.length_take]; omega
  have l1 := splice_len h1
  have h2 : 0 + (d.drop k).length ≤ (splice r at_ (d.take k)).length := by rw [l1]; simp only [List.length_drop]; omega
  have l2 := splice_len h2
  refine ⟨by rw [l2, l1], list_eq (by simp) fun i hi => ?_⟩
  rw [rot_len] at hi
  rw [rot_get hi, getD_app, rot_len, l2, l1, splice_get h2, splice_get h1]
  simp only [List.length_take, List.length_drop]
  unfold rix at *
  by_cases hin : i < n
  · rw [if_pos hin, rot_get hin]
    unfold rix
    split at ha <;> split <;> (rw [if_neg (by omega), if_neg (by omega)])
  · rw [if_neg hin]
    by_cases hw : f + i < r.length
    · rw [if_pos hw]
      split at ha
      · rw [if_neg (by omega), if_pos (by omega), getD_take (by omega)]
        congr 1
        omega
      · omega
    · rw [if_neg hw]
      split at ha
      · rw [if_pos (by omega), getD_drop]
        congr 1
        omega
      · rw [if_neg (by omega), if_pos (by omega), getD_take (by omega)]
        congr 1
        omega

theorem rot_take {r z : List Int} {f m k : Nat} (hf : f < r.length) (hm : m ≤ r.length) (hz : z.length = m) (hk : k = min (r.length - f) m) :
    splice (splice z 0 ((r.drop f).take k)) k (r.take (m - k)) = rot r f m := by
  have h1 : 0 + ((r.drop f).take k).length ≤ z.length := by simp only [List.length_take, List.length_drop]; omega
  have l1 := splice_len h1
  have h2 : k + (r.take (m - k)).length ≤ (splice z 0 ((r.drop f).take k)).length := by rw [l1]; simp only [List.length_take]; omega
  have l2 := splice_len h2
  refine list_eq (by rw [l2, l1, hz, rot_len]) fun i hi => ?_
  rw [l2, l1, hz] at hi
  rw [rot_get hi, splice_get h2, splice_get h1]
  simp only [List.length_take, List.length_drop]
  unfold rix
  by_cases hw : f + i < r.length
  · rw [if_pos hw, if_neg (by omega), if_pos (by omega), getD_take (by omega), getD_drop]
    congr 1
  · rw [if_neg hw, if_pos (by omega), getD_take (by omega)]
    congr 1
    omega
theorem rot_left {r : List Int} {f n m : Nat} (hf : f < r.length) (hm : m ≤ n) (hn : n ≤ r.length) : rot r f m = (rot r f n).take m ∧ rot r (rix r.length f m) (n - m) = (rot r f n).drop m := by
  constructor
  · refine list_eq (by simp; omega) fun i hi => ?_
    rw [rot_len] at hi
    rw [getD_take hi, rot_get hi, rot_get (by omega)]
  · refine list_eq (by simp) fun i hi => ?_
    rw [rot_len] at hi
    rw [getD_drop, rot_get hi, rot_get (by omega)]
    congr 1
    unfold rix
    split <;> split <;> split <;> omega

/-! ### the plain pipe -/
structure Wr where
  thread : Int
  data : List Int
  done : Nat
structure EndM where
  thread : Int
  data : List Int
  count : Int
  err : Int
structure PP where
  cap : Nat
  atomic : Int
  buf : List Int
  o0 : Int
  o1 : Int
  readers : List (Int × Int)
  writers : List Wr

def rdC (x : Int × Int) : List Value := [.int .i64 x.1, .int .i64 x.2]
def wrA (w : Wr) (cs : List Value) : Asn := exA fun vd => seps [sl 1 vd (u8s w.data), pur (cs = [.int .i64 w.thread, vd, .int .i64 w.done])]
def endA (e : EndM) (cs : List Value) : Asn := exA fun vd => seps [sl 1 vd (u8s e.data), pur (cs = [.int .i64 e.thread, vd, .int .i64 e.count, .int .i64 e.err])]
def ringC (rb c f n : Nat) : List Value := [.slice (some ⟨rb, 0, none⟩) c c, .int .i64 f, .int .i64 n]
structure RingOk (s : PP) (r : List Int) (f : Nat) : Prop where
  len : r.length = s.cap
  lt : f < s.cap
  buf : s.buf = rot r f s.buf.length
  le : s.buf.length ≤ s.cap
def pipeC (s : PP) (rb f : Nat) (vr vw : Value) : List Value := ringC rb s.cap f s.buf.length ++ [.int .i64 s.atomic, .int .i64 s.o0, .int .i64 s.o1, vr, vw]
def repP (p : Nat) (s : PP) : Asn := exA fun (x : Nat × Value × Value × List Int × Nat) =>
  seps [pto p (.cells (pipeC s x.1 x.2.2.2.2 x.2.1 x.2.2.1) 0 false), pto x.1 (.cells (u8s x.2.2.2.1) 1 false), sl 2 x.2.1 (s.readers.flatMap rdC), arr 3 wrA x.2.2.1 s.writers, pur (RingOk s x.2.2.2.1 x.2.2.2.2)]

section
variable {B H : AHeap} {As : List Asn} {p : Nat} {s : PP}
theorem openP (h : S B H (repP p s :: As)) : ∃ rb vr vw r f, RingOk s r f ∧ S B H (pto p (.cells (pipeC s rb f vr vw) 0 false) :: pto rb (.cells (u8s r) 1 false) :: sl 2 vr (s.readers.flatMap rdC) :: arr 3 wrA vw s.writers :: As) := by
  obtain ⟨⟨rb, vr, vw, r, f⟩, h⟩ := S.unex h
  have h := S.up4 (S.unseps h)
  obtain ⟨h1, h2⟩ := S.unpur h
  exact ⟨rb, vr, vw, r, f, h1, h2⟩
theorem closeP {rb f : Nat} {vr vw : Value} {r : List Int} (h1 : RingOk s r f) (h : S B H (pto p (.cells (pipeC s rb f vr vw) 0 false) :: pto rb (.cells (u8s r) 1 false) :: sl 2 vr (s.readers.flatMap rdC) :: arr 3 wrA vw s.writers :: As)) : S B H (repP p s :: As) :=
  S.exI (X := Nat × Value × Value × List Int × Nat) (rb, vr, vw, r, f) (S.seps (S.dn4 (S.pur h1 h)))
theorem rdC_len (l : List (Int × Int)) : (l.flatMap rdC).length = l.length * 2 := by
  induction l with
  | nil => rfl
  | cons a l ih => simp only [List.flatMap_cons, List.length_append, ih, List.length_cons, rdC, List.length_nil]; omega
theorem rdC_one (l : List (Int × Int)) : (l.flatMap rdC).all (·.oneCell') = true := by
  rw [List.all_eq_true]
  intro v hv
  simp only [List.mem_flatMap, rdC, List.mem_cons, List.not_mem_nil, or_false] at hv
  obtain ⟨x, _, rfl | rfl⟩ := hv <;> rfl
theorem shapeR {v : Value} {l : List (Int × Int)} (h : S B H (sl 2 v (l.flatMap rdC) :: As)) : ∃ a c, v = .slice a l.length c ∧ l.length ≤ c := by
  obtain ⟨a, n, c, rfl, e⟩ := h.shape
  rw [rdC_len] at e
  have := S.len_le h
  obtain rfl : n = l.length := by omega
  exact ⟨a, c, rfl, this⟩
end
end Go.E.Pi
