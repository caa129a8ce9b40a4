/- Streams: bytes that are cloned and compared; ports. -/
import Derived.Test.YtamcfhhcmjagnaaStCode
import Derived.Test.YtamcfhhcmjagnaaEhZk
namespace Go.E.St
open Go Go.E Go.Proofs.Ytamcfhhcmjagnaa Go.Proofs
set_option linter.unusedVariables false
set_option linter.unusedSimpArgs false
set_option maxRecDepth 100000
theorem L45 {B H : AHeap} {As : List Asn} {v : Value} {d : List Int} (hd : RD B As 1 v (u8s d)) (hS : S B H As) (hl : d.length ≤ 1000000) : wpF C 45 [v] H fun v' H' => S B H' (sl 1 v' (u8s d) :: As) := by
  obtain ⟨a, c, rfl⟩ := hd.u1 hS
  obtain ⟨r, hr, _⟩ := hd H hS
  refine wpF_ofW o45 rfl rfl ?_
  cases a with
  | none =>
    have hd0 : d = [] := by
      generalize hx : u8s d = xs at hr
      generalize hn : d.length = n at hr
      cases hr
      simpa [u8s] using hx
    subst hd0
    refine zsr ?_; refine zw1 ?_; refine zns ?_; refine wp_seq ?_; refine zsr ?_; refine zw1 ?_; refine wpO_cons ?_; refine op1_bin_true rfl (by (conv => lhs; whnf) <;> rfl) (by (conv => lhs; whnf) <;> rfl) rfl ?_; refine zns ?_; refine wp_true rfl ?_; refine zsr ?_; refine zw1 ?_; refine zns ?_; refine wp_ret ?_; refine seq_ret ?_; refine ret_of ?_; refine zr ?_; refine rk_nil ?_
    exact hS.slNil
  | some a =>
    refine zsr ?_; refine zw1 ?_; refine zns ?_; refine wp_seq ?_; refine zsr ?_; refine zw1 ?_; refine wpO_cons ?_; refine op1_bin_false rfl (by (conv => lhs; whnf) <;> rfl) (by (conv => lhs; whnf) <;> rfl) rfl ?_; refine zns ?_; refine wp_false rfl ?_; refine wp_skip ?_; refine seq_normal ?_; refine zsr ?_; refine wpO_cons ?_; refine op1_bsliceS rfl hS ?_; refine bk_nil ?_; intro p1 H1 hS; refine zw1 ?_; refine wpO_cons ?_
    replace hS := S.slNew (l := 0) (es := 1) hS rfl
    obtain ⟨r2, hr2, _⟩ := hd _ hS.drop
    refine op1_appRS rfl rfl (by (conv => lhs; whnf) <;> rfl) rfl hr2 (by simp) (u8s_one _) hS (by omega) ?_
    rw [List.nil_append, Nat.zero_add]
    intro a1 c1 H2 hS
    refine zw1 ?_; refine zns ?_; refine wp_ret ?_; refine ret_of ?_; refine zr ?_; refine rk_nil ?_
    exact hS
theorem u8s_get {l : List Int} {i : Nat} {v : Value} (h : (u8s l)[i]? = some v) : ∃ x, l[i]? = some x ∧ v = .int .u8 x := by
  unfold u8s at h
  rw [List.getElem?_map, Option.map_eq_some_iff] at h
  obtain ⟨x, hx, rfl⟩ := h
  exact ⟨x, hx, rfl⟩
theorem L22 {H : AHeap} {u v : Value} {l m : List Int} {r s : List Nat} (hd : RdS H 1 u (u8s l) r) (hl : l.length ≤ 1000000) (he : RdS H 1 v (u8s m) s) (hm : m.length ≤ 1000000) : wpF C 22 [u, v] H fun w H' => w = .bool (decide (l = m)) ∧ H = H' := by
  obtain ⟨a, c, rfl⟩ := hd.shape1
  obtain ⟨b, d, rfl⟩ := he.shape1
  rw [u8s_length] at hd he ⊢
  rw [u8s_length]
  refine wpF_ofW o22 rfl rfl ?_
  refine zsr ?_; refine zw1 ?_; refine zns ?_; refine wp_seq ?_; refine zsr ?_; refine zw1 ?_; refine wpO_cons ?_; refine op1_len rfl rfl ?_; refine zw1 ?_; refine wpO_cons ?_; refine op1_len rfl rfl ?_; refine wpO_cons ?_; refine op1_neqI rfl rfl rfl ?_; refine zns ?_
  refine wp_ndec rfl (fun hne => ?_) (fun hne => ?_)
  · refine zsr ?_; refine zw1 ?_; refine zns ?_; refine wp_ret ?_; refine seq_ret ?_; refine ret_of ?_; refine zr ?_; refine rk_nil ?_
    refine ⟨?_, rfl⟩
    rw [decide_eq_false (fun h => hne (by rw [h]))]; rfl
  refine wp_skip ?_; refine seq_normal ?_; refine wp_seq ?_; refine zsr ?_; refine zw1 ?_; refine wpO_cons ?_; refine op1_len rfl rfl ?_; refine zw1 ?_; refine zns ?_; refine wp_block ?_
  have hlm : l.length = m.length := by omega
  refine wp_loop [13] (fun k vs H' => ∃ i : Nat, vs = [.int .i64 i] ∧ k = l.length - i ∧ i ≤ l.length ∧ H = H' ∧ l.take i = m.take i) ⟨_, 0, rfl, rfl, by omega, rfl, by simp⟩ ?_
  rintro k vs T' H1 ⟨i, rfl, rfl, hi, rfl, hno⟩
  refine zsr ?_; refine wpO_cons ?_; refine op1_lss rfl rfl rfl ?_; refine zns ?_; refine wp_seq ?_
  refine wp_dec rfl (fun hc => ?_) (fun hc => ?_)
  · obtain ⟨b1, off1, cs1, e1, ro1, v1, rfl, _, hg1, hv1, hx1⟩ := hd.at1 (i := i) (by omega)
    obtain ⟨x, hx, rfl⟩ := u8s_get hx1
    obtain ⟨b2, off2, cs2, e2, ro2, v2, rfl, _, hg2, hv2, hx2⟩ := he.at1 (i := i) (by omega)
    obtain ⟨y, hy, rfl⟩ := u8s_get hx2
    refine wp_skip ?_; refine seq_normal ?_; refine wp_seq ?_; refine wp_block ?_; refine zsr ?_; refine zw1 ?_; refine zw1 ?_; refine zns ?_; refine wp_seq ?_; refine wp_regionD ?_; refine zd1 ?_; refine zd1 ?_; refine wpD_cons ?_; refine op1_iaddr rfl rfl rfl (by omega) (by omega) ?_; refine wpD_cons ?_
    refine op1_load rfl rfl hg1 hv1 ?_
    refine zd1 ?_; refine zd1 ?_; refine wpD_cons ?_; refine op1_iaddr rfl rfl rfl (by omega) (by omega) ?_; refine wpD_cons ?_
    refine op1_load rfl rfl hg2 hv2 ?_
    refine wpD_cons ?_; refine op1_neqI rfl rfl rfl ?_; refine wpD_nil ?_; refine dk_of ?_ ?_; (iterate 3 refine chk_skip ?_); refine zx 6 ?_ ?_; refine zy 0 ?_ ?_
    · exact chk_load rfl hg1 hv1 rfl
    exact chkFs_nil; (iterate 3 refine chk_skip ?_); refine zx 2 ?_ ?_; refine zy 0 ?_ ?_
    · exact chk_load rfl hg2 hv2 rfl
    exact chkFs_nil; refine chk_skip ?_; exact chk_end; refine seq_normal ?_
    refine wp_ndec rfl (fun hxy => ?_) (fun hxy => ?_)
    · refine zsr ?_; refine zw1 ?_; refine zns ?_; refine wp_ret ?_; refine block_ret ?_; refine seq_ret ?_; refine iter_ret ?_; refine block_ret ?_; refine seq_ret ?_; refine ret_of ?_; refine zr ?_; refine rk_nil ?_
      refine ⟨?_, rfl⟩
      rw [decide_eq_false (fun h => hxy ?_)]; rfl
      rw [h, hy] at hx
      exact (Option.some.inj hx).symm
    · refine wp_skip ?_; refine block_normal ?_; refine seq_normal ?_; refine wp_region ?_; refine wpO_cons ?_; refine op1_add rfl rfl rfl (by exact wrap_i64 (by omega) (by omega)) ?_; refine zw1 ?_; refine wpO_nil ?_
      refine ⟨l.length - (i + 1), by omega, i + 1, rfl, rfl, by omega, rfl, ?_⟩
      rw [List.take_add_one, List.take_add_one, hx, hy, hno, hxy]
  · refine wp_exit ?_; refine seq_exit ?_; refine iter_exit ?_; refine block_exit ?_; refine seq_normal ?_; refine zsr ?_; refine zw1 ?_; refine zns ?_; refine wp_ret ?_; refine ret_of ?_; refine zr ?_; refine rk_nil ?_
    rw [List.take_of_length_le (by omega), List.take_of_length_le (by omega)] at hno
    exact ⟨by rw [decide_eq_true hno]; rfl, rfl⟩
/-! ### ports -/
def PoOk (n l : Int) : Prop := (0 ≤ n ∧ n ≤ 65535) ∧ 1 ≤ l ∧ l ≤ 100
instance (n l : Int) : Decidable (PoOk n l) := by unfold PoOk; infer_instance
end Go.E.St
/- Deleting a part of a slice. -/
namespace Go.E.St
open Go Go.E Go.Proofs.Ytamcfhhcmjagnaa Go.Proofs
set_option linter.unusedVariables false
set_option linter.unusedSimpArgs false
set_option maxRecDepth 100000
theorem zeroOf_len' (z : List Value) (n : Nat) : (zeroOf z n).length = n * z.length := by
  unfold zeroOf
  induction n with
  | zero => simp
  | succ n ih => rw [List.replicate_succ, List.flatten_cons, List.length_append, ih, Nat.add_mul, Nat.one_mul, Nat.add_comm]
theorem zeroOf_one {z : List Value} (h : z.all (·.oneCell') = true) (n : Nat) : (zeroOf z n).all (·.oneCell') = true := by
  unfold zeroOf
  induction n with
  | zero => rfl
  | succ n ih => rw [List.replicate_succ, List.flatten_cons, List.all_append, ih, h]; rfl
theorem L67 {B H : AHeap} {As : List Asn} {a : Option Addr} {n c : Nat} {cells : List Value} (i j : Nat) (hS : S B H (sl 1 (.slice a n c) cells :: As)) (h1 : cells.all (·.oneCell') = true) (hij : i ≤ j) (hj : j ≤ n) (hn2 : n ≤ 1000000) :
    wpF C 67 [.slice a n c, .int .i64 i, .int .i64 j] H fun v H' => ∃ a' c', v = .slice a' (n - (j - i)) c' ∧ S B H' (sl 1 (.slice a' (n - (j - i)) c') (cells.take (i * 1) ++ cells.drop (j * 1)) :: As) := by
  have h0S := hS
  obtain ⟨r0, hr0, _⟩ := hS.rd
  by_cases hn0 : n = 0
  · subst hn0
    obtain rfl : j = 0 := by omega
    obtain rfl : i = 0 := by omega
    have hce := hr0.le_cap
    have hb0 : sliceBnds 0 c (some (.int .i64 ((0 : Nat) : Int))) (some (.int .i64 ((0 : Nat) : Int))) (some (.int .i64 ((0 : Nat) : Int))) = some (0, 0, 0) := by
      simp [sliceBnds, bnd]
    refine wpF_ofW o67 rfl rfl ?_
    refine zsr ?_; refine zw1 ?_; refine zns ?_; refine zsr ?_; (iterate 4 refine zw1 ?_); refine wpO_cons ?_; refine op1_len rfl rfl ?_; refine wpO_cons ?_
    have hend : ∀ H' : AHeap, H = H' → ∃ a' c', resultV [.slice a 0 c] = .slice a' (0 - (0 - 0)) c' ∧ S B H' (sl 1 (.slice a' (0 - (0 - 0)) c') (cells.take (0 * 1) ++ cells.drop (0 * 1)) :: As) := by
      rintro _ rfl
      refine ⟨a, c, rfl, ?_⟩
      rw [Nat.zero_mul, List.take_zero, List.drop_zero, List.nil_append]
      exact h0S
    cases hr0 with
    | nil =>
      refine op1_sliceNil rfl rfl hb0 ?_
      refine zns ?_; refine wp_seq ?_; refine zsr ?_; refine zw1 ?_; refine zw1 ?_; refine wpO_cons ?_; refine op1_eqlI_s rfl rfl rfl ?_; refine zns ?_; refine wp_true rfl ?_; refine zsr ?_; refine zw1 ?_; refine zw1 ?_; refine zns ?_; refine wp_ret ?_; refine seq_ret ?_; refine ret_of ?_; refine zr ?_; refine rk_nil ?_
      exact hend _ rfl
    | empty a =>
      refine op1_slice0 rfl rfl hb0 ?_
      refine zns ?_; refine wp_seq ?_; refine zsr ?_; refine zw1 ?_; refine zw1 ?_; refine wpO_cons ?_; refine op1_eqlI_s rfl rfl rfl ?_; refine zns ?_; refine wp_true rfl ?_; refine zsr ?_; refine zw1 ?_; refine zw1 ?_; refine zns ?_; refine wp_ret ?_; refine seq_ret ?_; refine ret_of ?_; refine zr ?_; refine rk_nil ?_
      exact hend _ rfl
    | @blk b off l c cs e ro hg hc he hl =>
      by_cases hc0 : c = 0
      · subst hc0
        refine op1_slice0 rfl rfl hb0 ?_
        refine zns ?_; refine wp_seq ?_; refine zsr ?_; refine zw1 ?_; refine zw1 ?_; refine wpO_cons ?_; refine op1_eqlI_s rfl rfl rfl ?_; refine zns ?_; refine wp_true rfl ?_; refine zsr ?_; refine zw1 ?_; refine zw1 ?_; refine zns ?_; refine wp_ret ?_; refine seq_ret ?_; refine ret_of ?_; refine zr ?_; refine rk_nil ?_
        exact hend _ rfl
      · refine op1_slice rfl rfl hc0 hb0 hg he ?_
        refine zns ?_; refine wp_seq ?_; refine zsr ?_; refine zw1 ?_; refine zw1 ?_; refine wpO_cons ?_; refine op1_eqlI_s rfl rfl rfl ?_; refine zns ?_; refine wp_true rfl ?_; refine zsr ?_; refine zw1 ?_; refine zw1 ?_; refine zns ?_; refine wp_ret ?_; refine seq_ret ?_; refine ret_of ?_; refine zr ?_; refine rk_nil ?_
        exact hend _ rfl
  clear hr0
  obtain ⟨b, off, cs, rfl, hc, hl, hcells, hS⟩ := hS.slBlk hn0
  have hg := hS.get
  have hb0 : sliceBnds n c (some (.int .i64 i)) (some (.int .i64 j)) (some (.int .i64 n)) = some (i, j, n) := by
    have e1 : (0 : Int) ≤ n ∧ (n : Int) ≤ c := by omega
    have e2 : (0 : Int) ≤ (j : Int) ∧ (j : Int) ≤ n := by omega
    have e4 : (0 : Int) ≤ i ∧ (i : Int) ≤ j := by omega
    simp only [sliceBnds, bnd, Option.bind_some]
    rw [if_pos e1, Option.bind_some, Int.toNat_natCast, if_pos e2, Option.bind_some, Int.toNat_natCast, if_pos e4]
    rfl
  refine wpF_ofW o67 rfl rfl ?_
  refine zsr ?_; refine zw1 ?_; refine zns ?_; refine zsr ?_; (iterate 4 refine zw1 ?_); refine wpO_cons ?_; refine op1_len rfl rfl ?_; refine wpO_cons ?_
  refine op1_slice rfl rfl (by omega) hb0 hg (.inr rfl) ?_
  refine zns ?_; refine wp_seq ?_; refine zsr ?_; refine zw1 ?_; refine zw1 ?_; refine wpO_cons ?_; refine op1_eqlI rfl rfl rfl ?_; refine zns ?_
  refine wp_dec rfl (fun hq => ?_) (fun hq => ?_)
  · obtain rfl : i = j := by omega
    refine zsr ?_; refine zw1 ?_; refine zw1 ?_; refine zns ?_; refine wp_ret ?_; refine seq_ret ?_; refine ret_of ?_; refine zr ?_; refine rk_nil ?_
    refine ⟨_, c, by rw [Nat.sub_self, Nat.sub_zero]; rfl, ?_⟩
    rw [Nat.sub_self, Nat.sub_zero, List.take_append_drop]
    exact h0S
  have hij2 : i < j := by omega
  refine wp_skip ?_; refine seq_normal ?_; refine zsr ?_; refine zw1 ?_; refine wpO_cons ?_; refine op1_len rfl rfl ?_; refine zw1 ?_; refine zns ?_; refine wp_seq ?_; refine wp_regionD ?_; refine zd1 ?_; refine zd1 ?_; refine wpD_cons ?_
  refine op1_slice rfl rfl (by omega) (bnds_hi (i := .i64) (n := (i : Int)) (by omega) (by omega)) hg (.inr rfl) ?_
  rw [Int.toNat_natCast]
  refine zd1 ?_; refine zd1 ?_; refine wpD_cons ?_
  refine op1_slice rfl rfl (by omega) (bnds_lo (i := .i64) (n := (j : Int)) (by omega) (by omega) hl) hg (.inr rfl) ?_
  rw [Int.toNat_natCast]
  refine wpD_cons ?_
  have hmj : i * 1 ≤ j * 1 := Nat.mul_le_mul_right _ hij
  have hmn : j * 1 ≤ n * 1 := Nat.mul_le_mul_right _ hj
  have hmc : n * 1 ≤ c * 1 := Nat.mul_le_mul_right _ hl
  have hyl : (cells.drop (j * 1)).length = (n - j) * 1 := by
    rw [hcells, List.length_drop, List.length_take, List.length_drop, Nat.sub_mul]; omega
  have hrd : RdS H 1 (.slice (some ⟨b, off + j * 1, none⟩) (n - j) (c - j)) (cells.drop (j * 1)) [b] := by
    have hys : cells.drop (j * 1) = (cs.drop (off + j * 1)).take ((n - j) * 1) := by
      rw [hcells, List.drop_take, List.drop_drop, Nat.sub_mul]
    rw [hys]
    exact .blk (l := n - j) (off := off + j * 1) hg (by rw [Nat.sub_mul]; omega) (.inr rfl) (by omega)
  have hy1 : (cells.drop (j * 1)).all (·.oneCell') = true := by
    rw [List.all_eq_true] at h1 ⊢
    exact fun v hv => h1 v (List.mem_of_mem_drop hv)
  generalize hYS : cells.drop (j * 1) = ys at *
  obtain ⟨H2, he, hg2, hk2, hn2'⟩ := append_inE (off := off) (l := i) (c := c) (k := n - j) (w := .slice (some ⟨b, off + j * 1, none⟩) (n - j) (c - j)) hg (by omega) rfl (by rw [hrd.src (by omega) (k := n - j) (by omega), List.take_of_length_le (by omega)]) hyl hy1 (by rw [hyl, Nat.sub_mul]; omega)
  have e0 : off + 0 * 1 = off := by omega
  have e1 : i + (n - j) = n - (j - i) := by omega
  rw [e1] at he
  refine op1_append (u := .slice (some ⟨b, off, none⟩) i c) rfl (by (conv => lhs; whnf); simp [e0]) (by (conv => lhs; whnf) <;> rfl) he ?_
  refine zd1 ?_; refine wpD_nil ?_; refine dk_of ?_ ?_; (iterate 2 refine chk_skip ?_); refine zx 6 ?_ ?_; refine zy 2 ?_ ?_
  · refine chk_slice (l := n) (c := c) rfl (by omega) (bnds_hi (i := .i64) (n := (i : Int)) (by omega) (by omega)) hg (.inr rfl) ?_
    rw [Int.toNat_natCast]
    rfl
  exact chkFs_nil; (iterate 2 refine chk_skip ?_); refine zx 3 ?_ ?_; refine zy 2 ?_ ?_
  · refine chk_slice (l := n) (c := c) rfl (by omega) (bnds_lo (i := .i64) (n := (j : Int)) (by omega) (by omega) hl) hg (.inr rfl) ?_
    rw [Int.toNat_natCast]
    rfl
  exact chkFs_nil; (iterate 2 refine chk_skip ?_); exact chk_end; refine seq_normal ?_; refine zsr ?_; refine zw1 ?_; refine zw1 ?_; refine wpO_cons ?_; refine op1_len rfl rfl ?_; refine zw1 ?_; refine wpO_cons ?_
  refine op1_slice (c := c) rfl rfl (by omega) (bnds_both (i := .i64) (j := .i64) (l := n - (j - i)) (c := c) (n := ((n - (j - i) : Nat) : Int)) (m := (n : Int)) (by omega) (by omega) (by omega)) hg2 (.inr rfl) ?_
  have e2 : Int.toNat ↑n - (((n - (j - i) : Nat) : Int)).toNat = j - i := by simp only [Int.toNat_natCast]; omega
  rw [e2]
  simp only [Int.toNat_natCast]
  refine wpO_cons ?_
  have hm2 : (n - (j - i)) * 1 = i * 1 + (n - j) * 1 := by rw [← Nat.add_mul]; congr 1; omega
  have hm3 : (j - i) * 1 + i * 1 = j * 1 := by rw [← Nat.add_mul]; congr 1; omega
  have hm4 : (n - j) * 1 + j * 1 = n * 1 := by rw [← Nat.add_mul]; congr 1; omega
  have hl2 : (cs.take (off + i * 1) ++ ys ++ cs.drop (off + i * 1 + ys.length)).length = cs.length := by
    simp only [List.length_append, List.length_take, List.length_drop]; omega
  have hz : (zeroOf [.int .u8 0] (j - i)).length = (j - i) * 1 := zeroOf_len' _ _
  refine op1_clearU rfl rfl (by omega) hg2 (by rw [hl2, hz]; omega) (zeroOf_one rfl _) ?_
  refine zns ?_; refine zsr ?_; refine zw1 ?_; refine zw1 ?_; refine zns ?_; refine wp_ret ?_; refine ret_of ?_; refine zr ?_; refine rk_nil ?_
  have hS3 := (hS.step hg2 hk2 hn2').set (.cells ((cs.take (off + i * 1) ++ ys ++ cs.drop (off + i * 1 + ys.length)).take (off + (n - (j - i)) * 1) ++ zeroOf [.int .u8 0] (j - i) ++ (cs.take (off + i * 1) ++ ys ++ cs.drop (off + i * 1 + ys.length)).drop (off + (n - (j - i)) * 1 + (zeroOf [.int .u8 0] (j - i)).length)) 1 false)
  have h5 := hS3.slOf (off := off) (l := n - (j - i)) (c := c) (by
    simp only [List.length_append, List.length_take, List.length_drop, hz]; omega) (by omega)
  have e6 : (((cs.take (off + i * 1) ++ ys ++ cs.drop (off + i * 1 + ys.length)).take (off + (n - (j - i)) * 1) ++ zeroOf [.int .u8 0] (j - i) ++ (cs.take (off + i * 1) ++ ys ++ cs.drop (off + i * 1 + ys.length)).drop (off + (n - (j - i)) * 1 + (zeroOf [.int .u8 0] (j - i)).length)).drop off).take ((n - (j - i)) * 1) = cells.take (i * 1) ++ ys := by
    have e7 : (cs.take (off + i * 1) ++ ys ++ cs.drop (off + i * 1 + ys.length)).take (off + (n - (j - i)) * 1) = cs.take (off + i * 1) ++ ys := by
      rw [List.take_append_of_le_length (by simp only [List.length_append, List.length_take]; omega), List.take_of_length_le (by simp only [List.length_append, List.length_take]; omega)]
    have e8 : (cs.take (off + i * 1)).drop off = cells.take (i * 1) := by
      rw [hcells, List.take_take, List.drop_take]
      congr 1
      omega
    rw [e7, List.append_assoc, List.append_assoc, List.drop_append_of_le_length (by simp only [List.length_take]; omega), e8, ← List.append_assoc, List.take_append_of_le_length (by rw [hcells]; simp only [List.length_append, List.length_take, List.length_drop]; omega), List.take_of_length_le (by rw [hcells]; simp only [List.length_append, List.length_take, List.length_drop]; omega)]
  rw [e6] at h5
  exact ⟨_, _, rfl, h5⟩
end Go.E.St
