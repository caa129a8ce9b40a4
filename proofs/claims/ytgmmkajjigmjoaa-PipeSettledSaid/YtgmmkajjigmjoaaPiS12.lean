/- Sorting whole numbers: what it leaves is what was there, in another order. -/
import Derived.Test.YtgmmkajjigmjoaaPiPlA
import Derived.Test.YtgmmkajjigmjoaaPiCode3
import Derived.Test.YtgmmkajjigmjoaaEngZi
namespace Go.E.Pi
open Go Go.E Go.Proofs.Ytgmmkajjigmjoaa Go.Proofs
set_option linter.unusedVariables false
set_option linter.unusedSimpArgs false
set_option maxRecDepth 100000
theorem i64s_at {l : List Int} {i : Nat} {x : Int} (h : l[i]? = some x) : (i64s l)[i * 1]? = some (.int .i64 x) := by
  rw [Nat.mul_one]; simp [i64s, h]
theorem i64s_set (l : List Int) (i : Nat) (x : Int) : (i64s l).set (i * 1) (.int .i64 x) = i64s (l.set i x) := by
  rw [Nat.mul_one]; simp [i64s, List.map_set]
theorem swap_perm {l : List Int} {i j : Nat} {x y : Int} (hi : l[i]? = some x) (hj : l[j]? = some y) : ((l.set i y).set j x).Perm l := by
  obtain ⟨h1, e1⟩ := List.getElem?_eq_some_iff.1 hi
  obtain ⟨h2, e2⟩ := List.getElem?_eq_some_iff.1 hj
  have := List.set_set_perm h1 h2
  rwa [e1, e2] at this
theorem L81 {H : AHeap} {x y : Int} : wpF C 81 [.int .i64 x, .int .i64 y] H fun v H' => v = .bool (decide (x < y)) ∧ H = H' := by
  have h93 : ∀ z, wpF C 93 [.int .i64 z] H fun v H' => v = .bool false ∧ H = H' := by
    intro z
    refine wpF_ofW o93 rfl rfl ?_
    refine zsr ?_; refine zw1 ?_; refine zns ?_; refine zsr ?_; refine zw1 ?_; refine zw1 ?_; refine wpO_cons ?_; refine op1_neqI_s rfl rfl rfl ?_; refine zw1 ?_; refine zns ?_; refine wp_ret ?_; refine ret_of ?_; refine rk_tmp (by (conv => lhs; whnf) <;> rfl) ?_; refine rk_nil ?_
    exact ⟨by simp [resultV], rfl⟩
  refine wpF_ofW o81 rfl rfl ?_
  refine zsr ?_; refine zw1 ?_; refine zns ?_; refine zsr ?_; refine zw1 ?_; refine wpO_cons ?_; refine op1_call1 rfl (by (conv => lhs; whnf) <;> rfl) ?_
  refine wpF_mono (h93 x) ?_
  rintro _ _ ⟨rfl, rfl⟩
  refine zw1 ?_; refine wpO_cons ?_; refine op1_skip rfl ?_; refine wpO_cons ?_; refine op1_skip rfl ?_; refine wpO_cons ?_; refine op1_skip rfl ?_; refine wpO_cons ?_; refine op1_pick_f rfl rfl (by (conv => lhs; whnf) <;> rfl) ?_; refine zw1 ?_; refine zw1 ?_; refine zw1 ?_; refine wpO_cons ?_; refine op1_lss rfl rfl rfl ?_; refine wpO_cons ?_; refine op1_pick_f rfl rfl (by (conv => lhs; whnf) <;> rfl) ?_; refine zw1 ?_; refine zns ?_; refine wp_ret ?_; refine ret_of ?_; refine rk_tmp (by (conv => lhs; whnf) <;> rfl) ?_; refine rk_nil ?_
  exact ⟨rfl, rfl⟩

/-- swapping two places; the heap fact is hS, the places are $1 and $2, their values hx hy -/
theorem L75 {B H : AHeap} {As : List Asn} {b off n c : Nat} {l : List Int} {lo hi : Nat} (hS : S B H (sl 1 (.slice (some ⟨b, off, none⟩) n c) (i64s l) :: As)) (hn : l.length = n) (h1 : lo ≤ hi) (h2 : hi ≤ n) (hb : n ≤ 1000000) :
    wpF C 75 [.slice (some ⟨b, off, none⟩) n c, .int .i64 lo, .int .i64 hi] H fun v H' => ∃ l', l'.Perm l ∧ S B H' (sl 1 (.slice (some ⟨b, off, none⟩) n c) (i64s l') :: As) := by
  refine wpF_ofW o75 rfl rfl ?_
  refine zsr ?_; refine zw1 ?_; refine wpO_cons ?_; refine op1_add rfl rfl rfl (by exact wrap_i64 (by omega) (by omega)) ?_; refine zw1 ?_; refine zns ?_; refine wp_block ?_
  refine wp_loop [6] (fun k vs H' => ∃ (i : Nat) (m : List Int), vs = [.int .i64 i] ∧ i + k = max hi (lo + 1) ∧ lo < i ∧ m.Perm l ∧ S B H' (sl 1 (.slice (some ⟨b, off, none⟩) n c) (i64s m) :: As))
    ⟨max hi (lo + 1) - (lo + 1), lo + 1, l, rfl, by omega, by omega, .refl _, hS⟩ ?_
  clear hS
  rintro k vs T' H1 ⟨i, m, rfl, hk, hlo, hp, hS⟩
  refine wp_seq ?_; refine zsr ?_; refine zw1 ?_; refine zw1 ?_; refine wpO_cons ?_; refine op1_lss rfl rfl rfl ?_; refine zns ?_
  refine wp_dec rfl (fun hc => ?_) (fun hc => ?_)
  · refine wp_skip ?_; refine seq_normal ?_; refine wp_seq ?_; refine wp_block ?_; refine zsr ?_; refine zw1 ?_; refine zw1 ?_; refine zns ?_; refine wp_block ?_
    refine wp_loop [7] (fun k vs H' => ∃ (j : Nat) (m : List Int), vs = [.int .i64 j] ∧ j = lo + k ∧ lo + k < n ∧ m.Perm l ∧ S B H' (sl 1 (.slice (some ⟨b, off, none⟩) n c) (i64s m) :: As))
      ⟨i - lo, i, m, rfl, by omega, by omega, hp, hS⟩ ?_
    clear hS hp
    rintro k2 vs T2 H2 ⟨j, m, rfl, hj, hln, hp, hS⟩
    have hml := hp.length_eq
    refine wp_seq ?_; refine wp_seq ?_; refine wp_regionD ?_; refine zd1 ?_; refine zd1 ?_; refine wpD_cons ?_; refine op1_gtr rfl rfl rfl ?_; refine zd1 ?_; refine wpD_cons ?_
    refine op1_dec rfl (fun hg => ?_) (fun hg => ?_)
    · obtain ⟨j, rfl⟩ : ∃ t, j = t + 1 := ⟨j - 1, by omega⟩
      obtain ⟨x, hx⟩ : ∃ x, m[j + 1]? = some x := ⟨m[j + 1]'(by omega), by simp⟩
      obtain ⟨y, hy⟩ : ∃ y, m[j]? = some y := ⟨m[j]'(by omega), by simp⟩
      have ej : ((j + 1 : Nat) : Int) - 1 = (j : Int) := by omega
      refine op1_mov rfl (by (conv => lhs; whnf) <;> rfl) ?_; refine zd1 ?_; refine wpD_cons ?_; refine op1_iaddr rfl rfl rfl (by omega) (by omega) ?_; refine wpD_cons ?_
      refine op1_loadL rfl rfl hS rfl (by omega) (i64s_at hx) ?_
      refine zd1 ?_; refine zd1 ?_; refine wpD_cons ?_; refine op1_sub rfl rfl rfl (by exact wrap_i64 (by omega) (by omega)) ?_; refine wpD_cons ?_; refine op1_iaddr rfl rfl rfl (by omega) (by omega) ?_; refine wpD_cons ?_
      rw [ej]
      skip
      refine op1_loadL rfl rfl hS rfl (by omega) (i64s_at hy) ?_
      refine wpD_cons ?_; refine op1_call2 rfl (by (conv => lhs; whnf) <;> rfl) (by (conv => lhs; whnf) <;> rfl) ?_
      refine wpF_mono L81 ?_
      rintro _ _ ⟨rfl, rfl⟩
      refine wpD_cons ?_; refine op1_pick_t rfl rfl (by (conv => lhs; whnf) <;> rfl) ?_; refine wpD_nil ?_; refine dk_of ?_ ?_; (iterate 7 refine chk_skip ?_); refine chk_cons 8 rfl rfl rfl ?_ ?_; refine chkFs_cons 2 rfl rfl ?_ ?_
      · exact chk_loadL rfl hS rfl (by omega) (i64s_at hx) rfl
      exact chkFs_nil; (iterate 4 refine chk_skip ?_); refine chk_cons 3 rfl rfl rfl ?_ ?_; refine chkFs_cons 2 rfl rfl ?_ ?_
      · exact chk_loadL rfl hS rfl (by omega) (i64s_at hy) rfl
      exact chkFs_nil; (iterate 2 refine chk_skip ?_); exact chk_end; refine seq_normal ?_
      have hS0 := hS
      refine wp_dec rfl (fun hxy => ?_) (fun hxy => ?_)
      · refine wp_skip ?_; refine seq_normal ?_; refine wp_seq ?_; refine wp_block ?_; refine wp_regionD ?_; (iterate 4 refine zd1 ?_); refine wpD_cons ?_; refine op1_sub rfl rfl rfl (by exact wrap_i64 (by omega) (by omega)) ?_; refine zd1 ?_; refine zd1 ?_; refine wpD_cons ?_; refine op1_sub rfl rfl rfl (by exact wrap_i64 (by omega) (by omega)) ?_; refine wpD_cons ?_; refine op1_iaddr rfl rfl rfl (by omega) (by omega) ?_; refine wpD_cons ?_
        rw [ej]
        skip
        refine op1_loadL rfl rfl hS rfl (by omega) (i64s_at hy) ?_
        refine zd1 ?_; refine zd1 ?_; refine wpD_cons ?_; refine op1_iaddr rfl rfl rfl (by omega) (by omega) ?_; refine wpD_cons ?_
        refine op1_loadL rfl rfl hS rfl (by omega) (i64s_at hx) ?_
        refine wpD_cons ?_; refine op1_iaddr rfl rfl rfl (by omega) (by omega) ?_; refine wpD_cons ?_; (refine op1_store1L rfl rfl (by (conv => lhs; whnf) <;> rfl) rfl rfl (S.up0 hS) (by omega) ?_; intro H3 hS; replace hS := S.dn0 hS); refine wpD_cons ?_; refine op1_iaddr rfl rfl rfl (by omega) (by omega) ?_; refine wpD_cons ?_; (refine op1_store1L rfl rfl (by (conv => lhs; whnf) <;> rfl) rfl rfl (S.up0 hS) (by omega) ?_; intro H4 hS; replace hS := S.dn0 hS); refine wpD_nil ?_; refine dk_of ?_ ?_; (iterate 9 refine chk_skip ?_); refine chk_cons 9 rfl rfl rfl ?_ ?_; refine chkFs_cons 3 rfl rfl ?_ ?_
        · exact chk_loadL rfl hS0 rfl (by omega) (i64s_at hy) rfl
        exact chkFs_nil; (iterate 3 refine chk_skip ?_); refine chk_cons 5 rfl rfl rfl ?_ ?_; refine chkFs_cons 3 rfl rfl ?_ ?_
        · exact chk_loadL rfl hS0 rfl (by omega) (i64s_at hx) rfl
        exact chkFs_nil; (iterate 4 refine chk_skip ?_); exact chk_end; refine block_normal ?_; refine seq_normal ?_; refine wp_region ?_; refine zw1 ?_; refine wpO_cons ?_; refine op1_sub rfl rfl rfl (by exact wrap_i64 (by omega) (by omega)) ?_; refine zw1 ?_; refine wpO_nil ?_
        rw [show ((j + 1 : Nat) : Int).toNat = j + 1 from rfl, show (j : Int).toNat = j from rfl, i64s_set, i64s_set] at hS
        exact ⟨k2 - 1, by omega, j, _, by rw [← ej]; rfl, by omega, by omega, (swap_perm hx hy).trans hp, hS⟩
      · refine wp_exit ?_; refine seq_exit ?_; refine iter_exit ?_; refine block_exit ?_; refine block_normal ?_; refine seq_normal ?_; refine wp_region ?_; refine zw1 ?_; refine wpO_cons ?_; refine op1_add rfl rfl rfl (by exact wrap_i64 (by omega) (by omega)) ?_; refine zw1 ?_; refine wpO_nil ?_
        exact ⟨k - 1, by omega, i + 1, m, rfl, by omega, by omega, hp, hS⟩
    · refine op1_skip rfl ?_; refine wpD_cons ?_; refine op1_skip rfl ?_; refine wpD_cons ?_; refine op1_skip rfl ?_; refine wpD_cons ?_; refine op1_skip rfl ?_; refine wpD_cons ?_; refine op1_skip rfl ?_; refine wpD_cons ?_; refine op1_skip rfl ?_; refine wpD_cons ?_; refine op1_skip rfl ?_; refine wpD_cons ?_; refine op1_skip rfl ?_; refine wpD_cons ?_; refine op1_skip rfl ?_; refine wpD_cons ?_; refine op1_skip rfl ?_; refine wpD_cons ?_; refine op1_pick_f rfl rfl (by (conv => lhs; whnf) <;> rfl) ?_; refine wpD_nil ?_; refine dk_of ?_ ?_; (iterate 7 refine chk_skip ?_); refine chk_unw 8 rfl rfl rfl ?_; (iterate 4 refine chk_skip ?_); refine chk_unw 3 rfl rfl rfl ?_; (iterate 2 refine chk_skip ?_); exact chk_end; refine seq_normal ?_; refine wp_false rfl ?_; refine wp_exit ?_; refine seq_exit ?_; refine iter_exit ?_; refine block_exit ?_; refine block_normal ?_; refine seq_normal ?_; refine wp_region ?_; refine zw1 ?_; refine wpO_cons ?_; refine op1_add rfl rfl rfl (by exact wrap_i64 (by omega) (by omega)) ?_; refine zw1 ?_; refine wpO_nil ?_
      exact ⟨k - 1, by omega, i + 1, m, rfl, by omega, by omega, hp, hS⟩
  · refine wp_exit ?_; refine seq_exit ?_; refine iter_exit ?_; refine block_exit ?_; refine nrm_of ?_; refine rk_nil ?_
    exact ⟨m, hp, hS⟩
end Go.E.Pi
/- Sorting whole numbers: choosing the pivot, turning round. -/
namespace Go.E.Pi
open Go Go.E Go.Proofs.Ytgmmkajjigmjoaa Go.Proofs
set_option linter.unusedVariables false
set_option linter.unusedSimpArgs false
set_option maxRecDepth 100000
section
variable {B H : AHeap} {As : List Asn} {b off n c p : Nat} {l : List Int} {w : Int}
theorem L94 {i j : Nat} (hS : S B H (sl 1 (.slice (some ⟨b, off, none⟩) n c) (i64s l) :: pto p (.cells [.int .i64 w] 0 false) :: As)) (hn : l.length = n) (hi : i < n) (hj : j < n) (hb : n ≤ 1000000) (hw : 0 ≤ w ∧ w ≤ 1000000) :
    wpF C 94 [.slice (some ⟨b, off, none⟩) n c, .int .i64 i, .int .i64 j, .pointer (some ⟨p, 0, none⟩)] H fun v H' => ∃ (i' j' : Nat) (w' : Int), v = .tuple ⟨[.int .i64 i', .int .i64 j']⟩ ∧ (i' = i ∧ j' = j ∨ i' = j ∧ j' = i) ∧ w ≤ w' ∧ w' ≤ w + 1 ∧
      S B H' (sl 1 (.slice (some ⟨b, off, none⟩) n c) (i64s l) :: pto p (.cells [.int .i64 w'] 0 false) :: As) := by
  obtain ⟨x, hx⟩ : ∃ x, l[i]? = some x := ⟨l[i]'(by omega), by simp⟩
  obtain ⟨y, hy⟩ : ∃ y, l[j]? = some y := ⟨l[j]'(by omega), by simp⟩
  refine wpF_ofW o94 rfl rfl ?_
  refine zsr ?_; refine zw1 ?_; refine zw1 ?_; refine zns ?_; refine wp_seq ?_; refine wp_seq ?_; refine wp_regionD ?_; refine zd1 ?_; refine zd1 ?_; refine wpD_cons ?_; refine op1_iaddr rfl rfl rfl (by omega) (by omega) ?_; refine wpD_cons ?_
  refine op1_loadL rfl rfl hS rfl (by omega) (i64s_at hy) ?_
  refine zd1 ?_; refine zd1 ?_; refine wpD_cons ?_; refine op1_iaddr rfl rfl rfl (by omega) (by omega) ?_; refine wpD_cons ?_
  refine op1_loadL rfl rfl hS rfl (by omega) (i64s_at hx) ?_
  refine wpD_cons ?_; refine op1_call2 rfl (by (conv => lhs; whnf) <;> rfl) (by (conv => lhs; whnf) <;> rfl) ?_
  refine wpF_mono L81 ?_
  rintro _ _ ⟨rfl, rfl⟩
  refine wpD_nil ?_; refine dk_of ?_ ?_; (iterate 3 refine chk_skip ?_); refine chk_cons 6 rfl rfl rfl ?_ ?_; refine chkFs_cons 1 rfl rfl ?_ ?_
  · exact chk_loadL rfl hS rfl (by omega) (i64s_at hy) rfl
  exact chkFs_nil; (iterate 3 refine chk_skip ?_); refine chk_cons 2 rfl rfl rfl ?_ ?_; refine chkFs_cons 1 rfl rfl ?_ ?_
  · exact chk_loadL rfl hS rfl (by omega) (i64s_at hx) rfl
  exact chkFs_nil; refine chk_skip ?_; exact chk_end; refine seq_normal ?_
  refine wp_dec rfl (fun h => ?_) (fun h => ?_)
  · refine zsr ?_; refine zw1 ?_; refine wpO_cons ?_; refine op1_nilchk rfl rfl ?_; refine wpO_cons ?_; refine op1_load rfl rfl (by exact S.g1 hS) rfl ?_; refine wpO_cons ?_; refine op1_add rfl rfl rfl (by exact wrap_i64 (by omega) (by omega)) ?_; refine wpO_cons ?_; refine op1_nilchk rfl rfl ?_; refine wpO_cons ?_; (refine op1_store1S rfl rfl (by (conv => lhs; whnf) <;> rfl) rfl rfl (S.up1 hS) rfl ?_; intro H1 hS; replace hS := S.dn1 hS); refine zns ?_; refine zsr ?_; (iterate 4 refine zw1 ?_); refine zns ?_; refine wp_ret ?_; refine seq_ret ?_; refine ret_of ?_; refine rk_tmp (by (conv => lhs; whnf) <;> rfl) ?_; refine rk_tmp (by (conv => lhs; whnf) <;> rfl) ?_; refine rk_nil ?_
    exact ⟨j, i, w + 1, rfl, .inr ⟨rfl, rfl⟩, by omega, by omega, hS⟩
  · refine wp_skip ?_; refine seq_normal ?_; refine zsr ?_; (iterate 4 refine zw1 ?_); refine zns ?_; refine wp_ret ?_; refine ret_of ?_; refine rk_tmp (by (conv => lhs; whnf) <;> rfl) ?_; refine rk_tmp (by (conv => lhs; whnf) <;> rfl) ?_; refine rk_nil ?_
    exact ⟨i, j, w, rfl, .inl ⟨rfl, rfl⟩, by omega, by omega, hS⟩
theorem L92 {i j k : Nat} (hS : S B H (sl 1 (.slice (some ⟨b, off, none⟩) n c) (i64s l) :: pto p (.cells [.int .i64 w] 0 false) :: As)) (hn : l.length = n) (hi : i < n) (hj : j < n) (hk : k < n) (hb : n ≤ 1000000) (hw : 0 ≤ w ∧ w ≤ 100000) :
    wpF C 92 [.slice (some ⟨b, off, none⟩) n c, .int .i64 i, .int .i64 j, .int .i64 k, .pointer (some ⟨p, 0, none⟩)] H fun v H' => ∃ (r : Nat) (w' : Int), v = .int .i64 r ∧ (r = i ∨ r = j ∨ r = k) ∧ w ≤ w' ∧ w' ≤ w + 3 ∧
      S B H' (sl 1 (.slice (some ⟨b, off, none⟩) n c) (i64s l) :: pto p (.cells [.int .i64 w'] 0 false) :: As) := by
  refine wpF_ofW o92 rfl rfl ?_
  refine zsr ?_; refine zw1 ?_; refine zns ?_; refine zsr ?_; (iterate 4 refine zw1 ?_); refine wpO_cons ?_; refine op1_call4 rfl (by (conv => lhs; whnf) <;> rfl) (by (conv => lhs; whnf) <;> rfl) (by (conv => lhs; whnf) <;> rfl) (by (conv => lhs; whnf) <;> rfl) ?_
  refine wpF_mono (L94 hS hn hi hj hb (by omega)) ?_
  rintro _ H1 ⟨i1, j1, w1, rfl, q1, q2, q3, hS⟩
  refine zw1 ?_; refine wpO_cons ?_; refine op1_extract rfl rfl rfl ?_; refine wpO_cons ?_; refine op1_extract rfl rfl rfl ?_; refine zw1 ?_; refine zw1 ?_; refine zns ?_; refine zsr ?_; (iterate 4 refine zw1 ?_); refine wpO_cons ?_; refine op1_call4 rfl (by (conv => lhs; whnf) <;> rfl) (by (conv => lhs; whnf) <;> rfl) (by (conv => lhs; whnf) <;> rfl) (by (conv => lhs; whnf) <;> rfl) ?_
  refine wpF_mono (L94 (i := j1) (j := k) hS hn (by omega) hk hb (by omega)) ?_
  rintro _ H2 ⟨j2, k2, w2, rfl, q4, q5, q6, hS⟩
  refine zw1 ?_; refine wpO_cons ?_; refine op1_extract rfl rfl rfl ?_; refine wpO_cons ?_; refine op1_extract rfl rfl rfl ?_; refine zw1 ?_; refine zw1 ?_; refine zns ?_; refine zsr ?_; (iterate 4 refine zw1 ?_); refine wpO_cons ?_; refine op1_call4 rfl (by (conv => lhs; whnf) <;> rfl) (by (conv => lhs; whnf) <;> rfl) (by (conv => lhs; whnf) <;> rfl) (by (conv => lhs; whnf) <;> rfl) ?_
  refine wpF_mono (L94 (i := i1) (j := j2) hS hn (by omega) (by omega) hb (by omega)) ?_
  rintro _ H3 ⟨i3, j3, w3, rfl, q7, q8, q9, hS⟩
  refine zw1 ?_; refine wpO_cons ?_; refine op1_extract rfl rfl rfl ?_; refine wpO_cons ?_; refine op1_extract rfl rfl rfl ?_; refine zw1 ?_; refine zw1 ?_; refine zns ?_; refine zsr ?_; refine zw1 ?_; refine zw1 ?_; refine zns ?_; refine wp_ret ?_; refine ret_of ?_; refine rk_tmp (by (conv => lhs; whnf) <;> rfl) ?_; refine rk_nil ?_
  exact ⟨j3, w3, rfl, by omega, by omega, by omega, hS⟩
theorem L91 {i : Nat} (hS : S B H (sl 1 (.slice (some ⟨b, off, none⟩) n c) (i64s l) :: pto p (.cells [.int .i64 w] 0 false) :: As)) (hn : l.length = n) (hi : 1 ≤ i ∧ i + 1 < n) (hb : n ≤ 1000000) (hw : 0 ≤ w ∧ w ≤ 100000) :
    wpF C 91 [.slice (some ⟨b, off, none⟩) n c, .int .i64 i, .pointer (some ⟨p, 0, none⟩)] H fun v H' => ∃ (r : Nat) (w' : Int), v = .int .i64 r ∧ r < n ∧ i ≤ r + 1 ∧ r ≤ i + 1 ∧ w ≤ w' ∧ w' ≤ w + 3 ∧
      S B H' (sl 1 (.slice (some ⟨b, off, none⟩) n c) (i64s l) :: pto p (.cells [.int .i64 w'] 0 false) :: As) := by
  refine wpF_ofW o91 rfl rfl ?_
  obtain ⟨i, rfl⟩ : ∃ t, i = t + 1 := ⟨i - 1, by omega⟩
  have e1 : ((i + 1 : Nat) : Int) - 1 = (i : Nat) := by omega
  have e2 : ((i + 1 : Nat) : Int) + 1 = ((i + 2 : Nat) : Int) := by omega
  refine zsr ?_; refine zw1 ?_; refine zns ?_; refine zsr ?_; refine zw1 ?_; refine zw1 ?_; refine wpO_cons ?_; refine op1_sub rfl rfl rfl (by exact wrap_i64 (by omega) (by omega)) ?_; refine zw1 ?_; refine zw1 ?_; refine wpO_cons ?_; refine op1_add rfl rfl rfl (by exact wrap_i64 (by omega) (by omega)) ?_; refine zw1 ?_; refine wpO_cons ?_; refine op1_call5 rfl (by (conv => lhs; whnf) <;> rfl) (by (conv => lhs; whnf) <;> rfl) (by (conv => lhs; whnf) <;> rfl) (by (conv => lhs; whnf) <;> rfl) (by (conv => lhs; whnf) <;> rfl) ?_
  rw [e1, e2]
  refine wpF_mono (L92 (i := i) (j := i + 1) (k := i + 2) hS hn (by omega) (by omega) (by omega) hb hw) ?_
  rintro _ H1 ⟨r, w1, rfl, q1, q2, q3, hS⟩
  refine zw1 ?_; refine zns ?_; refine wp_ret ?_; refine ret_of ?_; refine rk_tmp (by (conv => lhs; whnf) <;> rfl) ?_; refine rk_nil ?_
  exact ⟨r, w1, rfl, by omega, by omega, by omega, by omega, by omega, hS⟩
theorem L79 {lo hi : Nat} (hS : S B H (sl 1 (.slice (some ⟨b, off, none⟩) n c) (i64s l) :: As)) (hn : l.length = n) (h1 : lo ≤ hi) (h2 : hi ≤ n) (hb : n ≤ 1000000) :
    wpF C 79 [.slice (some ⟨b, off, none⟩) n c, .int .i64 lo, .int .i64 hi] H fun v H' => ∃ l', l'.Perm l ∧ S B H' (sl 1 (.slice (some ⟨b, off, none⟩) n c) (i64s l') :: As) := by
  refine wpF_ofW o79 rfl rfl ?_
  refine zsr ?_; refine zw1 ?_; refine zw1 ?_; refine zns ?_; refine zsr ?_; refine zw1 ?_; refine wpO_cons ?_; refine op1_sub rfl rfl rfl (by exact wrap_i64 (by omega) (by omega)) ?_; refine zw1 ?_; refine zns ?_; refine wp_block ?_
  refine wp_loop [6, 7] (fun k vs H' => ∃ (i : Nat) (j : Int) (m : List Int), vs = [.int .i64 i, .int .i64 j] ∧ k = hi - i ∧ lo ≤ i ∧ i ≤ hi ∧ -1 ≤ j ∧ j < hi ∧ m.Perm l ∧ S B H' (sl 1 (.slice (some ⟨b, off, none⟩) n c) (i64s m) :: As))
    ⟨hi - lo, lo, (hi : Int) - 1, l, rfl, rfl, by omega, by omega, by omega, by omega, .refl _, hS⟩ ?_
  clear hS
  rintro k vs T' H1 ⟨i, j, m, rfl, hk, hi1, hi2, hj1, hj2, hp, hS⟩
  have hml := hp.length_eq
  refine wp_seq ?_; refine zsr ?_; refine zw1 ?_; refine zw1 ?_; refine wpO_cons ?_; refine op1_lss rfl rfl rfl ?_; refine zns ?_
  refine wp_dec rfl (fun hc => ?_) (fun hc => ?_)
  · obtain ⟨j, rfl⟩ : ∃ t : Nat, j = t := ⟨j.toNat, by omega⟩
    obtain ⟨x, hx⟩ : ∃ x, m[i]? = some x := ⟨m[i]'(by omega), by simp⟩
    obtain ⟨y, hy⟩ : ∃ y, m[j]? = some y := ⟨m[j]'(by omega), by simp⟩
    have hS0 := hS
    refine wp_skip ?_; refine seq_normal ?_; refine wp_block ?_; refine wp_seq ?_; refine wp_regionD ?_; (iterate 6 refine zd1 ?_); refine wpD_cons ?_; refine op1_iaddr rfl rfl rfl (by omega) (by omega) ?_; refine wpD_cons ?_
    refine op1_loadL rfl rfl hS rfl (by omega) (i64s_at hy) ?_
    refine zd1 ?_; refine zd1 ?_; refine wpD_cons ?_; refine op1_iaddr rfl rfl rfl (by omega) (by omega) ?_; refine wpD_cons ?_
    refine op1_loadL rfl rfl hS rfl (by omega) (i64s_at hx) ?_
    refine wpD_cons ?_; refine op1_iaddr rfl rfl rfl (by omega) (by omega) ?_; refine wpD_cons ?_; (refine op1_store1L rfl rfl (by (conv => lhs; whnf) <;> rfl) rfl rfl (S.up0 hS) (by omega) ?_; intro H2 hS; replace hS := S.dn0 hS); refine wpD_cons ?_; refine op1_iaddr rfl rfl rfl (by omega) (by omega) ?_; refine wpD_cons ?_; (refine op1_store1L rfl rfl (by (conv => lhs; whnf) <;> rfl) rfl rfl (S.up0 hS) (by omega) ?_; intro H3 hS; replace hS := S.dn0 hS); refine wpD_nil ?_; refine dk_of ?_ ?_; (iterate 7 refine chk_skip ?_); refine chk_cons 9 rfl rfl rfl ?_ ?_; refine chkFs_cons 3 rfl rfl ?_ ?_
    · exact chk_loadL rfl hS0 rfl (by omega) (i64s_at hy) rfl
    exact chkFs_nil; (iterate 3 refine chk_skip ?_); refine chk_cons 5 rfl rfl rfl ?_ ?_; refine chkFs_cons 3 rfl rfl ?_ ?_
    · exact chk_loadL rfl hS0 rfl (by omega) (i64s_at hx) rfl
    exact chkFs_nil; (iterate 4 refine chk_skip ?_); exact chk_end; refine seq_normal ?_; refine zsr ?_; refine zw1 ?_; refine wpO_cons ?_; refine op1_add rfl rfl rfl (by exact wrap_i64 (by omega) (by omega)) ?_; refine zw1 ?_; refine zns ?_; refine wp_region ?_; refine zw1 ?_; refine wpO_cons ?_; refine op1_sub rfl rfl rfl (by exact wrap_i64 (by omega) (by omega)) ?_; refine zw1 ?_; refine wpO_nil ?_; refine block_normal ?_
    rw [show (i : Int).toNat = i from rfl, show (j : Int).toNat = j from rfl, i64s_set, i64s_set] at hS
    exact ⟨hi - (i + 1), by omega, i + 1, (j : Int) - 1, _, rfl, rfl, by omega, by omega, by omega, by omega, (swap_perm hx hy).trans hp, hS⟩
  · refine wp_exit ?_; refine seq_exit ?_; refine iter_exit ?_; refine block_exit ?_; refine nrm_of ?_; refine rk_nil ?_
    exact ⟨m, hp, hS⟩
theorem L90 {z : Int} (hS : S B H (pto p (.cells [.int .u64 z] 0 false) :: As)) : wpF C 90 [.pointer (some ⟨p, 0, none⟩)] H fun v H' => ∃ z', v = .int .u64 z' ∧ S B H' (pto p (.cells [.int .u64 z'] 0 false) :: As) := by
  refine wpF_ofW o90 rfl rfl ?_
  refine zsr ?_; refine zw1 ?_; refine zns ?_; refine wp_seq ?_; refine wp_regionD ?_; refine zd1 ?_; refine wpD_cons ?_; refine op1_nilchk rfl rfl ?_; refine wpD_cons ?_; refine op1_load rfl rfl (by exact S.g0 hS) rfl ?_; refine zd1 ?_; refine wpD_cons ?_; refine op1_nilchk rfl rfl ?_; refine wpD_cons ?_; refine op1_load rfl rfl (by exact S.g0 hS) rfl ?_; refine wpD_cons ?_
  refine op1_shl rfl rfl rfl (by omega) ?_
  generalize IntKind.u64.wrap _ = z1
  refine wpD_cons ?_; refine op1_xor rfl rfl rfl ?_; refine wpD_cons ?_; refine op1_nilchk rfl rfl ?_; refine wpD_cons ?_; (refine op1_store1S rfl rfl (by (conv => lhs; whnf) <;> rfl) rfl rfl (S.up0 hS) rfl ?_; intro H1 hS; replace hS := S.dn0 hS); refine wpD_nil ?_; refine dk_of ?_ ?_; (iterate 2 refine chk_skip ?_); refine chk_cons 8 rfl rfl rfl ?_ ?_; refine chkFs_cons 1 rfl rfl ?_ ?_; exact chk_load rfl (by exact S.g0 (by assumption)) rfl rfl; exact chkFs_nil; (iterate 2 refine chk_skip ?_); refine chk_cons 5 rfl rfl rfl ?_ ?_; refine chkFs_cons 1 rfl rfl ?_ ?_; exact chk_load rfl (by exact S.g0 (by assumption)) rfl rfl; exact chkFs_nil; (iterate 4 refine chk_skip ?_); exact chk_end; refine seq_normal ?_; refine wp_seq ?_; refine wp_regionD ?_; refine zd1 ?_; refine wpD_cons ?_; refine op1_nilchk rfl rfl ?_; refine wpD_cons ?_; refine op1_load rfl rfl (by exact S.g0 hS) rfl ?_; refine zd1 ?_; refine wpD_cons ?_; refine op1_nilchk rfl rfl ?_; refine wpD_cons ?_; refine op1_load rfl rfl (by exact S.g0 hS) rfl ?_; refine wpD_cons ?_
  generalize bitXor _ _ _ = z2 at *
  refine op1_shr rfl rfl rfl (by omega) ?_
  generalize Int.fdiv _ _ = z3
  refine wpD_cons ?_; refine op1_xor rfl rfl rfl ?_; refine wpD_cons ?_; refine op1_nilchk rfl rfl ?_; refine wpD_cons ?_; (refine op1_store1S rfl rfl (by (conv => lhs; whnf) <;> rfl) rfl rfl (S.up0 hS) rfl ?_; intro H2 hS; replace hS := S.dn0 hS); refine wpD_nil ?_; refine dk_of ?_ ?_; (iterate 2 refine chk_skip ?_); refine chk_cons 8 rfl rfl rfl ?_ ?_; refine chkFs_cons 1 rfl rfl ?_ ?_; exact chk_load rfl (by exact S.g0 (by assumption)) rfl rfl; exact chkFs_nil; (iterate 2 refine chk_skip ?_); refine chk_cons 5 rfl rfl rfl ?_ ?_; refine chkFs_cons 1 rfl rfl ?_ ?_; exact chk_load rfl (by exact S.g0 (by assumption)) rfl rfl; exact chkFs_nil; (iterate 4 refine chk_skip ?_); exact chk_end; refine seq_normal ?_; refine wp_seq ?_; refine wp_regionD ?_; refine zd1 ?_; refine wpD_cons ?_; refine op1_nilchk rfl rfl ?_; refine wpD_cons ?_; refine op1_load rfl rfl (by exact S.g0 hS) rfl ?_; refine zd1 ?_; refine wpD_cons ?_; refine op1_nilchk rfl rfl ?_; refine wpD_cons ?_; refine op1_load rfl rfl (by exact S.g0 hS) rfl ?_; refine wpD_cons ?_
  generalize bitXor _ _ _ = z4 at *
  refine op1_shl rfl rfl rfl (by omega) ?_
  generalize IntKind.u64.wrap _ = z5
  refine wpD_cons ?_; refine op1_xor rfl rfl rfl ?_; refine wpD_cons ?_; refine op1_nilchk rfl rfl ?_; refine wpD_cons ?_; (refine op1_store1S rfl rfl (by (conv => lhs; whnf) <;> rfl) rfl rfl (S.up0 hS) rfl ?_; intro H3 hS; replace hS := S.dn0 hS); refine wpD_nil ?_; refine dk_of ?_ ?_; (iterate 2 refine chk_skip ?_); refine chk_cons 8 rfl rfl rfl ?_ ?_; refine chkFs_cons 1 rfl rfl ?_ ?_; exact chk_load rfl (by exact S.g0 (by assumption)) rfl rfl; exact chkFs_nil; (iterate 2 refine chk_skip ?_); refine chk_cons 5 rfl rfl rfl ?_ ?_; refine chkFs_cons 1 rfl rfl ?_ ?_; exact chk_load rfl (by exact S.g0 (by assumption)) rfl rfl; exact chkFs_nil; (iterate 4 refine chk_skip ?_); exact chk_end; refine seq_normal ?_; refine zsr ?_; refine zw1 ?_; refine wpO_cons ?_; refine op1_nilchk rfl rfl ?_; refine wpO_cons ?_; refine op1_load rfl rfl (by exact S.g0 hS) rfl ?_; refine zw1 ?_; refine zns ?_; refine wp_ret ?_; refine ret_of ?_; refine rk_tmp (by (conv => lhs; whnf) <;> rfl) ?_; refine rk_nil ?_
  exact ⟨_, rfl, hS⟩
theorem L78 {lo hi : Nat} (hS : S B H (sl 1 (.slice (some ⟨b, off, none⟩) n c) (i64s l) :: As)) (hn : l.length = n) (h1 : lo + 12 < hi) (h2 : hi ≤ n) (hb : n ≤ 1000000) :
    wpF C 78 [.slice (some ⟨b, off, none⟩) n c, .int .i64 lo, .int .i64 hi] H fun v H' => ∃ (r : Nat) (h : Int), v = .tuple ⟨[.int .i64 r, .int .i64 h]⟩ ∧ lo ≤ r ∧ r < hi ∧
      S B H' (sl 1 (.slice (some ⟨b, off, none⟩) n c) (i64s l) :: As) := by
  refine wpF_ofW o78 rfl rfl ?_
  obtain ⟨L, hL⟩ : ∃ L : Nat, hi = lo + L := ⟨hi - lo, by omega⟩
  have eL : (hi : Int) - lo = (L : Nat) := by omega
  have e1 : (lo : Int) + ((L / 4 : Nat) : Int) * 1 = ((lo + L / 4 : Nat) : Int) := by omega
  have e2 : (lo : Int) + ((L / 4 : Nat) : Int) * 2 = ((lo + L / 4 * 2 : Nat) : Int) := by omega
  have e3 : (lo : Int) + ((L / 4 : Nat) : Int) * 3 = ((lo + L / 4 * 3 : Nat) : Int) := by omega
  refine zsr ?_; refine zw1 ?_; refine zw1 ?_; refine zns ?_; refine zsr ?_; refine zw1 ?_; refine zw1 ?_; refine wpO_cons ?_; refine op1_sub rfl rfl rfl (by exact wrap_i64 (by omega) (by omega)) ?_; refine zw1 ?_; refine zns ?_; refine zsr ?_; refine wpO_cons ?_; refine op1_allocS rfl hS ?_; intro p1 H1 hS; refine zns ?_; refine zsr ?_; refine zw1 ?_; refine zw1 ?_; refine wpO_cons ?_
  rw [eL]
  refine op1_quo rfl rfl rfl (by omega) (by rw [show ((L : Nat) : Int).tdiv 4 = ((L / 4 : Nat) : Int) from rfl]; exact wrap_i64 (by omega) (by omega)) ?_
  rw [show ((L : Nat) : Int).tdiv 4 = ((L / 4 : Nat) : Int) from rfl]
  refine wpO_cons ?_; refine op1_mul rfl rfl rfl (by exact wrap_i64 (by omega) (by omega)) ?_; refine wpO_cons ?_; refine op1_add rfl rfl rfl (by exact wrap_i64 (by omega) (by omega)) ?_; refine zw1 ?_; refine zns ?_; refine zsr ?_; refine zw1 ?_; refine zw1 ?_; refine wpO_cons ?_
  rw [e1]
  refine op1_quo rfl rfl rfl (by omega) (by rw [show ((L : Nat) : Int).tdiv 4 = ((L / 4 : Nat) : Int) from rfl]; exact wrap_i64 (by omega) (by omega)) ?_
  rw [show ((L : Nat) : Int).tdiv 4 = ((L / 4 : Nat) : Int) from rfl]
  refine wpO_cons ?_; refine op1_mul rfl rfl rfl (by exact wrap_i64 (by omega) (by omega)) ?_; refine wpO_cons ?_; refine op1_add rfl rfl rfl (by exact wrap_i64 (by omega) (by omega)) ?_; refine zw1 ?_; refine zns ?_; refine zsr ?_; refine zw1 ?_; refine zw1 ?_; refine wpO_cons ?_
  rw [e2]
  refine op1_quo rfl rfl rfl (by omega) (by rw [show ((L : Nat) : Int).tdiv 4 = ((L / 4 : Nat) : Int) from rfl]; exact wrap_i64 (by omega) (by omega)) ?_
  rw [show ((L : Nat) : Int).tdiv 4 = ((L / 4 : Nat) : Int) from rfl]
  refine wpO_cons ?_; refine op1_mul rfl rfl rfl (by exact wrap_i64 (by omega) (by omega)) ?_; refine wpO_cons ?_; refine op1_add rfl rfl rfl (by exact wrap_i64 (by omega) (by omega)) ?_; refine zw1 ?_; refine zns ?_; refine wp_seq ?_; refine zsr ?_; refine zw1 ?_; refine wpO_cons ?_; refine op1_geq rfl rfl rfl ?_; refine zns ?_
  rw [e3]
  refine wp_dec rfl (fun h8 => ?_) (fun h8 => ?_)
  rotate_left
  · omega
  skip
  refine wp_cut [10, 11, 12] (fun vs H' => ∃ (r1 r2 r3 : Nat) (w : Int), vs = [.int .i64 r1, .int .i64 r2, .int .i64 r3] ∧ (lo ≤ r1 ∧ r1 < hi) ∧ (lo ≤ r2 ∧ r2 < hi) ∧ (lo ≤ r3 ∧ r3 < hi) ∧ 0 ≤ w ∧ w ≤ 9 ∧ S B H' (sl 1 (.slice (some ⟨b, off, none⟩) n c) (i64s l) :: pto p1 (.cells [.int .i64 w] 0 false) :: As)) ?_ ?_
  · refine zsr ?_; refine zw1 ?_; refine wpO_cons ?_; refine op1_geq rfl rfl rfl ?_; refine zns ?_
    refine wp_dec rfl (fun h50 => ?_) (fun h50 => ?_)
    · refine zsr ?_; refine zw1 ?_; refine zw1 ?_; refine wpO_cons ?_; refine op1_call3 rfl (by (conv => lhs; whnf) <;> rfl) (by (conv => lhs; whnf) <;> rfl) (by (conv => lhs; whnf) <;> rfl) ?_
      refine wpF_mono (L91 (S.up1 hS) hn (by omega) hb (by omega)) ?_
      rintro _ H2 ⟨r1, w1, rfl, a1, a2, a3, a4, a5, hS⟩
      refine zw1 ?_; refine zns ?_; refine zsr ?_; refine zw1 ?_; refine zw1 ?_; refine wpO_cons ?_; refine op1_call3 rfl (by (conv => lhs; whnf) <;> rfl) (by (conv => lhs; whnf) <;> rfl) (by (conv => lhs; whnf) <;> rfl) ?_
      refine wpF_mono (L91 hS hn (by omega) hb (by omega)) ?_
      rintro _ H3 ⟨r2, w2, rfl, b1, b2, b3, b4, b5, hS⟩
      refine zw1 ?_; refine zns ?_; refine wp_region ?_; refine zw1 ?_; refine zw1 ?_; refine wpO_cons ?_; refine op1_call3 rfl (by (conv => lhs; whnf) <;> rfl) (by (conv => lhs; whnf) <;> rfl) (by (conv => lhs; whnf) <;> rfl) ?_
      refine wpF_mono (L91 hS hn (by omega) hb (by omega)) ?_
      rintro _ H4 ⟨r3, w3, rfl, c1, c2, c3, c4, c5, hS⟩
      refine zw1 ?_; refine wpO_nil ?_; refine cut3 (by (conv => lhs; whnf) <;> rfl) (by (conv => lhs; whnf) <;> rfl) (by (conv => lhs; whnf) <;> rfl) ?_
      exact ⟨r1, r2, r3, w3, rfl, by omega, by omega, by omega, by omega, by omega, hS⟩
    · refine wp_skip ?_; refine cut3 (by (conv => lhs; whnf) <;> rfl) (by (conv => lhs; whnf) <;> rfl) (by (conv => lhs; whnf) <;> rfl) ?_
      exact ⟨_, _, _, 0, rfl, by omega, by omega, by omega, by omega, by omega, S.up1 hS⟩
  clear hS
  rintro vs3 T3 H3 ⟨r1, r2, r3, w, rfl, q1, q2, q3, q4, q5, hS⟩
  refine wp_region ?_; (iterate 4 refine zw1 ?_); refine wpO_cons ?_; refine op1_call5 rfl (by (conv => lhs; whnf) <;> rfl) (by (conv => lhs; whnf) <;> rfl) (by (conv => lhs; whnf) <;> rfl) (by (conv => lhs; whnf) <;> rfl) (by (conv => lhs; whnf) <;> rfl) ?_
  refine wpF_mono (L92 hS hn (by omega) (by omega) (by omega) hb (by omega)) ?_
  rintro _ H4 ⟨r4, w4, rfl, b1, b2, b3, hS⟩
  refine zw1 ?_; refine zns ?_; refine zsr ?_; refine wpO_cons ?_; refine op1_load rfl rfl (by exact S.g1 hS) rfl ?_; refine zns ?_; refine wp_block ?_; refine zsr ?_; refine wpO_cons ?_; refine op1_eqlI rfl rfl rfl ?_; refine zw1 ?_; refine zns ?_
  refine wp_dec rfl (fun h0 => ?_) (fun h0 => ?_)
  · refine zsr ?_; refine zw1 ?_; refine zw1 ?_; refine zw1 ?_; refine zns ?_; refine wp_ret ?_; refine block_ret ?_; refine ret_of ?_; refine rk_tmp (by (conv => lhs; whnf) <;> rfl) ?_; refine rk_tmp (by (conv => lhs; whnf) <;> rfl) ?_; refine rk_nil ?_
    exact ⟨r4, _, rfl, by omega, by omega, S.drop (S.up1 hS)⟩
  refine zsr ?_; refine wpO_cons ?_; refine op1_eqlI rfl rfl rfl ?_; refine zw1 ?_; refine zns ?_
  refine wp_dec rfl (fun h12 => ?_) (fun h12 => ?_)
  · refine zsr ?_; refine zw1 ?_; refine zw1 ?_; refine zw1 ?_; refine zns ?_; refine wp_ret ?_; refine block_ret ?_; refine ret_of ?_; refine rk_tmp (by (conv => lhs; whnf) <;> rfl) ?_; refine rk_tmp (by (conv => lhs; whnf) <;> rfl) ?_; refine rk_nil ?_
    exact ⟨r4, _, rfl, by omega, by omega, S.drop (S.up1 hS)⟩
  · refine zsr ?_; refine zw1 ?_; refine zw1 ?_; refine zw1 ?_; refine zns ?_; refine wp_ret ?_; refine block_ret ?_; refine ret_of ?_; refine rk_tmp (by (conv => lhs; whnf) <;> rfl) ?_; refine rk_tmp (by (conv => lhs; whnf) <;> rfl) ?_; refine rk_nil ?_
    exact ⟨r4, _, rfl, by omega, by omega, S.drop (S.up1 hS)⟩
end
end Go.E.Pi
