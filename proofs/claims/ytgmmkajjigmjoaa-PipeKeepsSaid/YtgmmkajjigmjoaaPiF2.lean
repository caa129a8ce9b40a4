/- The pipe's lists, walked through. -/
import Derived.Test.YtgmmkajjigmjoaaPiF1
namespace Go.E.Pi
open Go Go.E Go.Proofs.Ytgmmkajjigmjoaa Go.Proofs
set_option linter.unusedVariables false
set_option linter.unusedSimpArgs false
set_option maxRecDepth 100000

theorem wrA_at {H : AHeap} {w : Wr} {cs : List Value} {o : List Nat} (h : (wrA w cs).f H o) : ∃ a c, cs = [.int .i64 w.thread, .slice a w.data.length c, .int .i64 w.done] ∧ SlO H 1 (.slice a w.data.length c) (u8s w.data) o := by
  obtain ⟨vd, h⟩ := h
  cases h with
  | cons h1 h2 => cases h2 with
    | cons h3 h4 =>
      cases h4
      obtain ⟨rfl, h3⟩ := h3
      have h5 : SlO H 1 vd (u8s w.data) _ := h1
      obtain ⟨a, c, rfl⟩ := h5.shape1
      rw [u8s_length] at h3 h5
      exact ⟨a, c, h3, by simpa using h5⟩

theorem L21 {B H : AHeap} {As : List Asn} {p : Nat} {s : PP} (hS : S B H (repP p s :: As)) (hl : s.readers.length ≤ 1000) :
    wpF C 21 [.pointer (some ⟨p, 0, none⟩)] H fun v H' => S B H' (sl 1 v (i64s (s.readers.map (·.1))) :: repP p s :: As) := by
  obtain ⟨rb, vr, vw, r, f, hr, hS⟩ := openP hS
  obtain ⟨ar, cr, rfl, hcr⟩ := shapeR (S.up2 hS)
  refine wpF_ofW o21 rfl rfl ?_
  refine wp_seq ?_; refine wp_region ?_; refine wpO_cons ?_; refine op1_mov rfl (by (conv => lhs; whnf) <;> rfl) ?_; refine wpO_nil ?_; refine seq_normal ?_; refine wp_seq ?_; refine wp_seq ?_; refine wp_region ?_; refine wpO_cons ?_; refine op1_mov rfl (by (conv => lhs; whnf) <;> rfl) ?_; refine wpO_cons ?_; refine op1_bin_false rfl (by (conv => lhs; whnf) <;> rfl) (by (conv => lhs; whnf) <;> rfl) rfl ?_; refine wpO_nil ?_; refine seq_normal ?_; refine wp_false rfl ?_; refine wp_skip ?_; refine seq_normal ?_; refine wp_seq ?_; refine wp_region ?_; refine wpO_cons ?_; refine op1_mov rfl (by (conv => lhs; whnf) <;> rfl) ?_; refine wpO_nil ?_; refine seq_normal ?_; refine wp_seq ?_; refine wp_seq ?_; refine wp_region ?_; refine wpO_cons ?_; refine op1_mov rfl (by (conv => lhs; whnf) <;> rfl) ?_; refine wpO_cons ?_; refine op1_nilchk rfl rfl ?_; refine wpO_cons ?_; refine op1_faddr0 rfl rfl ?_; refine wpO_cons ?_; refine op1_faddr rfl rfl ?_; refine wpO_cons ?_; refine op1_load rfl rfl (by exact S.g0 hS) rfl ?_; refine wpO_cons ?_; refine op1_len rfl rfl ?_; refine wpO_cons ?_; refine op1_mov rfl (by (conv => lhs; whnf) <;> rfl) ?_; refine wpO_nil ?_; refine seq_normal ?_; refine wp_block ?_
  refine wp_loop [14, 3] (fun k vs H' => ∃ (i : Nat) (vo : Value), vs = [.int .i64 i, vo] ∧ i + k = s.readers.length ∧ S B H' (sl 1 vo (i64s ((s.readers.take i).map (·.1))) :: pto p (.cells (pipeC s rb f (.slice ar s.readers.length cr) vw) 0 false) :: pto rb (.cells (u8s r) 1 false) :: sl 2 (.slice ar s.readers.length cr) (s.readers.flatMap rdC) :: arr 3 wrA vw s.writers :: As))
    ⟨s.readers.length, 0, .slice none 0 0, rfl, by omega, hS.slNil⟩ ?_
  rintro k vs T' H1 ⟨i, vo, rfl, hk, hS⟩
  obtain ⟨ao, co, rfl⟩ := hS.i1
  simp only [List.length_map, List.length_take] at hS ⊢
  refine wp_seq ?_; refine wp_region ?_; refine wpO_cons ?_; refine op1_lss rfl rfl rfl ?_; refine wpO_nil ?_; refine seq_normal ?_; refine wp_seq ?_
  refine wp_dec rfl (fun hc => ?_) (fun hc => ?_)
  · have hi : i < s.readers.length := by omega
    obtain ⟨x, hx⟩ : ∃ x, s.readers[i]? = some x := ⟨s.readers[i], by simp [hi]⟩
    obtain ⟨b, off, cs, rfl, hg, hle, htk, hat⟩ := (S.up3 hS).elt hi
    rw [flatMap_cut (f := rdC) (es := 2) (fun _ => rfl) hx] at htk
    rw [Nat.min_eq_left (by omega)] at hS ⊢
    refine wp_skip ?_; refine seq_normal ?_; refine wp_seq ?_; refine wp_block ?_; refine wp_seq ?_; refine wp_region ?_; refine wpO_cons ?_; refine op1_iaddr rfl rfl rfl (by omega) (by omega) ?_; refine wpO_cons ?_
    refine op1_loadN rfl rfl hg (by omega) htk ?_
    refine wpO_cons ?_; refine op1_allocS rfl hS ?_; intro p1 H2 hS; refine wpO_cons ?_; (refine op1_storeNS rfl rfl (by (conv => lhs; whnf) <;> rfl) rfl rfl (S.up0 hS) (Nat.le_of_ble_eq_true rfl) ?_; intro H3 hS; replace hS := S.dn0 hS); refine wpO_nil ?_; refine seq_normal ?_; refine wp_region ?_; refine wpO_cons ?_; refine op1_mov rfl (by (conv => lhs; whnf) <;> rfl) ?_; refine wpO_cons ?_; refine op1_faddr0 rfl rfl ?_; refine wpO_cons ?_; refine op1_load rfl rfl (by exact S.g0 hS) rfl ?_; refine wpO_cons ?_; refine op1_bsliceS rfl hS ?_; refine bk_one (by (conv => lhs; whnf) <;> rfl) rfl rfl rfl ?_; refine bk_nil ?_; intro p2 H4 hS; refine wpO_cons ?_; (refine op1_appBS rfl rfl (by (conv => lhs; whnf) <;> rfl) rfl (S.g0 hS) rfl rfl (S.up2 hS) (by omega) ?_; intro a1 c1 H5 hS; replace hS := S.dn2 hS; replace hS := S.drop hS); refine wpO_cons ?_; refine op1_mov rfl (by (conv => lhs; whnf) <;> rfl) ?_; refine wpO_nil ?_; refine block_normal ?_; refine seq_normal ?_; refine wp_region ?_; refine wpO_cons ?_; refine op1_add rfl rfl rfl (by exact wrap_i64 (by omega) (by omega)) ?_; refine wpO_cons ?_; refine op1_mov rfl (by (conv => lhs; whnf) <;> rfl) ?_; refine wpO_nil ?_
    replace hS := S.drop hS
    refine ⟨k - 1, by omega, i + 1, _, rfl, by omega, ?_⟩
    have e : s.readers.take (i + 1) = s.readers.take i ++ [x] := by rw [List.take_add_one, hx]; rfl
    rw [e, List.map_append, i64s_append]
    exact hS
  · obtain rfl : i = s.readers.length := by omega
    rw [List.take_length] at hS
    rw [Nat.min_self] at hS ⊢
    refine wp_exit ?_; refine seq_exit ?_; refine iter_exit ?_; refine block_exit ?_; refine seq_normal ?_; refine wp_seq ?_; refine wp_region ?_; refine wpO_cons ?_; refine op1_mov rfl (by (conv => lhs; whnf) <;> rfl) ?_; refine wpO_cons ?_; refine op1_mov rfl (by (conv => lhs; whnf) <;> rfl) ?_; refine wpO_nil ?_; refine seq_normal ?_; refine wp_ret ?_; refine ret_of ?_; refine rk_tmp (by (conv => lhs; whnf) <;> rfl) ?_; refine rk_nil ?_
    exact S.up1 (closeP hr (S.dn4 hS))

theorem L22 {B H : AHeap} {As : List Asn} {p : Nat} {s : PP} (hS : S B H (repP p s :: As)) (hl : s.writers.length ≤ 1000) :
    wpF C 22 [.pointer (some ⟨p, 0, none⟩)] H fun v H' => S B H' (sl 1 v (i64s (s.writers.map (·.thread))) :: repP p s :: As) := by
  obtain ⟨rb, vr, vw, r, f, hr, hS⟩ := openP hS
  obtain ⟨aw, cw, rfl, hcw⟩ := S.arrShape (S.up3 hS) (by omega)
  obtain ⟨css, hcss, hcl, hS⟩ := S.unarr (S.up3 hS)
  replace hS := S.dn4 (S.dn4 hS)
  refine wpF_ofW o22 rfl rfl ?_
  refine wp_seq ?_; refine wp_region ?_; refine wpO_cons ?_; refine op1_mov rfl (by (conv => lhs; whnf) <;> rfl) ?_; refine wpO_nil ?_; refine seq_normal ?_; refine wp_seq ?_; refine wp_seq ?_; refine wp_region ?_; refine wpO_cons ?_; refine op1_mov rfl (by (conv => lhs; whnf) <;> rfl) ?_; refine wpO_cons ?_; refine op1_bin_false rfl (by (conv => lhs; whnf) <;> rfl) (by (conv => lhs; whnf) <;> rfl) rfl ?_; refine wpO_nil ?_; refine seq_normal ?_; refine wp_false rfl ?_; refine wp_skip ?_; refine seq_normal ?_; refine wp_seq ?_; refine wp_region ?_; refine wpO_cons ?_; refine op1_mov rfl (by (conv => lhs; whnf) <;> rfl) ?_; refine wpO_nil ?_; refine seq_normal ?_; refine wp_seq ?_; refine wp_seq ?_; refine wp_region ?_; refine wpO_cons ?_; refine op1_mov rfl (by (conv => lhs; whnf) <;> rfl) ?_; refine wpO_cons ?_; refine op1_nilchk rfl rfl ?_; refine wpO_cons ?_; refine op1_faddr0 rfl rfl ?_; refine wpO_cons ?_; refine op1_faddr rfl rfl ?_; refine wpO_cons ?_; refine op1_load rfl rfl (by exact S.g0 hS) rfl ?_; refine wpO_cons ?_; refine op1_len rfl rfl ?_; refine wpO_cons ?_; refine op1_mov rfl (by (conv => lhs; whnf) <;> rfl) ?_; refine wpO_nil ?_; refine seq_normal ?_; refine wp_block ?_
  refine wp_loop [14, 3] (fun k vs H' => ∃ (i : Nat) (vo : Value), vs = [.int .i64 i, vo] ∧ i + k = s.writers.length ∧ S B H' (sl 1 vo (i64s ((s.writers.take i).map (·.thread))) :: pto p (.cells (pipeC s rb f vr (.slice aw s.writers.length cw)) 0 false) :: pto rb (.cells (u8s r) 1 false) :: sl 2 vr (s.readers.flatMap rdC) :: sl 3 (.slice aw s.writers.length cw) css.flatten :: many wrA s.writers css :: As))
    ⟨s.writers.length, 0, .slice none 0 0, rfl, by omega, hS.slNil⟩ ?_
  rintro k vs T' H1 ⟨i, vo, rfl, hk, hS⟩
  obtain ⟨ao, co, rfl⟩ := hS.i1
  simp only [List.length_map, List.length_take] at hS ⊢
  refine wp_seq ?_; refine wp_region ?_; refine wpO_cons ?_; refine op1_lss rfl rfl rfl ?_; refine wpO_nil ?_; refine seq_normal ?_; refine wp_seq ?_
  refine wp_dec rfl (fun hc => ?_) (fun hc => ?_)
  · have hi : i < s.writers.length := by omega
    obtain ⟨x, hx⟩ : ∃ x, s.writers[i]? = some x := ⟨s.writers[i], by simp [hi]⟩
    obtain ⟨cs0, o0, hcs0, hw0, _⟩ := S.many_at (S.up5 hS) hx
    obtain ⟨avd, cvd, rfl, hvd⟩ := wrA_at hw0
    obtain ⟨b, off, cs, rfl, hg, hle, htk, hat⟩ := (S.up4 hS).elt hi
    rw [flatten_cut hcss hcs0] at htk
    rw [Nat.min_eq_left (by omega)] at hS ⊢
    refine wp_skip ?_; refine seq_normal ?_; refine wp_seq ?_; refine wp_block ?_; refine wp_seq ?_; refine wp_region ?_; refine wpO_cons ?_; refine op1_iaddr rfl rfl rfl (by omega) (by omega) ?_; refine wpO_cons ?_
    refine op1_loadN rfl rfl hg (by omega) htk ?_
    refine wpO_cons ?_; refine op1_allocS rfl hS ?_; intro p1 H2 hS; refine wpO_cons ?_; (refine op1_storeNS rfl rfl (by (conv => lhs; whnf) <;> rfl) rfl rfl (S.up0 hS) (Nat.le_of_ble_eq_true rfl) ?_; intro H3 hS; replace hS := S.dn0 hS); refine wpO_nil ?_; refine seq_normal ?_; refine wp_region ?_; refine wpO_cons ?_; refine op1_mov rfl (by (conv => lhs; whnf) <;> rfl) ?_; refine wpO_cons ?_; refine op1_faddr0 rfl rfl ?_; refine wpO_cons ?_; refine op1_load rfl rfl (by exact S.g0 hS) rfl ?_; refine wpO_cons ?_; refine op1_bsliceS rfl hS ?_; refine bk_one (by (conv => lhs; whnf) <;> rfl) rfl rfl rfl ?_; refine bk_nil ?_; intro p2 H4 hS; refine wpO_cons ?_; (refine op1_appBS rfl rfl (by (conv => lhs; whnf) <;> rfl) rfl (S.g0 hS) rfl rfl (S.up2 hS) (by omega) ?_; intro a1 c1 H5 hS; replace hS := S.dn2 hS; replace hS := S.drop hS); refine wpO_cons ?_; refine op1_mov rfl (by (conv => lhs; whnf) <;> rfl) ?_; refine wpO_nil ?_; refine block_normal ?_; refine seq_normal ?_; refine wp_region ?_; refine wpO_cons ?_; refine op1_add rfl rfl rfl (by exact wrap_i64 (by omega) (by omega)) ?_; refine wpO_cons ?_; refine op1_mov rfl (by (conv => lhs; whnf) <;> rfl) ?_; refine wpO_nil ?_
    replace hS := S.drop hS
    refine ⟨k - 1, by omega, i + 1, _, rfl, by omega, ?_⟩
    have e : s.writers.take (i + 1) = s.writers.take i ++ [x] := by rw [List.take_add_one, hx]; rfl
    rw [e, List.map_append, i64s_append]
    exact hS
  · obtain rfl : i = s.writers.length := by omega
    rw [List.take_length] at hS
    rw [Nat.min_self] at hS ⊢
    refine wp_exit ?_; refine seq_exit ?_; refine iter_exit ?_; refine block_exit ?_; refine seq_normal ?_; refine wp_seq ?_; refine wp_region ?_; refine wpO_cons ?_; refine op1_mov rfl (by (conv => lhs; whnf) <;> rfl) ?_; refine wpO_cons ?_; refine op1_mov rfl (by (conv => lhs; whnf) <;> rfl) ?_; refine wpO_nil ?_; refine seq_normal ?_; refine wp_ret ?_; refine ret_of ?_; refine rk_tmp (by (conv => lhs; whnf) <;> rfl) ?_; refine rk_nil ?_
    exact S.up1 (closeP hr (S.dn3 (S.arrI (S.up4 (S.up4 (S.dn5 hS))) hcss)))

/-- the first place of a number, -1 if there is none -/
def ixL : List Int → Int → Int
  | [], _ => -1
  | b :: l, c => if c = b then 0 else if ixL l c = -1 then -1 else ixL l c + 1
theorem ixL_ge : ∀ (l : List Int) (c : Int), -1 ≤ ixL l c
  | [], _ => by simp [ixL]
  | b :: l, c => by
    have := ixL_ge l c
    unfold ixL
    split
    · omega
    · split <;> omega
theorem ixL_get {c : Int} : ∀ {l : List Int}, 0 ≤ ixL l c → l[(ixL l c).toNat]? = some c
  | [], h => by simp [ixL] at h
  | b :: l, h => by
    unfold ixL at h ⊢
    split
    · rename_i hb; subst hb; rfl
    · rename_i hb
      rw [if_neg hb] at h
      split at h
      · omega
      · rename_i h1
        rw [if_neg h1]
        have h2 := ixL_ge l c
        have := ixL_get (l := l) (c := c) (by omega)
        rw [show (ixL l c + 1).toNat = (ixL l c).toNat + 1 by omega, List.getElem?_cons_succ, this]
theorem ixL_neg {c : Int} : ∀ {l : List Int}, ixL l c < 0 ↔ c ∉ l
  | [] => by simp [ixL]
  | b :: l => by
    have ih := ixL_neg (c := c) (l := l)
    have := ixL_ge l c
    unfold ixL
    split
    · rename_i h; subst h; simp
    · rename_i h
      split
      · simp; exact ⟨h, ih.1 (by omega)⟩
      · simp [h]
        constructor
        · intro h2; omega
        · intro h2; have := ih.2 h2; omega
/-- the search from the i-th on -/
theorem ixL_step {c : Int} : ∀ {l : List Int} {i : Nat} {x : Int}, (∀ j, j < i → l[j]? ≠ some c) → l[i]? = some x → x = c → ixL l c = i
  | [], i, x, h, hx, e => by simp at hx
  | b :: l, 0, x, h, hx, e => by simp at hx; subst hx; unfold ixL; rw [if_pos e.symm]; rfl
  | b :: l, i + 1, x, h, hx, e => by
    have h0 := h 0 (by omega)
    simp at h0
    have ih := ixL_step (l := l) (i := i) (x := x) (fun j hj => by have := h (j + 1) (by omega); simpa using this) (by simpa using hx) e
    unfold ixL
    rw [if_neg (fun e => h0 e.symm), if_neg (by omega), ih]
    omega
theorem ixL_none {c : Int} {l : List Int} (h : ∀ j, j < l.length → l[j]? ≠ some c) : ixL l c = -1 := by
  have h1 : c ∉ l := by
    intro hm
    obtain ⟨j, hj, e⟩ := List.mem_iff_getElem.1 hm
    exact h j hj (by rw [List.getElem?_eq_getElem hj, e])
  have := ixL_neg.2 h1
  have := ixL_ge l c
  omega

theorem L48 {H : AHeap} {v : Value} {l : List Int} {r : List Nat} {x : Int} (hd : RdS H 1 v (i64s l) r) (hl : l.length ≤ 1000000) : wpF C 48 [v, .int .i64 x] H fun u H' => u = .int .i64 (ixL l x) ∧ H = H' := by
  obtain ⟨a, c, rfl⟩ := hd.i1
  refine wpF_ofW o48 rfl rfl ?_
  refine wp_seq ?_; refine wp_region ?_; refine wpO_cons ?_; refine op1_mov rfl (by (conv => lhs; whnf) <;> rfl) ?_; refine wpO_nil ?_; refine seq_normal ?_; refine wp_seq ?_; refine wp_seq ?_; refine wp_region ?_; refine wpO_cons ?_; refine op1_mov rfl (by (conv => lhs; whnf) <;> rfl) ?_; refine wpO_cons ?_; refine op1_len rfl rfl ?_; refine wpO_cons ?_; refine op1_mov rfl (by (conv => lhs; whnf) <;> rfl) ?_; refine wpO_nil ?_; refine seq_normal ?_; refine wp_block ?_
  refine wp_loop [8] (fun k vs H' => ∃ i : Nat, vs = [.int .i64 i] ∧ i + k = l.length ∧ H = H' ∧ ∀ j, j < i → l[j]? ≠ some x) ⟨l.length, 0, rfl, by omega, rfl, by simp⟩ ?_
  rintro k vs T' H1 ⟨i, rfl, hk, rfl, hno⟩
  refine wp_seq ?_; refine wp_region ?_; refine wpO_cons ?_; refine op1_lss rfl rfl rfl ?_; refine wpO_nil ?_; refine seq_normal ?_; refine wp_seq ?_
  refine wp_dec rfl (fun hc => ?_) (fun hc => ?_)
  · obtain ⟨b, off, cs, e, ro, v, rfl, _, hg, hv, hx⟩ := hd.at1 (i := i) (by omega)
    obtain ⟨y, hy, rfl⟩ := i64s_get hx
    refine wp_skip ?_; refine seq_normal ?_; refine wp_seq ?_; refine wp_block ?_; refine wp_seq ?_; refine wp_region ?_; refine wpO_cons ?_; refine op1_mov rfl (by (conv => lhs; whnf) <;> rfl) ?_; refine wpO_cons ?_; refine op1_mov rfl (by (conv => lhs; whnf) <;> rfl) ?_; refine wpO_nil ?_; refine seq_normal ?_; refine wp_seq ?_; refine wp_region ?_; refine wpO_cons ?_; refine op1_mov rfl (by (conv => lhs; whnf) <;> rfl) ?_; refine wpO_cons ?_; refine op1_mov rfl (by (conv => lhs; whnf) <;> rfl) ?_; refine wpO_cons ?_; refine op1_mov rfl (by (conv => lhs; whnf) <;> rfl) ?_; refine wpO_cons ?_; refine op1_iaddr rfl rfl rfl (by omega) (by omega) ?_; refine wpO_cons ?_
    refine op1_load rfl rfl hg hv ?_
    refine wpO_cons ?_; refine op1_eqlI rfl rfl rfl ?_; refine wpO_nil ?_; refine seq_normal ?_
    refine wp_dec rfl (fun he => ?_) (fun he => ?_)
    · refine wp_seq ?_; refine wp_region ?_; refine wpO_cons ?_; refine op1_mov rfl (by (conv => lhs; whnf) <;> rfl) ?_; refine wpO_cons ?_; refine op1_mov rfl (by (conv => lhs; whnf) <;> rfl) ?_; refine wpO_nil ?_; refine seq_normal ?_; refine wp_ret ?_; refine block_ret ?_; refine seq_ret ?_; refine iter_ret ?_; refine block_ret ?_; refine seq_ret ?_; refine ret_of ?_; refine rk_tmp (by (conv => lhs; whnf) <;> rfl) ?_; refine rk_nil ?_
      rw [ixL_step hno hy he.symm]
      exact ⟨rfl, rfl⟩
    · refine wp_skip ?_; refine block_normal ?_; refine seq_normal ?_; refine wp_region ?_; refine wpO_cons ?_; refine op1_add rfl rfl rfl (by exact wrap_i64 (by omega) (by omega)) ?_; refine wpO_cons ?_; refine op1_mov rfl (by (conv => lhs; whnf) <;> rfl) ?_; refine wpO_nil ?_
      refine ⟨k - 1, by omega, i + 1, rfl, by omega, rfl, fun j hj => ?_⟩
      by_cases hji : j = i
      · subst hji
        rw [hy]
        intro e
        exact he (Option.some.inj e).symm
      · exact hno j (by omega)
  · refine wp_exit ?_; refine seq_exit ?_; refine iter_exit ?_; refine block_exit ?_; refine seq_normal ?_; refine wp_seq ?_; refine wp_region ?_; refine wpO_cons ?_; refine op1_mov rfl (by (conv => lhs; whnf) <;> rfl) ?_; refine wpO_nil ?_; refine seq_normal ?_; refine wp_ret ?_; refine ret_of ?_; refine rk_tmp (by (conv => lhs; whnf) <;> rfl) ?_; refine rk_nil ?_
    rw [ixL_none fun j hj => hno j (by omega)]
    exact ⟨rfl, rfl⟩

theorem L65 {H : AHeap} {v : Value} {l : List Int} {r : List Nat} {x : Int} (hd : RdS H 1 v (i64s l) r) (hl : l.length ≤ 1000000) : wpF C 65 [v, .int .i64 x] H fun u H' => u = .bool (decide (0 ≤ ixL l x)) ∧ H = H' := by
  refine wpF_ofW o65 rfl rfl ?_
  refine wp_seq ?_; refine wp_region ?_; refine wpO_cons ?_; refine op1_mov rfl (by (conv => lhs; whnf) <;> rfl) ?_; refine wpO_nil ?_; refine seq_normal ?_; refine wp_seq ?_; refine wp_region ?_; refine wpO_cons ?_; refine op1_mov rfl (by (conv => lhs; whnf) <;> rfl) ?_; refine wpO_cons ?_; refine op1_mov rfl (by (conv => lhs; whnf) <;> rfl) ?_; refine wpO_cons ?_; refine op1_call2 rfl (by (conv => lhs; whnf) <;> rfl) (by (conv => lhs; whnf) <;> rfl) ?_
  refine wpF_mono (L48 hd hl) ?_
  rintro _ _ ⟨rfl, rfl⟩
  refine wpO_cons ?_; refine op1_geq rfl rfl rfl ?_; refine wpO_cons ?_; refine op1_mov rfl (by (conv => lhs; whnf) <;> rfl) ?_; refine wpO_nil ?_; refine seq_normal ?_; refine wp_ret ?_; refine ret_of ?_; refine rk_tmp (by (conv => lhs; whnf) <;> rfl) ?_; refine rk_nil ?_
  exact ⟨rfl, rfl⟩

def PP.blocked (s : PP) (t : Int) : Bool := decide (t ∈ s.readers.map (·.1)) || decide (t ∈ s.writers.map (·.thread))
theorem dec_ix (l : List Int) (x : Int) : decide (0 ≤ ixL l x) = decide (x ∈ l) := by
  have h1 := ixL_neg (l := l) (c := x)
  have h2 := ixL_ge l x
  by_cases h : x ∈ l
  · rw [decide_eq_true h, decide_eq_true]
    by_cases h3 : 0 ≤ ixL l x
    · exact h3
    · exact absurd h (h1.1 (by omega))
  · rw [decide_eq_false h, decide_eq_false]
    have := h1.2 h
    omega

theorem L38 {B H : AHeap} {As : List Asn} {p : Nat} {s : PP} {t : Int} (hS : S B H (repP p s :: As)) (hl : s.readers.length ≤ 1000) (hl2 : s.writers.length ≤ 1000) :
    wpF C 38 [.pointer (some ⟨p, 0, none⟩), .int .i64 t] H fun v H' => v = .bool (s.blocked t) ∧ S B H' (repP p s :: As) := by
  refine wpF_ofW o38 rfl rfl ?_
  refine wp_seq ?_; refine wp_region ?_; refine wpO_cons ?_; refine op1_mov rfl (by (conv => lhs; whnf) <;> rfl) ?_; refine wpO_nil ?_; refine seq_normal ?_; refine wp_seq ?_; refine wp_region ?_; refine wpO_cons ?_; refine op1_mov rfl (by (conv => lhs; whnf) <;> rfl) ?_; refine wpO_cons ?_; refine op1_call1 rfl (by (conv => lhs; whnf) <;> rfl) ?_
  refine wpF_mono (L21 hS hl) ?_
  rintro v1 H1 hS
  obtain ⟨_, hd1, _⟩ := hS.rd
  refine wpO_cons ?_; refine op1_mov rfl (by (conv => lhs; whnf) <;> rfl) ?_; refine wpO_cons ?_; refine op1_call2 rfl (by (conv => lhs; whnf) <;> rfl) (by (conv => lhs; whnf) <;> rfl) ?_
  refine wpF_mono (L65 hd1 (by simp; omega)) ?_
  rintro _ _ ⟨rfl, rfl⟩
  rw [dec_ix]
  replace hS := S.drop hS
  refine wpO_cons ?_; refine op1_mov rfl (by (conv => lhs; whnf) <;> rfl) ?_; refine wpO_cons ?_
  refine op1_dec rfl (fun hc => ?_) (fun hc => ?_)
  · refine op1_skip rfl ?_; refine wpO_cons ?_; refine op1_skip rfl ?_; refine wpO_cons ?_; refine op1_skip rfl ?_; refine wpO_cons ?_; refine op1_skip rfl ?_; refine wpO_cons ?_; refine op1_pick_t rfl rfl (by (conv => lhs; whnf) <;> rfl) ?_; refine wpO_cons ?_; refine op1_mov rfl (by (conv => lhs; whnf) <;> rfl) ?_; refine wpO_nil ?_; refine seq_normal ?_; refine wp_ret ?_; refine ret_of ?_; refine rk_tmp (by (conv => lhs; whnf) <;> rfl) ?_; refine rk_nil ?_
    exact ⟨by unfold PP.blocked; rw [decide_eq_true hc]; rfl, hS⟩
  · refine op1_mov rfl (by (conv => lhs; whnf) <;> rfl) ?_; refine wpO_cons ?_; refine op1_call1 rfl (by (conv => lhs; whnf) <;> rfl) ?_
    refine wpF_mono (L22 hS hl2) ?_
    rintro v2 H2 hS
    obtain ⟨_, hd2, _⟩ := hS.rd
    refine wpO_cons ?_; refine op1_mov rfl (by (conv => lhs; whnf) <;> rfl) ?_; refine wpO_cons ?_; refine op1_call2 rfl (by (conv => lhs; whnf) <;> rfl) (by (conv => lhs; whnf) <;> rfl) ?_
    refine wpF_mono (L65 hd2 (by simp; omega)) ?_
    rintro _ _ ⟨rfl, rfl⟩
    rw [dec_ix]
    replace hS := S.drop hS
    refine wpO_cons ?_; refine op1_pick_f rfl rfl (by (conv => lhs; whnf) <;> rfl) ?_; refine wpO_cons ?_; refine op1_mov rfl (by (conv => lhs; whnf) <;> rfl) ?_; refine wpO_nil ?_; refine seq_normal ?_; refine wp_ret ?_; refine ret_of ?_; refine rk_tmp (by (conv => lhs; whnf) <;> rfl) ?_; refine rk_nil ?_
    exact ⟨by unfold PP.blocked; rw [decide_eq_false hc]; rfl, hS⟩
end Go.E.Pi
