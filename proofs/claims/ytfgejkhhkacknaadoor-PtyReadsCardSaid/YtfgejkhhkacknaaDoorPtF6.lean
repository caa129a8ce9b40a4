/- The pseudo terminal: what can be looked at, and the law's own draining. -/
import Derived.Test.YtfgejkhhkacknaaDoorPtF5
import Derived.Test.YtfgejkhhkacknaaDoorEngZc
namespace Go.E.Pty
open Go Go.E Go.Proofs.YtfgejkhhkacknaaDoor.base Go.Proofs.YtfgejkhhkacknaaDoor Go.Proofs
set_option linter.unusedVariables false
set_option linter.unusedSimpArgs false
set_option maxRecDepth 100000

theorem L17 {rl : Bool} {H : AHeap} {p : Nat} {s : PT} {O : List Nat} (h : RepT rl H p s O) : wpF C 17 [.pointer (some ⟨p, 0, none⟩)] H fun v H' => v = .bool s.stopped ∧ H = H' := by
  obtain ⟨vl, vi, vo, vs, cells, ol, oi, orr, oo, os, h, rfl⟩ := h
  have hg := h.get
  refine wpF_ofW o17 rfl rfl ?_
  refine wp_seq ?_; refine wp_region ?_; refine wpO_cons ?_; refine op1_mov rfl (by (conv => lhs; whnf) <;> rfl) ?_; refine wpO_nil ?_; refine seq_normal ?_; refine wp_seq ?_; refine wp_region ?_; refine wpO_cons ?_; refine op1_mov rfl (by (conv => lhs; whnf) <;> rfl) ?_; refine wpO_cons ?_; refine op1_bin_true rfl (by (conv => lhs; whnf) <;> rfl) (by (conv => lhs; whnf) <;> rfl) rfl ?_; refine wpO_cons ?_; refine op1_mov rfl (by (conv => lhs; whnf) <;> rfl) ?_; refine wpO_cons ?_; refine op1_mov rfl (by (conv => lhs; whnf) <;> rfl) ?_; refine wpO_cons ?_; refine op1_nilchk rfl rfl ?_; refine wpO_cons ?_; refine op1_faddr0 rfl rfl ?_; refine wpO_cons ?_; refine op1_load rfl rfl (by with_reducible assumption) rfl ?_; refine wpO_cons ?_; refine op1_pick_t rfl rfl (by (conv => lhs; whnf) <;> rfl) ?_; refine wpO_cons ?_; refine op1_mov rfl (by (conv => lhs; whnf) <;> rfl) ?_; refine wpO_nil ?_; refine seq_normal ?_; refine wp_ret ?_; refine ret_of ?_; refine rk_tmp (by (conv => lhs; whnf) <;> rfl) ?_; refine rk_nil ?_
  exact ⟨rfl, rfl⟩

theorem L16 {rl : Bool} {H : AHeap} {p : Nat} {s : PT} {O : List Nat} (h : RepT rl H p s O) (hlim : s.line.length ≤ 1000000) : wpF C 16 [.pointer (some ⟨p, 0, none⟩)] H fun v H' => ∃ r, New1 H H' O v s.line r ∧ RepT rl H' p s O ∧ Ext O H O H' := by
  have hR := h
  have hlt := h.lt
  obtain ⟨vl, vi, vo, vs, cells, ol, oi, orr, oo, os, h, rfl⟩ := h
  obtain ⟨al, cl, rfl⟩ := h.line.b1
  have hg := h.get
  refine wpF_ofW o16 rfl rfl ?_
  refine wp_seq ?_; refine wp_region ?_; refine wpO_cons ?_; refine op1_mov rfl (by (conv => lhs; whnf) <;> rfl) ?_; refine wpO_nil ?_; refine seq_normal ?_; refine wp_seq ?_; refine wp_seq ?_; refine wp_region ?_; refine wpO_cons ?_; refine op1_mov rfl (by (conv => lhs; whnf) <;> rfl) ?_; refine wpO_cons ?_; refine op1_bin_false rfl (by (conv => lhs; whnf) <;> rfl) (by (conv => lhs; whnf) <;> rfl) rfl ?_; refine wpO_nil ?_; refine seq_normal ?_; refine wp_false rfl ?_; refine wp_skip ?_; refine seq_normal ?_; refine wp_seq ?_; refine wp_region ?_; refine wpO_cons ?_; refine op1_mov rfl (by (conv => lhs; whnf) <;> rfl) ?_; refine wpO_cons ?_; refine op1_nilchk rfl rfl ?_; refine wpO_cons ?_; refine op1_faddr0 rfl rfl ?_; refine wpO_cons ?_; refine op1_load rfl rfl (by with_reducible assumption) rfl ?_; refine wpO_cons ?_
  refine op1_appendO rfl rfl (by (conv => lhs; whnf) <;> rfl) rfl .nil rfl (h.line.rd.src (by omega) (k := s.line.length) (by simp [bts])) (by simp [bts]) (by rw [bts_take]; exact bts_one _) (by omega) (fun b hb => by simp at hb) ?_
  intro a2 c2 o2 H2 hO2 hE2
  refine wpO_cons ?_; refine op1_mov rfl (by (conv => lhs; whnf) <;> rfl) ?_; refine wpO_nil ?_; refine seq_normal ?_; refine wp_ret ?_; refine ret_of ?_; refine rk_tmp (by (conv => lhs; whnf) <;> rfl) ?_; refine rk_nil ?_
  have hfr : ∀ b ∈ o2, H.next ≤ b ∧ b < H2.next := fun b hb => (hE2.own b hb).elim (fun h => by simp at h) id
  rw [List.nil_append, Nat.mul_one, List.take_of_length_le (by simp [bts])] at hO2
  have h2 := h.frame hE2.next fun b hb => hE2.keep b hb (by simp)
  exact ⟨o2, ⟨hO2, fun b hb => ⟨(hfr b hb).1, (hfr b hb).2, fun hm => absurd (hlt b hm) (by have := (hfr b hb).1; omega)⟩⟩, ⟨_, _, _, _, _, _, _, _, _, _, h2, rfl⟩, ⟨hE2.next, fun b hb _ => hE2.keep b hb (by simp), fun b hb => .inl hb⟩⟩

theorem L19 {rl : Bool} {H : AHeap} {p : Nat} {s : PT} {O : List Nat} (h : RepT rl H p s O) : wpF C 19 [.pointer (some ⟨p, 0, none⟩)] H fun v H' => ∃ O' r, SlO H' 1 v (ints s.signals) r ∧ (∀ b ∈ r, b < H'.next ∧ b ∈ O ∧ b ∉ O') ∧ RepT rl H' p { s with signals := [] } O' ∧ Ext O H O' H' := by
  obtain ⟨vl, vi, vo, vs, cells, ol, oi, orr, oo, os, h, rfl⟩ := h
  obtain ⟨a1, c1, rfl⟩ := h.sig.i1
  have hg := h.get
  refine wpF_ofW o19 rfl rfl ?_
  refine wp_seq ?_; refine wp_region ?_; refine wpO_cons ?_; refine op1_mov rfl (by (conv => lhs; whnf) <;> rfl) ?_; refine wpO_nil ?_; refine seq_normal ?_; refine wp_seq ?_; refine wp_seq ?_; refine wp_region ?_; refine wpO_cons ?_; refine op1_mov rfl (by (conv => lhs; whnf) <;> rfl) ?_; refine wpO_cons ?_; refine op1_bin_false rfl (by (conv => lhs; whnf) <;> rfl) (by (conv => lhs; whnf) <;> rfl) rfl ?_; refine wpO_nil ?_; refine seq_normal ?_; refine wp_false rfl ?_; refine wp_skip ?_; refine seq_normal ?_; refine wp_seq ?_; refine wp_region ?_; refine wpO_cons ?_; refine op1_mov rfl (by (conv => lhs; whnf) <;> rfl) ?_; refine wpO_cons ?_; refine op1_nilchk rfl rfl ?_; refine wpO_cons ?_; refine op1_faddr0 rfl rfl ?_; refine wpO_cons ?_; refine op1_load rfl rfl (by with_reducible assumption) rfl ?_; refine wpO_cons ?_; refine op1_mov rfl (by (conv => lhs; whnf) <;> rfl) ?_; refine wpO_nil ?_; refine seq_normal ?_; refine wp_seq ?_; refine wp_region ?_; refine wpO_cons ?_; refine op1_mov rfl (by (conv => lhs; whnf) <;> rfl) ?_; refine wpO_cons ?_; refine op1_nilchk rfl rfl ?_; refine wpO_cons ?_; refine op1_faddr0 rfl rfl ?_; refine wpO_cons ?_; refine op1_store1 rfl rfl (by (conv => lhs; whnf) <;> rfl) rfl rfl (by with_reducible assumption) rfl ?_; refine wpO_nil ?_; refine seq_normal ?_; refine wp_seq ?_; refine wp_region ?_; refine wpO_cons ?_; refine op1_mov rfl (by (conv => lhs; whnf) <;> rfl) ?_; refine wpO_cons ?_; refine op1_mov rfl (by (conv => lhs; whnf) <;> rfl) ?_; refine wpO_nil ?_; refine seq_normal ?_; refine wp_ret ?_; refine ret_of ?_; refine rk_tmp (by (conv => lhs; whnf) <;> rfl) ?_; refine rk_nil ?_
  have nd := h.nd
  simp only [List.nodup_cons, List.nodup_append, List.mem_append] at nd
  obtain ⟨q1, q2⟩ := h.setSig (sig' := []) (vs' := .slice none 0 0) (os' := []) .nil ⟨Nat.le_refl _, fun _ _ _ => rfl, fun b hb => by simp at hb⟩
  refine ⟨_, os, h.sig.frame fun b hb => AHeap.gs_ne (by grind) rfl, fun b hb => ⟨h.lt.2.2.2.2.2 b hb, by simp [hb], by simp only [List.mem_cons, List.mem_append, List.not_mem_nil, or_false]; grind⟩, ⟨_, _, _, _, _, _, _, _, _, _, q1, rfl⟩, q2⟩

theorem RdS.i1' {H : AHeap} {v : Value} {l : List Int} {r : List Nat} (h : RdS H 1 v (ints l) r) : ∃ a c, v = .slice a l.length c := by simpa using h.shape1

/-- slices.Equal of numbers that are equal -/
theorem L18 {H : AHeap} {v w : Value} {l : List Int} {r1 r2 : List Nat} (h1 : RdS H 1 v (ints l) r1) (h2 : RdS H 1 w (ints l) r2) (hlim : l.length ≤ 1000000) : wpF C 18 [v, w] H fun u H' => u = .bool true ∧ H = H' := by
  obtain ⟨a, c, rfl⟩ := RdS.i1' h1
  obtain ⟨b, d, rfl⟩ := RdS.i1' h2
  refine wpF_ofW o18 rfl rfl ?_
  refine wp_seq ?_; refine wp_region ?_; refine wpO_cons ?_; refine op1_mov rfl (by (conv => lhs; whnf) <;> rfl) ?_; refine wpO_nil ?_; refine seq_normal ?_; refine wp_seq ?_; refine wp_seq ?_; refine wp_region ?_; refine wpO_cons ?_; refine op1_mov rfl (by (conv => lhs; whnf) <;> rfl) ?_; refine wpO_cons ?_; refine op1_len rfl rfl ?_; refine wpO_cons ?_; refine op1_mov rfl (by (conv => lhs; whnf) <;> rfl) ?_; refine wpO_cons ?_; refine op1_len rfl rfl ?_; refine wpO_cons ?_; refine op1_neqI_s rfl rfl rfl ?_; refine wpO_nil ?_; refine seq_normal ?_; refine wp_false rfl ?_; refine wp_skip ?_; refine seq_normal ?_; refine wp_seq ?_; refine wp_seq ?_; refine wp_region ?_; refine wpO_cons ?_; refine op1_mov rfl (by (conv => lhs; whnf) <;> rfl) ?_; refine wpO_cons ?_; refine op1_len rfl rfl ?_; refine wpO_cons ?_; refine op1_mov rfl (by (conv => lhs; whnf) <;> rfl) ?_; refine wpO_nil ?_; refine seq_normal ?_; refine wp_block ?_
  refine wp_loop [13] (fun k vs H' => ∃ i : Nat, vs = [.int .i64 i] ∧ i + k = l.length ∧ H = H') ⟨l.length, 0, rfl, by omega, rfl⟩ ?_
  rintro k vs T' H' ⟨i, rfl, hk, rfl⟩
  refine wp_seq ?_; refine wp_region ?_; refine wpO_cons ?_; refine op1_lss rfl rfl rfl ?_; refine wpO_nil ?_; refine seq_normal ?_; refine wp_seq ?_
  refine wp_dec rfl (fun hlt => ?_) (fun hlt => ?_)
  · have hi : i < l.length := by omega
    obtain ⟨b1, o1, cs1, e1, ro1, v1, rfl, _, hg1, hv1, hx1⟩ := h1.at1 hi
    obtain ⟨b2, o2, cs2, e2, ro2, v2, rfl, _, hg2, hv2, hx2⟩ := h2.at1 hi
    rw [hx1] at hx2
    cases hx2
    obtain ⟨x, rfl⟩ : ∃ x, v1 = .int .i64 x := by
      simp only [ints, List.getElem?_map, Option.map_eq_some_iff] at hx1
      obtain ⟨x, _, h2⟩ := hx1
      exact ⟨x, h2.symm⟩
    refine wp_skip ?_; refine seq_normal ?_; refine wp_seq ?_; refine wp_block ?_; refine wp_seq ?_; refine wp_region ?_; refine wpO_cons ?_; refine op1_mov rfl (by (conv => lhs; whnf) <;> rfl) ?_; refine wpO_cons ?_; refine op1_mov rfl (by (conv => lhs; whnf) <;> rfl) ?_; refine wpO_nil ?_; refine seq_normal ?_; refine wp_seq ?_; refine wp_regionD ?_; refine wpD_cons ?_; refine op1_mov rfl (by (conv => lhs; whnf) <;> rfl) ?_; refine wpD_cons ?_; refine op1_mov rfl (by (conv => lhs; whnf) <;> rfl) ?_; refine wpD_cons ?_; refine op1_iaddr rfl rfl rfl (by omega) (by omega) ?_; refine wpD_cons ?_
    refine op1_load rfl rfl hg1 hv1 ?_
    refine wpD_cons ?_; refine op1_mov rfl (by (conv => lhs; whnf) <;> rfl) ?_; refine wpD_cons ?_; refine op1_mov rfl (by (conv => lhs; whnf) <;> rfl) ?_; refine wpD_cons ?_; refine op1_iaddr rfl rfl rfl (by omega) (by omega) ?_; refine wpD_cons ?_
    refine op1_load rfl rfl hg2 hv2 ?_
    refine wpD_cons ?_; refine op1_neqI_s rfl rfl rfl ?_; refine wpD_nil ?_; refine dk_of ?_ ?_; refine chk_skip ?_; refine chk_skip ?_; refine chk_skip ?_; refine chk_cons 6 rfl rfl rfl ?_ ?_; refine chkFs_cons 0 rfl rfl ?_ ?_
    · exact chk_load rfl hg1 hv1 rfl
    exact chkFs_nil
    refine chk_skip ?_; refine chk_skip ?_; refine chk_skip ?_; refine chk_cons 2 rfl rfl rfl ?_ ?_; refine chkFs_cons 0 rfl rfl ?_ ?_
    · exact chk_load rfl hg2 hv2 rfl
    exact chkFs_nil
    refine chk_skip ?_; exact chk_end
    refine seq_normal ?_; refine wp_false rfl ?_; refine wp_skip ?_; refine block_normal ?_; refine seq_normal ?_; refine wp_region ?_; refine wpO_cons ?_; refine op1_add rfl rfl rfl (by exact wrap_i64 (by omega) (by omega)) ?_; refine wpO_cons ?_; refine op1_mov rfl (by (conv => lhs; whnf) <;> rfl) ?_; refine wpO_nil ?_
    exact ⟨k - 1, by omega, i + 1, rfl, by omega, rfl⟩
  · refine wp_exit ?_; refine seq_exit ?_; refine iter_exit ?_; refine block_exit ?_; refine seq_normal ?_; refine wp_seq ?_; refine wp_region ?_; refine wpO_cons ?_; refine op1_mov rfl (by (conv => lhs; whnf) <;> rfl) ?_; refine wpO_nil ?_; refine seq_normal ?_; refine wp_ret ?_; refine ret_of ?_; refine rk_tmp (by (conv => lhs; whnf) <;> rfl) ?_; refine rk_nil ?_
    exact ⟨rfl, rfl⟩

theorem RecsO.get {H : AHeap} {cs : List Value} {rs : List (List Int × Bool)} {o : List Nat} (h : RecsO H false cs rs o) : ∀ {i : Nat} {d : List Int} {r : Bool}, rs[i]? = some (d, r) → ∃ a c o', (cs.drop (i * 2)).take 2 = [.slice a d.length c, .bool r] ∧ SlO H 1 (.slice a d.length c) (bts d) o' ∧ ∀ b ∈ o', b ∈ o := by
  induction h with
  | nil => intro i d r hi; simp at hi
  | @cons v d0 r0 cs rs o1 o2 h t ih =>
    intro i d r hi
    cases i with
    | zero =>
      simp only [List.getElem?_cons_zero, Option.some.injEq, Prod.mk.injEq] at hi
      obtain ⟨rfl, rfl⟩ := hi
      obtain ⟨a, c, rfl⟩ := h.b1
      exact ⟨a, c, o1, by simp [recC], h, fun b hb => by simp [hb]⟩
    | succ i =>
      obtain ⟨a, c, o', h1, h2, h3⟩ := ih (by simpa using hi)
      refine ⟨a, c, o', ?_, h2, fun b hb => by simp [h3 b hb]⟩
      have e : (i + 1) * 2 = (recC false v r0).length + i * 2 := by simp [recC]; omega
      rw [e, ← List.drop_drop, List.drop_left]
      exact h1

def PT.avail (s : PT) : Nat := (s.input.map (·.1.length)).sum
theorem sum_le (l : List (List Int × Bool)) (M : Nat) (h : ∀ x ∈ l, x.1.length ≤ M) : (l.map (·.1.length)).sum ≤ l.length * M := by
  induction l with
  | nil => simp
  | cons a l ih =>
    have h1 := h a (by simp)
    have h2 := ih fun x hx => h x (by simp [hx])
    simp only [List.map_cons, List.sum_cons, List.length_cons, Nat.add_mul, Nat.one_mul]
    omega

theorem L15 {H : AHeap} {p : Nat} {s : PT} {O : List Nat} (h : RepT false H p s O) (hlim : s.input.length ≤ 100000) (hrec : ∀ x ∈ s.input, x.1.length ≤ 10000000) : wpF C 15 [.pointer (some ⟨p, 0, none⟩)] H fun v H' => v = .int .i64 s.avail ∧ Ext [] H [] H' := by
  have hlt := h.lt
  obtain ⟨vl, vi, vo, vs, cells, ol, oi, orr, oo, os, h, rfl⟩ := h
  obtain ⟨ai, li, ci, rfl, hli⟩ := h.inp.shape
  obtain rfl : li = s.input.length := by have := h.recs.length; omega
  have hg := h.get
  refine wpF_ofW o15 rfl rfl ?_
  refine wp_seq ?_; refine wp_region ?_; refine wpO_cons ?_; refine op1_mov rfl (by (conv => lhs; whnf) <;> rfl) ?_; refine wpO_nil ?_; refine seq_normal ?_; refine wp_seq ?_; refine wp_seq ?_; refine wp_region ?_; refine wpO_cons ?_; refine op1_mov rfl (by (conv => lhs; whnf) <;> rfl) ?_; refine wpO_cons ?_; refine op1_bin_false rfl (by (conv => lhs; whnf) <;> rfl) (by (conv => lhs; whnf) <;> rfl) rfl ?_; refine wpO_nil ?_; refine seq_normal ?_; refine wp_false rfl ?_; refine wp_skip ?_; refine seq_normal ?_; refine wp_seq ?_; refine wp_region ?_; refine wpO_cons ?_; refine op1_mov rfl (by (conv => lhs; whnf) <;> rfl) ?_; refine wpO_nil ?_; refine seq_normal ?_; refine wp_seq ?_; refine wp_seq ?_; refine wp_region ?_; refine wpO_cons ?_; refine op1_mov rfl (by (conv => lhs; whnf) <;> rfl) ?_; refine wpO_cons ?_; refine op1_nilchk rfl rfl ?_; refine wpO_cons ?_; refine op1_faddr0 rfl rfl ?_; refine wpO_cons ?_; refine op1_faddr rfl rfl ?_; refine wpO_cons ?_; refine op1_load rfl rfl (by with_reducible assumption) rfl ?_; refine wpO_cons ?_; refine op1_len rfl rfl ?_; refine wpO_cons ?_; refine op1_mov rfl (by (conv => lhs; whnf) <;> rfl) ?_; refine wpO_nil ?_; refine seq_normal ?_; refine wp_block ?_
  refine wp_loop [3, 14] (fun k vs H' => ∃ i : Nat, vs = [.int .i64 (((s.input.take i).map (·.1.length)).sum : Nat), .int .i64 i] ∧ i + k = s.input.length ∧ Ext [] H [] H') ⟨s.input.length, 0, rfl, by omega, Ext.refl _ _⟩ ?_
  rintro k vs T' H' ⟨i, rfl, hk, hE⟩
  refine wp_seq ?_; refine wp_region ?_; refine wpO_cons ?_; refine op1_lss rfl rfl rfl ?_; refine wpO_nil ?_; refine seq_normal ?_; refine wp_seq ?_
  refine wp_dec rfl (fun hlt2 => ?_) (fun hlt2 => ?_)
  · have hi : i < s.input.length := by omega
    obtain ⟨⟨d, r⟩, hdr⟩ : ∃ x, s.input[i]? = some x := ⟨s.input[i], by simp [hi]⟩
    obtain ⟨a, c, o', h1, h2, h3⟩ := h.recs.get hdr
    obtain ⟨bi, offi, csi, rfl, rfl, hgi, hle, hat⟩ := h.inp.at (i := i) hi
    have hgi' : H'.get bi = .cells csi 2 false := (hE.keep bi (h.lt.2.2.1 bi (by simp)) (by simp)).trans hgi
    have hcut : (csi.drop (offi + (i : Int).toNat * 2)).take 2 = [.slice a d.length c, .bool r] := by
      rw [← h1]
      apply List.ext_getElem?
      intro j
      simp only [Int.toNat_natCast, List.getElem?_take, List.getElem?_drop]
      split
      · rename_i hj; exact hat j hj
      · rfl
    have hsum := sum_le (s.input.take i) 10000000 fun x hx => hrec x (List.mem_of_mem_take hx)
    have hdl : d.length ≤ 10000000 := hrec (d, r) (List.mem_of_getElem? hdr)
    have htl : (s.input.take i).length ≤ 100000 := by simp only [List.length_take]; omega
    have hsucc : ((s.input.take (i + 1)).map (·.1.length)).sum = ((s.input.take i).map (·.1.length)).sum + d.length := by
      rw [List.take_add_one, hdr]; simp
    generalize hS : ((s.input.take i).map (·.1.length)).sum = S at *
    refine wp_skip ?_; refine seq_normal ?_; refine wp_seq ?_; refine wp_block ?_; refine wp_seq ?_; refine wp_region ?_; refine wpO_cons ?_; refine op1_iaddr rfl rfl rfl (by omega) (by omega) ?_; refine wpO_cons ?_
    refine op1_load_2 rfl rfl hgi' (Nat.ble_eq_true_of_le (by simp only [Int.toNat_natCast]; omega)) hcut ?_
    refine wpO_cons ?_; refine op1_alloc rfl ?_; refine wpO_cons ?_
    refine op1_storeN rfl rfl rfl rfl rfl AHeap.ga_same (by simp) ?_
    refine wpO_nil ?_; refine seq_normal ?_; refine wp_region ?_; refine wpO_cons ?_; refine op1_mov rfl (by (conv => lhs; whnf) <;> rfl) ?_; refine wpO_cons ?_; refine op1_faddr0 rfl rfl ?_; refine wpO_cons ?_; refine op1_load rfl rfl (by with_reducible exact AHeap.gs_same) rfl ?_; refine wpO_cons ?_; refine op1_len rfl rfl ?_; refine wpO_cons ?_; refine op1_add rfl rfl rfl (by exact wrap_i64 (by omega) (by omega)) ?_; refine wpO_cons ?_; refine op1_mov rfl (by (conv => lhs; whnf) <;> rfl) ?_; refine wpO_nil ?_; refine block_normal ?_; refine seq_normal ?_; refine wp_region ?_; refine wpO_cons ?_; refine op1_add rfl rfl rfl (by exact wrap_i64 (by omega) (by omega)) ?_; refine wpO_cons ?_; refine op1_mov rfl (by (conv => lhs; whnf) <;> rfl) ?_; refine wpO_nil ?_
    refine ⟨k - 1, by omega, i + 1, ?_, by omega, ?_⟩
    · rw [hsucc]; rfl
    · have e1 := (Ext.add [] H' (.cells [.slice none 0 0, .bool false] 0 false))
      refine hE.trans ⟨by simp, fun b hb _ => ?_, fun b hb => by simp at hb⟩ (by simp)
      rw [AHeap.get_set, if_neg (by omega), AHeap.get_add, if_neg (by omega)]
  · have : i = s.input.length := by omega
    subst this
    rw [List.take_length]
    refine wp_exit ?_; refine seq_exit ?_; refine iter_exit ?_; refine block_exit ?_; refine seq_normal ?_; refine wp_seq ?_; refine wp_region ?_; refine wpO_cons ?_; refine op1_mov rfl (by (conv => lhs; whnf) <;> rfl) ?_; refine wpO_cons ?_; refine op1_mov rfl (by (conv => lhs; whnf) <;> rfl) ?_; refine wpO_nil ?_; refine seq_normal ?_; refine wp_ret ?_; refine ret_of ?_; refine rk_tmp (by (conv => lhs; whnf) <;> rfl) ?_; refine rk_nil ?_
    exact ⟨rfl, hE⟩

def PT.drain : Nat → PT → List Int → List Int × PT
  | 0, s, acc => (acc, s)
  | n + 1, s, acc => if (s.read 5000).2.2.1 = 0 then PT.drain n (s.read 5000).2.2.2 (acc ++ (s.read 5000).1 ++ [124]) else (acc, (s.read 5000).2.2.2)

structure Small (s : PT) : Prop where
  inp : s.input.length ≤ 100000
  recs : ∀ x ∈ s.input, x.1.length ≤ 10000000

theorem Small.read {s : PT} (h : Small s) : Small (s.read 5000).2.2.2 ∧ (s.read 5000).1.length ≤ 5000 := by
  unfold PT.read
  rw [if_neg (by decide), if_neg (by decide)]
  split
  · split <;> exact ⟨h, by simp⟩
  · rename_i d r rest hin
    have h1 := h.inp
    rw [hin] at h1
    simp only [List.length_cons] at h1
    have h2 := h.recs
    rw [hin] at h2
    have hd : d.length ≤ 10000000 := h2 (d, r) (by simp)
    refine ⟨⟨?_, ?_⟩, ?_⟩
    · dsimp only
      split
      · omega
      · simp only [List.length_cons]; omega
    · dsimp only
      split
      · exact fun x hx => h2 x (by simp [hx])
      · intro x hx
        rcases List.mem_cons.1 hx with rfl | hx
        · show (d.drop _).length ≤ 10000000
          simp only [List.length_drop]; omega
        · exact h2 x (by simp [hx])
    · show (d.take _).length ≤ 5000
      simp only [List.length_take]; omega

theorem L20 {H : AHeap} {p : Nat} {s : PT} {O : List Nat} (h : RepT false H p s O) (hsm : Small s) : wpF C 20 [.pointer (some ⟨p, 0, none⟩)] H fun v H' => ∃ O' r, New1 H H' O' v (s.drain 1000 []).1 r ∧ RepT false H' p (s.drain 1000 []).2 O' ∧ Ext O H O' H' := by
  have hlt := h.lt
  generalize hD : s.drain 1000 [] = D
  refine wpF_ofW o20 rfl rfl ?_
  refine wp_seq ?_; refine wp_region ?_; refine wpO_cons ?_; refine op1_mov rfl (by (conv => lhs; whnf) <;> rfl) ?_; refine wpO_nil ?_; refine seq_normal ?_; refine wp_seq ?_; refine wp_region ?_; refine wpO_cons ?_; refine op1_mov rfl (by (conv => lhs; whnf) <;> rfl) ?_; refine wpO_nil ?_; refine seq_normal ?_; refine wp_seq ?_; refine wp_seq ?_; refine wp_region ?_; refine wpO_cons ?_; refine op1_mov rfl (by (conv => lhs; whnf) <;> rfl) ?_; refine wpO_nil ?_; refine seq_normal ?_; refine wp_block ?_
  refine wp_loop [4, 3] (fun k vs H' => ∃ (n : Nat) (sj : PT) (acc : List Int) (vo : Value) (O' r : List Nat), vs = [.int .i64 n, vo] ∧ n + k = 1000 ∧ SlO H' 1 vo (bts acc) r ∧ (∀ b ∈ r, H.next ≤ b ∧ b < H'.next ∧ b ∉ O') ∧ RepT false H' p sj O' ∧ Ext O H O' H' ∧ PT.drain k sj acc = D ∧ Small sj ∧ acc.length ≤ 5001 * n)
    ⟨1000, 0, s, [], .slice none 0 0, O, [], rfl, rfl, .nil, by simp, h, Ext.refl _ _, hD, hsm, by simp⟩ ?_
  rintro k vs T' H' ⟨n, sj, acc, vo, O', r, rfl, hk, hS, hr, hR, hE, hdr, hsj, hacc⟩
  obtain ⟨ao, co, rfl⟩ := hS.b1
  refine wp_seq ?_; refine wp_seq ?_; refine wp_region ?_; refine wpO_cons ?_; refine op1_mov rfl (by (conv => lhs; whnf) <;> rfl) ?_; refine wpO_cons ?_; refine op1_lss rfl rfl rfl ?_; refine wpO_nil ?_; refine seq_normal ?_
  refine wp_dec rfl (fun hlt2 => ?_) (fun hlt2 => ?_)
  · obtain ⟨k, rfl⟩ : ∃ j, k = j + 1 := ⟨k - 1, by omega⟩
    obtain ⟨hsj2, hdl⟩ := hsj.read
    refine wp_skip ?_; refine seq_normal ?_; refine wp_seq ?_; refine wp_block ?_; refine wp_seq ?_; refine wp_region ?_; refine wpO_cons ?_; refine op1_mov rfl (by (conv => lhs; whnf) <;> rfl) ?_; refine wpO_cons ?_; refine op1_call2 rfl (by (conv => lhs; whnf) <;> rfl) (by (conv => lhs; whnf) <;> rfl) ?_
    refine wpF_mono (L12 hR 5000 hsj.inp hsj.recs) ?_
    rintro v H2 ⟨O2, v5, r5, rfl, hN, hR2, hE2⟩
    simp only [PT.drain] at hdr
    generalize (sj.read 5000).1 = dat at *
    generalize (sj.read 5000).2.2.2 = s2 at *
    generalize (sj.read 5000).2.2.1 = er at *
    have hr2 : ∀ b ∈ r, b ∉ O2 := fun b hb hm => (hE2.own b hm).elim (hr b hb).2.2 fun h => absurd (hr b hb).2.1 (by omega)
    have hS2 : SlO H2 1 (.slice ao acc.length co) (bts acc) r := hS.frame fun b hb => hE2.keep b (hr b hb).2.1 (hr b hb).2.2
    obtain ⟨a5, c5, rfl⟩ := hN.sl.b1
    refine wpO_cons ?_; refine op1_mov rfl (by (conv => lhs; whnf) <;> rfl) ?_; refine wpO_cons ?_; refine op1_extract rfl rfl rfl ?_; refine wpO_cons ?_; refine op1_extract rfl rfl rfl ?_; refine wpO_cons ?_; refine op1_extract rfl rfl rfl ?_; refine wpO_cons ?_; refine op1_mov rfl (by (conv => lhs; whnf) <;> rfl) ?_; refine wpO_cons ?_; refine op1_mov rfl (by (conv => lhs; whnf) <;> rfl) ?_; refine wpO_cons ?_; refine op1_mov rfl (by (conv => lhs; whnf) <;> rfl) ?_; refine wpO_nil ?_; refine seq_normal ?_; refine wp_seq ?_; refine wp_seq ?_; refine wp_region ?_; refine wpO_cons ?_; refine op1_mov rfl (by (conv => lhs; whnf) <;> rfl) ?_; refine wpO_cons ?_; refine op1_neqI rfl rfl rfl ?_; refine wpO_nil ?_; refine seq_normal ?_
    refine wp_ndec rfl (fun hc => ?_) (fun hc => ?_)
    · rw [if_neg hc] at hdr
      refine wp_exit ?_; refine seq_exit ?_; refine block_other rfl ?_; refine seq_exit ?_; refine iter_exit ?_; refine block_exit ?_; refine seq_normal ?_; refine wp_seq ?_; refine wp_region ?_; refine wpO_cons ?_; refine op1_mov rfl (by (conv => lhs; whnf) <;> rfl) ?_; refine wpO_cons ?_; refine op1_mov rfl (by (conv => lhs; whnf) <;> rfl) ?_; refine wpO_nil ?_; refine seq_normal ?_; refine wp_ret ?_; refine ret_of ?_; refine rk_tmp (by (conv => lhs; whnf) <;> rfl) ?_; refine rk_nil ?_
      rw [← hdr]
      exact ⟨O2, r, ⟨hS2, fun b hb => ⟨(hr b hb).1, Nat.lt_of_lt_of_le (hr b hb).2.1 hE2.next, hr2 b hb⟩⟩, hR2, hE.trans hE2 hlt⟩
    · rw [if_pos hc] at hdr
      refine wp_skip ?_; refine seq_normal ?_; refine wp_region ?_; refine wpO_cons ?_; refine op1_mov rfl (by (conv => lhs; whnf) <;> rfl) ?_; refine wpO_cons ?_; refine op1_mov rfl (by (conv => lhs; whnf) <;> rfl) ?_; refine wpO_cons ?_
      refine op1_appendO rfl rfl (by (conv => lhs; whnf) <;> rfl) rfl hS2 rfl (hN.sl.rd.src (by omega) (k := dat.length) (by simp [bts])) (by simp [bts]) (by rw [bts_take]; exact bts_one _) (by omega) (fun b hb => Nat.lt_of_lt_of_le (hr b hb).2.1 hE2.next) ?_
      intro a6 c6 o6 H6 hO6 hE6
      rw [Nat.mul_one, List.take_of_length_le (by simp [bts]), ← bts_append] at hO6
      have hlt6 := hE6.lt fun b hb => Nat.lt_of_lt_of_le (hr b hb).2.1 hE2.next
      refine wpO_cons ?_; refine op1_bslice rfl ?_; refine bk_one (by (conv => lhs; whnf) <;> rfl) rfl rfl rfl ?_; refine bk_nil ?_; refine wpO_cons ?_
      refine op1_appendN rfl rfl rfl rfl AHeap.ga_same rfl rfl (hO6.add hlt6 _) (by omega) (fun b hb => by have := hlt6 b hb; simp only [AHeap.next_add]; omega) ?_
      intro a7 c7 o7 H7 hO7 hE7
      have hE8 := (Ext.add o6 H6 (.cells [.int .u8 124] 1 false)).trans hE7 hlt6
      have hE9 := hE6.trans hE8 fun b hb => Nat.lt_of_lt_of_le (hr b hb).2.1 hE2.next
      refine wpO_cons ?_; refine op1_mov rfl (by (conv => lhs; whnf) <;> rfl) ?_; refine wpO_nil ?_; refine block_normal ?_; refine seq_normal ?_; refine wp_region ?_; refine wpO_cons ?_; refine op1_mov rfl (by (conv => lhs; whnf) <;> rfl) ?_; refine wpO_cons ?_; refine op1_add rfl rfl rfl (by exact wrap_i64 (by omega) (by omega)) ?_; refine wpO_cons ?_; refine op1_mov rfl (by (conv => lhs; whnf) <;> rfl) ?_; refine wpO_nil ?_
      have hkeep : ∀ b ∈ O2, H7.get b = H2.get b := fun b hb => hE9.keep b (hR2.lt b hb) fun hm => hr2 b hm hb
      have hE2' := hE.trans hE2 hlt
      have hE11 : Ext O H O2 H7 := ⟨Nat.le_trans hE2'.next hE9.next, fun b hb hn => (hE9.keep b (Nat.lt_of_lt_of_le hb hE2'.next) fun hm => absurd hb (by have := (hr b hm).1; omega)).trans (hE2'.keep b hb hn), fun b hb => (hE2'.own b hb).imp id fun h => ⟨h.1, Nat.lt_of_lt_of_le h.2 hE9.next⟩⟩
      have hgl := h.glob.le
      refine ⟨k, by omega, n + 1, s2, acc ++ dat ++ [124], _, O2, o7, rfl, by omega, ?_, ?_, hR2.frame (hR2.glob.ext hE9 fun b hb => by have := (hr b hb).1; omega) hE9.next hkeep, hE11, hdr, hsj2, ?_⟩
      · rw [bts_append]; exact hO7
      · intro b hb
        rcases hE9.own b hb with h1 | ⟨h1, h2⟩
        · exact ⟨(hr b h1).1, Nat.lt_of_lt_of_le (hr b h1).2.1 (Nat.le_trans hE2.next hE9.next), hr2 b h1⟩
        · exact ⟨Nat.le_trans hE2'.next h1, h2, fun hm => absurd (hR2.lt b hm) (by omega)⟩
      · simp only [List.length_append, List.length_cons, List.length_nil]; omega
  · obtain rfl : k = 0 := by omega
    simp only [PT.drain] at hdr
    refine wp_exit ?_; refine seq_exit ?_; refine iter_exit ?_; refine block_exit ?_; refine seq_normal ?_; refine wp_seq ?_; refine wp_region ?_; refine wpO_cons ?_; refine op1_mov rfl (by (conv => lhs; whnf) <;> rfl) ?_; refine wpO_cons ?_; refine op1_mov rfl (by (conv => lhs; whnf) <;> rfl) ?_; refine wpO_nil ?_; refine seq_normal ?_; refine wp_ret ?_; refine ret_of ?_; refine rk_tmp (by (conv => lhs; whnf) <;> rfl) ?_; refine rk_nil ?_
    rw [← hdr]
    exact ⟨O', r, ⟨hS, hr⟩, hR, hE⟩
end Go.E.Pty
