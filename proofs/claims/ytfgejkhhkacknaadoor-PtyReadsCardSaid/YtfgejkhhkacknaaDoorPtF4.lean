/- The pseudo terminal: Output, Read, New, Equal. -/
import Derived.Test.YtfgejkhhkacknaaDoorPtF3
namespace Go.E.Pty
open Go Go.E Go.Proofs.YtfgejkhhkacknaaDoor.base Go.Proofs.YtfgejkhhkacknaaDoor Go.Proofs
set_option linter.unusedVariables false
set_option linter.unusedSimpArgs false
set_option maxRecDepth 100000

/-- a slice that was made for the caller -/
structure New1 (H H' : AHeap) (O' : List Nat) (v : Value) (l : List Int) (r : List Nat) : Prop where
  sl : SlO H' 1 v (bts l) r
  fresh : ∀ b ∈ r, H.next ≤ b ∧ b < H'.next ∧ b ∉ O'

theorem New1.nil (H H' : AHeap) (O' : List Nat) : New1 H H' O' (.slice none 0 0) [] [] := ⟨.nil, fun b hb => by simp at hb⟩

def PT.outp (s : PT) (n : Int) : List Int × Int × PT :=
  if n < 0 then ([], 34, s) else if s.stopped = true then ([], 0, s) else
    (s.output.take (min n s.output.length).toNat, 0, { s with output := s.output.drop (min n s.output.length).toNat })

theorem L13 {H : AHeap} {p : Nat} {s : PT} {O : List Nat} (h : RepT false H p s O) (n : Int) (hlim : s.output.length ≤ 1000000) :
    wpF C 13 [.pointer (some ⟨p, 0, none⟩), .int .i64 n] H fun v H' => ∃ O' vo r, v = .tuple ⟨[vo, .int .i64 (s.outp n).2.1]⟩ ∧ New1 H H' O' vo (s.outp n).1 r ∧ RepT false H' p (s.outp n).2.2 O' ∧ Ext O H O' H' := by
  have hR := h
  have hlt := h.lt
  obtain ⟨vl, vi, vo, vs, cells, ol, oi, orr, oo, os, h, rfl⟩ := h
  obtain ⟨ao, co, rfl⟩ := h.out.b1
  have hg := h.get
  refine wpF_ofW o13 rfl rfl ?_
  unfold PT.outp
  refine wp_seq ?_; refine wp_region ?_; refine wpO_cons ?_; refine op1_mov rfl (by (conv => lhs; whnf) <;> rfl) ?_; refine wpO_cons ?_; refine op1_mov rfl (by (conv => lhs; whnf) <;> rfl) ?_; refine wpO_nil ?_; refine seq_normal ?_; refine wp_seq ?_; refine wp_block ?_; refine wp_seq ?_; refine wp_region ?_; refine wpO_cons ?_; refine op1_mov rfl (by (conv => lhs; whnf) <;> rfl) ?_; refine wpO_cons ?_; refine op1_bin_false rfl (by (conv => lhs; whnf) <;> rfl) (by (conv => lhs; whnf) <;> rfl) rfl ?_; refine wpO_cons ?_; refine op1_mov rfl (by (conv => lhs; whnf) <;> rfl) ?_; refine wpO_nil ?_; refine seq_normal ?_; refine wp_false rfl ?_; refine wp_seq ?_; refine wp_region ?_; refine wpO_cons ?_; refine op1_mov rfl (by (conv => lhs; whnf) <;> rfl) ?_; refine wpO_cons ?_; refine op1_lss rfl rfl rfl ?_; refine wpO_cons ?_; refine op1_mov rfl (by (conv => lhs; whnf) <;> rfl) ?_; refine wpO_nil ?_; refine seq_normal ?_
  refine wp_dec rfl (fun hc => ?_) (fun hc => ?_)
  · rw [if_pos hc]
    refine wp_seq ?_; refine wp_region ?_; refine wpO_cons ?_; refine op1_mov rfl (by (conv => lhs; whnf) <;> rfl) ?_; refine wpO_cons ?_; refine op1_mov rfl (by (conv => lhs; whnf) <;> rfl) ?_; refine wpO_nil ?_; refine seq_normal ?_; refine wp_ret ?_; refine block_ret ?_; refine seq_ret ?_; refine ret_of ?_; refine rk_tmp (by (conv => lhs; whnf) <;> rfl) ?_; refine rk_tmp (by (conv => lhs; whnf) <;> rfl) ?_; refine rk_nil ?_
    exact ⟨_, _, [], rfl, New1.nil _ _ _, hR, Ext.refl _ _⟩
  rw [if_neg hc]
  refine wp_seq ?_; refine wp_region ?_; refine wpO_cons ?_; refine op1_mov rfl (by (conv => lhs; whnf) <;> rfl) ?_; refine wpO_cons ?_; refine op1_nilchk rfl rfl ?_; refine wpO_cons ?_; refine op1_faddr0 rfl rfl ?_; refine wpO_cons ?_; refine op1_load rfl rfl (by with_reducible assumption) rfl ?_; refine wpO_cons ?_; refine op1_mov rfl (by (conv => lhs; whnf) <;> rfl) ?_; refine wpO_nil ?_; refine seq_normal ?_
  refine wp_cond rfl (fun hh => ?_) (fun hh => ?_)
  · rw [if_pos hh]
    refine wp_seq ?_; refine wp_region ?_; refine wpO_cons ?_; refine op1_mov rfl (by (conv => lhs; whnf) <;> rfl) ?_; refine wpO_cons ?_; refine op1_mov rfl (by (conv => lhs; whnf) <;> rfl) ?_; refine wpO_nil ?_; refine seq_normal ?_; refine wp_ret ?_; refine block_ret ?_; refine seq_ret ?_; refine ret_of ?_; refine rk_tmp (by (conv => lhs; whnf) <;> rfl) ?_; refine rk_tmp (by (conv => lhs; whnf) <;> rfl) ?_; refine rk_nil ?_
    exact ⟨_, _, [], rfl, New1.nil _ _ _, hR, Ext.refl _ _⟩
  rw [if_neg (by rw [hh]; simp)]
  have hco := h.out.len_le
  obtain ⟨k, hk⟩ : ∃ k : Nat, (min n (s.output.length : Int)) = k := ⟨(min n (s.output.length : Int)).toNat, by omega⟩
  have hkl : k ≤ s.output.length := by omega
  simp only [hk, Int.toNat_natCast]
  refine wp_skip ?_; refine block_normal ?_; refine seq_normal ?_; refine wp_seq ?_; refine wp_region ?_; refine wpO_cons ?_; refine op1_mov rfl (by (conv => lhs; whnf) <;> rfl) ?_; refine wpO_cons ?_; refine op1_mov rfl (by (conv => lhs; whnf) <;> rfl) ?_; refine wpO_cons ?_; refine op1_nilchk rfl rfl ?_; refine wpO_cons ?_; refine op1_faddr0 rfl rfl ?_; refine wpO_cons ?_; refine op1_load rfl rfl (by with_reducible assumption) rfl ?_; refine wpO_cons ?_; refine op1_len rfl rfl ?_; refine wpO_cons ?_; refine op1_min rfl rfl rfl ?_; refine wpO_cons ?_; refine op1_mov rfl (by (conv => lhs; whnf) <;> rfl) ?_; refine wpO_nil ?_; refine seq_normal ?_; refine wp_seq ?_; refine wp_region ?_; refine wpO_cons ?_; refine op1_mov rfl (by (conv => lhs; whnf) <;> rfl) ?_; refine wpO_cons ?_; refine op1_nilchk rfl rfl ?_; refine wpO_cons ?_; refine op1_faddr0 rfl rfl ?_; refine wpO_cons ?_; refine op1_load rfl rfl (by with_reducible assumption) rfl ?_; refine wpO_cons ?_; refine op1_mov rfl (by (conv => lhs; whnf) <;> rfl) ?_; refine wpO_cons ?_
  rw [hk]
  skip
  refine op1_sliceO rfl rfl h.out (bnds_hi (by omega) (by omega)) (by omega) (by simp only [Int.toNat_natCast]; omega) ?_
  simp only [Int.toNat_natCast, Nat.zero_mul, List.drop_zero, Nat.sub_zero, Nat.mul_one]
  intro a1 c1 hS1
  refine wpO_cons ?_
  refine op1_appendO rfl rfl (by (conv => lhs; whnf) <;> rfl) rfl .nil rfl (hS1.rd.src (by omega) (k := k) (by simp [bts]; omega)) (by simp [bts]; omega) (by rw [bts_take, bts_take]; exact bts_one _) (by omega) (fun b hb => by simp at hb) ?_
  intro a2 c2 o2 H2 hO2 hE2
  refine wpO_cons ?_; refine op1_mov rfl (by (conv => lhs; whnf) <;> rfl) ?_; refine wpO_nil ?_; refine seq_normal ?_; refine wp_seq ?_; refine wp_region ?_; refine wpO_cons ?_; refine op1_mov rfl (by (conv => lhs; whnf) <;> rfl) ?_; refine wpO_cons ?_; refine op1_mov rfl (by (conv => lhs; whnf) <;> rfl) ?_; refine wpO_cons ?_; refine op1_nilchk rfl rfl ?_; refine wpO_cons ?_; refine op1_faddr0 rfl rfl ?_; refine wpO_cons ?_
  have h2 := h.frame hE2.next fun b hb => hE2.keep b hb (by simp)
  have hg2 := h2.get
  refine op1_load rfl rfl (by with_reducible assumption) rfl ?_; refine wpO_cons ?_; refine op1_mov rfl (by (conv => lhs; whnf) <;> rfl) ?_; refine wpO_cons ?_
  refine op1_sliceO rfl rfl h2.out (bnds_lo (by omega) (by omega) hco) (by simp only [Int.toNat_natCast]; omega) (Nat.le_refl _) ?_
  simp only [Int.toNat_natCast, Nat.mul_one]
  intro a3 c3 hS3
  refine wpO_cons ?_; refine op1_nilchk rfl rfl ?_; refine wpO_cons ?_; refine op1_faddr0 rfl rfl ?_; refine wpO_cons ?_; refine op1_store1 rfl rfl (by (conv => lhs; whnf) <;> rfl) rfl rfl (by with_reducible assumption) rfl ?_; refine wpO_nil ?_; refine seq_normal ?_; refine wp_seq ?_; refine wp_region ?_; refine wpO_cons ?_; refine op1_mov rfl (by (conv => lhs; whnf) <;> rfl) ?_; refine wpO_cons ?_; refine op1_mov rfl (by (conv => lhs; whnf) <;> rfl) ?_; refine wpO_cons ?_; refine op1_mov rfl (by (conv => lhs; whnf) <;> rfl) ?_; refine wpO_nil ?_; refine seq_normal ?_; refine wp_ret ?_; refine ret_of ?_; refine rk_tmp (by (conv => lhs; whnf) <;> rfl) ?_; refine rk_tmp (by (conv => lhs; whnf) <;> rfl) ?_; refine rk_nil ?_
  rw [List.take_of_length_le (by simp [bts]), bts_drop] at hS3
  rw [List.take_take, Nat.mul_one, Nat.min_self, List.nil_append, bts_take] at hO2
  obtain ⟨q1, q2⟩ := h2.setOut (out' := s.output.drop k) hS3 (Ext.refl oo H2)
  have hfr : ∀ b ∈ o2, H.next ≤ b ∧ b < H2.next := fun b hb => (hE2.own b hb).elim (fun h => by simp at h) id
  refine ⟨_, _, o2, rfl, ⟨hO2.frame fun b hb => ?_, fun b hb => ⟨(hfr b hb).1, (hfr b hb).2, fun hm => absurd (hlt b hm) (by have := (hfr b hb).1; omega)⟩⟩, ⟨_, _, _, _, _, _, _, _, _, _, q1, rfl⟩, ?_⟩
  · have h1 := h.lt.1
    have h3 := (hfr b hb).1
    rw [AHeap.get_set, if_neg (by omega)]
  · exact ⟨Nat.le_trans hE2.next q2.next, fun b hb hn => (q2.keep b (Nat.lt_of_lt_of_le hb hE2.next) hn).trans (hE2.keep b hb (by simp)), fun b hb => .inl hb⟩

/-- bytes.Equal -/
theorem toBytes_bts (l : List Int) : toBytes (bts l) = some (l.map fun n => UInt8.ofNat n.toNat) := by
  induction l with
  | nil => rfl
  | cons a l ih => simp only [bts, List.map_cons, toBytes] at ih ⊢; rw [ih]; rfl
theorem b2s_rd {H : AHeap} {v : Value} {l : List Int} {r : List Nat} (h : RdS H 1 v (bts l) r) : b2sN H v = some (.string ⟨⟨l.map fun n => UInt8.ofNat n.toNat⟩⟩) := by
  generalize hx : bts l = xs at h
  cases h with
  | nil =>
    have : l = [] := by simpa [bts] using hx
    subst this; rfl
  | empty a =>
    have : l = [] := by simpa [bts] using hx
    subst this; rfl
  | @blk b off n c cs e ro hg hc he hl =>
    have hl : n = l.length := by have := congrArg List.length hx; simp at this; omega
    simp only [b2sN]
    split
    · rename_i h0
      have : l = [] := List.eq_nil_of_length_eq_zero (by omega)
      subst this; rfl
    · simp only [AHeap.row, hg]
      rw [Nat.mul_one] at hc hx
      rw [if_pos hc, Option.bind_some, ← hx, toBytes_bts]
      rfl
theorem L14 {H : AHeap} {v w : Value} {l : List Int} {r1 r2 : List Nat} (h1 : RdS H 1 v (bts l) r1) (h2 : RdS H 1 w (bts l) r2) : wpF C 14 [v, w] H fun u H' => u = .bool true ∧ H = H' := by
  refine wpF_ofW o14 rfl rfl ?_
  refine wp_seq ?_; refine wp_region ?_; refine wpO_cons ?_; refine op1_mov rfl (by (conv => lhs; whnf) <;> rfl) ?_; refine wpO_nil ?_; refine seq_normal ?_; refine wp_seq ?_; refine wp_region ?_; refine wpO_cons ?_; refine op1_mov rfl (by (conv => lhs; whnf) <;> rfl) ?_; refine wpO_cons ?_
  refine op1_b2s rfl (by (conv => lhs; whnf) <;> rfl) (b2s_rd h1) ?_
  refine wpO_cons ?_; refine op1_mov rfl (by (conv => lhs; whnf) <;> rfl) ?_; refine wpO_cons ?_
  refine op1_b2s rfl (by (conv => lhs; whnf) <;> rfl) (b2s_rd h2) ?_
  refine wpO_cons ?_; refine op1_eqlS rfl rfl rfl ?_; refine wpO_cons ?_; refine op1_mov rfl (by (conv => lhs; whnf) <;> rfl) ?_; refine wpO_nil ?_; refine seq_normal ?_; refine wp_ret ?_; refine ret_of ?_; refine rk_tmp (by (conv => lhs; whnf) <;> rfl) ?_; refine rk_nil ?_
  exact ⟨by simp [resultV], rfl⟩

def PT.new (m : Int) : PT := ⟨m, 24, 80, [], [], [], false, [], false⟩
theorem L9e {H : AHeap} {m : Int} (hm : m < 0 ∨ 63 < m) : wpF C 9 [.int .i64 m] H fun v H' => v = .tuple ⟨[.pointer none, .int .i64 34]⟩ ∧ H = H' := by
  refine wpF_ofW o9 rfl rfl ?_
  refine wp_seq ?_; refine wp_region ?_; refine wpO_cons ?_; refine op1_mov rfl (by (conv => lhs; whnf) <;> rfl) ?_; refine wpO_cons ?_; refine op1_mov rfl (by (conv => lhs; whnf) <;> rfl) ?_; refine wpO_nil ?_; refine seq_normal ?_; refine wp_seq ?_; refine wp_seq ?_; refine wp_region ?_; refine wpO_cons ?_; refine op1_mov rfl (by (conv => lhs; whnf) <;> rfl) ?_; refine wpO_cons ?_; refine op1_lss rfl rfl rfl ?_; refine wpO_cons ?_; refine op1_mov rfl (by (conv => lhs; whnf) <;> rfl) ?_; refine wpO_cons ?_
  refine op1_dec rfl (fun hc => ?_) (fun hc => ?_)
  · refine op1_skip rfl ?_; refine wpO_cons ?_; refine op1_skip rfl ?_; refine wpO_cons ?_; refine op1_pick_t rfl rfl (by (conv => lhs; whnf) <;> rfl) ?_; refine wpO_nil ?_; refine seq_normal ?_; refine wp_true rfl ?_; refine wp_seq ?_; refine wp_region ?_; refine wpO_cons ?_; refine op1_mov rfl (by (conv => lhs; whnf) <;> rfl) ?_; refine wpO_cons ?_; refine op1_mov rfl (by (conv => lhs; whnf) <;> rfl) ?_; refine wpO_nil ?_; refine seq_normal ?_; refine wp_ret ?_; refine seq_ret ?_; refine ret_of ?_; refine rk_tmp (by (conv => lhs; whnf) <;> rfl) ?_; refine rk_tmp (by (conv => lhs; whnf) <;> rfl) ?_; refine rk_nil ?_
    exact ⟨rfl, rfl⟩
  refine op1_mov rfl (by (conv => lhs; whnf) <;> rfl) ?_; refine wpO_cons ?_; refine op1_gtr rfl rfl rfl ?_; refine wpO_cons ?_; refine op1_pick_f rfl rfl (by (conv => lhs; whnf) <;> rfl) ?_; refine wpO_nil ?_; refine seq_normal ?_
  refine wp_dec rfl (fun hc2 => ?_) (fun hc2 => ?_)
  · refine wp_seq ?_; refine wp_region ?_; refine wpO_cons ?_; refine op1_mov rfl (by (conv => lhs; whnf) <;> rfl) ?_; refine wpO_cons ?_; refine op1_mov rfl (by (conv => lhs; whnf) <;> rfl) ?_; refine wpO_nil ?_; refine seq_normal ?_; refine wp_ret ?_; refine seq_ret ?_; refine ret_of ?_; refine rk_tmp (by (conv => lhs; whnf) <;> rfl) ?_; refine rk_tmp (by (conv => lhs; whnf) <;> rfl) ?_; refine rk_nil ?_
    exact ⟨rfl, rfl⟩
  omega
theorem L9 {H : AHeap} (hg : Glob objs H) {m : Int} (hm : 0 ≤ m ∧ m ≤ 63) : wpF C 9 [.int .i64 m] H fun v H' => ∃ p O, v = .tuple ⟨[.pointer (some ⟨p, 0, none⟩), .int .i64 0]⟩ ∧ RepT false H' p (PT.new m) O ∧ Ext [] H O H' := by
  refine wpF_ofW o9 rfl rfl ?_
  refine wp_seq ?_; refine wp_region ?_; refine wpO_cons ?_; refine op1_mov rfl (by (conv => lhs; whnf) <;> rfl) ?_; refine wpO_cons ?_; refine op1_mov rfl (by (conv => lhs; whnf) <;> rfl) ?_; refine wpO_nil ?_; refine seq_normal ?_; refine wp_seq ?_; refine wp_seq ?_; refine wp_region ?_; refine wpO_cons ?_; refine op1_mov rfl (by (conv => lhs; whnf) <;> rfl) ?_; refine wpO_cons ?_; refine op1_lss rfl rfl rfl ?_; refine wpO_cons ?_; refine op1_mov rfl (by (conv => lhs; whnf) <;> rfl) ?_; refine wpO_cons ?_
  refine op1_dec rfl (fun hc => ?_) (fun hc => ?_)
  · omega
  refine op1_mov rfl (by (conv => lhs; whnf) <;> rfl) ?_; refine wpO_cons ?_; refine op1_gtr rfl rfl rfl ?_; refine wpO_cons ?_; refine op1_pick_f rfl rfl (by (conv => lhs; whnf) <;> rfl) ?_; refine wpO_nil ?_; refine seq_normal ?_
  refine wp_dec rfl (fun hc2 => ?_) (fun hc2 => ?_)
  · omega
  refine wp_skip ?_; refine seq_normal ?_; refine wp_seq ?_; refine wp_region ?_; refine wpO_cons ?_; refine op1_mov rfl (by (conv => lhs; whnf) <;> rfl) ?_; refine wpO_cons ?_; refine op1_build rfl ?_; refine bk_one (by (conv => lhs; whnf) <;> rfl) rfl rfl rfl ?_; refine bk_one (by (conv => lhs; whnf) <;> rfl) rfl rfl rfl ?_; refine bk_nil ?_; refine wpO_cons ?_; refine op1_build rfl ?_; refine bk_one (by (conv => lhs; whnf) <;> rfl) rfl rfl rfl ?_; refine bk_agg rfl rfl rfl rfl ?_; refine bk_nil ?_; refine wpO_cons ?_; refine op1_boxN rfl rfl rfl ?_; refine wpO_cons ?_; refine op1_mov rfl (by (conv => lhs; whnf) <;> rfl) ?_; refine wpO_cons ?_; refine op1_mov rfl (by (conv => lhs; whnf) <;> rfl) ?_; refine wpO_nil ?_; refine seq_normal ?_; refine wp_ret ?_; refine ret_of ?_; refine rk_tmp (by (conv => lhs; whnf) <;> rfl) ?_; refine rk_tmp (by (conv => lhs; whnf) <;> rfl) ?_; refine rk_nil ?_
  have hle := hg.le
  refine ⟨H.next, [H.next], rfl, ⟨_, _, _, _, [], [], [], [], [], [], ⟨?_, AHeap.ga_same, .nil, .nil, .nil, .nil, .nil, by simp, ?_⟩, rfl⟩, ⟨by simp, fun b hb _ => by rw [AHeap.get_add, if_neg (by omega)], ?_⟩⟩
  · exact ⟨fun b hb => by rw [AHeap.get_add, if_neg (by omega)]; exact hg.get b hb, by simp; omega⟩
  · intro b hb; simp only [List.append_nil, List.mem_cons, List.not_mem_nil, or_false] at hb; subst hb; exact ⟨hle, by simp⟩
  · intro b hb; simp only [List.mem_cons, List.not_mem_nil, or_false] at hb; subst hb; exact .inr ⟨Nat.le_refl _, by simp⟩
end Go.E.Pty
