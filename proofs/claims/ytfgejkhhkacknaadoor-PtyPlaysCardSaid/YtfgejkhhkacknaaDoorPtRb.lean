/- Both terminals: the looks, Signals, Hangup, SetSize, New. -/
import Derived.Test.YtfgejkhhkacknaaDoorPtRa
import Derived.Test.YtfgejkhhkacknaaDoorEngZd
namespace Go.E.Pty
open Go Go.E Go.Proofs.YtfgejkhhkacknaaDoor.base Go.Proofs.YtfgejkhhkacknaaDoor Go.Proofs
set_option linter.unusedVariables false
set_option linter.unusedSimpArgs false
set_option maxRecDepth 100000

theorem L59 {rl : Bool} {H : AHeap} {p : Nat} {s : PT} {O : List Nat} (h : RepT rl H p s O) : wpF C 59 [.pointer (some ⟨p, 0, none⟩)] H fun v H' => v = .bool s.stopped ∧ H = H' := by
  obtain ⟨vl, vi, vo, vs, cells, ol, oi, orr, oo, os, h, rfl⟩ := h
  have hg := h.get
  refine wpF_ofW o59 rfl rfl ?_
  refine wp_seq ?_; refine wp_region ?_; refine wpO_cons ?_; refine op1_mov rfl (by (conv => lhs; whnf) <;> rfl) ?_; refine wpO_nil ?_; refine seq_normal ?_; refine wp_seq ?_; refine wp_region ?_; refine wpO_cons ?_; refine op1_mov rfl (by (conv => lhs; whnf) <;> rfl) ?_; refine wpO_cons ?_; refine op1_nilchk rfl rfl ?_; refine wpO_cons ?_; refine op1_faddr0 rfl rfl ?_; refine wpO_cons ?_; refine op1_load rfl rfl (by with_reducible assumption) rfl ?_; refine wpO_cons ?_; refine op1_mov rfl (by (conv => lhs; whnf) <;> rfl) ?_; refine wpO_nil ?_; refine seq_normal ?_; refine wp_ret ?_; refine ret_of ?_; refine rk_tmp (by (conv => lhs; whnf) <;> rfl) ?_; refine rk_nil ?_
  exact ⟨rfl, rfl⟩
theorem L60 {rl : Bool} {H : AHeap} {p : Nat} {s : PT} {O : List Nat} (h : RepT rl H p s O) : wpF C 60 [.pointer (some ⟨p, 0, none⟩)] H fun v H' => v = .int .i64 s.modes ∧ H = H' := by
  obtain ⟨vl, vi, vo, vs, cells, ol, oi, orr, oo, os, h, rfl⟩ := h
  have hg := h.get
  refine wpF_ofW o60 rfl rfl ?_
  refine wp_seq ?_; refine wp_region ?_; refine wpO_cons ?_; refine op1_mov rfl (by (conv => lhs; whnf) <;> rfl) ?_; refine wpO_nil ?_; refine seq_normal ?_; refine wp_seq ?_; refine wp_region ?_; refine wpO_cons ?_; refine op1_mov rfl (by (conv => lhs; whnf) <;> rfl) ?_; refine wpO_cons ?_; refine op1_nilchk rfl rfl ?_; refine wpO_cons ?_; refine op1_faddr0 rfl rfl ?_; refine wpO_cons ?_; refine op1_load rfl rfl (by with_reducible assumption) rfl ?_; refine wpO_cons ?_; refine op1_mov rfl (by (conv => lhs; whnf) <;> rfl) ?_; refine wpO_nil ?_; refine seq_normal ?_; refine wp_ret ?_; refine ret_of ?_; refine rk_tmp (by (conv => lhs; whnf) <;> rfl) ?_; refine rk_nil ?_
  exact ⟨rfl, rfl⟩
theorem L25 {rl : Bool} {H : AHeap} {p : Nat} {s : PT} {O : List Nat} (h : RepT rl H p s O) : wpF C 25 [.pointer (some ⟨p, 0, none⟩)] H fun v H' => v = .int .i64 s.modes ∧ H = H' := by
  obtain ⟨vl, vi, vo, vs, cells, ol, oi, orr, oo, os, h, rfl⟩ := h
  have hg := h.get
  refine wpF_ofW o25 rfl rfl ?_
  refine wp_seq ?_; refine wp_region ?_; refine wpO_cons ?_; refine op1_mov rfl (by (conv => lhs; whnf) <;> rfl) ?_; refine wpO_nil ?_; refine seq_normal ?_; refine wp_seq ?_; refine wp_seq ?_; refine wp_region ?_; refine wpO_cons ?_; refine op1_mov rfl (by (conv => lhs; whnf) <;> rfl) ?_; refine wpO_cons ?_; refine op1_bin_false rfl (by (conv => lhs; whnf) <;> rfl) (by (conv => lhs; whnf) <;> rfl) rfl ?_; refine wpO_nil ?_; refine seq_normal ?_; refine wp_false rfl ?_; refine wp_skip ?_; refine seq_normal ?_; refine wp_seq ?_; refine wp_region ?_; refine wpO_cons ?_; refine op1_mov rfl (by (conv => lhs; whnf) <;> rfl) ?_; refine wpO_cons ?_; refine op1_nilchk rfl rfl ?_; refine wpO_cons ?_; refine op1_faddr0 rfl rfl ?_; refine wpO_cons ?_; refine op1_load rfl rfl (by with_reducible assumption) rfl ?_; refine wpO_cons ?_; refine op1_mov rfl (by (conv => lhs; whnf) <;> rfl) ?_; refine wpO_nil ?_; refine seq_normal ?_; refine wp_ret ?_; refine ret_of ?_; refine rk_tmp (by (conv => lhs; whnf) <;> rfl) ?_; refine rk_nil ?_
  exact ⟨rfl, rfl⟩
theorem L61 {rl : Bool} {H : AHeap} {p : Nat} {s : PT} {O : List Nat} (h : RepT rl H p s O) : wpF C 61 [.pointer (some ⟨p, 0, none⟩)] H fun v H' => v = .agg ⟨[.int .i64 s.rows, .int .i64 s.cols]⟩ ∧ Ext [] H [] H' := by
  obtain ⟨vl, vi, vo, vs, cells, ol, oi, orr, oo, os, h, rfl⟩ := h
  have hg := h.get
  have hlt := h.lt.1
  refine wpF_ofW o61 rfl rfl ?_
  refine wp_seq ?_; refine wp_region ?_; refine wpO_cons ?_; refine op1_alloc rfl ?_; refine wpO_nil ?_; refine seq_normal ?_; refine wp_seq ?_; refine wp_region ?_; refine wpO_cons ?_; refine op1_mov rfl (by (conv => lhs; whnf) <;> rfl) ?_; refine wpO_cons ?_; refine op1_nilchk rfl rfl ?_; refine wpO_cons ?_; refine op1_faddr0 rfl rfl ?_; refine wpO_cons ?_; refine op1_load_2 rfl rfl (by with_reducible refine AHeap.ga_lt (by omega) ?_; with_reducible assumption) rfl rfl ?_; refine wpO_cons ?_
  refine op1_storeN rfl rfl rfl rfl rfl AHeap.ga_same (by simp) ?_
  refine wpO_nil ?_; refine seq_normal ?_; refine wp_ret ?_; refine ret_of ?_; refine rk_cellN rfl (by with_reducible exact AHeap.gs_same) rfl rfl ?_; refine rk_nil ?_
  exact ⟨rfl, ⟨by simp, fun b hb _ => by rw [AHeap.get_set, if_neg (by omega), AHeap.get_add, if_neg (by omega)], fun b hb => by simp at hb⟩⟩
theorem L26 {rl : Bool} {H : AHeap} {p : Nat} {s : PT} {O : List Nat} (h : RepT rl H p s O) : wpF C 26 [.pointer (some ⟨p, 0, none⟩)] H fun v H' => v = .agg ⟨[.int .i64 s.rows, .int .i64 s.cols]⟩ ∧ Ext [] H [] H' := by
  obtain ⟨vl, vi, vo, vs, cells, ol, oi, orr, oo, os, h, rfl⟩ := h
  have hg := h.get
  have hlt := h.lt.1
  refine wpF_ofW o26 rfl rfl ?_
  refine wp_seq ?_; refine wp_region ?_; refine wpO_cons ?_; refine op1_alloc rfl ?_; refine wpO_nil ?_; refine seq_normal ?_; refine wp_seq ?_; refine wp_seq ?_; refine wp_region ?_; refine wpO_cons ?_; refine op1_mov rfl (by (conv => lhs; whnf) <;> rfl) ?_; refine wpO_cons ?_; refine op1_bin_false rfl (by (conv => lhs; whnf) <;> rfl) (by (conv => lhs; whnf) <;> rfl) rfl ?_; refine wpO_nil ?_; refine seq_normal ?_; refine wp_false rfl ?_; refine wp_skip ?_; refine seq_normal ?_; refine wp_seq ?_; refine wp_region ?_; refine wpO_cons ?_; refine op1_mov rfl (by (conv => lhs; whnf) <;> rfl) ?_; refine wpO_cons ?_; refine op1_nilchk rfl rfl ?_; refine wpO_cons ?_; refine op1_faddr0 rfl rfl ?_; refine wpO_cons ?_; refine op1_load_2 rfl rfl (by with_reducible refine AHeap.ga_lt (by omega) ?_; with_reducible assumption) rfl rfl ?_; refine wpO_cons ?_
  refine op1_storeN rfl rfl rfl rfl rfl AHeap.ga_same (by simp) ?_
  refine wpO_nil ?_; refine seq_normal ?_; refine wp_ret ?_; refine ret_of ?_; refine rk_cellN rfl (by with_reducible exact AHeap.gs_same) rfl rfl ?_; refine rk_nil ?_
  exact ⟨rfl, ⟨by simp, fun b hb _ => by rw [AHeap.get_set, if_neg (by omega), AHeap.get_add, if_neg (by omega)], fun b hb => by simp at hb⟩⟩
theorem L57 {rl : Bool} {H : AHeap} {p : Nat} {s : PT} {O : List Nat} (h : RepT rl H p s O) (hlim : s.line.length ≤ 1000000) : wpF C 57 [.pointer (some ⟨p, 0, none⟩)] H fun v H' => ∃ r, New1 H H' O v s.line r ∧ RepT rl H' p s O ∧ Ext O H O H' := by
  have hR := h
  have hlt := h.lt
  obtain ⟨vl, vi, vo, vs, cells, ol, oi, orr, oo, os, h, rfl⟩ := h
  obtain ⟨al, cl, rfl⟩ := h.line.b1
  have hg := h.get
  have hlo := h.lt.2.1
  have hgA := AHeap.ga_lt (o := .cells [] 1 false) h.lt.1 hg
  refine wpF_ofW o57 rfl rfl ?_
  refine wp_seq ?_; refine wp_region ?_; refine wpO_cons ?_; refine op1_mov rfl (by (conv => lhs; whnf) <;> rfl) ?_; refine wpO_nil ?_; refine seq_normal ?_; refine wp_seq ?_; refine wp_region ?_; refine wpO_cons ?_; refine op1_bslice rfl ?_; refine bk_nil ?_; refine wpO_cons ?_; refine op1_mov rfl (by (conv => lhs; whnf) <;> rfl) ?_; refine wpO_cons ?_; refine op1_nilchk rfl rfl ?_; refine wpO_cons ?_; refine op1_faddr0 rfl rfl ?_; refine wpO_cons ?_; refine op1_load rfl rfl (by with_reducible assumption) rfl ?_; refine wpO_cons ?_
  refine op1_appendO rfl rfl (by (conv => lhs; whnf) <;> rfl) rfl ((SlO.new (vs := []) (n := 0) rfl)) rfl ((h.line.add hlo _).rd.src (by omega) (k := s.line.length) (by simp [bts])) (by simp [bts]) (by rw [bts_take]; exact bts_one _) (by omega) (fun b hb => by simp at hb; subst hb; simp) ?_
  intro a2 c2 o2 H2 hO2 hE2
  rw [List.nil_append, Nat.mul_one, List.take_of_length_le (by simp [bts])] at hO2
  have own2 := hE2.own
  have hn2 := hE2.next
  simp only [AHeap.next_add, List.mem_singleton] at own2 hn2
  have hk2 : ∀ d, d < H.next → H2.get d = H.get d := fun d hd => (hE2.keep d (by simp only [AHeap.next_add]; omega) (by simp; omega)).trans (AHeap.ga_lt hd rfl)
  have hfr : ∀ d ∈ o2, H.next ≤ d ∧ d < H2.next := fun d hd => ⟨by rcases own2 d hd with h5 | h5 <;> omega, hE2.lt (fun b hb => by simp at hb; subst hb; simp) d hd⟩
  refine wpO_cons ?_; refine op1_mov rfl (by (conv => lhs; whnf) <;> rfl) ?_; refine wpO_nil ?_; refine seq_normal ?_; refine wp_ret ?_; refine ret_of ?_; refine rk_tmp (by (conv => lhs; whnf) <;> rfl) ?_; refine rk_nil ?_
  have h2 := h.frame (by omega) hk2
  exact ⟨o2, ⟨hO2, fun b hb => ⟨(hfr b hb).1, (hfr b hb).2, fun hm => absurd (hlt b hm) (by have := (hfr b hb).1; omega)⟩⟩, ⟨_, _, _, _, _, _, _, _, _, _, h2, rfl⟩, ⟨by omega, fun b hb _ => hk2 b hb, fun b hb => .inl hb⟩⟩
theorem L55 {rl : Bool} {H : AHeap} {p : Nat} {s : PT} {O : List Nat} (h : RepT rl H p s O) : wpF C 55 [.pointer (some ⟨p, 0, none⟩)] H fun v H' => ∃ O' r, SlO H' 1 v (ints s.signals) r ∧ (∀ b ∈ r, b < H'.next ∧ b ∈ O ∧ b ∉ O') ∧ RepT rl H' p { s with signals := [] } O' ∧ Ext O H O' H' := by
  obtain ⟨vl, vi, vo, vs, cells, ol, oi, orr, oo, os, h, rfl⟩ := h
  obtain ⟨a1, c1, rfl⟩ := h.sig.i1
  have hg := h.get
  refine wpF_ofW o55 rfl rfl ?_
  refine wp_seq ?_; refine wp_region ?_; refine wpO_cons ?_; refine op1_mov rfl (by (conv => lhs; whnf) <;> rfl) ?_; refine wpO_nil ?_; refine seq_normal ?_; refine wp_seq ?_; refine wp_region ?_; refine wpO_cons ?_; refine op1_mov rfl (by (conv => lhs; whnf) <;> rfl) ?_; refine wpO_cons ?_; refine op1_nilchk rfl rfl ?_; refine wpO_cons ?_; refine op1_faddr0 rfl rfl ?_; refine wpO_cons ?_; refine op1_load rfl rfl (by with_reducible assumption) rfl ?_; refine wpO_cons ?_; refine op1_mov rfl (by (conv => lhs; whnf) <;> rfl) ?_; refine wpO_nil ?_; refine seq_normal ?_; refine wp_seq ?_; refine wp_region ?_; refine wpO_cons ?_; refine op1_mov rfl (by (conv => lhs; whnf) <;> rfl) ?_; refine wpO_cons ?_; refine op1_nilchk rfl rfl ?_; refine wpO_cons ?_; refine op1_faddr0 rfl rfl ?_; refine wpO_cons ?_; refine op1_store1 rfl rfl (by (conv => lhs; whnf) <;> rfl) rfl rfl (by with_reducible assumption) rfl ?_; refine wpO_nil ?_; refine seq_normal ?_; refine wp_seq ?_; refine wp_region ?_; refine wpO_cons ?_; refine op1_mov rfl (by (conv => lhs; whnf) <;> rfl) ?_; refine wpO_cons ?_; refine op1_mov rfl (by (conv => lhs; whnf) <;> rfl) ?_; refine wpO_nil ?_; refine seq_normal ?_; refine wp_ret ?_; refine ret_of ?_; refine rk_tmp (by (conv => lhs; whnf) <;> rfl) ?_; refine rk_nil ?_
  have nd := h.nd
  simp only [List.nodup_cons, List.nodup_append, List.mem_append] at nd
  obtain ⟨q1, q2⟩ := h.setSig (sig' := []) (vs' := .slice none 0 0) (os' := []) .nil ⟨Nat.le_refl _, fun _ _ _ => rfl, fun b hb => by simp at hb⟩
  refine ⟨_, os, h.sig.frame fun b hb => AHeap.gs_ne (by grind) rfl, fun b hb => ⟨h.lt.2.2.2.2.2 b hb, by simp [hb], by simp only [List.mem_cons, List.mem_append, List.not_mem_nil, or_false]; grind⟩, ⟨_, _, _, _, _, _, _, _, _, _, q1, rfl⟩, q2⟩
def PT.hangup (s : PT) : Int × PT := if s.hung = true then (35, s) else (0, { s.send 1 with hung := true, output := [], line := [], stopped := false })
/-- the output and the line dropped, hung up -/
theorem OpT.hang {rl : Bool} {H : AHeap} {p : Nat} {s : PT} {vl vi vo vs : Value} {cells : List Value} {ol oi orr oo os : List Nat} {H9 : AHeap} (h : OpT rl H p s vl vi vo vs cells ol oi orr oo os)
    (hget : ∀ b, H9.get b = (H.set p (.cells [.int .i64 s.modes, .int .i64 s.rows, .int .i64 s.cols, .slice none 0 0, vi, .slice none 0 0, .bool false, vs, .bool true] 0 false)).get b) (hn : H9.next = H.next) :
    ∃ O'', RepT rl H9 p { s with line := [], output := [], stopped := false, hung := true } O'' ∧ Ext (p :: (ol ++ (oi ++ (orr ++ (oo ++ os))))) H O'' H9 := by
  have nd := h.nd
  have low := h.low
  simp only [List.nodup_cons, List.nodup_append, List.mem_append, List.mem_cons] at nd low
  refine fin_congr ?_ hget hn
  have k : ∀ b, b ≠ p → (H.set p (.cells [.int .i64 s.modes, .int .i64 s.rows, .int .i64 s.cols, .slice none 0 0, vi, .slice none 0 0, .bool false, vs, .bool true] 0 false)).get b = H.get b := fun b h3 => by rw [AHeap.get_set, if_neg h3]
  refine ⟨p :: ([] ++ (oi ++ (orr ++ ([] ++ os)))), ⟨_, vi, _, vs, cells, [], oi, orr, [], os, ⟨⟨fun b hb => ?_, h.glob.le⟩, AHeap.gs_same, .nil, h.inp.frame fun b hb => k b (by grind), h.recs.frame fun b hb => k b (by grind), .nil, h.sig.frame fun b hb => k b (by grind), ?_, ?_⟩, rfl⟩, ⟨Nat.le_refl _, fun b h1 h2 => k b (by simp at h2; exact h2.1), fun b hb => .inl (by simp only [List.mem_append, List.mem_cons, List.not_mem_nil, false_or] at hb ⊢; grind)⟩⟩
  · rw [k b (by grind)]; exact h.glob.get b hb
  · simp only [List.nodup_cons, List.nodup_append, List.mem_append, List.nil_append]; grind
  · simp only [List.mem_append, List.mem_cons, AHeap.next_set, List.nil_append]; grind
theorem L56 {rl : Bool} {H : AHeap} {p : Nat} {s : PT} {O : List Nat} (h : RepT rl H p s O) : wpF C 56 [.pointer (some ⟨p, 0, none⟩)] H fun v H' => v = .int .i64 s.hangup.1 ∧ ∃ O', RepT rl H' p s.hangup.2 O' ∧ Ext O H O' H' := by
  have hlt := h.lt
  have hR := h
  obtain ⟨vl, vi, vo, vs, cells, ol, oi, orr, oo, os, h, rfl⟩ := h
  have hg := h.get
  unfold PT.hangup
  refine wpF_ofW o56 rfl rfl ?_
  refine wp_seq ?_; refine wp_region ?_; refine wpO_cons ?_; refine op1_mov rfl (by (conv => lhs; whnf) <;> rfl) ?_; refine wpO_nil ?_; refine seq_normal ?_; refine wp_seq ?_; refine wp_seq ?_; refine wp_region ?_; refine wpO_cons ?_; refine op1_mov rfl (by (conv => lhs; whnf) <;> rfl) ?_; refine wpO_cons ?_; refine op1_nilchk rfl rfl ?_; refine wpO_cons ?_; refine op1_faddr0 rfl rfl ?_; refine wpO_cons ?_; refine op1_load rfl rfl (by with_reducible assumption) rfl ?_; refine wpO_nil ?_; refine seq_normal ?_
  refine wp_cond rfl (fun hh => ?_) (fun hh => ?_)
  · rw [if_pos hh]
    refine wp_seq ?_; refine wp_region ?_; refine wpO_cons ?_; refine op1_mov rfl (by (conv => lhs; whnf) <;> rfl) ?_; refine wpO_nil ?_; refine seq_normal ?_; refine wp_ret ?_; refine seq_ret ?_; refine ret_of ?_; refine rk_tmp (by (conv => lhs; whnf) <;> rfl) ?_; refine rk_nil ?_
    exact ⟨rfl, _, hR, Ext.refl _ _⟩
  rw [if_neg (by rw [hh]; simp)]
  refine wp_skip ?_; refine seq_normal ?_; refine wp_seq ?_; refine wp_region ?_; refine wpO_cons ?_; refine op1_mov rfl (by (conv => lhs; whnf) <;> rfl) ?_; refine wpO_cons ?_; refine op1_call2 rfl (by (conv => lhs; whnf) <;> rfl) (by (conv => lhs; whnf) <;> rfl) ?_
  refine wpF_mono (L77 hR 1) ?_
  rintro v H2 ⟨O2, hR2, hE2⟩
  obtain ⟨vl2, vi2, vo2, vs2, cells2, ol2, oi2, orr2, oo2, os2, h2, rfl⟩ := hR2
  have hg2 := h2.get
  refine wpO_nil ?_; refine seq_normal ?_; refine wp_seq ?_; refine wp_region ?_; refine wpO_cons ?_; refine op1_mov rfl (by (conv => lhs; whnf) <;> rfl) ?_; refine wpO_cons ?_; refine op1_mov rfl (by (conv => lhs; whnf) <;> rfl) ?_; refine wpO_cons ?_; refine op1_mov rfl (by (conv => lhs; whnf) <;> rfl) ?_; refine wpO_cons ?_; refine op1_mov rfl (by (conv => lhs; whnf) <;> rfl) ?_; refine wpO_cons ?_; refine op1_nilchk rfl rfl ?_; refine wpO_cons ?_; refine op1_faddr0 rfl rfl ?_; refine wpO_cons ?_; refine op1_store1 rfl rfl (by (conv => lhs; whnf) <;> rfl) rfl rfl (by with_reducible assumption) rfl ?_; refine wpO_cons ?_; refine op1_nilchk rfl rfl ?_; refine wpO_cons ?_; refine op1_faddr0 rfl rfl ?_; refine wpO_cons ?_; refine op1_store1 rfl rfl (by (conv => lhs; whnf) <;> rfl) rfl rfl (by with_reducible exact AHeap.gs_same) rfl ?_; refine wpO_cons ?_; refine op1_nilchk rfl rfl ?_; refine wpO_cons ?_; refine op1_faddr0 rfl rfl ?_; refine wpO_cons ?_; refine op1_store1 rfl rfl (by (conv => lhs; whnf) <;> rfl) rfl rfl (by with_reducible exact AHeap.gs_same) rfl ?_; refine wpO_cons ?_; refine op1_nilchk rfl rfl ?_; refine wpO_cons ?_; refine op1_faddr0 rfl rfl ?_; refine wpO_cons ?_; refine op1_store1 rfl rfl (by (conv => lhs; whnf) <;> rfl) rfl rfl (by with_reducible exact AHeap.gs_same) rfl ?_; refine wpO_nil ?_; refine seq_normal ?_; refine wp_seq ?_; refine wp_region ?_; refine wpO_cons ?_; refine op1_mov rfl (by (conv => lhs; whnf) <;> rfl) ?_; refine wpO_nil ?_; refine seq_normal ?_; refine wp_ret ?_; refine ret_of ?_; refine rk_tmp (by (conv => lhs; whnf) <;> rfl) ?_; refine rk_nil ?_
  refine ⟨rfl, Exists.imp (fun O3 q => ⟨q.1, hE2.trans q.2 hlt⟩) (h2.hang (fun b => ?_) (by rfl))⟩
  simp only [AHeap.get_set]
  split <;> rfl
theorem L24 {rl : Bool} {H : AHeap} {p : Nat} {s : PT} {O : List Nat} (h : RepT rl H p s O) : wpF C 24 [.pointer (some ⟨p, 0, none⟩)] H fun v H' => v = .int .i64 s.hangup.1 ∧ ∃ O', RepT rl H' p s.hangup.2 O' ∧ Ext O H O' H' := by
  have hlt := h.lt
  have hR := h
  obtain ⟨vl, vi, vo, vs, cells, ol, oi, orr, oo, os, h, rfl⟩ := h
  have hg := h.get
  unfold PT.hangup
  refine wpF_ofW o24 rfl rfl ?_
  refine wp_seq ?_; refine wp_region ?_; refine wpO_cons ?_; refine op1_mov rfl (by (conv => lhs; whnf) <;> rfl) ?_; refine wpO_nil ?_; refine seq_normal ?_; refine wp_seq ?_; refine wp_seq ?_; refine wp_region ?_; refine wpO_cons ?_; refine op1_mov rfl (by (conv => lhs; whnf) <;> rfl) ?_; refine wpO_cons ?_; refine op1_bin_false rfl (by (conv => lhs; whnf) <;> rfl) (by (conv => lhs; whnf) <;> rfl) rfl ?_; refine wpO_cons ?_; refine op1_mov rfl (by (conv => lhs; whnf) <;> rfl) ?_; refine wpO_cons ?_; refine op1_mov rfl (by (conv => lhs; whnf) <;> rfl) ?_; refine wpO_cons ?_; refine op1_nilchk rfl rfl ?_; refine wpO_cons ?_; refine op1_faddr0 rfl rfl ?_; refine wpO_cons ?_; refine op1_load rfl rfl (by with_reducible assumption) rfl ?_; refine wpO_cons ?_; refine op1_pick_f rfl rfl (by (conv => lhs; whnf) <;> rfl) ?_; refine wpO_nil ?_; refine seq_normal ?_
  refine wp_cond rfl (fun hh => ?_) (fun hh => ?_)
  · rw [if_pos hh]
    refine wp_seq ?_; refine wp_region ?_; refine wpO_cons ?_; refine op1_mov rfl (by (conv => lhs; whnf) <;> rfl) ?_; refine wpO_nil ?_; refine seq_normal ?_; refine wp_ret ?_; refine seq_ret ?_; refine ret_of ?_; refine rk_tmp (by (conv => lhs; whnf) <;> rfl) ?_; refine rk_nil ?_
    exact ⟨rfl, _, hR, Ext.refl _ _⟩
  rw [if_neg (by rw [hh]; simp)]
  refine wp_skip ?_; refine seq_normal ?_; refine wp_seq ?_; refine wp_region ?_; refine wpO_cons ?_; refine op1_mov rfl (by (conv => lhs; whnf) <;> rfl) ?_; refine wpO_cons ?_; refine op1_call2 rfl (by (conv => lhs; whnf) <;> rfl) (by (conv => lhs; whnf) <;> rfl) ?_
  refine wpF_mono (L44 hR 1) ?_
  rintro v H2 ⟨O2, hR2, hE2⟩
  obtain ⟨vl2, vi2, vo2, vs2, cells2, ol2, oi2, orr2, oo2, os2, h2, rfl⟩ := hR2
  have hg2 := h2.get
  refine wpO_nil ?_; refine seq_normal ?_; refine wp_seq ?_; refine wp_region ?_; refine wpO_cons ?_; refine op1_mov rfl (by (conv => lhs; whnf) <;> rfl) ?_; refine wpO_cons ?_; refine op1_mov rfl (by (conv => lhs; whnf) <;> rfl) ?_; refine wpO_cons ?_; refine op1_mov rfl (by (conv => lhs; whnf) <;> rfl) ?_; refine wpO_cons ?_; refine op1_mov rfl (by (conv => lhs; whnf) <;> rfl) ?_; refine wpO_cons ?_; refine op1_nilchk rfl rfl ?_; refine wpO_cons ?_; refine op1_faddr0 rfl rfl ?_; refine wpO_cons ?_; refine op1_store1 rfl rfl (by (conv => lhs; whnf) <;> rfl) rfl rfl (by with_reducible assumption) rfl ?_; refine wpO_cons ?_; refine op1_nilchk rfl rfl ?_; refine wpO_cons ?_; refine op1_faddr0 rfl rfl ?_; refine wpO_cons ?_; refine op1_store1 rfl rfl (by (conv => lhs; whnf) <;> rfl) rfl rfl (by with_reducible exact AHeap.gs_same) rfl ?_; refine wpO_cons ?_; refine op1_nilchk rfl rfl ?_; refine wpO_cons ?_; refine op1_faddr0 rfl rfl ?_; refine wpO_cons ?_; refine op1_store1 rfl rfl (by (conv => lhs; whnf) <;> rfl) rfl rfl (by with_reducible exact AHeap.gs_same) rfl ?_; refine wpO_cons ?_; refine op1_nilchk rfl rfl ?_; refine wpO_cons ?_; refine op1_faddr0 rfl rfl ?_; refine wpO_cons ?_; refine op1_store1 rfl rfl (by (conv => lhs; whnf) <;> rfl) rfl rfl (by with_reducible exact AHeap.gs_same) rfl ?_; refine wpO_nil ?_; refine seq_normal ?_; refine wp_seq ?_; refine wp_region ?_; refine wpO_cons ?_; refine op1_mov rfl (by (conv => lhs; whnf) <;> rfl) ?_; refine wpO_nil ?_; refine seq_normal ?_; refine wp_ret ?_; refine ret_of ?_; refine rk_tmp (by (conv => lhs; whnf) <;> rfl) ?_; refine rk_nil ?_
  refine ⟨rfl, Exists.imp (fun O3 q => ⟨q.1, hE2.trans q.2 hlt⟩) (h2.hang (fun b => ?_) (by rfl))⟩
  simp only [AHeap.get_set]
  split <;> rfl

theorem L29e {H : AHeap} {m : Int} (hm : m < 0 ∨ 63 < m) : wpF C 29 [.int .i64 m] H fun v H' => v = .tuple ⟨[.pointer none, .int .i64 34]⟩ ∧ H = H' := by
  refine wpF_ofW o29 rfl rfl ?_
  refine wp_seq ?_; refine wp_region ?_; refine wpO_cons ?_; refine op1_mov rfl (by (conv => lhs; whnf) <;> rfl) ?_; refine wpO_cons ?_; refine op1_mov rfl (by (conv => lhs; whnf) <;> rfl) ?_; refine wpO_nil ?_; refine seq_normal ?_; refine wp_seq ?_; refine wp_seq ?_; refine wp_region ?_; refine wpO_cons ?_; refine op1_mov rfl (by (conv => lhs; whnf) <;> rfl) ?_; refine wpO_cons ?_; refine op1_lss rfl rfl rfl ?_; refine wpO_cons ?_; refine op1_mov rfl (by (conv => lhs; whnf) <;> rfl) ?_; refine wpO_cons ?_
  refine op1_dec rfl (fun hc => ?_) (fun hc => ?_)
  · refine op1_skip rfl ?_; refine wpO_cons ?_; refine op1_skip rfl ?_; refine wpO_cons ?_; refine op1_pick_t rfl rfl (by (conv => lhs; whnf) <;> rfl) ?_; refine wpO_nil ?_; refine seq_normal ?_; refine wp_true rfl ?_; refine wp_seq ?_; refine wp_region ?_; refine wpO_cons ?_; refine op1_mov rfl (by (conv => lhs; whnf) <;> rfl) ?_; refine wpO_cons ?_; refine op1_mov rfl (by (conv => lhs; whnf) <;> rfl) ?_; refine wpO_nil ?_; refine seq_normal ?_; refine wp_ret ?_; refine seq_ret ?_; refine ret_of ?_; refine rk_tmp (by (conv => lhs; whnf) <;> rfl) ?_; refine rk_tmp (by (conv => lhs; whnf) <;> rfl) ?_; refine rk_nil ?_
    exact ⟨rfl, rfl⟩
  refine op1_mov rfl (by (conv => lhs; whnf) <;> rfl) ?_; refine wpO_cons ?_; refine op1_gtr rfl rfl rfl ?_; refine wpO_cons ?_; refine op1_pick_f rfl rfl (by (conv => lhs; whnf) <;> rfl) ?_; refine wpO_nil ?_; refine seq_normal ?_
  refine wp_dec rfl (fun hc2 => ?_) (fun hc2 => ?_)
  · refine wp_seq ?_; refine wp_region ?_; refine wpO_cons ?_; refine op1_mov rfl (by (conv => lhs; whnf) <;> rfl) ?_; refine wpO_cons ?_; refine op1_mov rfl (by (conv => lhs; whnf) <;> rfl) ?_; refine wpO_nil ?_; refine seq_normal ?_; refine wp_ret ?_; refine seq_ret ?_; refine ret_of ?_; refine rk_tmp (by (conv => lhs; whnf) <;> rfl) ?_; refine rk_tmp (by (conv => lhs; whnf) <;> rfl) ?_; refine rk_nil ?_
    exact ⟨rfl, rfl⟩
  omega
theorem L29 {H : AHeap} (hg : Glob objs H) {m : Int} (hm : 0 ≤ m ∧ m ≤ 63) : wpF C 29 [.int .i64 m] H fun v H' => ∃ p O, v = .tuple ⟨[.pointer (some ⟨p, 0, none⟩), .int .i64 0]⟩ ∧ RepT true H' p (PT.new m) O ∧ Ext [] H O H' := by
  refine wpF_ofW o29 rfl rfl ?_
  refine wp_seq ?_; refine wp_region ?_; refine wpO_cons ?_; refine op1_mov rfl (by (conv => lhs; whnf) <;> rfl) ?_; refine wpO_cons ?_; refine op1_mov rfl (by (conv => lhs; whnf) <;> rfl) ?_; refine wpO_nil ?_; refine seq_normal ?_; refine wp_seq ?_; refine wp_seq ?_; refine wp_region ?_; refine wpO_cons ?_; refine op1_mov rfl (by (conv => lhs; whnf) <;> rfl) ?_; refine wpO_cons ?_; refine op1_lss rfl rfl rfl ?_; refine wpO_cons ?_; refine op1_mov rfl (by (conv => lhs; whnf) <;> rfl) ?_; refine wpO_cons ?_
  refine op1_dec rfl (fun hc => ?_) (fun hc => ?_)
  · omega
  refine op1_mov rfl (by (conv => lhs; whnf) <;> rfl) ?_; refine wpO_cons ?_; refine op1_gtr rfl rfl rfl ?_; refine wpO_cons ?_; refine op1_pick_f rfl rfl (by (conv => lhs; whnf) <;> rfl) ?_; refine wpO_nil ?_; refine seq_normal ?_
  refine wp_dec rfl (fun hc2 => ?_) (fun hc2 => ?_)
  · omega
  refine wp_skip ?_; refine seq_normal ?_; refine wp_seq ?_; refine wp_region ?_; refine wpO_cons ?_; refine op1_mov rfl (by (conv => lhs; whnf) <;> rfl) ?_; refine wpO_cons ?_; refine op1_build rfl ?_; refine bk_one (by (conv => lhs; whnf) <;> rfl) rfl rfl rfl ?_; refine bk_one (by (conv => lhs; whnf) <;> rfl) rfl rfl rfl ?_; refine bk_nil ?_; refine wpO_cons ?_; refine op1_build rfl ?_; refine bk_one (by (conv => lhs; whnf) <;> rfl) rfl rfl rfl ?_; refine bk_agg rfl rfl rfl rfl ?_; refine bk_nil ?_; refine wpO_cons ?_; refine op1_boxN rfl rfl rfl ?_; refine wpO_cons ?_; refine op1_mov rfl (by (conv => lhs; whnf) <;> rfl) ?_; refine wpO_cons ?_; refine op1_mov rfl (by (conv => lhs; whnf) <;> rfl) ?_; refine wpO_nil ?_; refine seq_normal ?_; refine wp_ret ?_; refine ret_of ?_; refine rk_tmp (by (conv => lhs; whnf) <;> rfl) ?_; refine rk_tmp (by (conv => lhs; whnf) <;> rfl) ?_; refine rk_nil ?_
  have hle := hg.le
  refine ⟨H.next, [H.next], rfl, ⟨_, _, _, _, [], [], [], [], [], [], ⟨?_, AHeap.ga_same, .nil, .nil, .nil, .nil, .nil, by simp, ?_⟩, rfl⟩, ⟨by simp, fun b hb _ => by rw [AHeap.get_add, if_neg (by omega)], ?_⟩⟩
  · exact ⟨fun b hb => by rw [AHeap.get_add, if_neg (by omega)]; exact hg.get b hb, by simp; omega⟩
  · intro b hb; simp only [List.append_nil, List.mem_cons, List.not_mem_nil, or_false] at hb; subst hb; exact ⟨hle, by simp⟩
  · intro b hb; simp only [List.mem_cons, List.not_mem_nil, or_false] at hb; subst hb; exact .inr ⟨Nat.le_refl _, by simp⟩
def PT.setSize (s : PT) (r c : Int) : Int × PT :=
  if r < 1 ∨ 1000 < r ∨ c < 1 ∨ 1000 < c then (34, s) else if s.hung = true then (35, s) else if r = s.rows ∧ c = s.cols then (0, s) else (0, ({ s with rows := r, cols := c } : PT).send 28)

theorem neq2 {i j : IntKind} {a a' b b' : Int} : binN .neq (.parts [(0, none, .basic (.int i)), (1, none, .basic (.int j))]) (.agg ⟨[.int i a, .int j b]⟩) (.agg ⟨[.int i a', .int j b']⟩) = some (.bool (!decide (a = a' ∧ b = b'))) := by
  have e : eqN 10 (.parts [(0, none, .basic (.int i)), (1, none, .basic (.int j))]) (.agg ⟨[.int i a, .int j b]⟩) (.agg ⟨[.int i a', .int j b']⟩) = some (decide (a = a' ∧ b = b')) := by
    simp only [eqN, eqPart, partN, eqBasic, List.getElem?_cons_zero, List.getElem?_cons_succ, if_true]
    cases h1 : (a == a') <;> cases h2 : (b == b') <;> simp_all
  simp only [binN, e, Option.map_some]
theorem eql2 {i j : IntKind} {a a' b b' : Int} : binN .eql (.parts [(0, none, .basic (.int i)), (1, none, .basic (.int j))]) (.agg ⟨[.int i a, .int j b]⟩) (.agg ⟨[.int i a', .int j b']⟩) = some (.bool (decide (a = a' ∧ b = b'))) := by
  have e : eqN 10 (.parts [(0, none, .basic (.int i)), (1, none, .basic (.int j))]) (.agg ⟨[.int i a, .int j b]⟩) (.agg ⟨[.int i a', .int j b']⟩) = some (decide (a = a' ∧ b = b')) := by
    simp only [eqN, eqPart, partN, eqBasic, List.getElem?_cons_zero, List.getElem?_cons_succ, if_true]
    cases h1 : (a == a') <;> cases h2 : (b == b') <;> simp_all
  simp only [binN, e, Option.map_some]
theorem L54 {rl : Bool} {H : AHeap} {p : Nat} {s : PT} {O : List Nat} (h : RepT rl H p s O) (r c : Int) : wpF C 54 [.pointer (some ⟨p, 0, none⟩), .agg ⟨[.int .i64 r, .int .i64 c]⟩] H fun v H' => v = .int .i64 (s.setSize r c).1 ∧ ∃ O', RepT rl H' p (s.setSize r c).2 O' ∧ Ext O H O' H' := by
  have hlt := h.lt
  have hR := h.add (.cells [.int .i64 r, .int .i64 c] 0 false)
  have hE0 := Ext.add O H (.cells [.int .i64 r, .int .i64 c] 0 false)
  obtain ⟨vl, vi, vo, vs, cells, ol, oi, orr, oo, os, h, rfl⟩ := h
  have hg := h.get
  have hlp := h.lt.1
  unfold PT.setSize
  refine wpF_ofW o54 rfl rfl ?_
  refine wp_seq ?_; refine wp_region ?_; refine wpO_cons ?_; refine op1_boxN rfl rfl rfl ?_; refine wpO_cons ?_; refine op1_mov rfl (by (conv => lhs; whnf) <;> rfl) ?_; refine wpO_nil ?_; refine seq_normal ?_; refine wp_seq ?_
  refine wp_cut [22] (fun vs H' => vs = [.bool (decide (r < 1 ∨ 1000 < r ∨ c < 1 ∨ 1000 < c))] ∧ H' = H.add (.cells [.int .i64 r, .int .i64 c] 0 false)) ?_ ?_
  · refine wp_region ?_; refine wpO_cons ?_; refine op1_faddr0 rfl rfl ?_; refine wpO_cons ?_; refine op1_load rfl rfl (by with_reducible exact AHeap.ga_same) rfl ?_; refine wpO_cons ?_; refine op1_lss rfl rfl rfl ?_; refine wpO_cons ?_; refine op1_mov rfl (by (conv => lhs; whnf) <;> rfl) ?_; refine wpO_cons ?_; refine op1_split rfl (fun hc0 => ?_) (fun hc0 => ?_); (focus (refine op1_skip rfl ?_; refine wpO_cons ?_; refine op1_skip rfl ?_; refine wpO_cons ?_; refine op1_skip rfl ?_; refine wpO_cons ?_; refine op1_pick_t rfl rfl (by (conv => lhs; whnf) <;> rfl) ?_; refine wpO_cons ?_; refine op1_mov rfl (by (conv => lhs; whnf) <;> rfl) ?_; refine wpO_cons ?_; refine op1_skip rfl ?_; refine wpO_cons ?_; refine op1_skip rfl ?_; refine wpO_cons ?_; refine op1_skip rfl ?_; refine wpO_cons ?_; refine op1_pick_t rfl rfl (by (conv => lhs; whnf) <;> rfl) ?_; refine wpO_cons ?_; refine op1_mov rfl (by (conv => lhs; whnf) <;> rfl) ?_; refine wpO_cons ?_; refine op1_skip rfl ?_; refine wpO_cons ?_; refine op1_skip rfl ?_; refine wpO_cons ?_; refine op1_skip rfl ?_; refine wpO_cons ?_; refine op1_pick_t rfl rfl (by (conv => lhs; whnf) <;> rfl) ?_; refine wpO_nil ?_; refine cut1 (by (conv => lhs; whnf) <;> rfl) ?_; (exact ⟨by simp only [List.cons.injEq, Value.bool.injEq, and_true]; grind, rfl⟩))); (focus (refine op1_faddr0 rfl rfl ?_; refine wpO_cons ?_; refine op1_load rfl rfl (by with_reducible exact AHeap.ga_same) rfl ?_; refine wpO_cons ?_; refine op1_gtr rfl rfl rfl ?_; refine wpO_cons ?_; refine op1_pick_f rfl rfl (by (conv => lhs; whnf) <;> rfl) ?_; refine wpO_cons ?_; refine op1_mov rfl (by (conv => lhs; whnf) <;> rfl) ?_; refine wpO_cons ?_; refine op1_split rfl (fun hc1 => ?_) (fun hc1 => ?_); (focus (refine op1_skip rfl ?_; refine wpO_cons ?_; refine op1_skip rfl ?_; refine wpO_cons ?_; refine op1_skip rfl ?_; refine wpO_cons ?_; refine op1_pick_t rfl rfl (by (conv => lhs; whnf) <;> rfl) ?_; refine wpO_cons ?_; refine op1_mov rfl (by (conv => lhs; whnf) <;> rfl) ?_; refine wpO_cons ?_; refine op1_skip rfl ?_; refine wpO_cons ?_; refine op1_skip rfl ?_; refine wpO_cons ?_; refine op1_skip rfl ?_; refine wpO_cons ?_; refine op1_pick_t rfl rfl (by (conv => lhs; whnf) <;> rfl) ?_; refine wpO_nil ?_; refine cut1 (by (conv => lhs; whnf) <;> rfl) ?_; (exact ⟨by simp only [List.cons.injEq, Value.bool.injEq, and_true]; grind, rfl⟩))); (focus (refine op1_faddr0 rfl rfl ?_; refine wpO_cons ?_; refine op1_load rfl rfl (by with_reducible exact AHeap.ga_same) rfl ?_; refine wpO_cons ?_; refine op1_lss rfl rfl rfl ?_; refine wpO_cons ?_; refine op1_pick_f rfl rfl (by (conv => lhs; whnf) <;> rfl) ?_; refine wpO_cons ?_; refine op1_mov rfl (by (conv => lhs; whnf) <;> rfl) ?_; refine wpO_cons ?_; refine op1_split rfl (fun hc2 => ?_) (fun hc2 => ?_); (focus (refine op1_skip rfl ?_; refine wpO_cons ?_; refine op1_skip rfl ?_; refine wpO_cons ?_; refine op1_skip rfl ?_; refine wpO_cons ?_; refine op1_pick_t rfl rfl (by (conv => lhs; whnf) <;> rfl) ?_; refine wpO_nil ?_; refine cut1 (by (conv => lhs; whnf) <;> rfl) ?_; (exact ⟨by simp only [List.cons.injEq, Value.bool.injEq, and_true]; grind, rfl⟩))); (focus (refine op1_faddr0 rfl rfl ?_; refine wpO_cons ?_; refine op1_load rfl rfl (by with_reducible exact AHeap.ga_same) rfl ?_; refine wpO_cons ?_; refine op1_gtr rfl rfl rfl ?_; refine wpO_cons ?_; refine op1_pick_f rfl rfl (by (conv => lhs; whnf) <;> rfl) ?_; refine wpO_nil ?_; refine cut1 (by (conv => lhs; whnf) <;> rfl) ?_; (exact ⟨by simp only [List.cons.injEq, Value.bool.injEq, and_true]; grind, rfl⟩)))))))
  rintro vs2 T2 H2 ⟨rfl, rfl⟩
  have hgA := AHeap.ga_lt (o := .cells [.int .i64 r, .int .i64 c] 0 false) hlp hg
  refine wp_dec rfl (fun hc => ?_) (fun hc => ?_)
  · rw [if_pos hc]
    refine wp_seq ?_; refine wp_region ?_; refine wpO_cons ?_; refine op1_mov rfl (by (conv => lhs; whnf) <;> rfl) ?_; refine wpO_nil ?_; refine seq_normal ?_; refine wp_ret ?_; refine seq_ret ?_; refine ret_of ?_; refine rk_tmp (by (conv => lhs; whnf) <;> rfl) ?_; refine rk_nil ?_
    exact ⟨rfl, _, hR, hE0⟩
  rw [if_neg hc]
  refine wp_skip ?_; refine seq_normal ?_; refine wp_seq ?_; refine wp_seq ?_; refine wp_region ?_; refine wpO_cons ?_; refine op1_mov rfl (by (conv => lhs; whnf) <;> rfl) ?_; refine wpO_cons ?_; refine op1_nilchk rfl rfl ?_; refine wpO_cons ?_; refine op1_faddr0 rfl rfl ?_; refine wpO_cons ?_; refine op1_load rfl rfl (by with_reducible assumption) rfl ?_; refine wpO_nil ?_; refine seq_normal ?_
  refine wp_cond rfl (fun hh => ?_) (fun hh => ?_)
  · rw [if_pos hh]
    refine wp_seq ?_; refine wp_region ?_; refine wpO_cons ?_; refine op1_mov rfl (by (conv => lhs; whnf) <;> rfl) ?_; refine wpO_nil ?_; refine seq_normal ?_; refine wp_ret ?_; refine seq_ret ?_; refine ret_of ?_; refine rk_tmp (by (conv => lhs; whnf) <;> rfl) ?_; refine rk_nil ?_
    exact ⟨rfl, _, hR, hE0⟩
  rw [if_neg (by rw [hh]; simp)]
  refine wp_skip ?_; refine seq_normal ?_; refine wp_seq ?_; refine wp_seq ?_; refine wp_regionD ?_; refine wpD_cons ?_; refine op1_load_2 rfl rfl (by with_reducible exact AHeap.ga_same) rfl rfl ?_; refine wpD_cons ?_; refine op1_mov rfl (by (conv => lhs; whnf) <;> rfl) ?_; refine wpD_cons ?_; refine op1_nilchk rfl rfl ?_; refine wpD_cons ?_; refine op1_faddr0 rfl rfl ?_; refine wpD_cons ?_; refine op1_load_2 rfl rfl (by with_reducible assumption) rfl rfl ?_; refine wpD_cons ?_
  refine op1_bin rfl rfl rfl neq2 ?_
  refine wpD_nil ?_; refine dk_of ?_ ?_; refine chk_cons 6 rfl rfl rfl ?_ ?_; refine chkFs_cons 0 rfl rfl ?_ ?_; exact chk_loadN rfl (by with_reducible exact AHeap.ga_same) rfl rfl rfl; exact chkFs_nil; refine chk_skip ?_; refine chk_skip ?_; refine chk_skip ?_; refine chk_cons 2 rfl rfl rfl ?_ ?_; refine chkFs_cons 0 rfl rfl ?_ ?_; exact chk_loadN rfl (by with_reducible assumption) rfl rfl rfl; exact chkFs_nil; refine chk_skip ?_; exact chk_end; refine seq_normal ?_
  refine wp_ndec rfl (fun hn => ?_) (fun hn => ?_)
  · rw [if_neg hn]
    refine wp_seq ?_; refine wp_region ?_; refine wpO_cons ?_; refine op1_mov rfl (by (conv => lhs; whnf) <;> rfl) ?_; refine wpO_cons ?_; refine op1_load_2 rfl rfl (by with_reducible exact AHeap.ga_same) rfl rfl ?_; refine wpO_cons ?_; refine op1_nilchk rfl rfl ?_; refine wpO_cons ?_; refine op1_faddr0 rfl rfl ?_; refine wpO_cons ?_
    have hA := h.frame (H' := H.add (.cells [.int .i64 r, .int .i64 c] 0 false)) (by simp) fun b hb => AHeap.ga_lt hb rfl
    obtain ⟨q1, q2⟩ := hA.setFl s.modes r c s.stopped s.hung
    refine op1_storeN rfl rfl rfl rfl rfl hgA (by simp) ?_
    refine wpO_nil ?_; refine seq_normal ?_; refine wp_region ?_; refine wpO_cons ?_; refine op1_mov rfl (by (conv => lhs; whnf) <;> rfl) ?_; refine wpO_cons ?_; refine op1_call2 rfl (by (conv => lhs; whnf) <;> rfl) (by (conv => lhs; whnf) <;> rfl) ?_
    refine wpF_mono (L77 (s := { s with rows := r, cols := c }) ⟨_, _, _, _, _, _, _, _, _, _, q1, rfl⟩ 28) ?_
    rintro v H2 ⟨O2, hR2, hE2⟩
    refine wpO_nil ?_; refine seq_normal ?_; refine wp_seq ?_; refine wp_region ?_; refine wpO_cons ?_; refine op1_mov rfl (by (conv => lhs; whnf) <;> rfl) ?_; refine wpO_nil ?_; refine seq_normal ?_; refine wp_ret ?_; refine ret_of ?_; refine rk_tmp (by (conv => lhs; whnf) <;> rfl) ?_; refine rk_nil ?_
    exact ⟨rfl, O2, hR2, (hE0.trans q2 hlt).trans hE2 hlt⟩
  · rw [if_pos hn]
    refine wp_skip ?_; refine seq_normal ?_; refine wp_seq ?_; refine wp_region ?_; refine wpO_cons ?_; refine op1_mov rfl (by (conv => lhs; whnf) <;> rfl) ?_; refine wpO_nil ?_; refine seq_normal ?_; refine wp_ret ?_; refine ret_of ?_; refine rk_tmp (by (conv => lhs; whnf) <;> rfl) ?_; refine rk_nil ?_
    exact ⟨rfl, _, hR, hE0⟩
theorem L23 {rl : Bool} {H : AHeap} {p : Nat} {s : PT} {O : List Nat} (h : RepT rl H p s O) (r c : Int) : wpF C 23 [.pointer (some ⟨p, 0, none⟩), .agg ⟨[.int .i64 r, .int .i64 c]⟩] H fun v H' => v = .int .i64 (s.setSize r c).1 ∧ ∃ O', RepT rl H' p (s.setSize r c).2 O' ∧ Ext O H O' H' := by
  have hlt := h.lt
  have hR := h.add (.cells [.int .i64 r, .int .i64 c] 0 false)
  have hE0 := Ext.add O H (.cells [.int .i64 r, .int .i64 c] 0 false)
  obtain ⟨vl, vi, vo, vs, cells, ol, oi, orr, oo, os, h, rfl⟩ := h
  have hg := h.get
  have hlp := h.lt.1
  unfold PT.setSize
  refine wpF_ofW o23 rfl rfl ?_
  refine wp_seq ?_; refine wp_region ?_; refine wpO_cons ?_; refine op1_boxN rfl rfl rfl ?_; refine wpO_cons ?_; refine op1_mov rfl (by (conv => lhs; whnf) <;> rfl) ?_; refine wpO_nil ?_; refine seq_normal ?_; refine wp_seq ?_; refine wp_block ?_; refine wp_seq ?_; refine wp_region ?_; refine wpO_cons ?_; refine op1_mov rfl (by (conv => lhs; whnf) <;> rfl) ?_; refine wpO_cons ?_; refine op1_bin_false rfl (by (conv => lhs; whnf) <;> rfl) (by (conv => lhs; whnf) <;> rfl) rfl ?_; refine wpO_cons ?_; refine op1_mov rfl (by (conv => lhs; whnf) <;> rfl) ?_; refine wpO_nil ?_; refine seq_normal ?_; refine wp_false rfl ?_
  refine wp_cut [8] (fun vs H' => vs = [.bool (decide (r < 1 ∨ 1000 < r ∨ c < 1 ∨ 1000 < c))] ∧ H' = H.add (.cells [.int .i64 r, .int .i64 c] 0 false)) ?_ ?_
  · refine wp_region ?_; refine wpO_cons ?_; refine op1_faddr0 rfl rfl ?_; refine wpO_cons ?_; refine op1_load rfl rfl (by with_reducible exact AHeap.ga_same) rfl ?_; refine wpO_cons ?_; refine op1_lss rfl rfl rfl ?_; refine wpO_cons ?_; refine op1_mov rfl (by (conv => lhs; whnf) <;> rfl) ?_; refine wpO_cons ?_; refine op1_split rfl (fun hc0 => ?_) (fun hc0 => ?_); (focus (refine op1_skip rfl ?_; refine wpO_cons ?_; refine op1_skip rfl ?_; refine wpO_cons ?_; refine op1_skip rfl ?_; refine wpO_cons ?_; refine op1_pick_t rfl rfl (by (conv => lhs; whnf) <;> rfl) ?_; refine wpO_cons ?_; refine op1_mov rfl (by (conv => lhs; whnf) <;> rfl) ?_; refine wpO_cons ?_; refine op1_skip rfl ?_; refine wpO_cons ?_; refine op1_skip rfl ?_; refine wpO_cons ?_; refine op1_skip rfl ?_; refine wpO_cons ?_; refine op1_pick_t rfl rfl (by (conv => lhs; whnf) <;> rfl) ?_; refine wpO_cons ?_; refine op1_mov rfl (by (conv => lhs; whnf) <;> rfl) ?_; refine wpO_cons ?_; refine op1_skip rfl ?_; refine wpO_cons ?_; refine op1_skip rfl ?_; refine wpO_cons ?_; refine op1_skip rfl ?_; refine wpO_cons ?_; refine op1_pick_t rfl rfl (by (conv => lhs; whnf) <;> rfl) ?_; refine wpO_cons ?_; refine op1_mov rfl (by (conv => lhs; whnf) <;> rfl) ?_; refine wpO_nil ?_; refine cut1 (by (conv => lhs; whnf) <;> rfl) ?_; (exact ⟨by simp only [List.cons.injEq, Value.bool.injEq, and_true]; grind, rfl⟩))); (focus (refine op1_faddr0 rfl rfl ?_; refine wpO_cons ?_; refine op1_load rfl rfl (by with_reducible exact AHeap.ga_same) rfl ?_; refine wpO_cons ?_; refine op1_gtr rfl rfl rfl ?_; refine wpO_cons ?_; refine op1_pick_f rfl rfl (by (conv => lhs; whnf) <;> rfl) ?_; refine wpO_cons ?_; refine op1_mov rfl (by (conv => lhs; whnf) <;> rfl) ?_; refine wpO_cons ?_; refine op1_split rfl (fun hc1 => ?_) (fun hc1 => ?_); (focus (refine op1_skip rfl ?_; refine wpO_cons ?_; refine op1_skip rfl ?_; refine wpO_cons ?_; refine op1_skip rfl ?_; refine wpO_cons ?_; refine op1_pick_t rfl rfl (by (conv => lhs; whnf) <;> rfl) ?_; refine wpO_cons ?_; refine op1_mov rfl (by (conv => lhs; whnf) <;> rfl) ?_; refine wpO_cons ?_; refine op1_skip rfl ?_; refine wpO_cons ?_; refine op1_skip rfl ?_; refine wpO_cons ?_; refine op1_skip rfl ?_; refine wpO_cons ?_; refine op1_pick_t rfl rfl (by (conv => lhs; whnf) <;> rfl) ?_; refine wpO_cons ?_; refine op1_mov rfl (by (conv => lhs; whnf) <;> rfl) ?_; refine wpO_nil ?_; refine cut1 (by (conv => lhs; whnf) <;> rfl) ?_; (exact ⟨by simp only [List.cons.injEq, Value.bool.injEq, and_true]; grind, rfl⟩))); (focus (refine op1_faddr0 rfl rfl ?_; refine wpO_cons ?_; refine op1_load rfl rfl (by with_reducible exact AHeap.ga_same) rfl ?_; refine wpO_cons ?_; refine op1_lss rfl rfl rfl ?_; refine wpO_cons ?_; refine op1_pick_f rfl rfl (by (conv => lhs; whnf) <;> rfl) ?_; refine wpO_cons ?_; refine op1_mov rfl (by (conv => lhs; whnf) <;> rfl) ?_; refine wpO_cons ?_; refine op1_split rfl (fun hc2 => ?_) (fun hc2 => ?_); (focus (refine op1_skip rfl ?_; refine wpO_cons ?_; refine op1_skip rfl ?_; refine wpO_cons ?_; refine op1_skip rfl ?_; refine wpO_cons ?_; refine op1_pick_t rfl rfl (by (conv => lhs; whnf) <;> rfl) ?_; refine wpO_cons ?_; refine op1_mov rfl (by (conv => lhs; whnf) <;> rfl) ?_; refine wpO_nil ?_; refine cut1 (by (conv => lhs; whnf) <;> rfl) ?_; (exact ⟨by simp only [List.cons.injEq, Value.bool.injEq, and_true]; grind, rfl⟩))); (focus (refine op1_faddr0 rfl rfl ?_; refine wpO_cons ?_; refine op1_load rfl rfl (by with_reducible exact AHeap.ga_same) rfl ?_; refine wpO_cons ?_; refine op1_gtr rfl rfl rfl ?_; refine wpO_cons ?_; refine op1_pick_f rfl rfl (by (conv => lhs; whnf) <;> rfl) ?_; refine wpO_cons ?_; refine op1_mov rfl (by (conv => lhs; whnf) <;> rfl) ?_; refine wpO_nil ?_; refine cut1 (by (conv => lhs; whnf) <;> rfl) ?_; (exact ⟨by simp only [List.cons.injEq, Value.bool.injEq, and_true]; grind, rfl⟩)))))))
  rintro vs2 T2 H2 ⟨rfl, rfl⟩
  have hgA := AHeap.ga_lt (o := .cells [.int .i64 r, .int .i64 c] 0 false) hlp hg
  refine wp_dec rfl (fun hc => ?_) (fun hc => ?_)
  · rw [if_pos hc]
    refine wp_seq ?_; refine wp_region ?_; refine wpO_cons ?_; refine op1_mov rfl (by (conv => lhs; whnf) <;> rfl) ?_; refine wpO_nil ?_; refine seq_normal ?_; refine wp_ret ?_; refine block_ret ?_; refine seq_ret ?_; refine ret_of ?_; refine rk_tmp (by (conv => lhs; whnf) <;> rfl) ?_; refine rk_nil ?_
    exact ⟨rfl, _, hR, hE0⟩
  rw [if_neg hc]
  refine wp_seq ?_; refine wp_region ?_; refine wpO_cons ?_; refine op1_mov rfl (by (conv => lhs; whnf) <;> rfl) ?_; refine wpO_cons ?_; refine op1_nilchk rfl rfl ?_; refine wpO_cons ?_; refine op1_faddr0 rfl rfl ?_; refine wpO_cons ?_; refine op1_load rfl rfl (by with_reducible assumption) rfl ?_; refine wpO_cons ?_; refine op1_mov rfl (by (conv => lhs; whnf) <;> rfl) ?_; refine wpO_nil ?_; refine seq_normal ?_
  refine wp_cond rfl (fun hh => ?_) (fun hh => ?_)
  · rw [if_pos hh]
    refine wp_seq ?_; refine wp_region ?_; refine wpO_cons ?_; refine op1_mov rfl (by (conv => lhs; whnf) <;> rfl) ?_; refine wpO_nil ?_; refine seq_normal ?_; refine wp_ret ?_; refine block_ret ?_; refine seq_ret ?_; refine ret_of ?_; refine rk_tmp (by (conv => lhs; whnf) <;> rfl) ?_; refine rk_nil ?_
    exact ⟨rfl, _, hR, hE0⟩
  rw [if_neg (by rw [hh]; simp)]
  refine wp_skip ?_; refine block_normal ?_; refine seq_normal ?_; refine wp_seq ?_; refine wp_seq ?_; refine wp_regionD ?_; refine wpD_cons ?_; refine op1_load_2 rfl rfl (by with_reducible exact AHeap.ga_same) rfl rfl ?_; refine wpD_cons ?_; refine op1_mov rfl (by (conv => lhs; whnf) <;> rfl) ?_; refine wpD_cons ?_; refine op1_nilchk rfl rfl ?_; refine wpD_cons ?_; refine op1_faddr0 rfl rfl ?_; refine wpD_cons ?_; refine op1_load_2 rfl rfl (by with_reducible assumption) rfl rfl ?_; refine wpD_cons ?_
  refine op1_bin rfl rfl rfl neq2 ?_
  refine wpD_nil ?_; refine dk_of ?_ ?_; refine chk_cons 6 rfl rfl rfl ?_ ?_; refine chkFs_cons 0 rfl rfl ?_ ?_; exact chk_loadN rfl (by with_reducible exact AHeap.ga_same) rfl rfl rfl; exact chkFs_nil; refine chk_skip ?_; refine chk_skip ?_; refine chk_skip ?_; refine chk_cons 2 rfl rfl rfl ?_ ?_; refine chkFs_cons 0 rfl rfl ?_ ?_; exact chk_loadN rfl (by with_reducible assumption) rfl rfl rfl; exact chkFs_nil; refine chk_skip ?_; exact chk_end; refine seq_normal ?_
  refine wp_ndec rfl (fun hn => ?_) (fun hn => ?_)
  · rw [if_neg hn]
    refine wp_seq ?_; refine wp_region ?_; refine wpO_cons ?_; refine op1_mov rfl (by (conv => lhs; whnf) <;> rfl) ?_; refine wpO_cons ?_; refine op1_load_2 rfl rfl (by with_reducible exact AHeap.ga_same) rfl rfl ?_; refine wpO_cons ?_; refine op1_nilchk rfl rfl ?_; refine wpO_cons ?_; refine op1_faddr0 rfl rfl ?_; refine wpO_cons ?_
    have hA := h.frame (H' := H.add (.cells [.int .i64 r, .int .i64 c] 0 false)) (by simp) fun b hb => AHeap.ga_lt hb rfl
    obtain ⟨q1, q2⟩ := hA.setFl s.modes r c s.stopped s.hung
    refine op1_storeN rfl rfl rfl rfl rfl hgA (by simp) ?_
    refine wpO_nil ?_; refine seq_normal ?_; refine wp_region ?_; refine wpO_cons ?_; refine op1_mov rfl (by (conv => lhs; whnf) <;> rfl) ?_; refine wpO_cons ?_; refine op1_call2 rfl (by (conv => lhs; whnf) <;> rfl) (by (conv => lhs; whnf) <;> rfl) ?_
    refine wpF_mono (L44 (s := { s with rows := r, cols := c }) ⟨_, _, _, _, _, _, _, _, _, _, q1, rfl⟩ 28) ?_
    rintro v H2 ⟨O2, hR2, hE2⟩
    refine wpO_nil ?_; refine seq_normal ?_; refine wp_seq ?_; refine wp_region ?_; refine wpO_cons ?_; refine op1_mov rfl (by (conv => lhs; whnf) <;> rfl) ?_; refine wpO_nil ?_; refine seq_normal ?_; refine wp_ret ?_; refine ret_of ?_; refine rk_tmp (by (conv => lhs; whnf) <;> rfl) ?_; refine rk_nil ?_
    exact ⟨rfl, O2, hR2, (hE0.trans q2 hlt).trans hE2 hlt⟩
  · rw [if_pos hn]
    refine wp_skip ?_; refine seq_normal ?_; refine wp_seq ?_; refine wp_region ?_; refine wpO_cons ?_; refine op1_mov rfl (by (conv => lhs; whnf) <;> rfl) ?_; refine wpO_nil ?_; refine seq_normal ?_; refine wp_ret ?_; refine ret_of ?_; refine rk_tmp (by (conv => lhs; whnf) <;> rfl) ?_; refine rk_nil ?_
    exact ⟨rfl, _, hR, hE0⟩
end Go.E.Pty

/- The reference's terminal: Output, Read, Available. -/
namespace Go.E.Pty
open Go Go.E Go.Proofs.YtfgejkhhkacknaaDoor.base Go.Proofs.YtfgejkhhkacknaaDoor Go.Proofs
set_option linter.unusedVariables false
set_option linter.unusedSimpArgs false
set_option maxRecDepth 100000

theorem L51 {H : AHeap} {p : Nat} {s : PT} {O : List Nat} (h : RepT true H p s O) (n : Int) (hlim : s.output.length ≤ 1000000) :
    wpF C 51 [.pointer (some ⟨p, 0, none⟩), .int .i64 n] H fun v H' => ∃ O' vo r, v = .tuple ⟨[vo, .int .i64 (s.outp n).2.1]⟩ ∧ New1 H H' O' vo (s.outp n).1 r ∧ RepT true H' p (s.outp n).2.2 O' ∧ Ext O H O' H' := by
  have hR := h
  have hlt := h.lt
  obtain ⟨vl, vi, vo, vs, cells, ol, oi, orr, oo, os, h, rfl⟩ := h
  obtain ⟨ao, co, rfl⟩ := h.out.b1
  have hg := h.get
  refine wpF_ofW o51 rfl rfl ?_
  unfold PT.outp
  refine wp_seq ?_; refine wp_region ?_; refine wpO_cons ?_; refine op1_mov rfl (by (conv => lhs; whnf) <;> rfl) ?_; refine wpO_cons ?_; refine op1_mov rfl (by (conv => lhs; whnf) <;> rfl) ?_; refine wpO_nil ?_; refine seq_normal ?_; refine wp_seq ?_; refine wp_seq ?_; refine wp_region ?_; refine wpO_cons ?_; refine op1_mov rfl (by (conv => lhs; whnf) <;> rfl) ?_; refine wpO_cons ?_; refine op1_lss rfl rfl rfl ?_; refine wpO_nil ?_; refine seq_normal ?_
  refine wp_dec rfl (fun hc => ?_) (fun hc => ?_)
  · rw [if_pos hc]
    refine wp_seq ?_; refine wp_region ?_; refine wpO_cons ?_; refine op1_mov rfl (by (conv => lhs; whnf) <;> rfl) ?_; refine wpO_cons ?_; refine op1_mov rfl (by (conv => lhs; whnf) <;> rfl) ?_; refine wpO_nil ?_; refine seq_normal ?_; refine wp_ret ?_; refine seq_ret ?_; refine ret_of ?_; refine rk_tmp (by (conv => lhs; whnf) <;> rfl) ?_; refine rk_tmp (by (conv => lhs; whnf) <;> rfl) ?_; refine rk_nil ?_
    exact ⟨_, _, [], rfl, New1.nil _ _ _, hR, Ext.refl _ _⟩
  rw [if_neg hc]
  refine wp_skip ?_; refine seq_normal ?_; refine wp_seq ?_; refine wp_seq ?_; refine wp_region ?_; refine wpO_cons ?_; refine op1_mov rfl (by (conv => lhs; whnf) <;> rfl) ?_; refine wpO_cons ?_; refine op1_nilchk rfl rfl ?_; refine wpO_cons ?_; refine op1_faddr0 rfl rfl ?_; refine wpO_cons ?_; refine op1_load rfl rfl (by with_reducible assumption) rfl ?_; refine wpO_nil ?_; refine seq_normal ?_
  refine wp_cond rfl (fun hh => ?_) (fun hh => ?_)
  · rw [if_pos hh]
    refine wp_seq ?_; refine wp_region ?_; refine wpO_cons ?_; refine op1_mov rfl (by (conv => lhs; whnf) <;> rfl) ?_; refine wpO_cons ?_; refine op1_mov rfl (by (conv => lhs; whnf) <;> rfl) ?_; refine wpO_nil ?_; refine seq_normal ?_; refine wp_ret ?_; refine seq_ret ?_; refine ret_of ?_; refine rk_tmp (by (conv => lhs; whnf) <;> rfl) ?_; refine rk_tmp (by (conv => lhs; whnf) <;> rfl) ?_; refine rk_nil ?_
    exact ⟨_, _, [], rfl, New1.nil _ _ _, hR, Ext.refl _ _⟩
  rw [if_neg (by rw [hh]; simp)]
  have hco := h.out.len_le
  obtain ⟨k, hk⟩ : ∃ k : Nat, (min n (s.output.length : Int)) = k := ⟨(min n (s.output.length : Int)).toNat, by omega⟩
  have hkl : k ≤ s.output.length := by omega
  simp only [hk, Int.toNat_natCast]
  refine wp_skip ?_; refine seq_normal ?_
  refine wp_cut [1] (fun vs H2 => vs = [.int .i64 k] ∧ H = H2) ?_ ?_
  · refine wp_seq ?_; refine wp_region ?_; refine wpO_cons ?_; refine op1_mov rfl (by (conv => lhs; whnf) <;> rfl) ?_; refine wpO_cons ?_; refine op1_mov rfl (by (conv => lhs; whnf) <;> rfl) ?_; refine wpO_cons ?_; refine op1_nilchk rfl rfl ?_; refine wpO_cons ?_; refine op1_faddr0 rfl rfl ?_; refine wpO_cons ?_; refine op1_load rfl rfl (by with_reducible assumption) rfl ?_; refine wpO_cons ?_; refine op1_len rfl rfl ?_; refine wpO_cons ?_; refine op1_gtr rfl rfl rfl ?_; refine wpO_nil ?_; refine seq_normal ?_
    refine wp_dec rfl (fun h1 => ?_) (fun h1 => ?_)
    · refine wp_region ?_; refine wpO_cons ?_; refine op1_mov rfl (by (conv => lhs; whnf) <;> rfl) ?_; refine wpO_cons ?_; refine op1_nilchk rfl rfl ?_; refine wpO_cons ?_; refine op1_faddr0 rfl rfl ?_; refine wpO_cons ?_; refine op1_load rfl rfl (by with_reducible assumption) rfl ?_; refine wpO_cons ?_; refine op1_len rfl rfl ?_; refine wpO_cons ?_; refine op1_mov rfl (by (conv => lhs; whnf) <;> rfl) ?_; refine wpO_nil ?_; refine cut1 (by (conv => lhs; whnf) <;> rfl) ?_
      exact ⟨by rw [← hk, Int.min_eq_right (by omega)], rfl⟩
    · refine wp_skip ?_; refine cut1 (by (conv => lhs; whnf) <;> rfl) ?_
      exact ⟨by rw [← hk, Int.min_eq_left (by omega)], rfl⟩
  rintro vs2 T2 H2 ⟨rfl, rfl⟩
  have hoo := h.lt.2.2.2.2.1
  have hgA := AHeap.ga_lt (o := .cells [] 1 false) h.lt.1 hg
  refine wp_seq ?_; refine wp_region ?_; refine wpO_cons ?_; refine op1_bslice rfl ?_; refine bk_nil ?_; refine wpO_cons ?_; refine op1_mov rfl (by (conv => lhs; whnf) <;> rfl) ?_; refine wpO_cons ?_; refine op1_nilchk rfl rfl ?_; refine wpO_cons ?_; refine op1_faddr0 rfl rfl ?_; refine wpO_cons ?_; refine op1_load rfl rfl (by with_reducible assumption) rfl ?_; refine wpO_cons ?_; refine op1_mov rfl (by (conv => lhs; whnf) <;> rfl) ?_; refine wpO_cons ?_
  refine op1_sliceO rfl rfl (h.out.add hoo _) (bnds_hi (by omega) (by omega)) (by omega) (by simp only [Int.toNat_natCast]; omega) ?_
  simp only [Int.toNat_natCast, Nat.zero_mul, List.drop_zero, Nat.sub_zero, Nat.mul_one]
  intro a1 c1 hS1
  refine wpO_cons ?_
  refine op1_appendO rfl rfl (by (conv => lhs; whnf) <;> rfl) rfl ((SlO.new (vs := []) (n := 0) rfl)) rfl (hS1.rd.src (by omega) (k := k) (by simp [bts]; omega)) (by simp [bts]; omega) (by rw [bts_take, bts_take]; exact bts_one _) (by omega) (fun b hb => by simp at hb; subst hb; simp) ?_
  intro a2 c2 o2 H2 hO2 hE2
  rw [List.take_take, Nat.mul_one, Nat.min_self, List.nil_append, bts_take] at hO2
  have own2 := hE2.own
  have hn2 := hE2.next
  simp only [AHeap.next_add, List.mem_singleton] at own2 hn2
  have hk2 : ∀ d, d < H.next → H2.get d = H.get d := fun d hd => (hE2.keep d (by simp only [AHeap.next_add]; omega) (by simp; omega)).trans (AHeap.ga_lt hd rfl)
  have hfr : ∀ d ∈ o2, H.next ≤ d ∧ d < H2.next := fun d hd => ⟨by rcases own2 d hd with h5 | h5 <;> omega, hE2.lt (fun b hb => by simp at hb; subst hb; simp) d hd⟩
  have h2 := h.frame (by omega) hk2
  have hg2 := h2.get
  have hgB := AHeap.ga_lt (o := .cells [] 1 false) h2.lt.1 hg2
  have hoo2 := h2.lt.2.2.2.2.1
  refine wpO_cons ?_; refine op1_mov rfl (by (conv => lhs; whnf) <;> rfl) ?_; refine wpO_nil ?_; refine seq_normal ?_; refine wp_seq ?_; refine wp_region ?_; refine wpO_cons ?_; refine op1_mov rfl (by (conv => lhs; whnf) <;> rfl) ?_; refine wpO_cons ?_; refine op1_bslice rfl ?_; refine bk_nil ?_; refine wpO_cons ?_; refine op1_mov rfl (by (conv => lhs; whnf) <;> rfl) ?_; refine wpO_cons ?_; refine op1_nilchk rfl rfl ?_; refine wpO_cons ?_; refine op1_faddr0 rfl rfl ?_; refine wpO_cons ?_; refine op1_load rfl rfl (by with_reducible assumption) rfl ?_; refine wpO_cons ?_; refine op1_mov rfl (by (conv => lhs; whnf) <;> rfl) ?_; refine wpO_cons ?_
  refine op1_sliceO rfl rfl (h2.out.add hoo2 _) (bnds_lo (by omega) (by omega) hco) (by simp only [Int.toNat_natCast]; omega) (Nat.le_refl _) ?_
  simp only [Int.toNat_natCast, Nat.mul_one]
  intro a3 c3 hS3
  rw [List.take_of_length_le (by simp [bts]), bts_drop] at hS3
  refine wpO_cons ?_
  refine op1_appendO rfl rfl (by (conv => lhs; whnf) <;> rfl) rfl ((SlO.new (vs := []) (n := 0) rfl)) rfl (hS3.rd.src (by omega) (k := s.output.length - k) (by simp [bts])) (by simp [bts]) (by rw [bts_take]; exact bts_one _) (by omega) (fun b hb => by simp at hb; subst hb; simp) ?_
  intro a4 c4 o4 H4 hO4 hE4
  rw [List.nil_append, Nat.mul_one, List.take_of_length_le (by simp [bts])] at hO4
  have own4 := hE4.own
  have hn4 := hE4.next
  simp only [AHeap.next_add, List.mem_singleton] at own4 hn4
  have hk4 : ∀ d, d < H2.next → H4.get d = H2.get d := fun d hd => (hE4.keep d (by simp only [AHeap.next_add]; omega) (by simp; omega)).trans (AHeap.ga_lt hd rfl)
  have hfr4 : ∀ d ∈ o4, H2.next ≤ d ∧ d < H4.next := fun d hd => ⟨by rcases own4 d hd with h5 | h5 <;> omega, hE4.lt (fun b hb => by simp at hb; subst hb; simp) d hd⟩
  have h4 := h2.frame (by omega) hk4
  have hg4 := h4.get
  refine wpO_cons ?_; refine op1_nilchk rfl rfl ?_; refine wpO_cons ?_; refine op1_faddr0 rfl rfl ?_; refine wpO_cons ?_; refine op1_store1 rfl rfl (by (conv => lhs; whnf) <;> rfl) rfl rfl (by with_reducible assumption) rfl ?_; refine wpO_nil ?_; refine seq_normal ?_; refine wp_seq ?_; refine wp_region ?_; refine wpO_cons ?_; refine op1_mov rfl (by (conv => lhs; whnf) <;> rfl) ?_; refine wpO_cons ?_; refine op1_mov rfl (by (conv => lhs; whnf) <;> rfl) ?_; refine wpO_cons ?_; refine op1_mov rfl (by (conv => lhs; whnf) <;> rfl) ?_; refine wpO_nil ?_; refine seq_normal ?_; refine wp_ret ?_; refine ret_of ?_; refine rk_tmp (by (conv => lhs; whnf) <;> rfl) ?_; refine rk_tmp (by (conv => lhs; whnf) <;> rfl) ?_; refine rk_nil ?_
  obtain ⟨q1, q2⟩ := h2.setOut (out' := s.output.drop k) hO4 ⟨by omega, fun b hb _ => hk4 b hb, fun b hb => .inr (hfr4 b hb)⟩
  have hlt2 := h2.lt
  have hln : H.next ≤ H2.next := by omega
  refine ⟨_, _, o2, rfl, ⟨hO2.frame fun b hb => ?_, fun b hb => ⟨(hfr b hb).1, Nat.lt_of_lt_of_le (hfr b hb).2 q2.next, ?_⟩⟩, ⟨_, _, _, _, _, _, _, _, _, _, q1, rfl⟩, ?_⟩
  · rw [AHeap.get_set, if_neg (by have := (hfr b hb).1; have := h.lt.1; omega), hk4 b (hfr b hb).2]
  · intro hm
    rcases q2.own b hm with h5 | h5
    · exact absurd (hlt b h5) (by have := (hfr b hb).1; omega)
    · have := (hfr b hb).2; omega
  · exact ⟨Nat.le_trans hln q2.next, fun b hb hn => (q2.keep b (by omega) hn).trans (hk2 b hb), fun b hb => (q2.own b hb).imp id fun h5 => ⟨by omega, h5.2⟩⟩
end Go.E.Pty

/- The reference's terminal: Read, Available. -/
namespace Go.E.Pty
open Go Go.E Go.Proofs.YtfgejkhhkacknaaDoor.base Go.Proofs.YtfgejkhhkacknaaDoor Go.Proofs
set_option linter.unusedVariables false
set_option linter.unusedSimpArgs false
set_option maxRecDepth 100000

theorem OpT.setFirstT {H H3 : AHeap} {p : Nat} {s : PT} {vl vo vs v v' : Value} {cs csi : List Value} {ol o1 o2 oo os o1' : List Nat} {bi offi li ci : Nat} {rs : List (List Int × Bool)} {d' : List Int} {r : Bool} (h : OpT true H p s vl (.slice (some ⟨bi, offi, none⟩) li ci) vo vs (recC true v r ++ cs) ol [bi] (o1 ++ o2) oo os)
    (hr2 : RecsO H true cs rs o2) (hgi : H.get bi = .cells csi 2 false) (hO : SlO H3 1 v' (bts d') o1') (hE : Ext o1 H o1' H3) :
    ∃ O'', RepT true (H3.set bi (.cells (csi.set (offi + 1) v') 2 false)) p { s with input := (d', r) :: rs } O'' ∧
      Ext (p :: (ol ++ ([bi] ++ ((o1 ++ o2) ++ (oo ++ os))))) H O'' (H3.set bi (.cells (csi.set (offi + 1) v') 2 false)) ∧ ∀ b ∈ O'', b ∈ o1' ∨ b < H.next := by
  have nd := h.nd
  have low := h.low
  have own := hE.own
  have keep := hE.keep
  have hnx := hE.next
  have hs1 := hO.single
  simp only [List.nodup_cons, List.nodup_append, List.mem_append, List.mem_cons, List.not_mem_nil, or_false] at nd low
  have k : ∀ b, b < H.next → b ∉ o1 → b ≠ bi → (H3.set bi (.cells (csi.set (offi + 1) v') 2 false)).get b = H.get b := by
    intro b h1 h2 h3
    rw [AHeap.get_set, if_neg h3]
    exact keep b h1 h2
  have hi := h.inp.setAt (H1 := H3) hgi 1 v'
  have e : (recC true v r ++ cs).set 1 v' = recC true v' r ++ cs := by simp [recC]
  rw [e] at hi
  refine ⟨p :: (ol ++ ([bi] ++ ((o1' ++ o2) ++ (oo ++ os)))), ⟨vl, _, vo, vs, _, ol, [bi], o1' ++ o2, oo, os, ⟨⟨fun b hb => ?_, Nat.le_trans h.glob.le hnx⟩, (k p (by grind) (by grind) (by grind)).trans h.get, h.line.frame fun b hb => k b (by grind) (by grind) (by grind), hi, .cons (hO.frame fun b hb => ?_) (hr2.frame fun b hb => k b (by grind) (by grind) (by grind)), h.out.frame fun b hb => k b (by grind) (by grind) (by grind), h.sig.frame fun b hb => k b (by grind) (by grind) (by grind), ?_, ?_⟩, rfl⟩, ⟨hnx, ?_, ?_⟩, ?_⟩
  · rw [k b (Nat.lt_of_lt_of_le hb h.glob.le) (by grind) (by grind)]; exact h.glob.get b hb
  · rw [AHeap.get_set, if_neg (by grind)]
  · simp only [List.nodup_cons, List.nodup_append, List.mem_append, List.append_nil, List.mem_cons, List.not_mem_nil, or_false]; grind
  · simp only [List.mem_append, List.mem_cons, AHeap.next_set, List.append_nil, List.not_mem_nil, or_false]; grind [h.glob.le]
  · intro b h1 h2
    simp only [List.mem_append, List.mem_cons, List.not_mem_nil, or_false] at h2
    exact k b h1 (by grind) (by grind)
  · simp only [List.mem_append, List.mem_cons, AHeap.next_set, List.append_nil, List.not_mem_nil, or_false]; grind
  · simp only [List.mem_append, List.mem_cons, List.not_mem_nil, or_false]; grind

/-- the first record dropped -/
theorem OpT.dropT {H : AHeap} {p : Nat} {s : PT} {vl vi vo vs v vi' : Value} {cs : List Value} {ol oi o1 o2 oo os : List Nat} {rest : List (List Int × Bool)} {r : Bool} (h : OpT true H p s vl vi vo vs (recC true v r ++ cs) ol oi (o1 ++ o2) oo os)
    (hr2 : RecsO H true cs rest o2) (hS : SlO H 2 vi' cs oi) :
    ∃ O'', RepT true (H.set p (.cells [.int .i64 s.modes, .int .i64 s.rows, .int .i64 s.cols, vl, vi', vo, .bool s.stopped, vs, .bool s.hung] 0 false)) p { s with input := rest } O'' ∧
      Ext (p :: (ol ++ (oi ++ ((o1 ++ o2) ++ (oo ++ os))))) H O'' (H.set p (.cells [.int .i64 s.modes, .int .i64 s.rows, .int .i64 s.cols, vl, vi', vo, .bool s.stopped, vs, .bool s.hung] 0 false)) ∧ ∀ b ∈ O'', b ∈ (p :: (ol ++ (oi ++ ((o1 ++ o2) ++ (oo ++ os))))) ∧ b ∉ o1 := by
  have nd := h.nd
  simp only [List.nodup_cons, List.nodup_append, List.mem_append, List.mem_cons] at nd
  obtain ⟨q1, q2⟩ := h.setLI (line' := s.line) (inp' := rest) (ol' := ol) (oi' := oi) (orr' := o2) h.line hS hr2 ⟨Nat.le_refl _, fun _ _ _ => rfl, fun b hb => .inl (by simp only [List.mem_append] at hb ⊢; grind)⟩ (by simp only [List.nodup_append, List.mem_append]; grind)
  exact ⟨_, ⟨_, _, _, _, _, _, _, _, _, _, q1, rfl⟩, q2, fun b hb => by simp only [List.mem_append, List.mem_cons] at hb ⊢; grind⟩

theorem L50 {H : AHeap} {p : Nat} {s : PT} {O : List Nat} (h : RepT true H p s O) (n : Int) (hlim : s.input.length ≤ 100000) (hrec : ∀ x ∈ s.input, x.1.length ≤ 10000000) :
    wpF C 50 [.pointer (some ⟨p, 0, none⟩), .int .i64 n] H fun v H' => ∃ O' vo r, v = .tuple ⟨[vo, .bool (s.read n).2.1, .int .i64 (s.read n).2.2.1]⟩ ∧ New1 H H' O' vo (s.read n).1 r ∧ RepT true H' p (s.read n).2.2.2 O' ∧ Ext O H O' H' := by
  have hR := h
  have hlt := h.lt
  obtain ⟨vl, vi, vo, vs, cells, ol, oi, orr, oo, os, h, rfl⟩ := h
  obtain ⟨ai, li, ci, rfl, hli⟩ := h.inp.shape
  obtain rfl : li = s.input.length := by have := h.recs.length; omega
  have hg := h.get
  refine wpF_ofW o50 rfl rfl ?_
  unfold PT.read
  refine wp_seq ?_; refine wp_region ?_; refine wpO_cons ?_; refine op1_mov rfl (by (conv => lhs; whnf) <;> rfl) ?_; refine wpO_cons ?_; refine op1_mov rfl (by (conv => lhs; whnf) <;> rfl) ?_; refine wpO_cons ?_; refine op1_mov rfl (by (conv => lhs; whnf) <;> rfl) ?_; refine wpO_nil ?_; refine seq_normal ?_; refine wp_seq ?_; refine wp_seq ?_; refine wp_region ?_; refine wpO_cons ?_; refine op1_mov rfl (by (conv => lhs; whnf) <;> rfl) ?_; refine wpO_cons ?_; refine op1_lss rfl rfl rfl ?_; refine wpO_nil ?_; refine seq_normal ?_
  refine wp_dec rfl (fun hc => ?_) (fun hc => ?_)
  · rw [if_pos hc]
    refine wp_seq ?_; refine wp_region ?_; refine wpO_cons ?_; refine op1_mov rfl (by (conv => lhs; whnf) <;> rfl) ?_; refine wpO_cons ?_; refine op1_mov rfl (by (conv => lhs; whnf) <;> rfl) ?_; refine wpO_cons ?_; refine op1_mov rfl (by (conv => lhs; whnf) <;> rfl) ?_; refine wpO_nil ?_; refine seq_normal ?_; refine wp_ret ?_; refine seq_ret ?_; refine ret_of ?_; refine rk_tmp (by (conv => lhs; whnf) <;> rfl) ?_; refine rk_tmp (by (conv => lhs; whnf) <;> rfl) ?_; refine rk_tmp (by (conv => lhs; whnf) <;> rfl) ?_; refine rk_nil ?_
    exact ⟨_, _, [], rfl, New1.nil _ _ _, hR, Ext.refl _ _⟩
  rw [if_neg hc]
  refine wp_skip ?_; refine seq_normal ?_; refine wp_seq ?_; refine wp_seq ?_; refine wp_region ?_; refine wpO_cons ?_; refine op1_mov rfl (by (conv => lhs; whnf) <;> rfl) ?_; refine wpO_cons ?_; refine op1_eqlI rfl rfl rfl ?_; refine wpO_nil ?_; refine seq_normal ?_
  refine wp_dec rfl (fun hc2 => ?_) (fun hc2 => ?_)
  · rw [if_pos hc2]
    refine wp_seq ?_; refine wp_region ?_; refine wpO_cons ?_; refine op1_mov rfl (by (conv => lhs; whnf) <;> rfl) ?_; refine wpO_cons ?_; refine op1_mov rfl (by (conv => lhs; whnf) <;> rfl) ?_; refine wpO_cons ?_; refine op1_mov rfl (by (conv => lhs; whnf) <;> rfl) ?_; refine wpO_nil ?_; refine seq_normal ?_; refine wp_ret ?_; refine seq_ret ?_; refine ret_of ?_; refine rk_tmp (by (conv => lhs; whnf) <;> rfl) ?_; refine rk_tmp (by (conv => lhs; whnf) <;> rfl) ?_; refine rk_tmp (by (conv => lhs; whnf) <;> rfl) ?_; refine rk_nil ?_
    exact ⟨_, _, [], rfl, New1.nil _ _ _, hR, Ext.refl _ _⟩
  rw [if_neg hc2]
  refine wp_skip ?_; refine seq_normal ?_; refine wp_seq ?_; refine wp_seq ?_; refine wp_region ?_; refine wpO_cons ?_; refine op1_mov rfl (by (conv => lhs; whnf) <;> rfl) ?_; refine wpO_cons ?_; refine op1_nilchk rfl rfl ?_; refine wpO_cons ?_; refine op1_faddr0 rfl rfl ?_; refine wpO_cons ?_; refine op1_load rfl rfl (by with_reducible assumption) rfl ?_; refine wpO_cons ?_; refine op1_len rfl rfl ?_; refine wpO_cons ?_; refine op1_eqlI rfl rfl rfl ?_; refine wpO_nil ?_; refine seq_normal ?_
  rcases hin : s.input with _ | ⟨⟨d, r⟩, rest⟩
  · rw [hin] at hg
    simp only
    refine wp_dec rfl (fun h0 => ?_) (fun h0 => ?_)
    · refine wp_seq ?_; refine wp_seq ?_; refine wp_region ?_; refine wpO_cons ?_; refine op1_mov rfl (by (conv => lhs; whnf) <;> rfl) ?_; refine wpO_cons ?_; refine op1_nilchk rfl rfl ?_; refine wpO_cons ?_; refine op1_faddr0 rfl rfl ?_; refine wpO_cons ?_; refine op1_load rfl rfl (by with_reducible assumption) rfl ?_; refine wpO_nil ?_; refine seq_normal ?_
      refine wp_cond rfl (fun hh => ?_) (fun hh => ?_)
      · rw [if_pos hh]
        refine wp_seq ?_; refine wp_region ?_; refine wpO_cons ?_; refine op1_mov rfl (by (conv => lhs; whnf) <;> rfl) ?_; refine wpO_cons ?_; refine op1_mov rfl (by (conv => lhs; whnf) <;> rfl) ?_; refine wpO_cons ?_; refine op1_mov rfl (by (conv => lhs; whnf) <;> rfl) ?_; refine wpO_nil ?_; refine seq_normal ?_; refine wp_ret ?_; refine seq_ret ?_; refine seq_ret ?_; refine ret_of ?_; refine rk_tmp (by (conv => lhs; whnf) <;> rfl) ?_; refine rk_tmp (by (conv => lhs; whnf) <;> rfl) ?_; refine rk_tmp (by (conv => lhs; whnf) <;> rfl) ?_; refine rk_nil ?_
        exact ⟨_, _, [], rfl, New1.nil _ _ _, hR, Ext.refl _ _⟩
      · rw [if_neg (by rw [hh]; simp)]
        refine wp_skip ?_; refine seq_normal ?_; refine wp_seq ?_; refine wp_region ?_; refine wpO_cons ?_; refine op1_mov rfl (by (conv => lhs; whnf) <;> rfl) ?_; refine wpO_cons ?_; refine op1_mov rfl (by (conv => lhs; whnf) <;> rfl) ?_; refine wpO_cons ?_; refine op1_mov rfl (by (conv => lhs; whnf) <;> rfl) ?_; refine wpO_nil ?_; refine seq_normal ?_; refine wp_ret ?_; refine seq_ret ?_; refine ret_of ?_; refine rk_tmp (by (conv => lhs; whnf) <;> rfl) ?_; refine rk_tmp (by (conv => lhs; whnf) <;> rfl) ?_; refine rk_tmp (by (conv => lhs; whnf) <;> rfl) ?_; refine rk_nil ?_
        exact ⟨_, _, [], rfl, New1.nil _ _ _, hR, Ext.refl _ _⟩
    · exact absurd rfl h0
  · simp only
    have hlen : s.input.length = rest.length + 1 := by rw [hin]; rfl
    have hpos : 0 < s.input.length := by omega
    have hrecs := h.recs
    rw [hin] at hrecs
    have hdl : d.length ≤ 10000000 := hrec (d, r) (by rw [hin]; simp)
    refine wp_dec rfl (fun h0 => ?_) (fun h0 => ?_)
    · simp at h0; omega
    cases hrecs with
    | @cons vr _ _ cs _ o1 o2 hr1 hr2 =>
    obtain ⟨ar, cr, rfl⟩ := hr1.b1
    have hcr := hr1.len_le
    obtain ⟨bi, offi, csi, rfl, rfl, hgi, hle, hat⟩ := h.inp.at (i := 0) hpos
    have ha1 := hat 1 (by omega)
    simp only [recC, if_true, Nat.zero_mul, Nat.zero_add, List.cons_append, List.getElem?_cons_zero, List.getElem?_cons_succ] at ha1
    have hci : offi + 1 < csi.length := by omega
    have hcic := h.inp.len_le
    have hnd := h.nd
    simp only [List.nodup_cons, List.nodup_append, List.mem_append, List.mem_cons, List.not_mem_nil, or_false] at hnd
    refine wp_skip ?_; refine seq_normal ?_; refine wp_seq ?_; refine wp_region ?_; refine wpO_cons ?_; refine op1_mov rfl (by (conv => lhs; whnf) <;> rfl) ?_; refine wpO_cons ?_; refine op1_nilchk rfl rfl ?_; refine wpO_cons ?_; refine op1_faddr0 rfl rfl ?_; refine wpO_cons ?_; refine op1_load rfl rfl (by with_reducible assumption) rfl ?_; refine wpO_cons ?_; refine op1_iaddr rfl rfl rfl (by omega) (by omega) ?_; refine wpO_cons ?_; refine op1_faddr rfl rfl ?_; refine wpO_cons ?_
    refine op1_load rfl rfl hgi ha1 ?_
    refine wpO_cons ?_; refine op1_mov rfl (by (conv => lhs; whnf) <;> rfl) ?_; refine wpO_nil ?_; refine seq_normal ?_; refine wp_seq ?_; refine wp_seq ?_; refine wp_region ?_; refine wpO_cons ?_; refine op1_mov rfl (by (conv => lhs; whnf) <;> rfl) ?_; refine wpO_cons ?_; refine op1_len rfl rfl ?_; refine wpO_cons ?_; refine op1_eqlI rfl rfl rfl ?_; refine wpO_nil ?_; refine seq_normal ?_
    refine wp_dec rfl (fun hd0 => ?_) (fun hd0 => ?_)
    · have hd0 : d = [] := List.eq_nil_of_length_eq_zero (by omega)
      subst hd0
      simp only [List.take_nil, List.drop_nil, if_true, decide_true]
      refine wp_seq ?_; refine wp_region ?_; refine wpO_cons ?_; refine op1_mov rfl (by (conv => lhs; whnf) <;> rfl) ?_; refine wpO_cons ?_; refine op1_mov rfl (by (conv => lhs; whnf) <;> rfl) ?_; refine wpO_cons ?_; refine op1_nilchk rfl rfl ?_; refine wpO_cons ?_; refine op1_faddr0 rfl rfl ?_; refine wpO_cons ?_; refine op1_load rfl rfl (by with_reducible assumption) rfl ?_; refine wpO_cons ?_
      refine op1_sliceO rfl rfl h.inp (bnds_lo (by omega) (by omega) hcic) (by simp; omega) (Nat.le_refl _) ?_
      intro a3 c3 hS3
      rw [List.take_of_length_le (by simp [recC]; have := hr2.length; omega)] at hS3
      have hS3 : SlO H 2 (.slice a3 (s.input.length - 1) c3) cs [bi] := hS3
      refine wpO_cons ?_; refine op1_nilchk rfl rfl ?_; refine wpO_cons ?_; refine op1_faddr0 rfl rfl ?_; refine wpO_cons ?_; refine op1_store1 rfl rfl (by (conv => lhs; whnf) <;> rfl) rfl rfl (by with_reducible assumption) rfl ?_; refine wpO_nil ?_; refine seq_normal ?_; refine wp_seq ?_; refine wp_region ?_; refine wpO_cons ?_; refine op1_mov rfl (by (conv => lhs; whnf) <;> rfl) ?_; refine wpO_cons ?_; refine op1_mov rfl (by (conv => lhs; whnf) <;> rfl) ?_; refine wpO_cons ?_; refine op1_mov rfl (by (conv => lhs; whnf) <;> rfl) ?_; refine wpO_nil ?_; refine seq_normal ?_; refine wp_ret ?_; refine seq_ret ?_; refine ret_of ?_; refine rk_tmp (by (conv => lhs; whnf) <;> rfl) ?_; refine rk_tmp (by (conv => lhs; whnf) <;> rfl) ?_; refine rk_tmp (by (conv => lhs; whnf) <;> rfl) ?_; refine rk_nil ?_
      obtain ⟨O3, q1, q2, q3⟩ := h.dropT hr2 hS3
      exact ⟨O3, _, [], rfl, New1.nil _ _ _, q1, q2⟩
    have hdn : d ≠ [] := fun e => hd0 (by subst e; rfl)
    rw [decide_eq_false hdn]
    refine wp_skip ?_; refine seq_normal ?_; refine wp_seq ?_; refine wp_seq ?_; refine wp_region ?_; refine wpO_cons ?_; refine op1_mov rfl (by (conv => lhs; whnf) <;> rfl) ?_; refine wpO_cons ?_; refine op1_mov rfl (by (conv => lhs; whnf) <;> rfl) ?_; refine wpO_cons ?_; refine op1_len rfl rfl ?_; refine wpO_cons ?_; refine op1_geq rfl rfl rfl ?_; refine wpO_nil ?_; refine seq_normal ?_
    refine wp_dec rfl (fun hge => ?_) (fun hge => ?_)
    · rw [Int.min_eq_right (by omega), Int.toNat_natCast, List.take_length, List.drop_length, if_pos rfl]
      refine wp_seq ?_; refine wp_region ?_; refine wpO_cons ?_; refine op1_mov rfl (by (conv => lhs; whnf) <;> rfl) ?_; refine wpO_cons ?_; refine op1_mov rfl (by (conv => lhs; whnf) <;> rfl) ?_; refine wpO_cons ?_; refine op1_nilchk rfl rfl ?_; refine wpO_cons ?_; refine op1_faddr0 rfl rfl ?_; refine wpO_cons ?_; refine op1_load rfl rfl (by with_reducible assumption) rfl ?_; refine wpO_cons ?_
      refine op1_sliceO rfl rfl h.inp (bnds_lo (by omega) (by omega) hcic) (by simp; omega) (Nat.le_refl _) ?_
      intro a3 c3 hS3
      rw [List.take_of_length_le (by simp [recC]; have := hr2.length; omega)] at hS3
      have hS3 : SlO H 2 (.slice a3 (s.input.length - 1) c3) cs [bi] := hS3
      obtain ⟨O3, q1, q2, q3⟩ := h.dropT hr2 hS3
      have hlo1 : ∀ b ∈ o1, b < H.next := fun b hb => hlt b (by simp [hb])
      have hr1' := hr1.frame (H' := H.set p (.cells [.int .i64 s.modes, .int .i64 s.rows, .int .i64 s.cols, vl, .slice a3 (s.input.length - 1) c3, vo, .bool s.stopped, vs, .bool s.hung] 0 false)) fun b hb => AHeap.gs_ne (by grind) rfl
      refine wpO_cons ?_; refine op1_nilchk rfl rfl ?_; refine wpO_cons ?_; refine op1_faddr0 rfl rfl ?_; refine wpO_cons ?_; refine op1_store1 rfl rfl (by (conv => lhs; whnf) <;> rfl) rfl rfl (by with_reducible assumption) rfl ?_; refine wpO_nil ?_; refine seq_normal ?_; refine wp_seq ?_; refine wp_region ?_; refine wpO_cons ?_; refine op1_bslice rfl ?_; refine bk_nil ?_; refine wpO_cons ?_; refine op1_mov rfl (by (conv => lhs; whnf) <;> rfl) ?_; refine wpO_cons ?_
      refine op1_appendE rfl rfl rfl hr1'.rd (bts_length d) hlo1 (bts_one _) (by omega) ?_
      intro a4 c4 o4 H4 hO4 hf4 hk4 hn4
      refine wpO_cons ?_; refine op1_mov rfl (by (conv => lhs; whnf) <;> rfl) ?_; refine wpO_cons ?_; refine op1_mov rfl (by (conv => lhs; whnf) <;> rfl) ?_; refine wpO_cons ?_; refine op1_mov rfl (by (conv => lhs; whnf) <;> rfl) ?_; refine wpO_nil ?_; refine seq_normal ?_; refine wp_ret ?_; refine seq_ret ?_; refine ret_of ?_; refine rk_tmp (by (conv => lhs; whnf) <;> rfl) ?_; refine rk_tmp (by (conv => lhs; whnf) <;> rfl) ?_; refine rk_tmp (by (conv => lhs; whnf) <;> rfl) ?_; refine rk_nil ?_
      have hn : H.next ≤ H4.next := hn4
      refine ⟨O3, _, o4, rfl, ⟨hO4, fun b hb => ⟨(hf4 b hb).1, (hf4 b hb).2, fun hm => ?_⟩⟩, q1.frame (q1.glob.ext (o := []) (o' := []) ⟨hn4, fun b hb _ => hk4 b hb, fun b hb => by simp at hb⟩ (by simp)) hn4 fun b hb => hk4 b (q1.lt b hb), ⟨hn, fun b hb hnn => (hk4 b hb).trans (q2.keep b hb hnn), fun b hb => .inl (q3 b hb).1⟩⟩
      have h1 := hlt b (q3 b hm).1
      have h2 : H.next ≤ b := (hf4 b hb).1
      omega
    obtain ⟨k, rfl⟩ : ∃ k : Nat, n = k := ⟨n.toNat, by omega⟩
    rw [Int.min_eq_left (by omega)]
    simp only [Int.toNat_natCast]
    have hdk : d.drop k ≠ [] := by intro e; have := congrArg List.length e; simp at this; omega
    rw [if_neg hdk]
    have hlo1 : ∀ b ∈ o1, b < H.next := fun b hb => hlt b (by simp [hb])
    have hbi := hlt bi (by simp)
    have hgA := AHeap.ga_lt (o := .cells [] 1 false) h.lt.1 hg
    refine wp_skip ?_; refine seq_normal ?_; refine wp_seq ?_; refine wp_regionD ?_; refine wpD_cons ?_; refine op1_mov rfl (by (conv => lhs; whnf) <;> rfl) ?_; refine wpD_cons ?_; refine op1_nilchk rfl rfl ?_; refine wpD_cons ?_; refine op1_faddr0 rfl rfl ?_; refine wpD_cons ?_; refine op1_load rfl rfl (by with_reducible assumption) rfl ?_; refine wpD_cons ?_; refine op1_bslice rfl ?_; refine bk_nil ?_; refine wpD_cons ?_; refine op1_mov rfl (by (conv => lhs; whnf) <;> rfl) ?_; refine wpD_cons ?_; refine op1_mov rfl (by (conv => lhs; whnf) <;> rfl) ?_; refine wpD_cons ?_
    obtain ⟨b1, off1, cs1, rfl, rfl, hg1⟩ := hr1.ne (fun e => hd0 (by omega))
    have hcr0 : cr ≠ 0 := by have := List.length_pos_iff.2 hdn; omega
    have hg1A := AHeap.ga_lt (o := .cells [] 1 false) (hlo1 b1 (by simp)) hg1
    refine op1_slice rfl rfl hcr0 (bnds_lo (i := .i64) (n := (k : Int)) (by omega) (by omega) hcr) hg1A (.inr rfl) ?_
    simp only [Int.toNat_natCast]
    have hS3 := hr1.dropB (k := k) (by omega)
    rw [bts_drop] at hS3
    refine wpD_cons ?_
    refine op1_appendE (l := d.length - k) rfl rfl rfl hS3.rd (by simp) hlo1 (bts_one _) (by omega) ?_
    intro a4 c4 o4 H4 hO4 hf4 hk4 hn4
    have hgi4 : H4.get bi = .cells csi 2 false := (hk4 bi hbi).trans hgi
    have hg4 := (hk4 p h.lt.1).trans hg
    have hg14 := (hk4 b1 (hlo1 b1 (by simp))).trans hg1
    refine wpD_cons ?_; refine op1_iaddr rfl rfl rfl (by omega) (by omega) ?_; refine wpD_cons ?_; refine op1_faddr rfl rfl ?_; refine wpD_cons ?_
    refine op1_store1 rfl rfl (by (conv => lhs; whnf) <;> rfl) rfl rfl hgi4 (Nat.ble_eq_true_of_le (by omega)) ?_
    obtain ⟨O5, q1, q2, q3⟩ := h.setFirstT (d' := d.drop k) hr2 hgi hO4 ⟨hn4, fun b hb _ => hk4 b hb, fun b hb => .inr (hf4 b hb)⟩
    have hr1' := hr1.frame (H' := H4.set bi (.cells (csi.set (offi + 1) (.slice a4 (d.length - k) c4)) 2 false)) fun b hb => (AHeap.gs_ne (by grind) rfl).trans (hk4 b (hlo1 b hb))
    have hlo2 : ∀ b ∈ [b1], b < (H4.set bi (.cells (csi.set (offi + 1) (.slice a4 (d.length - k) c4)) 2 false)).next := fun b hb => Nat.lt_of_lt_of_le (hlo1 b hb) hn4
    refine wpD_nil ?_; refine dk_of ?_ ?_; refine chk_skip ?_; refine chk_skip ?_; refine chk_skip ?_; refine chk_cons 9 rfl rfl rfl ?_ ?_; refine chkFs_cons 4 rfl rfl ?_ ?_; exact chk_load rfl (by with_reducible assumption) rfl rfl; refine chkFs_cons 1 rfl rfl ?_ ?_; exact chk_load rfl (by with_reducible assumption) rfl rfl; exact chkFs_nil; refine chk_skip ?_; refine chk_skip ?_; refine chk_skip ?_; refine chk_cons 5 rfl rfl rfl ?_ ?_; refine chkFs_cons 4 rfl rfl ?_ ?_
    · exact chk_slice (l := d.length) (c := cr) rfl hcr0 (bnds_lo (i := .i64) (n := (k : Int)) (by omega) (by omega) hcr) hg1A (.inr rfl) rfl
    exact chkFs_nil
    refine chk_skip ?_; refine chk_skip ?_; refine chk_skip ?_; refine chk_skip ?_; exact chk_end
    refine seq_normal ?_; refine wp_seq ?_; refine wp_region ?_; refine wpO_cons ?_; refine op1_bslice rfl ?_; refine bk_nil ?_; refine wpO_cons ?_; refine op1_mov rfl (by (conv => lhs; whnf) <;> rfl) ?_; refine wpO_cons ?_; refine op1_mov rfl (by (conv => lhs; whnf) <;> rfl) ?_; refine wpO_cons ?_
    rw [show offi + Int.toNat 0 * 2 + 1 = offi + 1 from rfl]
    refine op1_sliceO rfl rfl (hr1'.add hlo2 _) (bnds_hi (i := .i64) (n := (k : Int)) (by omega) (by omega)) (by omega) (by simp only [Int.toNat_natCast]; omega) ?_
    simp only [Int.toNat_natCast, Nat.zero_mul, List.drop_zero, Nat.sub_zero, Nat.mul_one]
    intro a6 c6 hS6'
    rw [bts_take] at hS6'
    have hS6 : SlO (H4.set bi (.cells (csi.set (offi + 1) (.slice a4 (d.length - k) c4)) 2 false)) 1 (.slice a6 k c6) (bts (d.take k)) [b1] := hS6'.frame fun b hb => by rw [AHeap.get_add, if_neg (Nat.ne_of_lt (hlo2 b hb))]
    refine wpO_cons ?_
    refine op1_appendE (l := k) rfl rfl rfl hS6.rd (by simp; omega) hlo2 (bts_one _) (by omega) ?_
    intro a7 c7 o7 H7 hO7 hf7 hk7 hn7
    have hn7' : H4.next ≤ H7.next := hn7
    have hk7' : ∀ b, b < H4.next → H7.get b = (H4.set bi (.cells (csi.set (offi + 1) (.slice a4 (d.length - k) c4)) 2 false)).get b := hk7
    have hf7' : ∀ b ∈ o7, H4.next ≤ b ∧ b < H7.next := hf7
    refine wpO_cons ?_; refine op1_mov rfl (by (conv => lhs; whnf) <;> rfl) ?_; refine wpO_cons ?_; refine op1_mov rfl (by (conv => lhs; whnf) <;> rfl) ?_; refine wpO_cons ?_; refine op1_mov rfl (by (conv => lhs; whnf) <;> rfl) ?_; refine wpO_nil ?_; refine seq_normal ?_; refine wp_ret ?_; refine ret_of ?_; refine rk_tmp (by (conv => lhs; whnf) <;> rfl) ?_; refine rk_tmp (by (conv => lhs; whnf) <;> rfl) ?_; refine rk_tmp (by (conv => lhs; whnf) <;> rfl) ?_; refine rk_nil ?_
    have hq1 : ∀ b ∈ O5, b < H4.next := q1.lt
    refine ⟨O5, _, o7, rfl, ⟨hO7, fun b hb => ⟨by have := (hf7' b hb).1; omega, (hf7' b hb).2, fun hm => by have := (hf7' b hb).1; have := hq1 b hm; omega⟩⟩, q1.frame (q1.glob.ext (o := []) (o' := []) ⟨hn7, fun b hb _ => hk7 b hb, fun b hb => by simp at hb⟩ (by simp)) hn7 fun b hb => hk7 b (q1.lt b hb), ⟨by omega, fun b hb hnn => (hk7' b (by omega)).trans (q2.keep b hb hnn), fun b hb => (q2.own b hb).imp id fun h5 => ⟨h5.1, Nat.lt_of_lt_of_le h5.2 hn7⟩⟩⟩
theorem RecsO.getT {H : AHeap} {cs : List Value} {rs : List (List Int × Bool)} {o : List Nat} (h : RecsO H true cs rs o) : ∀ {i : Nat} {d : List Int} {r : Bool}, rs[i]? = some (d, r) → ∃ a c, cs[i * 2 + 1]? = some (.slice a d.length c) := by
  induction h with
  | nil => intro i d r hi; simp at hi
  | @cons v d0 r0 cs rs o1 o2 h t ih =>
    intro i d r hi
    cases i with
    | zero =>
      simp only [List.getElem?_cons_zero, Option.some.injEq, Prod.mk.injEq] at hi
      obtain ⟨rfl, rfl⟩ := hi
      obtain ⟨a, c, rfl⟩ := h.b1
      exact ⟨a, c, by simp [recC]⟩
    | succ i =>
      obtain ⟨a, c, h1⟩ := ih (by simpa using hi)
      refine ⟨a, c, ?_⟩
      have e : (i + 1) * 2 + 1 = (recC true v r0).length + (i * 2 + 1) := by simp [recC]; omega
      rw [e, List.getElem?_append_right (by omega), Nat.add_sub_cancel_left]
      exact h1

theorem L58 {H : AHeap} {p : Nat} {s : PT} {O : List Nat} (h : RepT true H p s O) (hlim : s.input.length ≤ 100000) (hrec : ∀ x ∈ s.input, x.1.length ≤ 10000000) : wpF C 58 [.pointer (some ⟨p, 0, none⟩)] H fun v H' => v = .int .i64 s.avail ∧ H = H' := by
  have hlt := h.lt
  obtain ⟨vl, vi, vo, vs, cells, ol, oi, orr, oo, os, h, rfl⟩ := h
  obtain ⟨ai, li, ci, rfl, hli⟩ := h.inp.shape
  obtain rfl : li = s.input.length := by have := h.recs.length; omega
  have hg := h.get
  refine wpF_ofW o58 rfl rfl ?_
  refine wp_seq ?_; refine wp_region ?_; refine wpO_cons ?_; refine op1_mov rfl (by (conv => lhs; whnf) <;> rfl) ?_; refine wpO_nil ?_; refine seq_normal ?_; refine wp_seq ?_; refine wp_region ?_; refine wpO_cons ?_; refine op1_mov rfl (by (conv => lhs; whnf) <;> rfl) ?_; refine wpO_nil ?_; refine seq_normal ?_; refine wp_seq ?_; refine wp_seq ?_; refine wp_region ?_; refine wpO_cons ?_; refine op1_mov rfl (by (conv => lhs; whnf) <;> rfl) ?_; refine wpO_nil ?_; refine seq_normal ?_; refine wp_block ?_
  refine wp_loop [3, 4] (fun k vs H' => ∃ i : Nat, vs = [.int .i64 (((s.input.take i).map (·.1.length)).sum : Nat), .int .i64 i] ∧ i + k = s.input.length ∧ H = H') ⟨s.input.length, 0, rfl, by omega, rfl⟩ ?_
  rintro k vs T' H' ⟨i, rfl, hk, rfl⟩
  refine wp_seq ?_; refine wp_seq ?_; refine wp_region ?_; refine wpO_cons ?_; refine op1_mov rfl (by (conv => lhs; whnf) <;> rfl) ?_; refine wpO_cons ?_; refine op1_mov rfl (by (conv => lhs; whnf) <;> rfl) ?_; refine wpO_cons ?_; refine op1_nilchk rfl rfl ?_; refine wpO_cons ?_; refine op1_faddr0 rfl rfl ?_; refine wpO_cons ?_; refine op1_load rfl rfl (by with_reducible assumption) rfl ?_; refine wpO_cons ?_; refine op1_len rfl rfl ?_; refine wpO_cons ?_; refine op1_lss rfl rfl rfl ?_; refine wpO_nil ?_; refine seq_normal ?_
  refine wp_dec rfl (fun hlt2 => ?_) (fun hlt2 => ?_)
  · have hi : i < s.input.length := by omega
    obtain ⟨⟨d, r⟩, hdr⟩ : ∃ x, s.input[i]? = some x := ⟨s.input[i], by simp [hi]⟩
    obtain ⟨a, c, h1⟩ := h.recs.getT hdr
    obtain ⟨bi, offi, csi, rfl, rfl, hgi, hle, hat⟩ := h.inp.at (i := i) hi
    have ha1 := hat 1 (by omega)
    rw [h1] at ha1
    have hsum := sum_le (s.input.take i) 10000000 fun x hx => hrec x (List.mem_of_mem_take hx)
    have hdl : d.length ≤ 10000000 := hrec (d, r) (List.mem_of_getElem? hdr)
    have htl : (s.input.take i).length ≤ 100000 := by simp only [List.length_take]; omega
    have hsucc : ((s.input.take (i + 1)).map (·.1.length)).sum = ((s.input.take i).map (·.1.length)).sum + d.length := by
      rw [List.take_add_one, hdr]; simp
    generalize hS : ((s.input.take i).map (·.1.length)).sum = S at *
    refine wp_skip ?_; refine seq_normal ?_; refine wp_seq ?_; refine wp_block ?_; refine wp_region ?_; refine wpO_cons ?_; refine op1_mov rfl (by (conv => lhs; whnf) <;> rfl) ?_; refine wpO_cons ?_; refine op1_mov rfl (by (conv => lhs; whnf) <;> rfl) ?_; refine wpO_cons ?_; refine op1_nilchk rfl rfl ?_; refine wpO_cons ?_; refine op1_faddr0 rfl rfl ?_; refine wpO_cons ?_; refine op1_load rfl rfl (by with_reducible assumption) rfl ?_; refine wpO_cons ?_; refine op1_mov rfl (by (conv => lhs; whnf) <;> rfl) ?_; refine wpO_cons ?_; refine op1_iaddr rfl rfl rfl (by omega) (by omega) ?_; refine wpO_cons ?_; refine op1_faddr rfl rfl ?_; refine wpO_cons ?_
    refine op1_load rfl rfl hgi ha1 ?_
    refine wpO_cons ?_; refine op1_len rfl rfl ?_; refine wpO_cons ?_; refine op1_add rfl rfl rfl (by exact wrap_i64 (by omega) (by omega)) ?_; refine wpO_cons ?_; refine op1_mov rfl (by (conv => lhs; whnf) <;> rfl) ?_; refine wpO_nil ?_; refine block_normal ?_; refine seq_normal ?_; refine wp_region ?_; refine wpO_cons ?_; refine op1_mov rfl (by (conv => lhs; whnf) <;> rfl) ?_; refine wpO_cons ?_; refine op1_add rfl rfl rfl (by exact wrap_i64 (by omega) (by omega)) ?_; refine wpO_cons ?_; refine op1_mov rfl (by (conv => lhs; whnf) <;> rfl) ?_; refine wpO_nil ?_
    refine ⟨k - 1, by omega, i + 1, ?_, by omega, rfl⟩
    rw [hsucc]; rfl
  · have : i = s.input.length := by omega
    subst this
    rw [List.take_length]
    refine wp_exit ?_; refine seq_exit ?_; refine iter_exit ?_; refine block_exit ?_; refine seq_normal ?_; refine wp_seq ?_; refine wp_region ?_; refine wpO_cons ?_; refine op1_mov rfl (by (conv => lhs; whnf) <;> rfl) ?_; refine wpO_cons ?_; refine op1_mov rfl (by (conv => lhs; whnf) <;> rfl) ?_; refine wpO_nil ?_; refine seq_normal ?_; refine wp_ret ?_; refine ret_of ?_; refine rk_tmp (by (conv => lhs; whnf) <;> rfl) ?_; refine rk_nil ?_
    exact ⟨rfl, rfl⟩
end Go.E.Pty

/- Both terminals: Write. -/
namespace Go.E.Pty
open Go Go.E Go.Proofs.YtfgejkhhkacknaaDoor.base Go.Proofs.YtfgejkhhkacknaaDoor Go.Proofs
set_option linter.unusedVariables false
set_option linter.unusedSimpArgs false
set_option maxRecDepth 100000

def PT.need (s : PT) (b : Int) : Int := if b = 10 ∧ s.has 16 = true then 2 else 1
def writeGo (s : PT) : List Int → Nat × PT
  | [] => (0, s)
  | b :: l => if 4096 < s.output.length + s.need b then (0, s) else ((writeGo (s.out1 b) l).1 + 1, (writeGo (s.out1 b) l).2)
def PT.write (s : PT) (l : List Int) : Int × Int × PT :=
  if 4096 < l.length then (0, 20, s) else if s.hung = true then (0, 15, s) else
    if (writeGo s l).1 = l.length then (l.length, 0, (writeGo s l).2) else if (writeGo s l).1 = 0 then (0, 2, (writeGo s l).2) else ((writeGo s l).1, 0, (writeGo s l).2)
theorem writeGo_le (s : PT) (l : List Int) : (writeGo s l).1 ≤ l.length := by
  induction l generalizing s with
  | nil => simp [writeGo]
  | cons b l ih => simp only [writeGo]; split <;> simp; exact ih _
theorem out1_inv {M N : Nat} {s : PT} {b : Int} (h : Inv M N s) (k : ¬ 4096 < s.output.length + s.need b) : Inv M N (s.out1 b) := by
  refine ⟨?_, h.line, h.inp, h.recs⟩
  simp only [PT.out1, List.length_append]
  unfold PT.need at k
  split <;> rename_i hc
  · rw [if_pos hc] at k; simp; omega
  · rw [if_neg hc] at k; simp; omega

theorem L21 {H : AHeap} {p : Nat} {s : PT} {O : List Nat} (h : RepT false H p s O) {M N : Nat} (hI : Inv M N s) {vd : Value} {l : List Int} {r : List Nat} (hd : RdS H 1 vd (bts l) r) (hr : ∀ b ∈ r, b < H.next ∧ b ∉ O) :
    wpF C 21 [.pointer (some ⟨p, 0, none⟩), vd] H fun v H' => v = .tuple ⟨[.int .i64 (s.write l).1, .int .i64 (s.write l).2.1]⟩ ∧ Inv M N (s.write l).2.2 ∧ ∃ O', RepT false H' p (s.write l).2.2 O' ∧ Ext O H O' H' := by
  obtain ⟨a, c, rfl⟩ := hd.b1
  have hR := h
  have hlt := h.lt
  obtain ⟨vl, vi, vo, vs, cells, ol, oi, orr, oo, os, h, rfl⟩ := h
  have hg := h.get
  refine wpF_ofW o21 rfl rfl ?_
  refine wp_seq ?_; refine wp_region ?_; refine wpO_cons ?_; refine op1_mov rfl (by (conv => lhs; whnf) <;> rfl) ?_; refine wpO_cons ?_; refine op1_mov rfl (by (conv => lhs; whnf) <;> rfl) ?_; refine wpO_nil ?_; refine seq_normal ?_; refine wp_seq ?_; refine wp_block ?_; refine wp_seq ?_; refine wp_region ?_; refine wpO_cons ?_; refine op1_mov rfl (by (conv => lhs; whnf) <;> rfl) ?_; refine wpO_cons ?_; refine op1_bin_false rfl (by (conv => lhs; whnf) <;> rfl) (by (conv => lhs; whnf) <;> rfl) rfl ?_; refine wpO_cons ?_; refine op1_mov rfl (by (conv => lhs; whnf) <;> rfl) ?_; refine wpO_nil ?_; refine seq_normal ?_; refine wp_false rfl ?_; refine wp_seq ?_; refine wp_region ?_; refine wpO_cons ?_; refine op1_mov rfl (by (conv => lhs; whnf) <;> rfl) ?_; refine wpO_cons ?_; refine op1_len rfl rfl ?_; refine wpO_cons ?_; refine op1_gtr rfl rfl rfl ?_; refine wpO_cons ?_; refine op1_mov rfl (by (conv => lhs; whnf) <;> rfl) ?_; refine wpO_nil ?_; refine seq_normal ?_
  unfold PT.write
  refine wp_dec rfl (fun hc => ?_) (fun hc => ?_)
  · rw [if_pos (by omega)]
    refine wp_seq ?_; refine wp_region ?_; refine wpO_cons ?_; refine op1_mov rfl (by (conv => lhs; whnf) <;> rfl) ?_; refine wpO_cons ?_; refine op1_mov rfl (by (conv => lhs; whnf) <;> rfl) ?_; refine wpO_nil ?_; refine seq_normal ?_; refine wp_ret ?_; refine block_ret ?_; refine seq_ret ?_; refine ret_of ?_; refine rk_tmp (by (conv => lhs; whnf) <;> rfl) ?_; refine rk_tmp (by (conv => lhs; whnf) <;> rfl) ?_; refine rk_nil ?_
    exact ⟨rfl, hI, _, hR, Ext.refl _ _⟩
  rw [if_neg (by omega)]
  refine wp_seq ?_; refine wp_region ?_; refine wpO_cons ?_; refine op1_mov rfl (by (conv => lhs; whnf) <;> rfl) ?_; refine wpO_cons ?_; refine op1_nilchk rfl rfl ?_; refine wpO_cons ?_; refine op1_faddr0 rfl rfl ?_; refine wpO_cons ?_; refine op1_load rfl rfl (by with_reducible assumption) rfl ?_; refine wpO_cons ?_; refine op1_mov rfl (by (conv => lhs; whnf) <;> rfl) ?_; refine wpO_nil ?_; refine seq_normal ?_
  refine wp_cond rfl (fun hh => ?_) (fun hh => ?_)
  · rw [if_pos hh]
    refine wp_seq ?_; refine wp_region ?_; refine wpO_cons ?_; refine op1_mov rfl (by (conv => lhs; whnf) <;> rfl) ?_; refine wpO_cons ?_; refine op1_mov rfl (by (conv => lhs; whnf) <;> rfl) ?_; refine wpO_nil ?_; refine seq_normal ?_; refine wp_ret ?_; refine block_ret ?_; refine seq_ret ?_; refine ret_of ?_; refine rk_tmp (by (conv => lhs; whnf) <;> rfl) ?_; refine rk_tmp (by (conv => lhs; whnf) <;> rfl) ?_; refine rk_nil ?_
    exact ⟨rfl, hI, _, hR, Ext.refl _ _⟩
  rw [if_neg (by rw [hh]; simp)]
  refine wp_skip ?_; refine block_normal ?_; refine seq_normal ?_; refine wp_seq ?_; refine wp_seq ?_; refine wp_region ?_; refine wpO_cons ?_; refine op1_mov rfl (by (conv => lhs; whnf) <;> rfl) ?_; refine wpO_cons ?_; refine op1_len rfl rfl ?_; refine wpO_cons ?_; refine op1_mov rfl (by (conv => lhs; whnf) <;> rfl) ?_; refine wpO_nil ?_; refine seq_normal ?_; refine wp_block ?_
  refine wp_loop [23] (fun k vs H' => ∃ (i : Nat) (si : PT), vs = [.int .i64 i] ∧ i + k = l.length ∧ Inv M N si ∧ writeGo s l = (i + (writeGo si (l.drop i)).1, (writeGo si (l.drop i)).2) ∧
    ∃ O', RepT false H' p si O' ∧ Ext (p :: (ol ++ (oi ++ (orr ++ (oo ++ os))))) H O' H') ⟨l.length, 0, s, rfl, by omega, hI, by simp, _, hR, Ext.refl _ _⟩ ?_
  rintro k vs' T' H' ⟨i, si, rfl, hk, hIi, hgo, O', hRi, hE⟩
  refine wp_seq ?_; refine wp_region ?_; refine wpO_cons ?_; refine op1_lss rfl rfl rfl ?_; refine wpO_nil ?_; refine seq_normal ?_; refine wp_seq ?_
  refine wp_dec rfl (fun hlt' => ?_) (fun hlt' => ?_)
  · have hi : i < l.length := by omega
    obtain ⟨b, off, cs, e, ro, v, rfl, rfl, hgb, hv, hx⟩ := hd.at1 hi
    have hgb' : H'.get b = .cells cs e ro := (hE.keep b (hr b (by simp)).1 (hr b (by simp)).2).trans hgb
    obtain ⟨x, hx', rfl⟩ : ∃ x, l[i]? = some x ∧ v = .int .u8 x := by
      simp only [bts, List.getElem?_map, Option.map_eq_some_iff] at hx
      obtain ⟨x, h1, h2⟩ := hx
      exact ⟨x, h1, h2.symm⟩
    have hdrop : l.drop i = x :: l.drop (i + 1) := by
      obtain ⟨_, hx2⟩ := List.getElem?_eq_some_iff.1 hx'
      rw [List.drop_eq_getElem_cons hi, hx2]
    rw [hdrop] at hgo
    refine wp_skip ?_; refine seq_normal ?_; refine wp_seq ?_; refine wp_block ?_; refine wp_seq ?_; refine wp_region ?_; refine wpO_cons ?_; refine op1_mov rfl (by (conv => lhs; whnf) <;> rfl) ?_; refine wpO_cons ?_; refine op1_iaddr rfl rfl rfl (by omega) (by omega) ?_; refine wpO_cons ?_
    refine op1_load rfl rfl hgb' hv ?_
    refine wpO_cons ?_; refine op1_mov rfl (by (conv => lhs; whnf) <;> rfl) ?_; refine wpO_cons ?_; refine op1_mov rfl (by (conv => lhs; whnf) <;> rfl) ?_; refine wpO_nil ?_; refine seq_normal ?_; refine wp_seq ?_; refine wp_region ?_; refine wpO_cons ?_; refine op1_mov rfl (by (conv => lhs; whnf) <;> rfl) ?_; refine wpO_nil ?_; refine seq_normal ?_
    refine wp_cut [8] (fun vs H2 => vs = [.int .i64 (si.need x)] ∧ H' = H2) ?_ ?_
    · refine wp_seq ?_; refine wp_region ?_; refine wpO_cons ?_; refine op1_mov rfl (by (conv => lhs; whnf) <;> rfl) ?_; refine wpO_cons ?_; refine op1_eqlI rfl rfl rfl ?_; refine wpO_cons ?_; refine op1_mov rfl (by (conv => lhs; whnf) <;> rfl) ?_; refine wpO_cons ?_; refine op1_split rfl (fun hc0 => ?_) (fun hc0 => ?_); (focus (refine op1_mov rfl (by (conv => lhs; whnf) <;> rfl) ?_; refine wpO_cons ?_; refine op1_call2 rfl (by (conv => lhs; whnf) <;> rfl) (by (conv => lhs; whnf) <;> rfl) ?_; (refine wpF_mono (L37 hRi _) ?_; rintro _ _ ⟨rfl, rfl⟩); refine wpO_cons ?_; refine op1_pick_t rfl rfl (by (conv => lhs; whnf) <;> rfl) ?_; refine wpO_nil ?_; refine seq_normal ?_; refine wp_cond rfl (fun hc1 => ?_) (fun hc1 => ?_); (focus (refine wp_region ?_; refine wpO_cons ?_; refine op1_mov rfl (by (conv => lhs; whnf) <;> rfl) ?_; refine wpO_nil ?_; refine cut1 (by (conv => lhs; whnf) <;> rfl) ?_; (exact ⟨by unfold PT.need; simp_all, rfl⟩))); (focus (refine wp_skip ?_; refine cut1 (by (conv => lhs; whnf) <;> rfl) ?_; (exact ⟨by unfold PT.need; simp_all, rfl⟩))))); (focus (refine op1_skip rfl ?_; refine wpO_cons ?_; refine op1_skip rfl ?_; refine wpO_cons ?_; refine op1_pick_f rfl rfl (by (conv => lhs; whnf) <;> rfl) ?_; refine wpO_nil ?_; refine seq_normal ?_; refine wp_false rfl ?_; refine wp_skip ?_; refine cut1 (by (conv => lhs; whnf) <;> rfl) ?_; (exact ⟨by unfold PT.need; simp_all, rfl⟩)))
    rintro vs2 T2 H2 ⟨rfl, rfl⟩
    have hRi' := hRi
    obtain ⟨vl', vi', vo', vs', cells', ol', oi', orr', oo', os', hi', rfl⟩ := hRi
    obtain ⟨ao, co, rfl⟩ := hi'.out.b1
    have hgi := hi'.get
    have hno := hIi.out
    have hne : si.need x = 1 ∨ si.need x = 2 := by unfold PT.need; split <;> simp
    refine wp_seq ?_; refine wp_seq ?_; refine wp_region ?_; refine wpO_cons ?_; refine op1_mov rfl (by (conv => lhs; whnf) <;> rfl) ?_; refine wpO_cons ?_; refine op1_nilchk rfl rfl ?_; refine wpO_cons ?_; refine op1_faddr0 rfl rfl ?_; refine wpO_cons ?_; refine op1_load rfl rfl (by with_reducible assumption) rfl ?_; refine wpO_cons ?_; refine op1_len rfl rfl ?_; refine wpO_cons ?_; refine op1_mov rfl (by (conv => lhs; whnf) <;> rfl) ?_; refine wpO_cons ?_; refine op1_add rfl rfl rfl (by exact wrap_i64 (by omega) (by omega)) ?_; refine wpO_cons ?_; refine op1_gtr rfl rfl rfl ?_; refine wpO_nil ?_; refine seq_normal ?_
    refine wp_dec rfl (fun hroom => ?_) (fun hroom => ?_)
    · have e : writeGo si (x :: l.drop (i + 1)) = (0, si) := by simp only [writeGo]; rw [if_pos hroom]
      rw [e] at hgo
      simp only [Nat.add_zero] at hgo
      simp only [hgo]
      rw [if_neg (by omega)]
      refine wp_seq ?_; refine wp_seq ?_; refine wp_region ?_; refine wpO_cons ?_; refine op1_mov rfl (by (conv => lhs; whnf) <;> rfl) ?_; refine wpO_cons ?_; refine op1_eqlI rfl rfl rfl ?_; refine wpO_nil ?_; refine seq_normal ?_
      refine wp_dec rfl (fun h0 => ?_) (fun h0 => ?_)
      · rw [if_pos (by omega)]
        refine wp_seq ?_; refine wp_region ?_; refine wpO_cons ?_; refine op1_mov rfl (by (conv => lhs; whnf) <;> rfl) ?_; refine wpO_cons ?_; refine op1_mov rfl (by (conv => lhs; whnf) <;> rfl) ?_; refine wpO_nil ?_; refine seq_normal ?_; refine wp_ret ?_; refine seq_ret ?_; refine seq_ret ?_; refine block_ret ?_; refine seq_ret ?_; refine iter_ret ?_; refine block_ret ?_; refine seq_ret ?_; refine ret_of ?_; refine rk_tmp (by (conv => lhs; whnf) <;> rfl) ?_; refine rk_tmp (by (conv => lhs; whnf) <;> rfl) ?_; refine rk_nil ?_
        exact ⟨rfl, hIi, _, hRi', hE⟩
      · rw [if_neg (by omega)]
        refine wp_skip ?_; refine seq_normal ?_; refine wp_seq ?_; refine wp_region ?_; refine wpO_cons ?_; refine op1_mov rfl (by (conv => lhs; whnf) <;> rfl) ?_; refine wpO_cons ?_; refine op1_mov rfl (by (conv => lhs; whnf) <;> rfl) ?_; refine wpO_cons ?_; refine op1_mov rfl (by (conv => lhs; whnf) <;> rfl) ?_; refine wpO_nil ?_; refine seq_normal ?_; refine wp_ret ?_; refine seq_ret ?_; refine block_ret ?_; refine seq_ret ?_; refine iter_ret ?_; refine block_ret ?_; refine seq_ret ?_; refine ret_of ?_; refine rk_tmp (by (conv => lhs; whnf) <;> rfl) ?_; refine rk_tmp (by (conv => lhs; whnf) <;> rfl) ?_; refine rk_nil ?_
        exact ⟨rfl, hIi, _, hRi', hE⟩
    · simp only [writeGo] at hgo
      rw [if_neg hroom] at hgo
      refine wp_skip ?_; refine seq_normal ?_; refine wp_region ?_; refine wpO_cons ?_; refine op1_mov rfl (by (conv => lhs; whnf) <;> rfl) ?_; refine wpO_cons ?_; refine op1_mov rfl (by (conv => lhs; whnf) <;> rfl) ?_; refine wpO_cons ?_; refine op1_bslice rfl ?_; refine bk_one (by (conv => lhs; whnf) <;> rfl) rfl rfl rfl ?_; refine bk_nil ?_; refine wpO_cons ?_; refine op1_call2 rfl (by (conv => lhs; whnf) <;> rfl) (by (conv => lhs; whnf) <;> rfl) ?_
      refine wpF_mono (L41new hRi' [x] (by show si.output.length + 2 * 1 ≤ 1000000; omega)) ?_
      rintro v H3 ⟨O3, hR3, hE3⟩
      refine wpO_nil ?_; refine block_normal ?_; refine seq_normal ?_; refine wp_region ?_; refine wpO_cons ?_; refine op1_add rfl rfl rfl (by exact wrap_i64 (by omega) (by omega)) ?_; refine wpO_cons ?_; refine op1_mov rfl (by (conv => lhs; whnf) <;> rfl) ?_; refine wpO_nil ?_
      exact ⟨k - 1, by omega, i + 1, _, rfl, by omega, out1_inv hIi hroom, by rw [hgo]; simp only [Prod.mk.injEq, and_true]; omega, O3, hR3, hE.trans hE3 hlt⟩
  · have hi : i = l.length := by omega
    subst hi
    rw [List.drop_length] at hgo
    simp only [writeGo, Nat.add_zero] at hgo
    simp only [hgo, if_true]
    refine wp_exit ?_; refine seq_exit ?_; refine iter_exit ?_; refine block_exit ?_; refine seq_normal ?_; refine wp_seq ?_; refine wp_region ?_; refine wpO_cons ?_; refine op1_mov rfl (by (conv => lhs; whnf) <;> rfl) ?_; refine wpO_cons ?_; refine op1_len rfl rfl ?_; refine wpO_cons ?_; refine op1_mov rfl (by (conv => lhs; whnf) <;> rfl) ?_; refine wpO_cons ?_; refine op1_mov rfl (by (conv => lhs; whnf) <;> rfl) ?_; refine wpO_nil ?_; refine seq_normal ?_; refine wp_ret ?_; refine ret_of ?_; refine rk_tmp (by (conv => lhs; whnf) <;> rfl) ?_; refine rk_tmp (by (conv => lhs; whnf) <;> rfl) ?_; refine rk_nil ?_
    exact ⟨rfl, hIi, O', hRi, hE⟩

theorem L52 {H : AHeap} {p : Nat} {s : PT} {O : List Nat} (h : RepT true H p s O) {M N : Nat} (hI : Inv M N s) {vd : Value} {l : List Int} {r : List Nat} (hd : RdS H 1 vd (bts l) r) (hr : ∀ b ∈ r, b < H.next ∧ b ∉ O) :
    wpF C 52 [.pointer (some ⟨p, 0, none⟩), vd] H fun v H' => v = .tuple ⟨[.int .i64 (s.write l).1, .int .i64 (s.write l).2.1]⟩ ∧ Inv M N (s.write l).2.2 ∧ ∃ O', RepT true H' p (s.write l).2.2 O' ∧ Ext O H O' H' := by
  obtain ⟨a, c, rfl⟩ := hd.b1
  have hR := h
  have hlt := h.lt
  obtain ⟨vl, vi, vo, vs, cells, ol, oi, orr, oo, os, h, rfl⟩ := h
  have hg := h.get
  refine wpF_ofW o52 rfl rfl ?_
  refine wp_seq ?_; refine wp_region ?_; refine wpO_cons ?_; refine op1_mov rfl (by (conv => lhs; whnf) <;> rfl) ?_; refine wpO_cons ?_; refine op1_mov rfl (by (conv => lhs; whnf) <;> rfl) ?_; refine wpO_nil ?_; refine seq_normal ?_; refine wp_seq ?_; refine wp_seq ?_; refine wp_region ?_; refine wpO_cons ?_; refine op1_mov rfl (by (conv => lhs; whnf) <;> rfl) ?_; refine wpO_cons ?_; refine op1_len rfl rfl ?_; refine wpO_cons ?_; refine op1_gtr rfl rfl rfl ?_; refine wpO_nil ?_; refine seq_normal ?_
  unfold PT.write
  refine wp_dec rfl (fun hc => ?_) (fun hc => ?_)
  · rw [if_pos (by omega)]
    refine wp_seq ?_; refine wp_region ?_; refine wpO_cons ?_; refine op1_mov rfl (by (conv => lhs; whnf) <;> rfl) ?_; refine wpO_cons ?_; refine op1_mov rfl (by (conv => lhs; whnf) <;> rfl) ?_; refine wpO_nil ?_; refine seq_normal ?_; refine wp_ret ?_; refine seq_ret ?_; refine ret_of ?_; refine rk_tmp (by (conv => lhs; whnf) <;> rfl) ?_; refine rk_tmp (by (conv => lhs; whnf) <;> rfl) ?_; refine rk_nil ?_
    exact ⟨rfl, hI, _, hR, Ext.refl _ _⟩
  rw [if_neg (by omega)]
  refine wp_skip ?_; refine seq_normal ?_; refine wp_seq ?_; refine wp_seq ?_; refine wp_region ?_; refine wpO_cons ?_; refine op1_mov rfl (by (conv => lhs; whnf) <;> rfl) ?_; refine wpO_cons ?_; refine op1_nilchk rfl rfl ?_; refine wpO_cons ?_; refine op1_faddr0 rfl rfl ?_; refine wpO_cons ?_; refine op1_load rfl rfl (by with_reducible assumption) rfl ?_; refine wpO_nil ?_; refine seq_normal ?_
  refine wp_cond rfl (fun hh => ?_) (fun hh => ?_)
  · rw [if_pos hh]
    refine wp_seq ?_; refine wp_region ?_; refine wpO_cons ?_; refine op1_mov rfl (by (conv => lhs; whnf) <;> rfl) ?_; refine wpO_cons ?_; refine op1_mov rfl (by (conv => lhs; whnf) <;> rfl) ?_; refine wpO_nil ?_; refine seq_normal ?_; refine wp_ret ?_; refine seq_ret ?_; refine ret_of ?_; refine rk_tmp (by (conv => lhs; whnf) <;> rfl) ?_; refine rk_tmp (by (conv => lhs; whnf) <;> rfl) ?_; refine rk_nil ?_
    exact ⟨rfl, hI, _, hR, Ext.refl _ _⟩
  rw [if_neg (by rw [hh]; simp)]
  refine wp_skip ?_; refine seq_normal ?_; refine wp_seq ?_; refine wp_region ?_; refine wpO_cons ?_; refine op1_mov rfl (by (conv => lhs; whnf) <;> rfl) ?_; refine wpO_nil ?_; refine seq_normal ?_
  refine wp_cut [6] (fun vs H' => vs = [.int .i64 (writeGo s l).1] ∧ Inv M N (writeGo s l).2 ∧ ∃ O', RepT true H' p (writeGo s l).2 O' ∧ Ext (p :: (ol ++ (oi ++ (orr ++ (oo ++ os))))) H O' H') ?_ ?_
  · refine wp_block ?_
    refine wp_loop [6] (fun k vs H' => ∃ (i : Nat) (si : PT), vs = [.int .i64 i] ∧ i + k = l.length ∧ Inv M N si ∧ writeGo s l = (i + (writeGo si (l.drop i)).1, (writeGo si (l.drop i)).2) ∧
      ∃ O', RepT true H' p si O' ∧ Ext (p :: (ol ++ (oi ++ (orr ++ (oo ++ os))))) H O' H') ⟨l.length, 0, s, rfl, by omega, hI, by simp, _, hR, Ext.refl _ _⟩ ?_
    rintro k vs' T' H' ⟨i, si, rfl, hk, hIi, hgo, O', hRi, hE⟩
    refine wp_seq ?_; refine wp_seq ?_; refine wp_region ?_; refine wpO_cons ?_; refine op1_mov rfl (by (conv => lhs; whnf) <;> rfl) ?_; refine wpO_cons ?_; refine op1_mov rfl (by (conv => lhs; whnf) <;> rfl) ?_; refine wpO_cons ?_; refine op1_len rfl rfl ?_; refine wpO_cons ?_; refine op1_lss rfl rfl rfl ?_; refine wpO_nil ?_; refine seq_normal ?_
    refine wp_dec rfl (fun hlt' => ?_) (fun hlt' => ?_)
    · have hi : i < l.length := by omega
      obtain ⟨b, off, cs, e, ro, v, rfl, rfl, hgb, hv, hx⟩ := hd.at1 hi
      have hgb' : H'.get b = .cells cs e ro := (hE.keep b (hr b (by simp)).1 (hr b (by simp)).2).trans hgb
      have hbO : b ∉ O' := fun hm => (hE.own b hm).elim (hr b (by simp)).2 fun h1 => absurd (hr b (by simp)).1 (by omega)
      obtain ⟨x, hx', rfl⟩ : ∃ x, l[i]? = some x ∧ v = .int .u8 x := by
        simp only [bts, List.getElem?_map, Option.map_eq_some_iff] at hx
        obtain ⟨x, h1, h2⟩ := hx
        exact ⟨x, h1, h2.symm⟩
      have hdrop : l.drop i = x :: l.drop (i + 1) := by
        obtain ⟨_, hx2⟩ := List.getElem?_eq_some_iff.1 hx'
        rw [List.drop_eq_getElem_cons hi, hx2]
      rw [hdrop] at hgo
      refine wp_skip ?_; refine seq_normal ?_; refine wp_block ?_; refine wp_seq ?_; refine wp_region ?_; refine wpO_cons ?_; refine op1_mov rfl (by (conv => lhs; whnf) <;> rfl) ?_; refine wpO_nil ?_; refine seq_normal ?_
      refine wp_cut [7] (fun vs H2 => vs = [.int .i64 (si.need x)] ∧ H' = H2) ?_ ?_
      · refine wp_seq ?_; refine wp_region ?_; refine wpO_cons ?_; refine op1_mov rfl (by (conv => lhs; whnf) <;> rfl) ?_; refine wpO_cons ?_; refine op1_mov rfl (by (conv => lhs; whnf) <;> rfl) ?_; refine wpO_cons ?_; refine op1_iaddr rfl rfl rfl (by omega) (by omega) ?_; refine wpO_cons ?_
        refine op1_load rfl rfl hgb' hv ?_
        refine wpO_cons ?_; refine op1_eqlI rfl rfl rfl ?_; refine wpO_cons ?_; refine op1_mov rfl (by (conv => lhs; whnf) <;> rfl) ?_; refine wpO_cons ?_; refine op1_split rfl (fun hc0 => ?_) (fun hc0 => ?_); (focus (refine op1_mov rfl (by (conv => lhs; whnf) <;> rfl) ?_; refine wpO_cons ?_; refine op1_call2 rfl (by (conv => lhs; whnf) <;> rfl) (by (conv => lhs; whnf) <;> rfl) ?_; (refine wpF_mono (L73 hRi _) ?_; rintro _ _ ⟨rfl, rfl⟩); refine wpO_cons ?_; refine op1_pick_t rfl rfl (by (conv => lhs; whnf) <;> rfl) ?_; refine wpO_nil ?_; refine seq_normal ?_; refine wp_cond rfl (fun hc1 => ?_) (fun hc1 => ?_); (focus (refine wp_region ?_; refine wpO_cons ?_; refine op1_mov rfl (by (conv => lhs; whnf) <;> rfl) ?_; refine wpO_nil ?_; refine cut1 (by (conv => lhs; whnf) <;> rfl) ?_; (exact ⟨by unfold PT.need; simp_all, rfl⟩))); (focus (refine wp_skip ?_; refine cut1 (by (conv => lhs; whnf) <;> rfl) ?_; (exact ⟨by unfold PT.need; simp_all, rfl⟩))))); (focus (refine op1_skip rfl ?_; refine wpO_cons ?_; refine op1_skip rfl ?_; refine wpO_cons ?_; refine op1_pick_f rfl rfl (by (conv => lhs; whnf) <;> rfl) ?_; refine wpO_nil ?_; refine seq_normal ?_; refine wp_false rfl ?_; refine wp_skip ?_; refine cut1 (by (conv => lhs; whnf) <;> rfl) ?_; (exact ⟨by unfold PT.need; simp_all, rfl⟩)))
      rintro vs2 T2 H2 ⟨rfl, rfl⟩
      have hRi' := hRi
      obtain ⟨vl', vi', vo', vs', cells', ol', oi', orr', oo', os', hi', rfl⟩ := hRi
      obtain ⟨ao, co, rfl⟩ := hi'.out.b1
      have hgi := hi'.get
      have hno := hIi.out
      have hne : si.need x = 1 ∨ si.need x = 2 := by unfold PT.need; split <;> simp
      refine wp_seq ?_; refine wp_seq ?_; refine wp_region ?_; refine wpO_cons ?_; refine op1_mov rfl (by (conv => lhs; whnf) <;> rfl) ?_; refine wpO_cons ?_; refine op1_nilchk rfl rfl ?_; refine wpO_cons ?_; refine op1_faddr0 rfl rfl ?_; refine wpO_cons ?_; refine op1_load rfl rfl (by with_reducible assumption) rfl ?_; refine wpO_cons ?_; refine op1_len rfl rfl ?_; refine wpO_cons ?_; refine op1_mov rfl (by (conv => lhs; whnf) <;> rfl) ?_; refine wpO_cons ?_; refine op1_add rfl rfl rfl (by exact wrap_i64 (by omega) (by omega)) ?_; refine wpO_cons ?_; refine op1_gtr rfl rfl rfl ?_; refine wpO_nil ?_; refine seq_normal ?_
      refine wp_dec rfl (fun hroom => ?_) (fun hroom => ?_)
      · have e : writeGo si (x :: l.drop (i + 1)) = (0, si) := by simp only [writeGo]; rw [if_pos hroom]
        rw [e] at hgo
        simp only [Nat.add_zero] at hgo
        simp only [hgo]
        refine wp_exit ?_; refine seq_exit ?_; refine block_other rfl ?_; refine iter_exit ?_; refine block_exit ?_; refine cut1 (by (conv => lhs; whnf) <;> rfl) ?_
        exact ⟨rfl, hIi, _, hRi', hE⟩
      · simp only [writeGo] at hgo
        rw [if_neg hroom] at hgo
        refine wp_skip ?_; refine seq_normal ?_; refine wp_seq ?_; refine wp_region ?_; refine wpO_cons ?_; refine op1_mov rfl (by (conv => lhs; whnf) <;> rfl) ?_; refine wpO_cons ?_; refine op1_mov rfl (by (conv => lhs; whnf) <;> rfl) ?_; refine wpO_cons ?_; refine op1_mov rfl (by (conv => lhs; whnf) <;> rfl) ?_; refine wpO_cons ?_; refine op1_iaddr rfl rfl rfl (by omega) (by omega) ?_; refine wpO_cons ?_
        refine op1_load rfl rfl hgb' hv ?_
        refine wpO_cons ?_; refine op1_bslice rfl ?_; refine bk_one (by (conv => lhs; whnf) <;> rfl) rfl rfl rfl ?_; refine bk_nil ?_; refine wpO_cons ?_; refine op1_call2 rfl (by (conv => lhs; whnf) <;> rfl) (by (conv => lhs; whnf) <;> rfl) ?_
        refine wpF_mono (L76new hRi' [x] (by show si.output.length + 2 * 1 ≤ 1000000; omega)) ?_
        rintro v H3 ⟨O3, hR3, hE3⟩
        refine wpO_nil ?_; refine seq_normal ?_; refine wp_region ?_; refine wpO_cons ?_; refine op1_mov rfl (by (conv => lhs; whnf) <;> rfl) ?_; refine wpO_cons ?_; refine op1_add rfl rfl rfl (by exact wrap_i64 (by omega) (by omega)) ?_; refine wpO_cons ?_; refine op1_mov rfl (by (conv => lhs; whnf) <;> rfl) ?_; refine wpO_nil ?_; refine block_normal ?_
        exact ⟨k - 1, by omega, i + 1, _, rfl, by omega, out1_inv hIi hroom, by rw [hgo]; simp only [Prod.mk.injEq, and_true]; omega, O3, hR3, hE.trans hE3 hlt⟩
    · have hi : i = l.length := by omega
      subst hi
      rw [List.drop_length] at hgo
      simp only [writeGo, Nat.add_zero] at hgo
      simp only [hgo]
      refine wp_exit ?_; refine seq_exit ?_; refine iter_exit ?_; refine block_exit ?_; refine cut1 (by (conv => lhs; whnf) <;> rfl) ?_
      exact ⟨rfl, hIi, O', hRi, hE⟩
  rintro vs3 T3 H3 ⟨rfl, hI3, O3, hR3, hE3⟩
  have hle := writeGo_le s l
  generalize (writeGo s l).1 = n at *
  generalize (writeGo s l).2 = s3 at *
  refine wp_seq ?_; refine wp_seq ?_; refine wp_region ?_; refine wpO_cons ?_; refine op1_mov rfl (by (conv => lhs; whnf) <;> rfl) ?_; refine wpO_cons ?_; refine op1_eqlI rfl rfl rfl ?_; refine wpO_cons ?_; refine op1_mov rfl (by (conv => lhs; whnf) <;> rfl) ?_; refine wpO_cons ?_
  refine op1_dec rfl (fun hn => ?_) (fun hn => ?_)
  · refine op1_mov rfl (by (conv => lhs; whnf) <;> rfl) ?_; refine wpO_cons ?_; refine op1_len rfl rfl ?_; refine wpO_cons ?_; refine op1_gtr rfl rfl rfl ?_; refine wpO_cons ?_; refine op1_pick_t rfl rfl (by (conv => lhs; whnf) <;> rfl) ?_; refine wpO_nil ?_; refine seq_normal ?_
    refine wp_dec rfl (fun hn2 => ?_) (fun hn2 => ?_)
    · rw [if_neg (by omega), if_pos (by omega)]
      refine wp_seq ?_; refine wp_region ?_; refine wpO_cons ?_; refine op1_mov rfl (by (conv => lhs; whnf) <;> rfl) ?_; refine wpO_cons ?_; refine op1_mov rfl (by (conv => lhs; whnf) <;> rfl) ?_; refine wpO_nil ?_; refine seq_normal ?_; refine wp_ret ?_; refine seq_ret ?_; refine ret_of ?_; refine rk_tmp (by (conv => lhs; whnf) <;> rfl) ?_; refine rk_tmp (by (conv => lhs; whnf) <;> rfl) ?_; refine rk_nil ?_
      exact ⟨rfl, hI3, O3, hR3, hE3⟩
    · rw [if_pos (by omega)]
      refine wp_skip ?_; refine seq_normal ?_; refine wp_seq ?_; refine wp_region ?_; refine wpO_cons ?_; refine op1_mov rfl (by (conv => lhs; whnf) <;> rfl) ?_; refine wpO_cons ?_; refine op1_mov rfl (by (conv => lhs; whnf) <;> rfl) ?_; refine wpO_cons ?_; refine op1_mov rfl (by (conv => lhs; whnf) <;> rfl) ?_; refine wpO_nil ?_; refine seq_normal ?_; refine wp_ret ?_; refine ret_of ?_; refine rk_tmp (by (conv => lhs; whnf) <;> rfl) ?_; refine rk_tmp (by (conv => lhs; whnf) <;> rfl) ?_; refine rk_nil ?_
      exact ⟨by rw [show n = l.length by omega]; rfl, hI3, O3, hR3, hE3⟩
  · refine op1_skip rfl ?_; refine wpO_cons ?_; refine op1_skip rfl ?_; refine wpO_cons ?_; refine op1_skip rfl ?_; refine wpO_cons ?_; refine op1_pick_f rfl rfl (by (conv => lhs; whnf) <;> rfl) ?_; refine wpO_nil ?_; refine seq_normal ?_; refine wp_false rfl ?_; refine wp_skip ?_; refine seq_normal ?_; refine wp_seq ?_; refine wp_region ?_; refine wpO_cons ?_; refine op1_mov rfl (by (conv => lhs; whnf) <;> rfl) ?_; refine wpO_cons ?_; refine op1_mov rfl (by (conv => lhs; whnf) <;> rfl) ?_; refine wpO_cons ?_; refine op1_mov rfl (by (conv => lhs; whnf) <;> rfl) ?_; refine wpO_nil ?_; refine seq_normal ?_; refine wp_ret ?_; refine ret_of ?_; refine rk_tmp (by (conv => lhs; whnf) <;> rfl) ?_; refine rk_tmp (by (conv => lhs; whnf) <;> rfl) ?_; refine rk_nil ?_
    split
    · rename_i hn3
      exact ⟨by rw [hn3]; rfl, hI3, O3, hR3, hE3⟩
    · rw [if_neg (by omega)]
      exact ⟨rfl, hI3, O3, hR3, hE3⟩
end Go.E.Pty
