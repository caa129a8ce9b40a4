/- The pseudo terminal: Read, and slices.Delete of the first record. -/
import Derived.Test.YtfgejkhhkacknaaDoorPtF4
namespace Go.E.Pty
open Go Go.E Go.Proofs.YtfgejkhhkacknaaDoor.base Go.Proofs.YtfgejkhhkacknaaDoor Go.Proofs
set_option linter.unusedVariables false
set_option linter.unusedSimpArgs false
set_option maxRecDepth 100000

theorem RecsO.one {H : AHeap} {rl : Bool} {cs : List Value} {rs : List (List Int × Bool)} {o : List Nat} (h : RecsO H rl cs rs o) : cs.all (·.oneCell') = true := by
  induction h with
  | nil => rfl
  | @cons v d r cs rs o1 o2 h t ih =>
    obtain ⟨a, c, rfl⟩ := h.b1
    rw [List.all_append, ih, Bool.and_true]
    unfold recC
    split <;> rfl

theorem append_in {H : AHeap} {es b off l c k : Nat} {cs ys : List Value} {w : Value} (hg : H.get b = .cells cs es false) (hc : l + k ≤ c) (hw : lenV w = some k) (hsrc : H.src es w k = some ys) (hy : ys.length = k * es) (h1 : ys.all (·.oneCell') = true) (hl : off + l * es + ys.length ≤ cs.length) :
    ∃ H', H.appendV es (.slice (some ⟨b, off, none⟩) l c) w = some (.slice (some ⟨b, off, none⟩) (l + k) c, H') ∧ H'.get b = .cells (cs.take (off + l * es) ++ ys ++ cs.drop (off + l * es + ys.length)) es false ∧ (∀ d, d ≠ b → H'.get d = H.get d) ∧ H'.next = H.next := by
  simp only [AHeap.appendV, hw, AHeap.appendK, hsrc, if_pos hc]
  by_cases h0 : k = 0
  · subst h0
    have : ys = [] := List.eq_nil_of_length_eq_zero (by omega)
    subst this
    exact ⟨H, by simp, by simp [hg], fun _ _ => rfl, rfl⟩
  · simp only [if_neg h0, Option.bind_some, AHeap.putRow, hg]
    rw [if_pos ⟨trivial, hl, h1⟩]
    exact ⟨_, rfl, AHeap.gs_same, fun d hd => by rw [AHeap.get_set, if_neg hd], rfl⟩

theorem L40 {H : AHeap} {a : Option Addr} {n c : Nat} {cells : List Value} {oi : List Nat} (hs : SlO H 2 (.slice a n c) cells oi) (h1 : cells.all (·.oneCell') = true) (hn : 0 < n) (hn2 : n ≤ 1000000) :
    wpF C 40 [.slice a n c, .int .i64 0, .int .i64 1] H fun v H' => ∃ a' c', v = .slice a' (n - 1) c' ∧ SlO H' 2 (.slice a' (n - 1) c') (cells.drop 2) oi ∧ Ext oi H oi H' := by
  cases hs with
  | nil => omega
  | @blk b off n c cs hg hc hl =>
  have hcl : c * 2 ≤ cs.length := by omega
  have hb0 : sliceBnds n c (some (.int .i64 0)) (some (.int .i64 1)) (some (.int .i64 n)) = some (0, 1, n) := by
    have e1 : (0 : Int) ≤ n ∧ (n : Int) ≤ c := by omega
    have e2 : (0 : Int) ≤ 1 ∧ (1 : Int) ≤ n := by omega
    simp only [sliceBnds, bnd, Option.bind_some]
    rw [if_pos e1, Option.bind_some, Int.toNat_natCast, if_pos e2]
    rfl
  refine wpF_ofW o40 rfl rfl ?_
  refine wp_seq ?_; refine wp_region ?_; refine wpO_cons ?_; refine op1_mov rfl (by (conv => lhs; whnf) <;> rfl) ?_; refine wpO_nil ?_; refine seq_normal ?_; refine wp_seq ?_; refine wp_region ?_; refine wpO_cons ?_; refine op1_mov rfl (by (conv => lhs; whnf) <;> rfl) ?_; refine wpO_cons ?_; refine op1_mov rfl (by (conv => lhs; whnf) <;> rfl) ?_; refine wpO_cons ?_; refine op1_mov rfl (by (conv => lhs; whnf) <;> rfl) ?_; refine wpO_cons ?_; refine op1_mov rfl (by (conv => lhs; whnf) <;> rfl) ?_; refine wpO_cons ?_; refine op1_len rfl rfl ?_; refine wpO_cons ?_
  refine op1_slice rfl rfl (by omega) hb0 hg (.inr rfl) ?_
  refine wpO_nil ?_; refine seq_normal ?_; refine wp_seq ?_; refine wp_seq ?_; refine wp_region ?_; refine wpO_cons ?_; refine op1_mov rfl (by (conv => lhs; whnf) <;> rfl) ?_; refine wpO_cons ?_; refine op1_mov rfl (by (conv => lhs; whnf) <;> rfl) ?_; refine wpO_cons ?_; refine op1_eqlI rfl rfl rfl ?_; refine wpO_nil ?_; refine seq_normal ?_; refine wp_false rfl ?_; refine wp_skip ?_; refine seq_normal ?_; refine wp_seq ?_; refine wp_region ?_; refine wpO_cons ?_; refine op1_mov rfl (by (conv => lhs; whnf) <;> rfl) ?_; refine wpO_cons ?_; refine op1_len rfl rfl ?_; refine wpO_cons ?_; refine op1_mov rfl (by (conv => lhs; whnf) <;> rfl) ?_; refine wpO_nil ?_; refine seq_normal ?_; refine wp_seq ?_; refine wp_regionD ?_; refine wpD_cons ?_; refine op1_mov rfl (by (conv => lhs; whnf) <;> rfl) ?_; refine wpD_cons ?_; refine op1_mov rfl (by (conv => lhs; whnf) <;> rfl) ?_; refine wpD_cons ?_
  refine op1_slice rfl rfl (by omega) (bnds_hi (i := .i64) (n := 0) (by omega) (by omega)) hg (.inr rfl) ?_
  refine wpD_cons ?_; refine op1_mov rfl (by (conv => lhs; whnf) <;> rfl) ?_; refine wpD_cons ?_; refine op1_mov rfl (by (conv => lhs; whnf) <;> rfl) ?_; refine wpD_cons ?_
  refine op1_slice rfl rfl (by omega) (bnds_lo (i := .i64) (n := 1) (by omega) (by omega) hl) hg (.inr rfl) ?_
  refine wpD_cons ?_
  have hys : (cs.drop (off + 2)).take ((n - 1) * 2) = ((cs.drop off).take (n * 2)).drop 2 := by
    rw [List.drop_take, List.drop_drop]
    congr 1
    omega
  have hyl : (((cs.drop off).take (n * 2)).drop 2).length = (n - 1) * 2 := by
    simp only [List.length_drop, List.length_take]; omega
  have hrd : RdS H 2 (.slice (some ⟨b, off + 1 * 2, none⟩) (n - 1) (c - 1)) (((cs.drop off).take (n * 2)).drop 2) [b] := by
    rw [← hys]
    exact .blk (l := n - 1) (off := off + 1 * 2) hg (by omega) (.inr rfl) (by omega)
  have hy1 : (((cs.drop off).take (n * 2)).drop 2).all (·.oneCell') = true := by
    rw [List.all_eq_true] at h1 ⊢
    exact fun v hv => h1 v (List.mem_of_mem_drop hv)
  generalize hYS : ((cs.drop off).take (n * 2)).drop 2 = ys at *
  obtain ⟨H2, he, hg2, hk2, hn2'⟩ := append_in (off := off) (l := 0) (c := c) (k := n - 1) (w := .slice (some ⟨b, off + 1 * 2, none⟩) (n - 1) (c - 1)) hg (by omega) rfl (by rw [hrd.src (by omega) (k := n - 1) (by omega), List.take_of_length_le (by omega)]) hyl hy1 (by omega)
  simp only [Nat.zero_mul, Nat.add_zero, Nat.zero_add] at he hg2
  refine op1_append rfl (by (conv => lhs; whnf) <;> rfl) (by (conv => lhs; whnf) <;> rfl) he ?_
  refine wpD_cons ?_; refine op1_mov rfl (by (conv => lhs; whnf) <;> rfl) ?_; refine wpD_nil ?_; refine dk_of ?_ ?_; refine chk_skip ?_; refine chk_skip ?_; refine chk_cons 6 rfl rfl rfl ?_ ?_; refine chkFs_cons 2 rfl rfl ?_ ?_
  · exact chk_slice (l := n) (c := c) rfl (by omega) (bnds_hi (i := .i64) (n := 0) (by omega) (by omega)) hg (.inr rfl) rfl
  exact chkFs_nil
  refine chk_skip ?_; refine chk_skip ?_; refine chk_cons 3 rfl rfl rfl ?_ ?_; refine chkFs_cons 2 rfl rfl ?_ ?_
  · exact chk_slice (l := n) (c := c) rfl (by omega) (bnds_lo (i := .i64) (n := 1) (by omega) (by omega) hl) hg (.inr rfl) rfl
  exact chkFs_nil
  refine chk_skip ?_; refine chk_skip ?_; exact chk_end
  refine seq_normal ?_; refine wp_seq ?_; refine wp_region ?_; refine wpO_cons ?_; refine op1_mov rfl (by (conv => lhs; whnf) <;> rfl) ?_; refine wpO_cons ?_; refine op1_mov rfl (by (conv => lhs; whnf) <;> rfl) ?_; refine wpO_cons ?_; refine op1_len rfl rfl ?_; refine wpO_cons ?_; refine op1_mov rfl (by (conv => lhs; whnf) <;> rfl) ?_; refine wpO_cons ?_
  refine op1_slice (c := c) rfl rfl (by omega) (bnds_both (i := .i64) (j := .i64) (l := n - 1) (c := c) (n := ((n - 1 : Nat) : Int)) (m := (n : Int)) (by omega) (by omega) (by omega)) hg2 (.inr rfl) ?_
  have e1 : Int.toNat ↑n - (((n - 1 : Nat) : Int)).toNat = 1 := by simp only [Int.toNat_natCast]; omega
  rw [e1]
  simp only [Int.toNat_natCast]
  refine wpO_cons ?_
  have hl2 : (cs.take off ++ ys ++ cs.drop (off + ys.length)).length = cs.length := by
    simp only [List.length_append, List.length_take, List.length_drop]; omega
  refine op1_clearU rfl rfl (by omega) hg2 (by simp [zeroOf]; omega) rfl ?_
  refine wpO_nil ?_; refine seq_normal ?_; refine wp_seq ?_; refine wp_region ?_; refine wpO_cons ?_; refine op1_mov rfl (by (conv => lhs; whnf) <;> rfl) ?_; refine wpO_cons ?_; refine op1_mov rfl (by (conv => lhs; whnf) <;> rfl) ?_; refine wpO_nil ?_; refine seq_normal ?_; refine wp_ret ?_; refine ret_of ?_; refine rk_tmp (by (conv => lhs; whnf) <;> rfl) ?_; refine rk_nil ?_
  have hfin : SlO (H2.set b (.cells ((cs.take off ++ ys ++ cs.drop (off + ys.length)).take (off + (n - 1) * 2) ++ zeroOf [.slice none 0 0, .bool false] 1 ++ (cs.take off ++ ys ++ cs.drop (off + ys.length)).drop (off + (n - 1) * 2 + (zeroOf [.slice none 0 0, .bool false] 1).length)) 2 false)) 2 (.slice (some ⟨b, off, none⟩) (n - 1) c) ys [b] := by
    have h5 := SlO.blk (H := H2.set b (.cells ((cs.take off ++ ys ++ cs.drop (off + ys.length)).take (off + (n - 1) * 2) ++ zeroOf [.slice none 0 0, .bool false] 1 ++ (cs.take off ++ ys ++ cs.drop (off + ys.length)).drop (off + (n - 1) * 2 + (zeroOf [.slice none 0 0, .bool false] 1).length)) 2 false)) (es := 2) (b := b) (off := off) (l := n - 1) (c := c) AHeap.gs_same (by
      simp only [List.length_append, List.length_take, List.length_drop, zeroOf, List.replicate_succ, List.replicate_zero, List.flatten_cons, List.flatten_nil, List.append_nil, List.length_cons, List.length_nil]; omega) (by omega)
    have e6 : (((cs.take off ++ ys ++ cs.drop (off + ys.length)).take (off + (n - 1) * 2) ++ zeroOf [.slice none 0 0, .bool false] 1 ++ (cs.take off ++ ys ++ cs.drop (off + ys.length)).drop (off + (n - 1) * 2 + (zeroOf [.slice none 0 0, .bool false] 1).length)).drop off).take ((n - 1) * 2) = ys := by
      have e7 : (cs.take off ++ ys ++ cs.drop (off + ys.length)).take (off + (n - 1) * 2) = cs.take off ++ ys := by
        rw [List.take_append_of_le_length (by simp only [List.length_append, List.length_take]; omega), List.take_of_length_le (by simp only [List.length_append, List.length_take]; omega)]
      rw [e7, List.append_assoc, List.append_assoc, List.drop_append_of_le_length (by simp only [List.length_take]; omega), List.drop_of_length_le (by simp only [List.length_take]; omega), List.nil_append, List.take_append_of_le_length (by omega), List.take_of_length_le (by omega)]
    rw [e6] at h5
    exact h5
  refine ⟨some ⟨b, off, none⟩, c, rfl, hfin, ⟨by simp [hn2'], fun d hd hnd => ?_, fun d hd => .inl hd⟩⟩
  have hdb : d ≠ b := by simpa using hnd
  exact AHeap.gs_ne hdb (hk2 d hdb)

/-- the first record's slice -/
theorem OpT.setFirst {H : AHeap} {p : Nat} {s : PT} {vl vo vs v v' : Value} {cs csi : List Value} {ol o1 o2 oo os : List Nat} {bi offi li ci : Nat} {rs : List (List Int × Bool)} {d' : List Int} {r : Bool} (h : OpT false H p s vl (.slice (some ⟨bi, offi, none⟩) li ci) vo vs (recC false v r ++ cs) ol [bi] (o1 ++ o2) oo os)
    (hr2 : RecsO H false cs rs o2) (hgi : H.get bi = .cells csi 2 false) (hO : SlO H 1 v' (bts d') o1) :
    OpT false (H.set bi (.cells (csi.set offi v') 2 false)) p { s with input := (d', r) :: rs } vl (.slice (some ⟨bi, offi, none⟩) li ci) vo vs (recC false v' r ++ cs) ol [bi] (o1 ++ o2) oo os ∧ RecsO (H.set bi (.cells (csi.set offi v') 2 false)) false cs rs o2 := by
  have nd := h.nd
  have low := h.low
  simp only [List.nodup_cons, List.nodup_append, List.mem_append, List.mem_cons, List.not_mem_nil, or_false] at nd low
  have k : ∀ b, b ≠ bi → (H.set bi (.cells (csi.set offi v') 2 false)).get b = H.get b := by
    intro b h3
    rw [AHeap.get_set, if_neg h3]
  have hi := h.inp.setAt (H1 := H) hgi 0 v'
  have e : (recC false v r ++ cs).set 0 v' = recC false v' r ++ cs := by simp [recC]
  rw [e, Nat.add_zero] at hi
  have hr2' : RecsO (H.set bi (.cells (csi.set offi v') 2 false)) false cs rs o2 := hr2.frame fun b hb => k b (by grind)
  refine ⟨⟨⟨fun b hb => ?_, h.glob.le⟩, (k p (by grind)).trans h.get, h.line.frame fun b hb => k b (by grind), hi, .cons (hO.frame fun b hb => k b (by grind)) hr2', h.out.frame fun b hb => k b (by grind), h.sig.frame fun b hb => k b (by grind), h.nd, h.low⟩, hr2'⟩
  rw [k b (by grind)]; exact h.glob.get b hb

def PT.read (s : PT) (n : Int) : List Int × Bool × Int × PT :=
  if n < 0 then ([], false, 34, s) else if n = 0 then ([], false, 0, s) else match s.input with
    | [] => if s.hung = true then ([], true, 0, s) else ([], false, 2, s)
    | (d, r) :: rest => (d.take (min n d.length).toNat, decide (d = []), 0, { s with input := if d.drop (min n d.length).toNat = [] then rest else (d.drop (min n d.length).toNat, r) :: rest })

theorem L12 {H : AHeap} {p : Nat} {s : PT} {O : List Nat} (h : RepT false H p s O) (n : Int) (hlim : s.input.length ≤ 100000) (hrec : ∀ x ∈ s.input, x.1.length ≤ 10000000) :
    wpF C 12 [.pointer (some ⟨p, 0, none⟩), .int .i64 n] H fun v H' => ∃ O' vo r, v = .tuple ⟨[vo, .bool (s.read n).2.1, .int .i64 (s.read n).2.2.1]⟩ ∧ New1 H H' O' vo (s.read n).1 r ∧ RepT false H' p (s.read n).2.2.2 O' ∧ Ext O H O' H' := by
  have hR := h
  have hlt := h.lt
  obtain ⟨vl, vi, vo, vs, cells, ol, oi, orr, oo, os, h, rfl⟩ := h
  obtain ⟨ai, li, ci, rfl, hli⟩ := h.inp.shape
  obtain rfl : li = s.input.length := by have := h.recs.length; omega
  have hg := h.get
  refine wpF_ofW o12 rfl rfl ?_
  unfold PT.read
  refine wp_seq ?_; refine wp_region ?_; refine wpO_cons ?_; refine op1_mov rfl (by (conv => lhs; whnf) <;> rfl) ?_; refine wpO_cons ?_; refine op1_mov rfl (by (conv => lhs; whnf) <;> rfl) ?_; refine wpO_cons ?_; refine op1_mov rfl (by (conv => lhs; whnf) <;> rfl) ?_; refine wpO_nil ?_; refine seq_normal ?_; refine wp_seq ?_; refine wp_block ?_; refine wp_seq ?_; refine wp_region ?_; refine wpO_cons ?_; refine op1_mov rfl (by (conv => lhs; whnf) <;> rfl) ?_; refine wpO_cons ?_; refine op1_bin_false rfl (by (conv => lhs; whnf) <;> rfl) (by (conv => lhs; whnf) <;> rfl) rfl ?_; refine wpO_cons ?_; refine op1_mov rfl (by (conv => lhs; whnf) <;> rfl) ?_; refine wpO_nil ?_; refine seq_normal ?_; refine wp_false rfl ?_; refine wp_seq ?_; refine wp_region ?_; refine wpO_cons ?_; refine op1_mov rfl (by (conv => lhs; whnf) <;> rfl) ?_; refine wpO_cons ?_; refine op1_lss rfl rfl rfl ?_; refine wpO_cons ?_; refine op1_mov rfl (by (conv => lhs; whnf) <;> rfl) ?_; refine wpO_nil ?_; refine seq_normal ?_
  refine wp_dec rfl (fun hc => ?_) (fun hc => ?_)
  · rw [if_pos hc]
    refine wp_seq ?_; refine wp_region ?_; refine wpO_cons ?_; refine op1_mov rfl (by (conv => lhs; whnf) <;> rfl) ?_; refine wpO_cons ?_; refine op1_mov rfl (by (conv => lhs; whnf) <;> rfl) ?_; refine wpO_cons ?_; refine op1_mov rfl (by (conv => lhs; whnf) <;> rfl) ?_; refine wpO_nil ?_; refine seq_normal ?_; refine wp_ret ?_; refine block_ret ?_; refine seq_ret ?_; refine ret_of ?_; refine rk_tmp (by (conv => lhs; whnf) <;> rfl) ?_; refine rk_tmp (by (conv => lhs; whnf) <;> rfl) ?_; refine rk_tmp (by (conv => lhs; whnf) <;> rfl) ?_; refine rk_nil ?_
    exact ⟨_, _, [], rfl, New1.nil _ _ _, hR, Ext.refl _ _⟩
  rw [if_neg hc]
  refine wp_seq ?_; refine wp_region ?_; refine wpO_cons ?_; refine op1_mov rfl (by (conv => lhs; whnf) <;> rfl) ?_; refine wpO_cons ?_; refine op1_eqlI rfl rfl rfl ?_; refine wpO_cons ?_; refine op1_mov rfl (by (conv => lhs; whnf) <;> rfl) ?_; refine wpO_nil ?_; refine seq_normal ?_
  refine wp_dec rfl (fun hc2 => ?_) (fun hc2 => ?_)
  · rw [if_pos hc2]
    refine wp_seq ?_; refine wp_region ?_; refine wpO_cons ?_; refine op1_mov rfl (by (conv => lhs; whnf) <;> rfl) ?_; refine wpO_cons ?_; refine op1_mov rfl (by (conv => lhs; whnf) <;> rfl) ?_; refine wpO_cons ?_; refine op1_mov rfl (by (conv => lhs; whnf) <;> rfl) ?_; refine wpO_nil ?_; refine seq_normal ?_; refine wp_ret ?_; refine block_ret ?_; refine seq_ret ?_; refine ret_of ?_; refine rk_tmp (by (conv => lhs; whnf) <;> rfl) ?_; refine rk_tmp (by (conv => lhs; whnf) <;> rfl) ?_; refine rk_tmp (by (conv => lhs; whnf) <;> rfl) ?_; refine rk_nil ?_
    exact ⟨_, _, [], rfl, New1.nil _ _ _, hR, Ext.refl _ _⟩
  rw [if_neg hc2]
  rcases hin : s.input with _ | ⟨⟨d, r⟩, rest⟩
  · rw [hin] at hg
    simp only
    refine wp_seq ?_; refine wp_region ?_; refine wpO_cons ?_; refine op1_mov rfl (by (conv => lhs; whnf) <;> rfl) ?_; refine wpO_cons ?_; refine op1_nilchk rfl rfl ?_; refine wpO_cons ?_; refine op1_faddr0 rfl rfl ?_; refine wpO_cons ?_; refine op1_faddr rfl rfl ?_; refine wpO_cons ?_; refine op1_load rfl rfl (by with_reducible assumption) rfl ?_; refine wpO_cons ?_; refine op1_len rfl rfl ?_; refine wpO_cons ?_; refine op1_eqlI_s rfl rfl rfl ?_; refine wpO_cons ?_; refine op1_mov rfl (by (conv => lhs; whnf) <;> rfl) ?_; refine wpO_cons ?_; refine op1_mov rfl (by (conv => lhs; whnf) <;> rfl) ?_; refine wpO_cons ?_; refine op1_nilchk rfl rfl ?_; refine wpO_cons ?_; refine op1_faddr0 rfl rfl ?_; refine wpO_cons ?_; refine op1_load rfl rfl (by with_reducible assumption) rfl ?_; refine wpO_cons ?_; refine op1_pick_t rfl rfl (by (conv => lhs; whnf) <;> rfl) ?_; refine wpO_cons ?_; refine op1_mov rfl (by (conv => lhs; whnf) <;> rfl) ?_; refine wpO_nil ?_; refine seq_normal ?_
    refine wp_cond rfl (fun hh => ?_) (fun hh => ?_)
    · rw [if_pos hh]
      refine wp_seq ?_; refine wp_region ?_; refine wpO_cons ?_; refine op1_mov rfl (by (conv => lhs; whnf) <;> rfl) ?_; refine wpO_cons ?_; refine op1_mov rfl (by (conv => lhs; whnf) <;> rfl) ?_; refine wpO_cons ?_; refine op1_mov rfl (by (conv => lhs; whnf) <;> rfl) ?_; refine wpO_nil ?_; refine seq_normal ?_; refine wp_ret ?_; refine block_ret ?_; refine seq_ret ?_; refine ret_of ?_; refine rk_tmp (by (conv => lhs; whnf) <;> rfl) ?_; refine rk_tmp (by (conv => lhs; whnf) <;> rfl) ?_; refine rk_tmp (by (conv => lhs; whnf) <;> rfl) ?_; refine rk_nil ?_
      exact ⟨_, _, [], rfl, New1.nil _ _ _, hR, Ext.refl _ _⟩
    · rw [if_neg (by rw [hh]; simp)]
      refine wp_seq ?_; refine wp_region ?_; refine wpO_cons ?_; refine op1_mov rfl (by (conv => lhs; whnf) <;> rfl) ?_; refine wpO_cons ?_; refine op1_nilchk rfl rfl ?_; refine wpO_cons ?_; refine op1_faddr0 rfl rfl ?_; refine wpO_cons ?_; refine op1_faddr rfl rfl ?_; refine wpO_cons ?_; refine op1_load rfl rfl (by with_reducible assumption) rfl ?_; refine wpO_cons ?_; refine op1_len rfl rfl ?_; refine wpO_cons ?_; refine op1_eqlI_s rfl rfl rfl ?_; refine wpO_cons ?_; refine op1_mov rfl (by (conv => lhs; whnf) <;> rfl) ?_; refine wpO_nil ?_; refine seq_normal ?_; refine wp_true rfl ?_; refine wp_seq ?_; refine wp_region ?_; refine wpO_cons ?_; refine op1_mov rfl (by (conv => lhs; whnf) <;> rfl) ?_; refine wpO_cons ?_; refine op1_mov rfl (by (conv => lhs; whnf) <;> rfl) ?_; refine wpO_cons ?_; refine op1_mov rfl (by (conv => lhs; whnf) <;> rfl) ?_; refine wpO_nil ?_; refine seq_normal ?_; refine wp_ret ?_; refine block_ret ?_; refine seq_ret ?_; refine ret_of ?_; refine rk_tmp (by (conv => lhs; whnf) <;> rfl) ?_; refine rk_tmp (by (conv => lhs; whnf) <;> rfl) ?_; refine rk_tmp (by (conv => lhs; whnf) <;> rfl) ?_; refine rk_nil ?_
      exact ⟨_, _, [], rfl, New1.nil _ _ _, hR, Ext.refl _ _⟩
  · simp only
    have hlen : s.input.length = rest.length + 1 := by rw [hin]; rfl
    have hpos : 0 < s.input.length := by omega
    have hrecs := h.recs
    rw [hin] at hrecs
    have hdl := hrec (d, r) (by rw [hin]; simp)
    refine wp_seq ?_; refine wp_region ?_; refine wpO_cons ?_; refine op1_mov rfl (by (conv => lhs; whnf) <;> rfl) ?_; refine wpO_cons ?_; refine op1_nilchk rfl rfl ?_; refine wpO_cons ?_; refine op1_faddr0 rfl rfl ?_; refine wpO_cons ?_; refine op1_faddr rfl rfl ?_; refine wpO_cons ?_; refine op1_load rfl rfl (by with_reducible assumption) rfl ?_; refine wpO_cons ?_; refine op1_len rfl rfl ?_; refine wpO_cons ?_; refine op1_eqlI rfl rfl rfl ?_; refine wpO_cons ?_; refine op1_mov rfl (by (conv => lhs; whnf) <;> rfl) ?_; refine wpO_cons ?_
    refine op1_dec rfl (fun h0 => ?_) (fun h0 => ?_)
    · omega
    refine op1_skip rfl ?_; refine wpO_cons ?_; refine op1_skip rfl ?_; refine wpO_cons ?_; refine op1_skip rfl ?_; refine wpO_cons ?_; refine op1_skip rfl ?_; refine wpO_cons ?_; refine op1_pick_f rfl rfl (by (conv => lhs; whnf) <;> rfl) ?_; refine wpO_cons ?_; refine op1_mov rfl (by (conv => lhs; whnf) <;> rfl) ?_; refine wpO_nil ?_; refine seq_normal ?_; refine wp_false rfl ?_; refine wp_seq ?_; refine wp_region ?_; refine wpO_cons ?_; refine op1_mov rfl (by (conv => lhs; whnf) <;> rfl) ?_; refine wpO_cons ?_; refine op1_nilchk rfl rfl ?_; refine wpO_cons ?_; refine op1_faddr0 rfl rfl ?_; refine wpO_cons ?_; refine op1_faddr rfl rfl ?_; refine wpO_cons ?_; refine op1_load rfl rfl (by with_reducible assumption) rfl ?_; refine wpO_cons ?_; refine op1_len rfl rfl ?_; refine wpO_cons ?_; refine op1_eqlI rfl rfl rfl ?_; refine wpO_cons ?_; refine op1_mov rfl (by (conv => lhs; whnf) <;> rfl) ?_; refine wpO_nil ?_; refine seq_normal ?_
    refine wp_dec rfl (fun h0' => ?_) (fun h0' => ?_)
    · omega
    refine wp_skip ?_; refine block_normal ?_; refine seq_normal ?_; refine wp_seq ?_; refine wp_region ?_; refine wpO_cons ?_; refine op1_mov rfl (by (conv => lhs; whnf) <;> rfl) ?_; refine wpO_cons ?_; refine op1_nilchk rfl rfl ?_; refine wpO_cons ?_; refine op1_faddr0 rfl rfl ?_; refine wpO_cons ?_; refine op1_faddr rfl rfl ?_; refine wpO_cons ?_; refine op1_load rfl rfl (by with_reducible assumption) rfl ?_; refine wpO_cons ?_
    cases hrecs with
    | @cons vr _ _ cs _ o1 o2 hr1 hr2 =>
    obtain ⟨ar, cr, rfl⟩ := hr1.b1
    have hcr := hr1.len_le
    obtain ⟨bi, offi, csi, rfl, rfl, hgi, hle, hat⟩ := h.inp.at (i := 0) hpos
    have ha0 := hat 0 (by omega)
    simp only [recC, Nat.add_zero, Nat.zero_mul, Bool.false_eq_true, if_false, List.cons_append, List.getElem?_cons_zero] at ha0
    have hci : offi < csi.length := by omega
    obtain ⟨k, hk⟩ : ∃ k : Nat, (min n (d.length : Int)) = k := ⟨(min n (d.length : Int)).toNat, by omega⟩
    have hkl : k ≤ d.length := by omega
    have hk1 : d.length = 0 ∨ 0 < k := by omega
    simp only [hk, Int.toNat_natCast]
    refine op1_iaddr rfl rfl rfl (by omega) (by omega) ?_; refine wpO_cons ?_; refine op1_mov rfl (by (conv => lhs; whnf) <;> rfl) ?_; refine wpO_nil ?_; refine seq_normal ?_; refine wp_seq ?_; refine wp_region ?_; refine wpO_cons ?_; refine op1_mov rfl (by (conv => lhs; whnf) <;> rfl) ?_; refine wpO_cons ?_; refine op1_nilchk rfl rfl ?_; refine wpO_cons ?_; refine op1_faddr rfl rfl ?_; refine wpO_cons ?_
    refine op1_load rfl rfl hgi ha0 ?_
    refine wpO_cons ?_; refine op1_len rfl rfl ?_; refine wpO_cons ?_; refine op1_eqlI rfl rfl rfl ?_; refine wpO_cons ?_; refine op1_mov rfl (by (conv => lhs; whnf) <;> rfl) ?_; refine wpO_nil ?_; refine seq_normal ?_; refine wp_seq ?_; refine wp_region ?_; refine wpO_cons ?_; refine op1_mov rfl (by (conv => lhs; whnf) <;> rfl) ?_; refine wpO_cons ?_; refine op1_mov rfl (by (conv => lhs; whnf) <;> rfl) ?_; refine wpO_cons ?_; refine op1_nilchk rfl rfl ?_; refine wpO_cons ?_; refine op1_faddr rfl rfl ?_; refine wpO_cons ?_
    refine op1_load rfl rfl hgi ha0 ?_
    refine wpO_cons ?_; refine op1_len rfl rfl ?_; refine wpO_cons ?_; refine op1_min rfl rfl rfl ?_; refine wpO_cons ?_; refine op1_mov rfl (by (conv => lhs; whnf) <;> rfl) ?_; refine wpO_nil ?_; refine seq_normal ?_; refine wp_seq ?_; refine wp_region ?_; refine wpO_cons ?_; refine op1_mov rfl (by (conv => lhs; whnf) <;> rfl) ?_; refine wpO_cons ?_; refine op1_nilchk rfl rfl ?_; refine wpO_cons ?_; refine op1_faddr rfl rfl ?_; refine wpO_cons ?_
    refine op1_load rfl rfl hgi ha0 ?_
    refine wpO_cons ?_; refine op1_mov rfl (by (conv => lhs; whnf) <;> rfl) ?_; refine wpO_cons ?_
    rw [hk]
    refine op1_sliceO rfl rfl hr1 (bnds_hi (by omega) (by omega)) (by omega) (by simp only [Int.toNat_natCast]; omega) ?_
    simp only [Int.toNat_natCast, Nat.zero_mul, List.drop_zero, Nat.sub_zero, Nat.mul_one]
    intro a1 c1 hS1
    refine wpO_cons ?_
    refine op1_appendO rfl rfl (by (conv => lhs; whnf) <;> rfl) rfl .nil rfl (hS1.rd.src (by omega) (k := k) (by simp [bts]; omega)) (by simp [bts]; omega) (by rw [bts_take, bts_take]; exact bts_one _) (by simp only at hdl; omega) (fun b hb => by simp at hb) ?_
    intro a2 c2 o3 H2 hO2 hE2
    have h2 := h.frame hE2.next fun b hb => hE2.keep b hb (by simp)
    have hg2 := h2.get
    have hbi := h.lt.2.2.1 bi (by simp)
    have hgi2 : H2.get bi = .cells csi 2 false := (hE2.keep bi hbi (by simp)).trans hgi
    have hr1' : SlO H2 1 (.slice ar d.length cr) (bts d) o1 := hr1.frame fun b hb => hE2.keep b (h.lt.2.2.2.1 b (by simp [hb])) (by simp)
    have hr2' : RecsO H2 false cs rest o2 := hr2.frame fun b hb => hE2.keep b (h.lt.2.2.2.1 b (by simp [hb])) (by simp)
    refine wpO_cons ?_; refine op1_mov rfl (by (conv => lhs; whnf) <;> rfl) ?_; refine wpO_nil ?_; refine seq_normal ?_; refine wp_seq ?_; refine wp_region ?_; refine wpO_cons ?_; refine op1_mov rfl (by (conv => lhs; whnf) <;> rfl) ?_; refine wpO_cons ?_; refine op1_mov rfl (by (conv => lhs; whnf) <;> rfl) ?_; refine wpO_cons ?_; refine op1_nilchk rfl rfl ?_; refine wpO_cons ?_; refine op1_faddr rfl rfl ?_; refine wpO_cons ?_
    refine op1_load rfl rfl hgi2 ha0 ?_
    refine wpO_cons ?_; refine op1_mov rfl (by (conv => lhs; whnf) <;> rfl) ?_; refine wpO_cons ?_
    refine op1_sliceO rfl rfl hr1' (bnds_lo (by omega) (by omega) hcr) (by simp only [Int.toNat_natCast]; omega) (Nat.le_refl _) ?_
    simp only [Int.toNat_natCast, Nat.mul_one]
    intro a3 c3 hS3
    rw [List.take_of_length_le (by simp [bts]), bts_drop] at hS3
    rw [List.take_take, Nat.mul_one, Nat.min_self, List.nil_append, bts_take] at hO2
    refine wpO_cons ?_; refine op1_nilchk rfl rfl ?_; refine wpO_cons ?_; refine op1_faddr rfl rfl ?_; refine wpO_cons ?_
    refine op1_store1 rfl rfl (by (conv => lhs; whnf) <;> rfl) rfl rfl hgi2 (Nat.ble_eq_true_of_le hci) ?_
    obtain ⟨h3, hr3⟩ := h2.setFirst hr2' hgi2 hS3
    have hg3 := h3.get
    have ha3 : (csi.set offi (.slice a3 (d.length - k) c3))[offi]? = some (.slice a3 (d.length - k) c3) := by simp [hci]
    have hgi3 : (H2.set bi (.cells (csi.set offi (.slice a3 (d.length - k) c3)) 2 false)).get bi = .cells (csi.set offi (.slice a3 (d.length - k) c3)) 2 false := AHeap.gs_same
    have hfr : ∀ b ∈ o3, H.next ≤ b ∧ b < H2.next := fun b hb => (hE2.own b hb).elim (fun h => by simp at h) id
    have hend : decide ((d.length : Int) = 0) = decide (d = []) := decide_eq_decide.2 ⟨fun h => List.eq_nil_of_length_eq_zero (by omega), fun h => by subst h; rfl⟩
    have hE3 : Ext (p :: (ol ++ ([bi] ++ (o1 ++ o2 ++ (oo ++ os))))) H (p :: (ol ++ ([bi] ++ (o1 ++ o2 ++ (oo ++ os))))) (H2.set bi (.cells (csi.set offi (.slice a3 (d.length - k) c3)) 2 false)) :=
      ⟨hE2.next, fun b hb hn => AHeap.gs_ne (by intro e; subst e; simp at hn) (hE2.keep b hb (by simp)), fun b hb => .inl hb⟩
    have hnew : New1 H (H2.set bi (.cells (csi.set offi (.slice a3 (d.length - k) c3)) 2 false)) (p :: (ol ++ ([bi] ++ (o1 ++ o2 ++ (oo ++ os))))) (.slice a2 (0 + k) c2) (d.take k) o3 :=
      ⟨hO2.frame fun b hb => AHeap.gs_ne (by have := (hfr b hb).1; omega) rfl, fun b hb => ⟨(hfr b hb).1, (hfr b hb).2, fun hm => absurd (hlt b hm) (by have := (hfr b hb).1; omega)⟩⟩
    refine wpO_nil ?_; refine seq_normal ?_; refine wp_seq ?_; refine wp_seq ?_; refine wp_region ?_; refine wpO_cons ?_; refine op1_mov rfl (by (conv => lhs; whnf) <;> rfl) ?_; refine wpO_cons ?_; refine op1_nilchk rfl rfl ?_; refine wpO_cons ?_; refine op1_faddr rfl rfl ?_; refine wpO_cons ?_
    refine op1_load rfl rfl hgi3 ha3 ?_
    refine wpO_cons ?_; refine op1_len rfl rfl ?_; refine wpO_cons ?_; refine op1_eqlI rfl rfl rfl ?_; refine wpO_nil ?_; refine seq_normal ?_
    refine wp_dec rfl (fun hz => ?_) (fun hz => ?_)
    · have hdn : d.drop k = [] := List.drop_eq_nil_of_le (by omega)
      rw [if_pos hdn]
      refine wp_region ?_; refine wpO_cons ?_; refine op1_mov rfl (by (conv => lhs; whnf) <;> rfl) ?_; refine wpO_cons ?_; refine op1_mov rfl (by (conv => lhs; whnf) <;> rfl) ?_; refine wpO_cons ?_; refine op1_nilchk rfl rfl ?_; refine wpO_cons ?_; refine op1_faddr0 rfl rfl ?_; refine wpO_cons ?_; refine op1_faddr rfl rfl ?_; refine wpO_cons ?_; refine op1_load rfl rfl (by assumption) rfl ?_; refine wpO_cons ?_; refine op1_call3 rfl (by (conv => lhs; whnf) <;> rfl) (by (conv => lhs; whnf) <;> rfl) (by (conv => lhs; whnf) <;> rfl) ?_
      have hone := h3.recs.one
      refine wpF_mono (L40 h3.inp hone hpos (by omega)) ?_
      rintro v H4 ⟨a5, c5, rfl, hS5, hE5⟩
      have nd := h3.nd
      have lt3 := h3.lt
      simp only [List.nodup_cons, List.nodup_append, List.mem_append, List.mem_cons, List.not_mem_nil, or_false] at nd
      have hg4 := (hE5.keep p lt3.1 (by simp only [List.mem_cons, List.not_mem_nil, or_false]; grind)).trans hg3
      refine wpO_cons ?_; refine op1_nilchk rfl rfl ?_; refine wpO_cons ?_; refine op1_faddr0 rfl rfl ?_; refine wpO_cons ?_; refine op1_faddr rfl rfl ?_; refine wpO_cons ?_; refine op1_store1 rfl rfl (by (conv => lhs; whnf) <;> rfl) rfl rfl (by with_reducible assumption) rfl ?_; refine wpO_nil ?_; refine seq_normal ?_; refine wp_seq ?_; refine wp_region ?_; refine wpO_cons ?_; refine op1_mov rfl (by (conv => lhs; whnf) <;> rfl) ?_; refine wpO_cons ?_; refine op1_mov rfl (by (conv => lhs; whnf) <;> rfl) ?_; refine wpO_cons ?_; refine op1_mov rfl (by (conv => lhs; whnf) <;> rfl) ?_; refine wpO_cons ?_; refine op1_mov rfl (by (conv => lhs; whnf) <;> rfl) ?_; refine wpO_cons ?_; refine op1_mov rfl (by (conv => lhs; whnf) <;> rfl) ?_; refine wpO_nil ?_; refine seq_normal ?_; refine wp_ret ?_; refine ret_of ?_; refine rk_tmp (by (conv => lhs; whnf) <;> rfl) ?_; refine rk_tmp (by (conv => lhs; whnf) <;> rfl) ?_; refine rk_tmp (by (conv => lhs; whnf) <;> rfl) ?_; refine rk_nil ?_
      have hS5' : SlO H4 2 (.slice a5 (s.input.length - 1) c5) cs [bi] := by
        have e : (recC false (.slice a3 (d.length - k) c3) r ++ cs).drop 2 = cs := by simp [recC]
        rw [e] at hS5
        exact hS5
      have hl4 : SlO H4 1 vl (bts s.line) ol := h3.line.frame fun b hb => hE5.keep b (lt3.2.1 b hb) (by simp only [List.mem_cons, List.not_mem_nil, or_false]; grind)
      have hr4 : RecsO H4 false cs rest o2 := hr3.frame fun b hb => hE5.keep b (lt3.2.2.2.1 b (by simp [hb])) (by simp only [List.mem_cons, List.not_mem_nil, or_false]; grind)
      obtain ⟨q1, q2⟩ := h3.setLI (line' := s.line) (inp' := rest) (ol' := ol) (oi' := [bi]) (orr' := o2) hl4 hS5' hr4 ⟨hE5.next, fun b hb hn => hE5.keep b hb (by simp only [List.mem_append, not_or] at hn; exact hn.2.1), fun b hb => .inl (by simp only [List.mem_append] at hb ⊢; grind)⟩ (by simp only [List.nodup_append, List.nodup_cons, List.mem_append, List.mem_cons, List.not_mem_nil, or_false]; grind)
      refine ⟨_, _, o3, by rw [hend]; rfl, ?_, ⟨_, _, _, _, _, _, _, _, _, _, q1, rfl⟩, hE3.trans q2 hlt⟩
      have hn4 := hE5.next
      exact ⟨hnew.sl.frame fun b hb => (AHeap.gs_ne (by have := (hfr b hb).1; have := h.lt.1; omega) rfl).trans (hE5.keep b (hfr b hb).2 (by have := (hfr b hb).1; simp only [List.mem_cons, List.not_mem_nil, or_false]; omega)),
        fun b hb => ⟨(hfr b hb).1, Nat.lt_of_lt_of_le (hfr b hb).2 hn4, fun hm => absurd (hlt b (by simp only [List.mem_cons, List.mem_append] at hm ⊢; grind)) (by have := (hfr b hb).1; omega)⟩⟩
    · have hdn : d.drop k ≠ [] := by intro e; have := congrArg List.length e; simp at this; omega
      rw [if_neg hdn]
      refine wp_skip ?_; refine seq_normal ?_; refine wp_seq ?_; refine wp_region ?_; refine wpO_cons ?_; refine op1_mov rfl (by (conv => lhs; whnf) <;> rfl) ?_; refine wpO_cons ?_; refine op1_mov rfl (by (conv => lhs; whnf) <;> rfl) ?_; refine wpO_cons ?_; refine op1_mov rfl (by (conv => lhs; whnf) <;> rfl) ?_; refine wpO_cons ?_; refine op1_mov rfl (by (conv => lhs; whnf) <;> rfl) ?_; refine wpO_cons ?_; refine op1_mov rfl (by (conv => lhs; whnf) <;> rfl) ?_; refine wpO_nil ?_; refine seq_normal ?_; refine wp_ret ?_; refine ret_of ?_; refine rk_tmp (by (conv => lhs; whnf) <;> rfl) ?_; refine rk_tmp (by (conv => lhs; whnf) <;> rfl) ?_; refine rk_tmp (by (conv => lhs; whnf) <;> rfl) ?_; refine rk_nil ?_
      exact ⟨_, _, o3, by rw [hend]; rfl, hnew, ⟨_, _, _, _, _, _, _, _, _, _, h3, rfl⟩, hE3⟩
end Go.E.Pty
