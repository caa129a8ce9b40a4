/- The reference's terminal: its small methods, walked through. -/
import Derived.Test.YtfgejkhhkacknaaDoorPtF6
import Derived.Test.YtfgejkhhkacknaaDoorEngZc
namespace Go.E.Pty
open Go Go.E Go.Proofs.YtfgejkhhkacknaaDoor.base Go.Proofs.YtfgejkhhkacknaaDoor Go.Proofs
set_option linter.unusedVariables false
set_option linter.unusedSimpArgs false
set_option maxRecDepth 100000

theorem L73 {rl : Bool} {H : AHeap} {p : Nat} {s : PT} {O : List Nat} (h : RepT rl H p s O) (m : Int) : wpF C 73 [.pointer (some ⟨p, 0, none⟩), .int .i64 m] H fun v H' => v = .bool (s.has m) ∧ H = H' := by
  obtain ⟨vl, vi, vo, vs, cells, ol, oi, orr, oo, os, h, rfl⟩ := h
  have hg := h.get
  refine wpF_ofW o73 rfl rfl ?_
  refine wp_seq ?_; refine wp_region ?_; refine wpO_cons ?_; refine op1_mov rfl (by (conv => lhs; whnf) <;> rfl) ?_; refine wpO_nil ?_; refine seq_normal ?_; refine wp_seq ?_; refine wp_region ?_; refine wpO_cons ?_; refine op1_mov rfl (by (conv => lhs; whnf) <;> rfl) ?_; refine wpO_cons ?_; refine op1_nilchk rfl rfl ?_; refine wpO_cons ?_; refine op1_faddr0 rfl rfl ?_; refine wpO_cons ?_; refine op1_load rfl rfl (by assumption) rfl ?_; refine wpO_cons ?_; refine op1_mov rfl (by (conv => lhs; whnf) <;> rfl) ?_; refine wpO_cons ?_; refine op1_and rfl rfl rfl ?_; refine wpO_cons ?_; refine op1_neqI rfl rfl rfl ?_; refine wpO_cons ?_; refine op1_mov rfl (by (conv => lhs; whnf) <;> rfl) ?_; refine wpO_nil ?_; refine seq_normal ?_; refine wp_ret ?_; refine ret_of ?_; refine rk_tmp (by (conv => lhs; whnf) <;> rfl) ?_; refine rk_nil ?_
  exact ⟨rfl, rfl⟩


theorem L77 {rl : Bool} {H : AHeap} {p : Nat} {s : PT} {O : List Nat} (h : RepT rl H p s O) (n : Int) : wpF C 77 [.pointer (some ⟨p, 0, none⟩), .int .i64 n] H fun v H' => ∃ O', RepT rl H' p (s.send n) O' ∧ Ext O H O' H' := by
  obtain ⟨vl, vi, vo, vs, cells, ol, oi, orr, oo, os, h, rfl⟩ := h
  obtain ⟨a, c, rfl⟩ := h.sig.i1
  have hg := h.get
  have hp := (h.low p (by simp)).2
  refine wpF_ofW o77 rfl rfl ?_
  refine wp_seq ?_; refine wp_region ?_; refine wpO_cons ?_; refine op1_mov rfl (by (conv => lhs; whnf) <;> rfl) ?_; refine wpO_cons ?_; refine op1_nilchk rfl rfl ?_; refine wpO_cons ?_; refine op1_faddr0 rfl rfl ?_; refine wpO_cons ?_; refine op1_load rfl rfl (by assumption) rfl ?_; refine wpO_cons ?_; refine op1_len rfl rfl ?_; refine wpO_cons ?_; refine op1_lss rfl rfl rfl ?_; refine wpO_nil ?_; refine seq_normal ?_
  refine wp_dec rfl (fun hc => ?_) (fun hc => ?_)
  · refine wp_region ?_; refine wpO_cons ?_; refine op1_mov rfl (by (conv => lhs; whnf) <;> rfl) ?_; refine wpO_cons ?_; refine op1_mov rfl (by (conv => lhs; whnf) <;> rfl) ?_; refine wpO_cons ?_; refine op1_nilchk rfl rfl ?_; refine wpO_cons ?_; refine op1_faddr0 rfl rfl ?_; refine wpO_cons ?_; refine op1_load rfl rfl (by assumption) rfl ?_; refine wpO_cons ?_; refine op1_mov rfl (by (conv => lhs; whnf) <;> rfl) ?_; refine wpO_cons ?_; refine op1_bslice rfl ?_; refine bk_one (by (conv => lhs; whnf) <;> rfl) rfl rfl rfl ?_; refine bk_nil ?_; refine wpO_cons ?_
    have hos : ∀ b ∈ os, b < H.next := fun b hb => (h.low b (by simp [hb])).2
    refine op1_appendN rfl rfl rfl rfl AHeap.ga_same rfl rfl (h.sig.add hos _) (by omega) (fun b hb => by have := hos b hb; simp only [AHeap.next_add]; omega) ?_
    intro a' c' o' H' hO' hE
    have hg' : H'.get p = _ := (hE.keep p (by simp only [AHeap.next_add]; omega) (by have := h.nd; simp only [List.nodup_cons, List.mem_append] at this; grind)).trans (AHeap.ga_lt hp hg)
    refine wpO_cons ?_; refine op1_nilchk rfl rfl ?_; refine wpO_cons ?_; refine op1_faddr0 rfl rfl ?_; refine wpO_cons ?_; refine op1_store1 rfl rfl (by (conv => lhs; whnf) <;> rfl) rfl rfl (by assumption) rfl ?_; refine wpO_nil ?_; refine nrm_of ?_; refine rk_nil ?_
    have e : s.send n = { s with signals := s.signals ++ [n] } := by unfold PT.send; rw [if_pos (by omega)]
    rw [e]
    have hE' := (Ext.add os H (.cells [.int .i64 n] 1 false)).trans hE hos
    obtain ⟨h1, h2⟩ := h.setSig (sig' := s.signals ++ [n]) (by rw [ints_append]; exact hO') hE'
    exact ⟨_, ⟨_, _, _, _, _, _, _, _, _, _, h1, rfl⟩, h2⟩
  · refine wp_skip ?_; refine nrm_of ?_; refine rk_nil ?_
    have e : s.send n = s := by unfold PT.send; rw [if_neg (by omega)]
    rw [e]
    exact ⟨_, ⟨_, _, _, _, _, _, _, _, _, _, h, rfl⟩, Ext.refl _ _⟩



set_option maxHeartbeats 2000000 in
theorem L76 {rl : Bool} {H : AHeap} {p : Nat} {s : PT} {O : List Nat} (h : RepT rl H p s O) {vd : Value} {l : List Int} {r : List Nat} (hd : RdS H 1 vd (bts l) r) (hr : ∀ b ∈ r, b < H.next ∧ b ∉ O) (hlim : s.output.length + 2 * l.length ≤ 1000000) :
    wpF C 76 [.pointer (some ⟨p, 0, none⟩), vd] H fun v H' => ∃ O', RepT rl H' p (s.outs l) O' ∧ Ext O H O' H' := by
  obtain ⟨a, c, rfl⟩ := hd.b1
  refine wpF_ofW o76 rfl rfl ?_
  refine wp_seq ?_; refine wp_region ?_; refine wpO_cons ?_; refine op1_mov rfl (by (conv => lhs; whnf) <;> rfl) ?_; refine wpO_nil ?_; refine seq_normal ?_; refine wp_block ?_
  refine wp_loop [4] (fun k vs H' => ∃ i : Nat, vs = [.int .i64 i] ∧ i + k = l.length ∧ ∃ O', RepT rl H' p (s.outs (l.take i)) O' ∧ Ext O H O' H') ⟨l.length, 0, rfl, by omega, O, h, Ext.refl _ _⟩ ?_
  rintro k vs T' H' ⟨i, rfl, hk, O', hR, hE⟩
  refine wp_seq ?_; refine wp_seq ?_; refine wp_region ?_; refine wpO_cons ?_; refine op1_mov rfl (by (conv => lhs; whnf) <;> rfl) ?_; refine wpO_cons ?_; refine op1_mov rfl (by (conv => lhs; whnf) <;> rfl) ?_; refine wpO_cons ?_; refine op1_len rfl rfl ?_; refine wpO_cons ?_; refine op1_lss rfl rfl rfl ?_; refine wpO_nil ?_; refine seq_normal ?_
  refine wp_dec rfl (fun hc => ?_) (fun hc => ?_)
  · have hi : i < l.length := by omega
    obtain ⟨b, off, cs, e, ro, v, rfl, rfl, hg, hv, hx⟩ := hd.at1 hi
    have hg' : H'.get b = .cells cs e ro := (hE.keep b (hr b (by simp)).1 (hr b (by simp)).2).trans hg
    obtain ⟨x, hx', rfl⟩ : ∃ x, l[i]? = some x ∧ v = .int .u8 x := by
      simp only [bts, List.getElem?_map, Option.map_eq_some_iff] at hx
      obtain ⟨x, h1, h2⟩ := hx
      exact ⟨x, h1, h2.symm⟩
    have hbO : b ∉ O' := fun hm => (hE.own b hm).elim (hr b (by simp)).2 fun h1 => absurd (hr b (by simp)).1 (by omega)
    have hbn : b < H'.next := Nat.lt_of_lt_of_le (hr b (by simp)).1 hE.next
    have hlo : (s.outs (l.take i)).output.length ≤ 1000000 := by
      have h1 := outs_len s (l.take i)
      have h2 : (l.take i).length ≤ l.length := by simp only [List.length_take]; omega
      omega
    have hlen : l.length ≤ 1000000 := by omega
    refine wp_skip ?_; refine seq_normal ?_; refine wp_seq ?_; refine wp_block ?_
    refine wp_cut [] (fun _ H1 => ∃ O1, RepT rl H1 p (if x = 10 ∧ s.has 16 = true then (s.outs (l.take i)).raw 13 else s.outs (l.take i)) O1 ∧ Ext O' H' O1 H1) ?_ ?_
    · refine wp_seq ?_; refine wp_region ?_; refine wpO_cons ?_; refine op1_mov rfl (by (conv => lhs; whnf) <;> rfl) ?_; refine wpO_cons ?_; refine op1_mov rfl (by (conv => lhs; whnf) <;> rfl) ?_; refine wpO_cons ?_; refine op1_iaddr rfl rfl rfl (by omega) (by omega) ?_; refine wpO_cons ?_
      refine op1_load rfl rfl hg' hv ?_
      refine wpO_cons ?_; refine op1_eqlI rfl rfl rfl ?_; refine wpO_cons ?_; refine op1_mov rfl (by (conv => lhs; whnf) <;> rfl) ?_; refine wpO_cons ?_
      refine op1_dec rfl (fun h10 => ?_) (fun h10 => ?_)
      · refine op1_mov rfl (by (conv => lhs; whnf) <;> rfl) ?_; refine wpO_cons ?_; refine op1_call2 rfl (by (conv => lhs; whnf) <;> rfl) (by (conv => lhs; whnf) <;> rfl) ?_
        refine wpF_mono (L73 hR 16) ?_
        rintro v H2 ⟨rfl, rfl⟩
        rw [has_outs]
        refine wpO_cons ?_; refine op1_pick_t rfl rfl (by (conv => lhs; whnf) <;> rfl) ?_; refine wpO_nil ?_; refine seq_normal ?_

        refine wp_cond rfl (fun hh => ?_) (fun hh => ?_)
        · rw [if_pos ⟨h10, hh⟩]
          obtain ⟨vl, vi, vo, vs, cells, ol, oi, orr, oo, os, hT, rfl⟩ := hR
          obtain ⟨ao, co, rfl⟩ := hT.out.b1
          have hgp := hT.get
          have hoo := hT.lt.2.2.2.2.1
          refine wp_region ?_; refine wpO_cons ?_; refine op1_mov rfl (by (conv => lhs; whnf) <;> rfl) ?_; refine wpO_cons ?_; refine op1_mov rfl (by (conv => lhs; whnf) <;> rfl) ?_; refine wpO_cons ?_; refine op1_nilchk rfl rfl ?_; refine wpO_cons ?_; refine op1_faddr0 rfl rfl ?_; refine wpO_cons ?_; refine op1_load rfl rfl (by with_reducible assumption) rfl ?_; refine wpO_cons ?_; refine op1_bslice rfl ?_; refine bk_one (by (conv => lhs; whnf) <;> rfl) rfl rfl rfl ?_; refine bk_nil ?_; refine wpO_cons ?_
          refine op1_appendN rfl rfl rfl rfl AHeap.ga_same rfl rfl (hT.out.add hoo _) (by omega) (fun b hb => by have := hoo b hb; simp only [AHeap.next_add]; omega) ?_
          intro a' c' o' H3 hO3 hE3
          have hg3 := hT.get3 hE3 hT.pn.2.2.2.1
          have hfin := hT.put hO3 hE3
          refine wpO_cons ?_; refine op1_nilchk rfl rfl ?_; refine wpO_cons ?_; refine op1_faddr0 rfl rfl ?_; refine wpO_cons ?_; refine op1_store1 rfl rfl (by (conv => lhs; whnf) <;> rfl) rfl rfl (by with_reducible assumption) rfl ?_; refine wpO_nil ?_; refine cut0  ?_
          exact hfin
        · rw [if_neg (by rw [hh]; simp)]
          refine wp_skip ?_; refine cut0  ?_
          exact ⟨O', hR, Ext.refl _ _⟩
      · rw [if_neg (fun hh => h10 hh.1)]
        refine op1_skip rfl ?_; refine wpO_cons ?_; refine op1_skip rfl ?_; refine wpO_cons ?_; refine op1_pick_f rfl rfl (by (conv => lhs; whnf) <;> rfl) ?_; refine wpO_nil ?_; refine seq_normal ?_; refine wp_false rfl ?_; refine wp_skip ?_; refine cut0  ?_
        exact ⟨O', hR, Ext.refl _ _⟩
    · rintro vs2 T2 H1 ⟨O1, hR1, hE1⟩
      have hlo2 : (if x = 10 ∧ s.has 16 = true then (s.outs (l.take i)).raw 13 else s.outs (l.take i)).output.length ≤ 1000001 := by
        split
        · simp only [PT.raw, List.length_append, List.length_cons, List.length_nil]; omega
        · omega
      have e3 : (if x = 10 ∧ s.has 16 = true then (s.outs (l.take i)).raw 13 else s.outs (l.take i)).raw x = s.outs (l.take (i + 1)) := by
        rw [List.take_add_one, hx', Option.toList_some, outs_snoc]
        by_cases hcn : x = 10 ∧ s.has 16 = true
        · rw [if_pos hcn]; simp only [PT.out1, has_outs, if_pos hcn, PT.raw, List.append_assoc, List.cons_append, List.nil_append]
        · rw [if_neg hcn]; simp only [PT.out1, has_outs, if_neg hcn, PT.raw]
      generalize (if x = 10 ∧ s.has 16 = true then (s.outs (l.take i)).raw 13 else s.outs (l.take i)) = s2 at *
      have hg1 : H1.get b = .cells cs e ro := (hE1.keep b hbn hbO).trans hg'
      have hbO1 : b ∉ O1 := fun hm => (hE1.own b hm).elim hbO fun h1 => absurd hbn (by omega)
      have hbn1 : b < H1.next := Nat.lt_of_lt_of_le hbn hE1.next
      obtain ⟨vl, vi, vo, vs, cells, ol, oi, orr, oo, os, hT, rfl⟩ := hR1
      obtain ⟨ao, co, rfl⟩ := hT.out.b1
      have hgp := hT.get
      have hoo := hT.lt.2.2.2.2.1
      refine wp_regionD ?_; refine wpD_cons ?_; refine op1_mov rfl (by (conv => lhs; whnf) <;> rfl) ?_; refine wpD_cons ?_; refine op1_mov rfl (by (conv => lhs; whnf) <;> rfl) ?_; refine wpD_cons ?_; refine op1_nilchk rfl rfl ?_; refine wpD_cons ?_; refine op1_faddr0 rfl rfl ?_; refine wpD_cons ?_; refine op1_load rfl rfl (by with_reducible assumption) rfl ?_; refine wpD_cons ?_; refine op1_mov rfl (by (conv => lhs; whnf) <;> rfl) ?_; refine wpD_cons ?_; refine op1_mov rfl (by (conv => lhs; whnf) <;> rfl) ?_; refine wpD_cons ?_; refine op1_iaddr rfl rfl rfl (by omega) (by omega) ?_; refine wpD_cons ?_
      refine op1_load rfl rfl hg1 hv ?_
      refine wpD_cons ?_; refine op1_bslice rfl ?_; refine bk_one (by (conv => lhs; whnf) <;> rfl) rfl rfl rfl ?_; refine bk_nil ?_; refine wpD_cons ?_
      refine op1_appendN rfl rfl rfl rfl AHeap.ga_same rfl rfl (hT.out.add hoo _) (by omega) (fun b hb => by have := hoo b hb; simp only [AHeap.next_add]; omega) ?_
      intro a' c' o' H3 hO3 hE3
      have hg3 := hT.get3 hE3 hT.pn.2.2.2.1
      have hfin := hT.put hO3 hE3
      have hga := AHeap.ga_lt (o := .cells [.int .u8 x] 1 false) hT.lt.1 hgp
      have hgb := AHeap.ga_lt (o := .cells [.int .u8 x] 1 false) hbn1 hg1
      refine wpD_cons ?_; refine op1_nilchk rfl rfl ?_; refine wpD_cons ?_; refine op1_faddr0 rfl rfl ?_; refine wpD_cons ?_; refine op1_store1 rfl rfl (by (conv => lhs; whnf) <;> rfl) rfl rfl (by with_reducible assumption) rfl ?_; refine wpD_nil ?_; refine dk_of ?_ ?_; refine chk_skip ?_; refine chk_skip ?_; refine chk_skip ?_; refine chk_skip ?_; refine chk_cons 10 rfl rfl rfl ?_ ?_; refine chkFs_cons 4 rfl rfl ?_ ?_; exact chk_load rfl (by assumption) rfl rfl; exact chkFs_nil; refine chk_skip ?_; refine chk_skip ?_; refine chk_skip ?_; refine chk_cons 6 rfl rfl rfl ?_ ?_; refine chkFs_cons 4 rfl rfl ?_ ?_
      · exact chk_load rfl hgb hv rfl
      exact chkFs_nil
      refine chk_skip ?_; refine chk_skip ?_; refine chk_skip ?_; refine chk_skip ?_; refine chk_skip ?_; exact chk_end
      refine block_normal ?_; refine seq_normal ?_; refine wp_region ?_; refine wpO_cons ?_; refine op1_mov rfl (by (conv => lhs; whnf) <;> rfl) ?_; refine wpO_cons ?_; refine op1_add rfl rfl rfl (by exact wrap_i64 (by omega) (by omega)) ?_; refine wpO_cons ?_; refine op1_mov rfl (by (conv => lhs; whnf) <;> rfl) ?_; refine wpO_nil ?_
      obtain ⟨O4, hR4, hE4⟩ := hfin
      rw [e3] at hR4
      refine ⟨k - 1, by omega, i + 1, rfl, by omega, O4, hR4, (hE.trans hE1 h.lt).trans hE4 h.lt⟩
  · refine wp_exit ?_; refine seq_exit ?_; refine iter_exit ?_; refine block_exit ?_; refine nrm_of ?_; refine rk_nil ?_
    have : i = l.length := by omega
    subst this
    rw [List.take_length] at hR
    exact ⟨O', hR, hE⟩

theorem L84 {rl : Bool} {H : AHeap} {p : Nat} {s : PT} {O : List Nat} (h : RepT rl H p s O) {vd : Value} {l : List Int} {r : List Nat} (hd : RdS H 1 vd (bts l) r) (hr : ∀ b ∈ r, b < H.next ∧ b ∉ O) (hlim : s.output.length + 2 * l.length ≤ 1000000) :
    wpF C 84 [.pointer (some ⟨p, 0, none⟩), vd] H fun v H' => ∃ O', RepT rl H' p (s.echo l) O' ∧ Ext O H O' H' := by
  obtain ⟨a, c, rfl⟩ := hd.b1
  refine wpF_ofW o84 rfl rfl ?_
  refine wp_seq ?_; refine wp_region ?_; refine wpO_cons ?_; refine op1_mov rfl (by (conv => lhs; whnf) <;> rfl) ?_; refine wpO_cons ?_; refine op1_call2 rfl (by (conv => lhs; whnf) <;> rfl) (by (conv => lhs; whnf) <;> rfl) ?_
  refine wpF_mono (L73 h 2) ?_
  rintro v H2 ⟨rfl, rfl⟩
  refine wpO_nil ?_; refine seq_normal ?_
  refine wp_cond rfl (fun hh => ?_) (fun hh => ?_)
  · refine wp_region ?_; refine wpO_cons ?_; refine op1_mov rfl (by (conv => lhs; whnf) <;> rfl) ?_; refine wpO_cons ?_; refine op1_mov rfl (by (conv => lhs; whnf) <;> rfl) ?_; refine wpO_cons ?_; refine op1_call2 rfl (by (conv => lhs; whnf) <;> rfl) (by (conv => lhs; whnf) <;> rfl) ?_
    refine wpF_mono (L76 h hd hr hlim) ?_
    rintro v H3 hq
    refine wpO_nil ?_; refine nrm_of ?_; refine rk_nil ?_
    unfold PT.echo
    rw [if_pos hh]
    exact hq
  · refine wp_skip ?_; refine nrm_of ?_; refine rk_nil ?_
    unfold PT.echo
    rw [if_neg (by rw [hh]; simp)]
    exact ⟨O, h, Ext.refl _ _⟩


theorem L84new {rl : Bool} {H : AHeap} {p : Nat} {s : PT} {O : List Nat} (h : RepT rl H p s O) (l : List Int) (hlim : s.output.length + 2 * l.length ≤ 1000000) :
    wpF C 84 [.pointer (some ⟨p, 0, none⟩), .slice (some ⟨H.next, 0, none⟩) l.length l.length] (H.add (.cells (bts l) 1 false)) fun v H' => ∃ O', RepT rl H' p (s.echo l) O' ∧ Ext O H O' H' := by
  refine wpF_mono (L84 (h.add _) (RdS.new (bts_length l)) (r := [H.next]) (fun b hb => ?_) hlim) fun v H' ⟨O', h1, h2⟩ => ⟨O', h1, (Ext.add O H _).trans h2 h.lt⟩
  simp only [List.mem_singleton] at hb
  subst hb
  exact ⟨by simp, fun hm => absurd (h.lt _ hm) (by omega)⟩
theorem L76new {rl : Bool} {H : AHeap} {p : Nat} {s : PT} {O : List Nat} (h : RepT rl H p s O) (l : List Int) (hlim : s.output.length + 2 * l.length ≤ 1000000) :
    wpF C 76 [.pointer (some ⟨p, 0, none⟩), .slice (some ⟨H.next, 0, none⟩) l.length l.length] (H.add (.cells (bts l) 1 false)) fun v H' => ∃ O', RepT rl H' p (s.outs l) O' ∧ Ext O H O' H' := by
  refine wpF_mono (L76 (h.add _) (RdS.new (bts_length l)) (r := [H.next]) (fun b hb => ?_) hlim) fun v H' ⟨O', h1, h2⟩ => ⟨O', h1, (Ext.add O H _).trans h2 h.lt⟩
  simp only [List.mem_singleton] at hb
  subst hb
  exact ⟨by simp, fun hm => absurd (h.lt _ hm) (by omega)⟩

end Go.E.Pty

/- The reference's terminal: is it full for a byte. -/
namespace Go.E.Pty
open Go Go.E Go.Proofs.YtfgejkhhkacknaaDoor.base Go.Proofs.YtfgejkhhkacknaaDoor Go.Proofs
set_option linter.unusedVariables false
set_option linter.unusedSimpArgs false
set_option maxRecDepth 100000

theorem sendOf_some (b : Int) : (sendOf b).isSome = true ↔ b = 3 ∨ b = 28 ∨ b = 26 := by
  unfold sendOf; grind

theorem L74 {H : AHeap} {p : Nat} {s : PT} {O : List Nat} (h : RepT true H p s O) (b : Int) (hlim : s.input.length ≤ 100000) : wpF C 74 [.pointer (some ⟨p, 0, none⟩), .int .u8 b] H fun v H' => v = .bool (!s.room b) ∧ H = H' := by
  have hR := h
  obtain ⟨vl, vi, vo, vs, cells, ol, oi, orr, oo, os, h, rfl⟩ := h
  have hg := h.get
  obtain ⟨ao, co, rfl⟩ := h.out.b1
  obtain ⟨ai, li, ci, rfl, hli⟩ := h.inp.shape
  obtain rfl : li = s.input.length := by have := h.recs.length; omega
  refine wpF_ofW o74 rfl rfl ?_
  refine wp_seq ?_; refine wp_region ?_; refine wpO_cons ?_; refine op1_mov rfl (by (conv => lhs; whnf) <;> rfl) ?_; refine wpO_nil ?_; refine seq_normal ?_; refine wp_seq ?_; refine wp_region ?_; refine wpO_cons ?_; refine op1_mov rfl (by (conv => lhs; whnf) <;> rfl) ?_; refine wpO_nil ?_; refine seq_normal ?_
  refine wp_cut [5] (fun vs H' => vs = [.int .i64 (if b = 21 ∧ s.has 1 = true ∧ s.has 2 = true then 3331 else 4064)] ∧ H = H') ?_ ?_
  · refine wp_seq ?_; refine wp_region ?_; refine wpO_cons ?_; refine op1_mov rfl (by (conv => lhs; whnf) <;> rfl) ?_; refine wpO_cons ?_; refine op1_eqlI rfl rfl rfl ?_; refine wpO_cons ?_; refine op1_mov rfl (by (conv => lhs; whnf) <;> rfl) ?_; refine wpO_cons ?_; refine op1_split rfl (fun hc0 => ?_) (fun hc0 => ?_); (focus (refine op1_mov rfl (by (conv => lhs; whnf) <;> rfl) ?_; refine wpO_cons ?_; refine op1_call2 rfl (by (conv => lhs; whnf) <;> rfl) (by (conv => lhs; whnf) <;> rfl) ?_; (refine wpF_mono (L73 hR _) ?_; rintro _ _ ⟨rfl, rfl⟩); refine wpO_cons ?_; refine op1_pick_t rfl rfl (by (conv => lhs; whnf) <;> rfl) ?_; refine wpO_cons ?_; refine op1_mov rfl (by (conv => lhs; whnf) <;> rfl) ?_; refine wpO_cons ?_; refine op1_split rfl (fun hc1 => ?_) (fun hc1 => ?_); (focus (refine op1_mov rfl (by (conv => lhs; whnf) <;> rfl) ?_; refine wpO_cons ?_; refine op1_call2 rfl (by (conv => lhs; whnf) <;> rfl) (by (conv => lhs; whnf) <;> rfl) ?_; (refine wpF_mono (L73 hR _) ?_; rintro _ _ ⟨rfl, rfl⟩); refine wpO_cons ?_; refine op1_pick_t rfl rfl (by (conv => lhs; whnf) <;> rfl) ?_; refine wpO_nil ?_; refine seq_normal ?_; refine wp_cond rfl (fun hc2 => ?_) (fun hc2 => ?_); (focus (refine wp_region ?_; refine wpO_cons ?_; refine op1_mov rfl (by (conv => lhs; whnf) <;> rfl) ?_; refine wpO_nil ?_; refine cut1 (by (conv => lhs; whnf) <;> rfl) ?_; (exact ⟨by simp_all, rfl⟩))); (focus (refine wp_skip ?_; refine cut1 (by (conv => lhs; whnf) <;> rfl) ?_; (exact ⟨by simp_all, rfl⟩))))); (focus (refine op1_skip rfl ?_; refine wpO_cons ?_; refine op1_skip rfl ?_; refine wpO_cons ?_; refine op1_pick_f rfl rfl (by (conv => lhs; whnf) <;> rfl) ?_; refine wpO_nil ?_; refine seq_normal ?_; refine wp_false rfl ?_; refine wp_skip ?_; refine cut1 (by (conv => lhs; whnf) <;> rfl) ?_; (exact ⟨by simp_all, rfl⟩))))); (focus (refine op1_skip rfl ?_; refine wpO_cons ?_; refine op1_skip rfl ?_; refine wpO_cons ?_; refine op1_pick_f rfl rfl (by (conv => lhs; whnf) <;> rfl) ?_; refine wpO_cons ?_; refine op1_mov rfl (by (conv => lhs; whnf) <;> rfl) ?_; refine wpO_cons ?_; refine op1_skip rfl ?_; refine wpO_cons ?_; refine op1_skip rfl ?_; refine wpO_cons ?_; refine op1_pick_f rfl rfl (by (conv => lhs; whnf) <;> rfl) ?_; refine wpO_nil ?_; refine seq_normal ?_; refine wp_false rfl ?_; refine wp_skip ?_; refine cut1 (by (conv => lhs; whnf) <;> rfl) ?_; (exact ⟨by simp_all, rfl⟩)))
  rintro vs' T1 H' ⟨rfl, rfl⟩
  generalize hmm : (if b = 21 ∧ s.has 1 = true ∧ s.has 2 = true then (3331 : Int) else 4064) = most
  refine wp_seq ?_; refine wp_seq ?_; refine wp_region ?_; refine wpO_cons ?_; refine op1_mov rfl (by (conv => lhs; whnf) <;> rfl) ?_; refine wpO_cons ?_; refine op1_nilchk rfl rfl ?_; refine wpO_cons ?_; refine op1_faddr0 rfl rfl ?_; refine wpO_cons ?_; refine op1_load rfl rfl (by assumption) rfl ?_; refine wpO_cons ?_; refine op1_len rfl rfl ?_; refine wpO_cons ?_; refine op1_mov rfl (by (conv => lhs; whnf) <;> rfl) ?_; refine wpO_cons ?_; refine op1_gtr rfl rfl rfl ?_; refine wpO_nil ?_; refine seq_normal ?_
  unfold PT.room
  rw [hmm]
  refine wp_dec rfl (fun h1 => ?_) (fun h1 => ?_)
  · rw [if_pos h1]
    refine wp_seq ?_; refine wp_region ?_; refine wpO_cons ?_; refine op1_mov rfl (by (conv => lhs; whnf) <;> rfl) ?_; refine wpO_nil ?_; refine seq_normal ?_; refine wp_ret ?_; refine seq_ret ?_; refine ret_of ?_; refine rk_tmp (by (conv => lhs; whnf) <;> rfl) ?_; refine rk_nil ?_
    exact ⟨rfl, rfl⟩
  rw [if_neg h1]
  refine wp_skip ?_; refine seq_normal ?_; refine wp_seq ?_
  refine wp_cut [49] (fun vs H2 => vs = [.bool (decide ((s.has 32 = true ∧ (b = 19 ∨ b = 17)) ∨ (s.has 4 = true ∧ (sendOf b).isSome = true)))] ∧ H = H2) ?_ ?_
  · have hso := sendOf_some b
    refine wp_region ?_; refine wpO_cons ?_; refine op1_mov rfl (by (conv => lhs; whnf) <;> rfl) ?_; refine wpO_cons ?_; refine op1_call2 rfl (by (conv => lhs; whnf) <;> rfl) (by (conv => lhs; whnf) <;> rfl) ?_; (refine wpF_mono (L73 hR _) ?_; rintro _ _ ⟨rfl, rfl⟩); refine wpO_cons ?_; refine op1_mov rfl (by (conv => lhs; whnf) <;> rfl) ?_; refine wpO_cons ?_; refine op1_split rfl (fun hc0 => ?_) (fun hc0 => ?_); (focus (refine op1_mov rfl (by (conv => lhs; whnf) <;> rfl) ?_; refine wpO_cons ?_; refine op1_eqlI rfl rfl rfl ?_; refine wpO_cons ?_; refine op1_mov rfl (by (conv => lhs; whnf) <;> rfl) ?_; refine wpO_cons ?_; refine op1_split rfl (fun hc1 => ?_) (fun hc1 => ?_); (focus (refine op1_skip rfl ?_; refine wpO_cons ?_; refine op1_skip rfl ?_; refine wpO_cons ?_; refine op1_pick_t rfl rfl (by (conv => lhs; whnf) <;> rfl) ?_; refine wpO_cons ?_; refine op1_pick_t rfl rfl (by (conv => lhs; whnf) <;> rfl) ?_; refine wpO_cons ?_; refine op1_mov rfl (by (conv => lhs; whnf) <;> rfl) ?_; refine wpO_cons ?_; refine op1_skip rfl ?_; refine wpO_cons ?_; refine op1_skip rfl ?_; refine wpO_cons ?_; refine op1_skip rfl ?_; refine wpO_cons ?_; refine op1_skip rfl ?_; refine wpO_cons ?_; refine op1_skip rfl ?_; refine wpO_cons ?_; refine op1_skip rfl ?_; refine wpO_cons ?_; refine op1_skip rfl ?_; refine wpO_cons ?_; refine op1_skip rfl ?_; refine wpO_cons ?_; refine op1_skip rfl ?_; refine wpO_cons ?_; refine op1_skip rfl ?_; refine wpO_cons ?_; refine op1_skip rfl ?_; refine wpO_cons ?_; refine op1_skip rfl ?_; refine wpO_cons ?_; refine op1_skip rfl ?_; refine wpO_cons ?_; refine op1_skip rfl ?_; refine wpO_cons ?_; refine op1_pick_t rfl rfl (by (conv => lhs; whnf) <;> rfl) ?_; refine wpO_nil ?_; refine cut1 (by (conv => lhs; whnf) <;> rfl) ?_; (exact ⟨by simp_all, rfl⟩))); (focus (refine op1_mov rfl (by (conv => lhs; whnf) <;> rfl) ?_; refine wpO_cons ?_; refine op1_eqlI rfl rfl rfl ?_; refine wpO_cons ?_; refine op1_pick_f rfl rfl (by (conv => lhs; whnf) <;> rfl) ?_; refine wpO_cons ?_; refine op1_pick_t rfl rfl (by (conv => lhs; whnf) <;> rfl) ?_; refine wpO_cons ?_; refine op1_mov rfl (by (conv => lhs; whnf) <;> rfl) ?_; refine wpO_cons ?_; refine op1_split rfl (fun hc2 => ?_) (fun hc2 => ?_); (focus (refine op1_skip rfl ?_; refine wpO_cons ?_; refine op1_skip rfl ?_; refine wpO_cons ?_; refine op1_skip rfl ?_; refine wpO_cons ?_; refine op1_skip rfl ?_; refine wpO_cons ?_; refine op1_skip rfl ?_; refine wpO_cons ?_; refine op1_skip rfl ?_; refine wpO_cons ?_; refine op1_skip rfl ?_; refine wpO_cons ?_; refine op1_skip rfl ?_; refine wpO_cons ?_; refine op1_skip rfl ?_; refine wpO_cons ?_; refine op1_skip rfl ?_; refine wpO_cons ?_; refine op1_skip rfl ?_; refine wpO_cons ?_; refine op1_skip rfl ?_; refine wpO_cons ?_; refine op1_skip rfl ?_; refine wpO_cons ?_; refine op1_skip rfl ?_; refine wpO_cons ?_; refine op1_pick_t rfl rfl (by (conv => lhs; whnf) <;> rfl) ?_; refine wpO_nil ?_; refine cut1 (by (conv => lhs; whnf) <;> rfl) ?_; (exact ⟨by simp_all, rfl⟩))); (focus (refine op1_mov rfl (by (conv => lhs; whnf) <;> rfl) ?_; refine wpO_cons ?_; refine op1_call2 rfl (by (conv => lhs; whnf) <;> rfl) (by (conv => lhs; whnf) <;> rfl) ?_; (refine wpF_mono (L73 hR _) ?_; rintro _ _ ⟨rfl, rfl⟩); refine wpO_cons ?_; refine op1_mov rfl (by (conv => lhs; whnf) <;> rfl) ?_; refine wpO_cons ?_; refine op1_split rfl (fun hc3 => ?_) (fun hc3 => ?_); (focus (refine op1_mov rfl (by (conv => lhs; whnf) <;> rfl) ?_; refine wpO_cons ?_; refine op1_eqlI rfl rfl rfl ?_; refine wpO_cons ?_; refine op1_mov rfl (by (conv => lhs; whnf) <;> rfl) ?_; refine wpO_cons ?_; refine op1_split rfl (fun hc4 => ?_) (fun hc4 => ?_); (focus (refine op1_skip rfl ?_; refine wpO_cons ?_; refine op1_skip rfl ?_; refine wpO_cons ?_; refine op1_pick_t rfl rfl (by (conv => lhs; whnf) <;> rfl) ?_; refine wpO_cons ?_; refine op1_mov rfl (by (conv => lhs; whnf) <;> rfl) ?_; refine wpO_cons ?_; refine op1_skip rfl ?_; refine wpO_cons ?_; refine op1_skip rfl ?_; refine wpO_cons ?_; refine op1_pick_t rfl rfl (by (conv => lhs; whnf) <;> rfl) ?_; refine wpO_cons ?_; refine op1_pick_t rfl rfl (by (conv => lhs; whnf) <;> rfl) ?_; refine wpO_cons ?_; refine op1_pick_f rfl rfl (by (conv => lhs; whnf) <;> rfl) ?_; refine wpO_nil ?_; refine cut1 (by (conv => lhs; whnf) <;> rfl) ?_; (exact ⟨by simp_all, rfl⟩))); (focus (refine op1_mov rfl (by (conv => lhs; whnf) <;> rfl) ?_; refine wpO_cons ?_; refine op1_eqlI rfl rfl rfl ?_; refine wpO_cons ?_; refine op1_pick_f rfl rfl (by (conv => lhs; whnf) <;> rfl) ?_; refine wpO_cons ?_; refine op1_mov rfl (by (conv => lhs; whnf) <;> rfl) ?_; refine wpO_cons ?_; refine op1_split rfl (fun hc5 => ?_) (fun hc5 => ?_); (focus (refine op1_skip rfl ?_; refine wpO_cons ?_; refine op1_skip rfl ?_; refine wpO_cons ?_; refine op1_pick_t rfl rfl (by (conv => lhs; whnf) <;> rfl) ?_; refine wpO_cons ?_; refine op1_pick_t rfl rfl (by (conv => lhs; whnf) <;> rfl) ?_; refine wpO_cons ?_; refine op1_pick_f rfl rfl (by (conv => lhs; whnf) <;> rfl) ?_; refine wpO_nil ?_; refine cut1 (by (conv => lhs; whnf) <;> rfl) ?_; (exact ⟨by simp_all, rfl⟩))); (focus (refine op1_mov rfl (by (conv => lhs; whnf) <;> rfl) ?_; refine wpO_cons ?_; refine op1_eqlI rfl rfl rfl ?_; refine wpO_cons ?_; refine op1_pick_f rfl rfl (by (conv => lhs; whnf) <;> rfl) ?_; refine wpO_cons ?_; refine op1_pick_t rfl rfl (by (conv => lhs; whnf) <;> rfl) ?_; refine wpO_cons ?_; refine op1_pick_f rfl rfl (by (conv => lhs; whnf) <;> rfl) ?_; refine wpO_nil ?_; refine cut1 (by (conv => lhs; whnf) <;> rfl) ?_; (exact ⟨by simp_all, rfl⟩))))))); (focus (refine op1_skip rfl ?_; refine wpO_cons ?_; refine op1_skip rfl ?_; refine wpO_cons ?_; refine op1_skip rfl ?_; refine wpO_cons ?_; refine op1_skip rfl ?_; refine wpO_cons ?_; refine op1_skip rfl ?_; refine wpO_cons ?_; refine op1_skip rfl ?_; refine wpO_cons ?_; refine op1_skip rfl ?_; refine wpO_cons ?_; refine op1_skip rfl ?_; refine wpO_cons ?_; refine op1_skip rfl ?_; refine wpO_cons ?_; refine op1_skip rfl ?_; refine wpO_cons ?_; refine op1_pick_f rfl rfl (by (conv => lhs; whnf) <;> rfl) ?_; refine wpO_cons ?_; refine op1_pick_f rfl rfl (by (conv => lhs; whnf) <;> rfl) ?_; refine wpO_nil ?_; refine cut1 (by (conv => lhs; whnf) <;> rfl) ?_; (exact ⟨by simp_all, rfl⟩))))))))); (focus (refine op1_skip rfl ?_; refine wpO_cons ?_; refine op1_skip rfl ?_; refine wpO_cons ?_; refine op1_skip rfl ?_; refine wpO_cons ?_; refine op1_skip rfl ?_; refine wpO_cons ?_; refine op1_skip rfl ?_; refine wpO_cons ?_; refine op1_skip rfl ?_; refine wpO_cons ?_; refine op1_pick_f rfl rfl (by (conv => lhs; whnf) <;> rfl) ?_; refine wpO_cons ?_; refine op1_mov rfl (by (conv => lhs; whnf) <;> rfl) ?_; refine wpO_cons ?_; refine op1_mov rfl (by (conv => lhs; whnf) <;> rfl) ?_; refine wpO_cons ?_; refine op1_call2 rfl (by (conv => lhs; whnf) <;> rfl) (by (conv => lhs; whnf) <;> rfl) ?_; (refine wpF_mono (L73 hR _) ?_; rintro _ _ ⟨rfl, rfl⟩); refine wpO_cons ?_; refine op1_mov rfl (by (conv => lhs; whnf) <;> rfl) ?_; refine wpO_cons ?_; refine op1_split rfl (fun hc1 => ?_) (fun hc1 => ?_); (focus (refine op1_mov rfl (by (conv => lhs; whnf) <;> rfl) ?_; refine wpO_cons ?_; refine op1_eqlI rfl rfl rfl ?_; refine wpO_cons ?_; refine op1_mov rfl (by (conv => lhs; whnf) <;> rfl) ?_; refine wpO_cons ?_; refine op1_split rfl (fun hc2 => ?_) (fun hc2 => ?_); (focus (refine op1_skip rfl ?_; refine wpO_cons ?_; refine op1_skip rfl ?_; refine wpO_cons ?_; refine op1_pick_t rfl rfl (by (conv => lhs; whnf) <;> rfl) ?_; refine wpO_cons ?_; refine op1_mov rfl (by (conv => lhs; whnf) <;> rfl) ?_; refine wpO_cons ?_; refine op1_skip rfl ?_; refine wpO_cons ?_; refine op1_skip rfl ?_; refine wpO_cons ?_; refine op1_pick_t rfl rfl (by (conv => lhs; whnf) <;> rfl) ?_; refine wpO_cons ?_; refine op1_pick_t rfl rfl (by (conv => lhs; whnf) <;> rfl) ?_; refine wpO_cons ?_; refine op1_pick_f rfl rfl (by (conv => lhs; whnf) <;> rfl) ?_; refine wpO_nil ?_; refine cut1 (by (conv => lhs; whnf) <;> rfl) ?_; (exact ⟨by simp_all, rfl⟩))); (focus (refine op1_mov rfl (by (conv => lhs; whnf) <;> rfl) ?_; refine wpO_cons ?_; refine op1_eqlI rfl rfl rfl ?_; refine wpO_cons ?_; refine op1_pick_f rfl rfl (by (conv => lhs; whnf) <;> rfl) ?_; refine wpO_cons ?_; refine op1_mov rfl (by (conv => lhs; whnf) <;> rfl) ?_; refine wpO_cons ?_; refine op1_split rfl (fun hc3 => ?_) (fun hc3 => ?_); (focus (refine op1_skip rfl ?_; refine wpO_cons ?_; refine op1_skip rfl ?_; refine wpO_cons ?_; refine op1_pick_t rfl rfl (by (conv => lhs; whnf) <;> rfl) ?_; refine wpO_cons ?_; refine op1_pick_t rfl rfl (by (conv => lhs; whnf) <;> rfl) ?_; refine wpO_cons ?_; refine op1_pick_f rfl rfl (by (conv => lhs; whnf) <;> rfl) ?_; refine wpO_nil ?_; refine cut1 (by (conv => lhs; whnf) <;> rfl) ?_; (exact ⟨by simp_all, rfl⟩))); (focus (refine op1_mov rfl (by (conv => lhs; whnf) <;> rfl) ?_; refine wpO_cons ?_; refine op1_eqlI rfl rfl rfl ?_; refine wpO_cons ?_; refine op1_pick_f rfl rfl (by (conv => lhs; whnf) <;> rfl) ?_; refine wpO_cons ?_; refine op1_pick_t rfl rfl (by (conv => lhs; whnf) <;> rfl) ?_; refine wpO_cons ?_; refine op1_pick_f rfl rfl (by (conv => lhs; whnf) <;> rfl) ?_; refine wpO_nil ?_; refine cut1 (by (conv => lhs; whnf) <;> rfl) ?_; (exact ⟨by simp_all, rfl⟩))))))); (focus (refine op1_skip rfl ?_; refine wpO_cons ?_; refine op1_skip rfl ?_; refine wpO_cons ?_; refine op1_skip rfl ?_; refine wpO_cons ?_; refine op1_skip rfl ?_; refine wpO_cons ?_; refine op1_skip rfl ?_; refine wpO_cons ?_; refine op1_skip rfl ?_; refine wpO_cons ?_; refine op1_skip rfl ?_; refine wpO_cons ?_; refine op1_skip rfl ?_; refine wpO_cons ?_; refine op1_skip rfl ?_; refine wpO_cons ?_; refine op1_skip rfl ?_; refine wpO_cons ?_; refine op1_pick_f rfl rfl (by (conv => lhs; whnf) <;> rfl) ?_; refine wpO_cons ?_; refine op1_pick_f rfl rfl (by (conv => lhs; whnf) <;> rfl) ?_; refine wpO_nil ?_; refine cut1 (by (conv => lhs; whnf) <;> rfl) ?_; (exact ⟨by simp_all, rfl⟩)))))
  rintro vs2 T2 H2 ⟨rfl, rfl⟩
  refine wp_dec rfl (fun h2 => ?_) (fun h2 => ?_)
  · rw [if_pos h2]
    refine wp_seq ?_; refine wp_region ?_; refine wpO_cons ?_; refine op1_mov rfl (by (conv => lhs; whnf) <;> rfl) ?_; refine wpO_nil ?_; refine seq_normal ?_; refine wp_ret ?_; refine seq_ret ?_; refine ret_of ?_; refine rk_tmp (by (conv => lhs; whnf) <;> rfl) ?_; refine rk_nil ?_
    exact ⟨rfl, rfl⟩
  rw [if_neg h2]
  refine wp_skip ?_; refine seq_normal ?_; refine wp_seq ?_; refine wp_seq ?_; refine wp_region ?_; refine wpO_cons ?_; refine op1_mov rfl (by (conv => lhs; whnf) <;> rfl) ?_; refine wpO_cons ?_; refine op1_call2 rfl (by (conv => lhs; whnf) <;> rfl) (by (conv => lhs; whnf) <;> rfl) ?_; (refine wpF_mono (L73 hR _) ?_; rintro _ _ ⟨rfl, rfl⟩); refine wpO_nil ?_; refine seq_normal ?_
  refine wp_cond rfl (fun h3 => ?_) (fun h3 => ?_)
  · rw [if_pos h3]
    refine wp_seq ?_; refine wp_region ?_; refine wpO_cons ?_; refine op1_mov rfl (by (conv => lhs; whnf) <;> rfl) ?_; refine wpO_cons ?_; refine op1_eqlI rfl rfl rfl ?_; refine wpO_cons ?_; refine op1_mov rfl (by (conv => lhs; whnf) <;> rfl) ?_; refine wpO_cons ?_; refine op1_split rfl (fun hc0 => ?_) (fun hc0 => ?_); (focus (refine op1_skip rfl ?_; refine wpO_cons ?_; refine op1_skip rfl ?_; refine wpO_cons ?_; refine op1_pick_t rfl rfl (by (conv => lhs; whnf) <;> rfl) ?_; refine wpO_cons ?_; refine op1_mov rfl (by (conv => lhs; whnf) <;> rfl) ?_; refine wpO_cons ?_; refine op1_mov rfl (by (conv => lhs; whnf) <;> rfl) ?_; refine wpO_cons ?_; refine op1_nilchk rfl rfl ?_; refine wpO_cons ?_; refine op1_faddr0 rfl rfl ?_; refine wpO_cons ?_; refine op1_load rfl rfl (by assumption) rfl ?_; refine wpO_cons ?_; refine op1_len rfl rfl ?_; refine wpO_cons ?_; refine op1_geq rfl rfl rfl ?_; refine wpO_cons ?_; refine op1_pick_t rfl rfl (by (conv => lhs; whnf) <;> rfl) ?_; refine wpO_cons ?_; refine op1_mov rfl (by (conv => lhs; whnf) <;> rfl) ?_; refine wpO_nil ?_; refine seq_normal ?_; refine wp_ret ?_; refine seq_ret ?_; refine ret_of ?_; refine rk_tmp (by (conv => lhs; whnf) <;> rfl) ?_; refine rk_nil ?_; (exact ⟨by simp only [resultV, Value.bool.injEq]; grind, rfl⟩))); (focus (refine op1_mov rfl (by (conv => lhs; whnf) <;> rfl) ?_; refine wpO_cons ?_; refine op1_eqlI rfl rfl rfl ?_; refine wpO_cons ?_; refine op1_pick_f rfl rfl (by (conv => lhs; whnf) <;> rfl) ?_; refine wpO_cons ?_; refine op1_mov rfl (by (conv => lhs; whnf) <;> rfl) ?_; refine wpO_cons ?_; refine op1_split rfl (fun hc1 => ?_) (fun hc1 => ?_); (focus (refine op1_mov rfl (by (conv => lhs; whnf) <;> rfl) ?_; refine wpO_cons ?_; refine op1_nilchk rfl rfl ?_; refine wpO_cons ?_; refine op1_faddr0 rfl rfl ?_; refine wpO_cons ?_; refine op1_load rfl rfl (by assumption) rfl ?_; refine wpO_cons ?_; refine op1_len rfl rfl ?_; refine wpO_cons ?_; refine op1_geq rfl rfl rfl ?_; refine wpO_cons ?_; refine op1_pick_t rfl rfl (by (conv => lhs; whnf) <;> rfl) ?_; refine wpO_cons ?_; refine op1_mov rfl (by (conv => lhs; whnf) <;> rfl) ?_; refine wpO_nil ?_; refine seq_normal ?_; refine wp_ret ?_; refine seq_ret ?_; refine ret_of ?_; refine rk_tmp (by (conv => lhs; whnf) <;> rfl) ?_; refine rk_nil ?_; (exact ⟨by simp only [resultV, Value.bool.injEq]; grind, rfl⟩))); (focus (refine op1_skip rfl ?_; refine wpO_cons ?_; refine op1_skip rfl ?_; refine wpO_cons ?_; refine op1_skip rfl ?_; refine wpO_cons ?_; refine op1_skip rfl ?_; refine wpO_cons ?_; refine op1_skip rfl ?_; refine wpO_cons ?_; refine op1_skip rfl ?_; refine wpO_cons ?_; refine op1_pick_f rfl rfl (by (conv => lhs; whnf) <;> rfl) ?_; refine wpO_cons ?_; refine op1_mov rfl (by (conv => lhs; whnf) <;> rfl) ?_; refine wpO_nil ?_; refine seq_normal ?_; refine wp_ret ?_; refine seq_ret ?_; refine ret_of ?_; refine rk_tmp (by (conv => lhs; whnf) <;> rfl) ?_; refine rk_nil ?_; (exact ⟨by simp only [resultV, Value.bool.injEq]; grind, rfl⟩)))))
  rw [if_neg (by rw [h3]; simp)]
  rcases s.input.eq_nil_or_concat with hnil | ⟨rs, ⟨d, r⟩, hin⟩
  · have e : lastRun s.input = none := by rw [hnil]; rfl
    rw [e]
    refine wp_skip ?_; refine seq_normal ?_; refine wp_seq ?_; refine wp_region ?_; refine wpO_cons ?_; refine op1_mov rfl (by (conv => lhs; whnf) <;> rfl) ?_; refine wpO_cons ?_; refine op1_nilchk rfl rfl ?_; refine wpO_cons ?_; refine op1_faddr0 rfl rfl ?_; refine wpO_cons ?_; refine op1_load rfl rfl (by assumption) rfl ?_; refine wpO_cons ?_; refine op1_len rfl rfl ?_; refine wpO_cons ?_; refine op1_mov rfl (by (conv => lhs; whnf) <;> rfl) ?_; refine wpO_nil ?_; refine seq_normal ?_; refine wp_seq ?_; refine wp_seq ?_; refine wp_region ?_; refine wpO_cons ?_; refine op1_mov rfl (by (conv => lhs; whnf) <;> rfl) ?_; refine wpO_cons ?_; refine op1_gtr rfl rfl rfl ?_; refine wpO_cons ?_; refine op1_mov rfl (by (conv => lhs; whnf) <;> rfl) ?_; refine wpO_cons ?_
    refine op1_dec rfl (fun h4 => ?_) (fun h4 => ?_)
    · rw [hnil] at h4; simp at h4
    refine op1_skip rfl ?_; refine wpO_cons ?_; refine op1_skip rfl ?_; refine wpO_cons ?_; refine op1_skip rfl ?_; refine wpO_cons ?_; refine op1_skip rfl ?_; refine wpO_cons ?_; refine op1_skip rfl ?_; refine wpO_cons ?_; refine op1_skip rfl ?_; refine wpO_cons ?_; refine op1_skip rfl ?_; refine wpO_cons ?_; refine op1_skip rfl ?_; refine wpO_cons ?_; refine op1_skip rfl ?_; refine wpO_cons ?_; refine op1_pick_f rfl rfl (by (conv => lhs; whnf) <;> rfl) ?_; refine wpO_nil ?_; refine seq_normal ?_; refine wp_false rfl ?_; refine wp_skip ?_; refine seq_normal ?_; refine wp_seq ?_; refine wp_region ?_; refine wpO_cons ?_; refine op1_mov rfl (by (conv => lhs; whnf) <;> rfl) ?_; refine wpO_cons ?_; refine op1_geq rfl rfl rfl ?_; refine wpO_cons ?_; refine op1_mov rfl (by (conv => lhs; whnf) <;> rfl) ?_; refine wpO_nil ?_; refine seq_normal ?_; refine wp_ret ?_; refine ret_of ?_; refine rk_tmp (by (conv => lhs; whnf) <;> rfl) ?_; refine rk_nil ?_
    exact ⟨by simp only [resultV, Value.bool.injEq]; grind, rfl⟩
  · rw [List.concat_eq_append] at hin
    have hrecs := h.recs
    rw [hin] at hrecs
    obtain ⟨cs0, vr, o1, o2, rfl, rfl, hr1, hr2⟩ := hrecs.last
    have hl1 := hr1.length
    obtain ⟨ar, cr, rfl⟩ := hr2.b1
    have hlen : s.input.length = rs.length + 1 := by rw [hin]; simp
    obtain ⟨bi, offi, csi, ei, roi, rfl, hoi, hgi, hle, hat⟩ := h.inp.rd.at (i := rs.length) (by omega)
    have ha0 := hat 0 (by omega)
    have ha1 := hat 1 (by omega)
    simp only [recC, Nat.add_zero, if_true] at ha0 ha1
    rw [List.getElem?_append_right (by omega), show rs.length * 2 - cs0.length = 0 by omega] at ha0
    rw [List.getElem?_append_right (by omega), show rs.length * 2 + 1 - cs0.length = 1 by omega] at ha1
    simp only [List.getElem?_cons_zero, List.getElem?_cons_succ] at ha0 ha1
    have e1 : ((s.input.length : Int) - 1).toNat = rs.length := by omega
    refine wp_skip ?_; refine seq_normal ?_; refine wp_seq ?_; refine wp_region ?_; refine wpO_cons ?_; refine op1_mov rfl (by (conv => lhs; whnf) <;> rfl) ?_; refine wpO_cons ?_; refine op1_nilchk rfl rfl ?_; refine wpO_cons ?_; refine op1_faddr0 rfl rfl ?_; refine wpO_cons ?_; refine op1_load rfl rfl (by assumption) rfl ?_; refine wpO_cons ?_; refine op1_len rfl rfl ?_; refine wpO_cons ?_; refine op1_mov rfl (by (conv => lhs; whnf) <;> rfl) ?_; refine wpO_nil ?_; refine seq_normal ?_; refine wp_seq ?_; refine wp_seq ?_; refine wp_region ?_; refine wpO_cons ?_; refine op1_mov rfl (by (conv => lhs; whnf) <;> rfl) ?_; refine wpO_cons ?_; refine op1_gtr rfl rfl rfl ?_; refine wpO_cons ?_; refine op1_mov rfl (by (conv => lhs; whnf) <;> rfl) ?_; refine wpO_cons ?_
    refine op1_dec rfl (fun h4 => ?_) (fun h4 => ?_)
    · refine op1_mov rfl (by (conv => lhs; whnf) <;> rfl) ?_; refine wpO_cons ?_; refine op1_nilchk rfl rfl ?_; refine wpO_cons ?_; refine op1_faddr0 rfl rfl ?_; refine wpO_cons ?_; refine op1_load rfl rfl (by assumption) rfl ?_; refine wpO_cons ?_; refine op1_mov rfl (by (conv => lhs; whnf) <;> rfl) ?_; refine wpO_cons ?_; refine op1_sub rfl rfl rfl (by exact wrap_i64 (by omega) (by omega)) ?_; refine wpO_cons ?_; refine op1_iaddr rfl rfl rfl (by omega) (by omega) ?_; refine wpO_cons ?_; refine op1_faddr rfl rfl ?_; refine wpO_cons ?_
      rw [e1]
      skip
      refine op1_load rfl rfl hgi ha0 ?_
      refine wpO_cons ?_; refine op1_pick_t rfl rfl (by (conv => lhs; whnf) <;> rfl) ?_; refine wpO_nil ?_; refine seq_normal ?_
      refine wp_cond rfl (fun h5 => ?_) (fun h5 => ?_)
      · subst h5
        have e : lastRun s.input = some d := by rw [hin]; unfold lastRun; simp
        rw [e]
        refine wp_seq ?_; refine wp_region ?_; refine wpO_cons ?_; refine op1_mov rfl (by (conv => lhs; whnf) <;> rfl) ?_; refine wpO_cons ?_; refine op1_nilchk rfl rfl ?_; refine wpO_cons ?_; refine op1_faddr0 rfl rfl ?_; refine wpO_cons ?_; refine op1_load rfl rfl (by assumption) rfl ?_; refine wpO_cons ?_; refine op1_mov rfl (by (conv => lhs; whnf) <;> rfl) ?_; refine wpO_cons ?_; refine op1_sub rfl rfl rfl (by exact wrap_i64 (by omega) (by omega)) ?_; refine wpO_cons ?_; refine op1_iaddr rfl rfl rfl (by omega) (by omega) ?_; refine wpO_cons ?_; refine op1_faddr rfl rfl ?_; refine wpO_cons ?_
        rw [e1]
        skip
        refine op1_load rfl rfl hgi ha1 ?_
        refine wpO_cons ?_; refine op1_len rfl rfl ?_; refine wpO_cons ?_; refine op1_geq rfl rfl rfl ?_; refine wpO_cons ?_; refine op1_mov rfl (by (conv => lhs; whnf) <;> rfl) ?_; refine wpO_nil ?_; refine seq_normal ?_; refine wp_ret ?_; refine seq_ret ?_; refine ret_of ?_; refine rk_tmp (by (conv => lhs; whnf) <;> rfl) ?_; refine rk_nil ?_
        exact ⟨by simp only [resultV, Value.bool.injEq]; grind, rfl⟩
      · subst h5
        have e : lastRun s.input = none := by rw [hin]; unfold lastRun; simp
        rw [e]
        refine wp_skip ?_; refine seq_normal ?_; refine wp_seq ?_; refine wp_region ?_; refine wpO_cons ?_; refine op1_mov rfl (by (conv => lhs; whnf) <;> rfl) ?_; refine wpO_cons ?_; refine op1_geq rfl rfl rfl ?_; refine wpO_cons ?_; refine op1_mov rfl (by (conv => lhs; whnf) <;> rfl) ?_; refine wpO_nil ?_; refine seq_normal ?_; refine wp_ret ?_; refine ret_of ?_; refine rk_tmp (by (conv => lhs; whnf) <;> rfl) ?_; refine rk_nil ?_
        exact ⟨by simp only [resultV, Value.bool.injEq]; grind, rfl⟩
    · omega
end Go.E.Pty

/- The reference's terminal: what a byte does. -/
namespace Go.E.Pty
open Go Go.E Go.Proofs.YtfgejkhhkacknaaDoor.base Go.Proofs.YtfgejkhhkacknaaDoor Go.Proofs
set_option linter.unusedVariables false
set_option linter.unusedSimpArgs false
set_option maxRecDepth 100000

def PT.canon (s : PT) (b : Int) : PT :=
  if b = 4 then s.endL
  else if b = 10 then s.next b
  else if b = 21 then s.kill
  else if b = 127 then s.erase
  else if 254 ≤ s.line.length then s.outs [7]
  else ({ s with line := s.line ++ [b] } : PT).echo [b]

def PT.bs (s : PT) : PT := s.echo [8, 32, 8]
theorem out1_line (s : PT) (b : Int) (l : List Int) : ({ s with line := l } : PT).out1 b = { s.out1 b with line := l } := rfl
theorem outs_line' (s : PT) (x l : List Int) : ({ s with line := l } : PT).outs x = { s.outs x with line := l } := by
  induction x generalizing s with
  | nil => rfl
  | cons b x ih => exact ih (s.out1 b)
theorem echo_line' (s : PT) (x l : List Int) : ({ s with line := l } : PT).echo x = { s.echo x with line := l } := by
  have h : ({ s with line := l } : PT).has 2 = s.has 2 := rfl
  unfold PT.echo
  rw [h]
  split
  · exact outs_line' s x l
  · rfl
theorem iter_bs_line (s : PT) : ∀ i, (iter PT.bs i s).line = s.line
  | 0 => rfl
  | i + 1 => by simp only [iter, PT.bs]; rw [(echo_line _ _).1]; exact iter_bs_line s i
theorem iter_bs (s : PT) : ∀ i, i ≤ s.line.length → iter PT.erase i s = { iter PT.bs i s with line := s.line.take (s.line.length - i) }
  | 0, _ => by simp [iter]
  | i + 1, h => by
    simp only [iter]
    rw [iter_bs s i (by omega)]
    unfold PT.erase
    simp only [List.length_take]
    rw [if_pos (by omega)]
    have e : (List.take (s.line.length - i) s.line).take (min (s.line.length - i) s.line.length - 1) = s.line.take (s.line.length - (i + 1)) := by
      rw [List.take_take]; congr 1; omega
    rw [e]
    have := echo_line' (iter PT.bs i s) [8, 32, 8] (s.line.take (s.line.length - (i + 1)))
    exact this
theorem kill_bs (s : PT) : s.kill = { iter PT.bs s.line.length s with line := [] } := by
  unfold PT.kill
  rw [iter_bs s _ (Nat.le_refl _)]
  simp
theorem bs_len (s : PT) : ∀ i, (iter PT.bs i s).output.length ≤ s.output.length + 6 * i
  | 0 => by simp [iter]
  | i + 1 => by
    simp only [iter, PT.bs]
    have := echo_len (iter PT.bs i s) [8, 32, 8]
    have h2 := bs_len s i
    simp at this
    omega

theorem L85 {H : AHeap} {p : Nat} {s : PT} {O : List Nat} (h : RepT true H p s O) (b : Int) (hlim : s.input.length ≤ 100000) (h1 : s.line.length ≤ 1000) (h2 : s.output.length ≤ 800000) : wpF C 85 [.pointer (some ⟨p, 0, none⟩), .int .u8 b] H fun v H' => ∃ O', RepT true H' p (s.canon b) O' ∧ Ext O H O' H' := by
  have hR := h
  have hlt := h.lt
  obtain ⟨vl, vi, vo, vs, cells, ol, oi, orr, oo, os, h, rfl⟩ := h
  have hg := h.get
  obtain ⟨al, cl, rfl⟩ := h.line.b1
  obtain ⟨ai, li, ci, rfl, hli⟩ := h.inp.shape
  obtain rfl : li = s.input.length := by have := h.recs.length; omega
  have nd := h.nd
  have lt := h.lt
  simp only [List.nodup_cons, List.nodup_append, List.mem_append] at nd
  refine wpF_ofW o85 rfl rfl ?_
  unfold PT.canon
  refine wp_seq ?_; refine wp_region ?_; refine wpO_cons ?_; refine op1_mov rfl (by (conv => lhs; whnf) <;> rfl) ?_; refine wpO_cons ?_; refine op1_nilchk rfl rfl ?_; refine wpO_cons ?_; refine op1_faddr0 rfl rfl ?_; refine wpO_cons ?_; refine op1_load rfl rfl (by with_reducible assumption) rfl ?_; refine wpO_cons ?_; refine op1_len rfl rfl ?_; refine wpO_cons ?_; refine op1_mov rfl (by (conv => lhs; whnf) <;> rfl) ?_; refine wpO_nil ?_; refine seq_normal ?_; refine wp_seq ?_; refine wp_region ?_; refine wpO_cons ?_; refine op1_mov rfl (by (conv => lhs; whnf) <;> rfl) ?_; refine wpO_nil ?_; refine seq_normal ?_; refine wp_block ?_; refine wp_seq ?_; refine wp_region ?_; refine wpO_cons ?_; refine op1_eqlI rfl rfl rfl ?_; refine wpO_cons ?_; refine op1_mov rfl (by (conv => lhs; whnf) <;> rfl) ?_; refine wpO_nil ?_; refine seq_normal ?_
  refine wp_dec rfl (fun hc => ?_) (fun hc => ?_)
  · subst hc
    rw [if_neg (by decide), if_neg (by decide), if_neg (by decide), if_pos rfl]
    refine wp_seq ?_; refine wp_region ?_; refine wpO_cons ?_; refine op1_mov rfl (by (conv => lhs; whnf) <;> rfl) ?_; refine wpO_cons ?_; refine op1_gtr rfl rfl rfl ?_; refine wpO_nil ?_; refine seq_normal ?_
    refine wp_dec rfl (fun hh => ?_) (fun hh => ?_)
    · refine wp_seq ?_; refine wp_region ?_; refine wpO_cons ?_; refine op1_mov rfl (by (conv => lhs; whnf) <;> rfl) ?_; refine wpO_cons ?_; refine op1_mov rfl (by (conv => lhs; whnf) <;> rfl) ?_; refine wpO_cons ?_; refine op1_nilchk rfl rfl ?_; refine wpO_cons ?_; refine op1_faddr0 rfl rfl ?_; refine wpO_cons ?_; refine op1_load rfl rfl (by with_reducible assumption) rfl ?_; refine wpO_cons ?_; refine op1_mov rfl (by (conv => lhs; whnf) <;> rfl) ?_; refine wpO_cons ?_; refine op1_sub rfl rfl rfl (by exact wrap_i64 (by omega) (by omega)) ?_; refine wpO_cons ?_
      refine op1_sliceO rfl rfl h.line (bnds_hi (by omega) (by have := h.line.len_le; omega)) (by omega) (by omega) ?_
      intro a' c' hO
      refine wpO_cons ?_; refine op1_nilchk rfl rfl ?_; refine wpO_cons ?_; refine op1_faddr0 rfl rfl ?_; refine wpO_cons ?_; refine op1_store1 rfl rfl (by (conv => lhs; whnf) <;> rfl) rfl rfl (by with_reducible assumption) rfl ?_; refine wpO_nil ?_; refine seq_normal ?_; refine wp_region ?_; refine wpO_cons ?_; refine op1_mov rfl (by (conv => lhs; whnf) <;> rfl) ?_; refine wpO_cons ?_; refine op1_bslice rfl ?_; refine bk_one (by (conv => lhs; whnf) <;> rfl) rfl rfl rfl ?_; refine bk_one (by (conv => lhs; whnf) <;> rfl) rfl rfl rfl ?_; refine bk_one (by (conv => lhs; whnf) <;> rfl) rfl rfl rfl ?_; refine bk_nil ?_; refine wpO_cons ?_; refine op1_call2 rfl (by (conv => lhs; whnf) <;> rfl) (by (conv => lhs; whnf) <;> rfl) ?_
      have hO' : SlO H 1 (.slice a' (((s.line.length : Int) - 1).toNat - 0) c') (bts (s.line.take (s.line.length - 1))) ol := by
        have e : (List.drop (0 * 1) (bts s.line)).take ((((s.line.length : Int) - 1).toNat - 0) * 1) = bts (s.line.take (s.line.length - 1)) := by
          rw [Nat.zero_mul, List.drop_zero, ← bts_take]
          congr 1
          omega
        rw [← e]
        exact hO
      obtain ⟨O1, hR1, hE1⟩ := h.setLine hO' (Ext.refl ol H)
      refine wpF_mono (L84new hR1 [8, 32, 8] (by show s.output.length + 2 * 3 ≤ 1000000; omega)) ?_
      rintro v H2 ⟨O2, hR2, hE2⟩
      refine wpO_nil ?_; refine block_normal ?_; refine nrm_of ?_; refine rk_nil ?_
      unfold PT.erase
      rw [if_pos (by omega)]
      exact ⟨O2, hR2, hE1.trans hE2 (fun b hb => (h.low b hb).2)⟩
    · refine wp_skip ?_; refine block_normal ?_; refine nrm_of ?_; refine rk_nil ?_
      unfold PT.erase
      rw [if_neg (by omega)]
      exact ⟨_, hR, Ext.refl _ _⟩
  refine wp_seq ?_; refine wp_region ?_; refine wpO_cons ?_; refine op1_eqlI rfl rfl rfl ?_; refine wpO_cons ?_; refine op1_mov rfl (by (conv => lhs; whnf) <;> rfl) ?_; refine wpO_nil ?_; refine seq_normal ?_
  refine wp_dec rfl (fun hc2 => ?_) (fun hc2 => ?_)
  · subst hc2
    rw [if_neg (by decide), if_neg (by decide), if_pos rfl]
    refine wp_seq ?_; refine wp_seq ?_; refine wp_region ?_; refine wpO_cons ?_; refine op1_mov rfl (by (conv => lhs; whnf) <;> rfl) ?_; refine wpO_nil ?_; refine seq_normal ?_; refine wp_block ?_
    refine wp_loop [5] (fun k vs H' => ∃ i : Nat, vs = [.int .i64 i] ∧ i + k = s.line.length ∧ ∃ O', RepT true H' p (iter PT.bs i s) O' ∧ Ext (p :: (ol ++ (oi ++ (orr ++ (oo ++ os))))) H O' H') ⟨s.line.length, 0, rfl, by omega, _, hR, Ext.refl _ _⟩ ?_
    rintro k vs' T' H' ⟨i, rfl, hk, O', hRi, hE⟩
    have hbl := bs_len s i
    refine wp_seq ?_; refine wp_seq ?_; refine wp_region ?_; refine wpO_cons ?_; refine op1_mov rfl (by (conv => lhs; whnf) <;> rfl) ?_; refine wpO_cons ?_; refine op1_mov rfl (by (conv => lhs; whnf) <;> rfl) ?_; refine wpO_cons ?_; refine op1_lss rfl rfl rfl ?_; refine wpO_nil ?_; refine seq_normal ?_
    refine wp_dec rfl (fun hi => ?_) (fun hi => ?_)
    · refine wp_skip ?_; refine seq_normal ?_; refine wp_seq ?_; refine wp_block ?_; refine wp_region ?_; refine wpO_cons ?_; refine op1_mov rfl (by (conv => lhs; whnf) <;> rfl) ?_; refine wpO_cons ?_; refine op1_bslice rfl ?_; refine bk_one (by (conv => lhs; whnf) <;> rfl) rfl rfl rfl ?_; refine bk_one (by (conv => lhs; whnf) <;> rfl) rfl rfl rfl ?_; refine bk_one (by (conv => lhs; whnf) <;> rfl) rfl rfl rfl ?_; refine bk_nil ?_; refine wpO_cons ?_; refine op1_call2 rfl (by (conv => lhs; whnf) <;> rfl) (by (conv => lhs; whnf) <;> rfl) ?_
      refine wpF_mono (L84new hRi [8, 32, 8] (by show (iter PT.bs i s).output.length + 2 * 3 ≤ 1000000; omega)) ?_
      rintro v H2 ⟨O2, hR2, hE2⟩
      refine wpO_nil ?_; refine block_normal ?_; refine seq_normal ?_; refine wp_region ?_; refine wpO_cons ?_; refine op1_mov rfl (by (conv => lhs; whnf) <;> rfl) ?_; refine wpO_cons ?_; refine op1_add rfl rfl rfl (by exact wrap_i64 (by omega) (by omega)) ?_; refine wpO_cons ?_; refine op1_mov rfl (by (conv => lhs; whnf) <;> rfl) ?_; refine wpO_nil ?_
      exact ⟨k - 1, by omega, i + 1, rfl, by omega, O2, hR2, hE.trans hE2 hlt⟩
    · obtain rfl : i = s.line.length := by omega
      obtain ⟨vl2, vi2, vo2, vs2, cells2, ol2, oi2, orr2, oo2, os2, h2', rfl⟩ := hRi
      have hg2 := h2'.get
      refine wp_exit ?_; refine seq_exit ?_; refine iter_exit ?_; refine block_exit ?_; refine seq_normal ?_; refine wp_region ?_; refine wpO_cons ?_; refine op1_mov rfl (by (conv => lhs; whnf) <;> rfl) ?_; refine wpO_cons ?_; refine op1_nilchk rfl rfl ?_; refine wpO_cons ?_; refine op1_faddr0 rfl rfl ?_; refine wpO_cons ?_; refine op1_store1 rfl rfl (by (conv => lhs; whnf) <;> rfl) rfl rfl (by with_reducible assumption) rfl ?_; refine wpO_nil ?_; refine block_normal ?_; refine nrm_of ?_; refine rk_nil ?_
      rw [kill_bs]
      obtain ⟨O3, q1, q2⟩ := h2'.setLine (line' := []) (ol' := []) (vl' := .slice none 0 0) .nil ⟨Nat.le_refl _, fun _ _ _ => rfl, fun b hb => by simp at hb⟩
      exact ⟨O3, q1, hE.trans q2 hlt⟩
  refine wp_seq ?_; refine wp_region ?_; refine wpO_cons ?_; refine op1_eqlI rfl rfl rfl ?_; refine wpO_cons ?_; refine op1_mov rfl (by (conv => lhs; whnf) <;> rfl) ?_; refine wpO_nil ?_; refine seq_normal ?_
  refine wp_dec rfl (fun hc3 => ?_) (fun hc3 => ?_)
  · subst hc3
    rw [if_pos rfl]
    refine wp_seq ?_; refine wp_regionD ?_; refine wpD_cons ?_; refine op1_mov rfl (by (conv => lhs; whnf) <;> rfl) ?_; refine wpD_cons ?_; refine op1_mov rfl (by (conv => lhs; whnf) <;> rfl) ?_; refine wpD_cons ?_; refine op1_nilchk rfl rfl ?_; refine wpD_cons ?_; refine op1_faddr0 rfl rfl ?_; refine wpD_cons ?_; refine op1_load rfl rfl (by with_reducible assumption) rfl ?_; refine wpD_cons ?_; refine op1_mov rfl (by (conv => lhs; whnf) <;> rfl) ?_; refine wpD_cons ?_; refine op1_nilchk rfl rfl ?_; refine wpD_cons ?_; refine op1_faddr0 rfl rfl ?_; refine wpD_cons ?_; refine op1_load rfl rfl (by with_reducible assumption) rfl ?_; refine wpD_cons ?_; refine op1_build rfl ?_; refine bk_one (by (conv => lhs; whnf) <;> rfl) rfl rfl rfl ?_; refine bk_one (by (conv => lhs; whnf) <;> rfl) rfl rfl rfl ?_; refine bk_nil ?_; refine wpD_cons ?_; refine op1_bslice rfl ?_; refine bk_agg rfl rfl rfl rfl ?_; refine bk_nil ?_; refine wpD_cons ?_
    refine op1_appendN rfl rfl rfl rfl AHeap.ga_same rfl rfl (h.inp.add lt.2.2.1 _) (by omega) (fun b hb => by have := lt.2.2.1 b hb; simp only [AHeap.next_add]; omega) ?_
    intro a' c' o' H3 hO3 hE3
    have hg3 := h.get3 hE3 h.pn.2.1
    refine wpD_cons ?_; refine op1_nilchk rfl rfl ?_; refine wpD_cons ?_; refine op1_faddr0 rfl rfl ?_; refine wpD_cons ?_; refine op1_store1 rfl rfl (by (conv => lhs; whnf) <;> rfl) rfl rfl (by with_reducible assumption) rfl ?_; refine wpD_nil ?_; refine dk_of ?_ ?_; refine chk_skip ?_; refine chk_skip ?_; refine chk_skip ?_; refine chk_skip ?_; refine chk_cons 11 rfl rfl rfl ?_ ?_; refine chkFs_cons 4 rfl rfl ?_ ?_; exact chk_load rfl (by with_reducible refine AHeap.ga_lt (by omega) ?_; with_reducible assumption) rfl rfl; exact chkFs_nil; refine chk_skip ?_; refine chk_skip ?_; refine chk_skip ?_; refine chk_cons 7 rfl rfl rfl ?_ ?_; refine chkFs_cons 4 rfl rfl ?_ ?_; exact chk_load rfl (by with_reducible refine AHeap.ga_lt (by omega) ?_; with_reducible assumption) rfl rfl; exact chkFs_nil; refine chk_skip ?_; refine chk_skip ?_; refine chk_skip ?_; refine chk_skip ?_; refine chk_skip ?_; refine chk_skip ?_; exact chk_end; refine seq_normal ?_; refine wp_region ?_; refine wpO_cons ?_; refine op1_mov rfl (by (conv => lhs; whnf) <;> rfl) ?_; refine wpO_cons ?_; refine op1_nilchk rfl rfl ?_; refine wpO_cons ?_; refine op1_faddr0 rfl rfl ?_; refine wpO_cons ?_; refine op1_store1 rfl rfl (by (conv => lhs; whnf) <;> rfl) rfl rfl (by with_reducible exact AHeap.gs_same) rfl ?_; refine wpO_nil ?_; refine block_normal ?_; refine nrm_of ?_; refine rk_nil ?_
    refine fin_congr ?_ (set_set _ _ _ _) rfl
    have hE4 := (Ext.add oi H (.cells (recC true (.slice al s.line.length cl) false) 2 false)).trans hE3 lt.2.2.1
    have own := hE4.own
    have hr : RecsO H3 true (cells ++ (recC true (.slice al s.line.length cl) false ++ [])) (s.input ++ [(s.line, false)]) (orr ++ (ol ++ [])) :=
      (h.recs.frame fun b hb => hE4.keep b (lt.2.2.2.1 b hb) (by grind)).append (.cons (h.line.frame fun b hb => hE4.keep b (lt.2.1 b hb) (by grind)) .nil)
    rw [List.append_nil, List.append_nil] at hr
    have hs1 := hO3.single
    obtain ⟨q1, q2⟩ := h.setLI (line' := []) (inp' := s.input ++ [(s.line, false)]) (ol' := []) (vl' := .slice none 0 0) .nil hO3 hr ⟨hE4.next, fun b hb hn => hE4.keep b hb (by grind), fun b hb => by
      simp only [List.mem_append, List.nil_append] at hb ⊢
      grind⟩ (by simp only [List.nil_append, List.nodup_append, List.mem_append]; grind)
    exact ⟨_, ⟨_, _, _, _, _, _, _, _, _, _, q1, rfl⟩, q2⟩
  refine wp_seq ?_; refine wp_region ?_; refine wpO_cons ?_; refine op1_eqlI rfl rfl rfl ?_; refine wpO_cons ?_; refine op1_mov rfl (by (conv => lhs; whnf) <;> rfl) ?_; refine wpO_nil ?_; refine seq_normal ?_
  refine wp_dec rfl (fun hc4 => ?_) (fun hc4 => ?_)
  · subst hc4
    rw [if_neg (by decide), if_pos rfl]
    refine wp_seq ?_; refine wp_regionD ?_; refine wpD_cons ?_; refine op1_mov rfl (by (conv => lhs; whnf) <;> rfl) ?_; refine wpD_cons ?_; refine op1_mov rfl (by (conv => lhs; whnf) <;> rfl) ?_; refine wpD_cons ?_; refine op1_nilchk rfl rfl ?_; refine wpD_cons ?_; refine op1_faddr0 rfl rfl ?_; refine wpD_cons ?_; refine op1_load rfl rfl (by with_reducible assumption) rfl ?_; refine wpD_cons ?_; refine op1_bslice rfl ?_; refine bk_nil ?_; refine wpD_cons ?_; refine op1_mov rfl (by (conv => lhs; whnf) <;> rfl) ?_; refine wpD_cons ?_; refine op1_nilchk rfl rfl ?_; refine wpD_cons ?_; refine op1_faddr0 rfl rfl ?_; refine wpD_cons ?_; refine op1_load rfl rfl (by with_reducible refine AHeap.ga_lt (by omega) ?_; with_reducible assumption) rfl ?_; refine wpD_cons ?_; refine op1_bslice rfl ?_; refine bk_one (by (conv => lhs; whnf) <;> rfl) rfl rfl rfl ?_; refine bk_nil ?_; refine wpD_cons ?_
    refine op1_appendO rfl rfl (by (conv => lhs; whnf) <;> rfl) rfl ((SlO.new (vs := []) (n := 0) rfl).add (fun b hb => by simp at hb; subst hb; simp) _) rfl (((h.line.add lt.2.1 _).add (fun b hb => by have := lt.2.1 b hb; simp only [AHeap.next_add]; omega) _).rd.src (by omega) (k := s.line.length) (by simp [bts])) (by simp [bts]) (by rw [bts_take]; exact bts_one _) (by omega) (fun b hb => by simp at hb; subst hb; simp; omega) ?_
    intro a3 c3 o3 H3 hO3 hE3
    rw [List.nil_append, Nat.mul_one, List.take_of_length_le (by simp [bts])] at hO3
    have own3 := hE3.own
    have hlt3 := hE3.lt fun b hb => by simp at hb; subst hb; simp; omega
    have hn3 := hE3.next
    simp only [AHeap.next_add, List.mem_singleton] at own3 hn3
    have hg10 : H3.get (H.next + 1) = .cells [.int .u8 10] 1 false := (hE3.keep (H.next + 1) (by simp only [AHeap.next_add]; omega) (by simp)).trans (AHeap.ga_same (H := H.add (.cells [] 1 false)))
    refine wpD_cons ?_
    refine op1_appendN rfl rfl rfl rfl hg10 rfl rfl hO3 (by omega) hlt3 ?_
    intro a4 c4 o4 H4 hO4 hE4
    have hlt4 := hE4.lt hlt3
    have own4 := hE4.own
    have hn4 := hE4.next
    have hk4 : ∀ d, d < H.next → H4.get d = H.get d := fun d hd => (hE4.keep d (by omega) (fun hm => by have := own3 d hm; omega)).trans ((hE3.keep d (by simp only [AHeap.next_add]; omega) (by simp; omega)).trans (AHeap.ga_lt (by simp only [AHeap.next_add]; omega) (AHeap.ga_lt hd rfl)))
    have hfr4 : ∀ d ∈ o4, H.next ≤ d := fun d hd => by
      rcases own4 d hd with h5 | h5
      · have := own3 d h5; omega
      · omega
    have hi4 : SlO H4 2 (.slice ai s.input.length ci) cells oi := h.inp.frame fun b hb => hk4 b (lt.2.2.1 b hb)
    have hlt4i : ∀ b ∈ oi, b < H4.next := fun b hb => by have := lt.2.2.1 b hb; omega
    refine wpD_cons ?_; refine op1_build rfl ?_; refine bk_one (by (conv => lhs; whnf) <;> rfl) rfl rfl rfl ?_; refine bk_one (by (conv => lhs; whnf) <;> rfl) rfl rfl rfl ?_; refine bk_nil ?_; refine wpD_cons ?_; refine op1_bslice rfl ?_; refine bk_agg rfl rfl rfl rfl ?_; refine bk_nil ?_; refine wpD_cons ?_
    refine op1_appendN rfl rfl rfl rfl AHeap.ga_same rfl rfl (hi4.add hlt4i _) (by omega) (fun b hb => by have := hlt4i b hb; simp only [AHeap.next_add]; omega) ?_
    intro a5 c5 o5 H5 hO5 hE5
    have hE6 := (Ext.add oi H4 (.cells (recC true (.slice a4 (0 + s.line.length + 1) c4) false) 2 false)).trans hE5 hlt4i
    have own6 := hE6.own
    have hn6 := hE6.next
    have hk6 : ∀ d, d < H.next → d ∉ oi → H5.get d = H.get d := fun d hd hn => (hE6.keep d (by omega) hn).trans (hk4 d hd)
    have hg5 : H5.get p = _ := (hk6 p lt.1 (by grind)).trans hg
    have hg4p : H4.get p = _ := (hk4 p lt.1).trans hg
    have hg3p : H3.get p = _ := ((hE3.keep p (by have := lt.1; simp only [AHeap.next_add]; omega) (by have := lt.1; simp; omega)).trans (AHeap.ga_lt (by have := lt.1; simp only [AHeap.next_add]; omega) (AHeap.ga_lt lt.1 hg)))
    refine wpD_cons ?_; refine op1_nilchk rfl rfl ?_; refine wpD_cons ?_; refine op1_faddr0 rfl rfl ?_; refine wpD_cons ?_; refine op1_store1 rfl rfl (by (conv => lhs; whnf) <;> rfl) rfl rfl (by with_reducible assumption) rfl ?_; refine wpD_nil ?_; refine dk_of ?_ ?_; refine chk_skip ?_; refine chk_skip ?_; refine chk_skip ?_; refine chk_skip ?_; refine chk_cons 15 rfl rfl rfl ?_ ?_; refine chkFs_cons 8 rfl rfl ?_ ?_; exact chk_load rfl (by with_reducible refine AHeap.ga_lt (by simp only [AHeap.next_set, AHeap.next_add]; omega) ?_; with_reducible refine AHeap.ga_lt (by omega) ?_; with_reducible assumption) rfl rfl; refine chkFs_cons 7 rfl rfl ?_ ?_; exact chk_load rfl (by with_reducible assumption) rfl rfl; refine chkFs_cons 4 rfl rfl ?_ ?_; exact chk_load rfl (by with_reducible refine AHeap.ga_lt (by omega) ?_; with_reducible assumption) rfl rfl; exact chkFs_nil; refine chk_skip ?_; refine chk_skip ?_; refine chk_skip ?_; refine chk_skip ?_; refine chk_cons 10 rfl rfl rfl ?_ ?_; refine chkFs_cons 8 rfl rfl ?_ ?_; exact chk_load rfl (by with_reducible refine AHeap.ga_lt (by simp only [AHeap.next_set, AHeap.next_add]; omega) ?_; with_reducible refine AHeap.ga_lt (by omega) ?_; with_reducible assumption) rfl rfl; exact chkFs_nil; refine chk_skip ?_; refine chk_skip ?_; refine chk_skip ?_; refine chk_skip ?_; refine chk_skip ?_; refine chk_skip ?_; refine chk_skip ?_; refine chk_skip ?_; refine chk_skip ?_; exact chk_end; refine seq_normal ?_; refine wp_seq ?_; refine wp_region ?_; refine wpO_cons ?_; refine op1_mov rfl (by (conv => lhs; whnf) <;> rfl) ?_; refine wpO_cons ?_; refine op1_nilchk rfl rfl ?_; refine wpO_cons ?_; refine op1_faddr0 rfl rfl ?_; refine wpO_cons ?_; refine op1_store1 rfl rfl (by (conv => lhs; whnf) <;> rfl) rfl rfl (by with_reducible exact AHeap.gs_same) rfl ?_; refine wpO_nil ?_; refine seq_normal ?_; refine wp_region ?_; refine wpO_cons ?_; refine op1_mov rfl (by (conv => lhs; whnf) <;> rfl) ?_; refine wpO_cons ?_; refine op1_bslice rfl ?_; refine bk_one (by (conv => lhs; whnf) <;> rfl) rfl rfl rfl ?_; refine bk_nil ?_; refine wpO_cons ?_; refine op1_call2 rfl (by (conv => lhs; whnf) <;> rfl) (by (conv => lhs; whnf) <;> rfl) ?_
    -- what was checked of the reads; then the line is dropped
    have hr : RecsO H5 true (cells ++ (recC true (.slice a4 (0 + s.line.length + 1) c4) false ++ [])) (s.input ++ [(s.line ++ [10], false)]) (orr ++ (o4 ++ [])) :=
      (h.recs.frame fun b hb => hk6 b (lt.2.2.2.1 b hb) (by grind)).append (.cons (by
        rw [bts_append]
        exact hO4.frame fun d hd => hE6.keep d (hlt4 d hd) (fun hm => by have := hfr4 d hd; have := lt.2.2.1 d hm; omega)) .nil)
    rw [List.append_nil, List.append_nil] at hr
    have hs1 := hO5.single
    have hs4 := hO4.single
    obtain ⟨q1, q2⟩ := h.setLI (line' := []) (inp' := s.input ++ [(s.line ++ [10], false)]) (ol' := []) (vl' := .slice none 0 0) .nil hO5 hr ⟨by omega, fun b hb hn => hk6 b hb (by grind), fun b hb => by
      simp only [List.mem_append, List.nil_append] at hb ⊢
      rcases hb with hb | hb | hb
      · rcases own6 b hb with h5 | h5
        · exact .inl (.inr (.inl h5))
        · exact .inr ⟨by omega, by omega⟩
      · exact .inl (.inr (.inr hb))
      · exact .inr ⟨hfr4 b hb, Nat.lt_of_lt_of_le (hlt4 b hb) hn6⟩⟩ (by
        simp only [List.nil_append, List.nodup_append, List.mem_append]
        have l1 := lt.2.2.1
        have l2 := lt.2.2.2.1
        grind)
    obtain ⟨O7, hR7, hE7⟩ := fin_congr (H2 := (H5.set p (.cells [.int .i64 s.modes, .int .i64 s.rows, .int .i64 s.cols, .slice al s.line.length cl, .slice a5 (s.input.length + 1) c5, vo, .bool s.stopped, vs, .bool s.hung] 0 false)).set p (.cells [.int .i64 s.modes, .int .i64 s.rows, .int .i64 s.cols, .slice none 0 0, .slice a5 (s.input.length + 1) c5, vo, .bool s.stopped, vs, .bool s.hung] 0 false)) ⟨_, ⟨_, _, _, _, _, _, _, _, _, _, q1, rfl⟩, q2⟩ (set_set _ _ _ _) rfl
    refine wpF_mono (L84new hR7 [10] (by show s.output.length + 2 * 1 ≤ 1000000; omega)) ?_
    rintro v H8 ⟨O8, hR8, hE8⟩
    refine wpO_nil ?_; refine block_normal ?_; refine nrm_of ?_; refine rk_nil ?_
    exact ⟨O8, hR8, hE7.trans hE8 hlt⟩
  rw [if_neg hc3, if_neg hc4, if_neg hc2, if_neg hc]
  refine wp_seq ?_; refine wp_region ?_; refine wpO_cons ?_; refine op1_mov rfl (by (conv => lhs; whnf) <;> rfl) ?_; refine wpO_cons ?_; refine op1_geq rfl rfl rfl ?_; refine wpO_nil ?_; refine seq_normal ?_
  refine wp_dec rfl (fun hc5 => ?_) (fun hc5 => ?_)
  · rw [if_pos (by omega)]
    refine wp_region ?_; refine wpO_cons ?_; refine op1_mov rfl (by (conv => lhs; whnf) <;> rfl) ?_; refine wpO_cons ?_; refine op1_bslice rfl ?_; refine bk_one (by (conv => lhs; whnf) <;> rfl) rfl rfl rfl ?_; refine bk_nil ?_; refine wpO_cons ?_; refine op1_call2 rfl (by (conv => lhs; whnf) <;> rfl) (by (conv => lhs; whnf) <;> rfl) ?_
    refine wpF_mono (L76new hR [7] (by show s.output.length + 2 * 1 ≤ 1000000; omega)) ?_
    rintro v H4 ⟨O4, hR4, hE4⟩
    refine wpO_nil ?_; refine block_normal ?_; refine nrm_of ?_; refine rk_nil ?_
    exact ⟨O4, hR4, hE4⟩
  rw [if_neg (by omega)]
  refine wp_seq ?_; refine wp_region ?_; refine wpO_cons ?_; refine op1_mov rfl (by (conv => lhs; whnf) <;> rfl) ?_; refine wpO_cons ?_; refine op1_bslice rfl ?_; refine bk_nil ?_; refine wpO_cons ?_; refine op1_mov rfl (by (conv => lhs; whnf) <;> rfl) ?_; refine wpO_cons ?_; refine op1_nilchk rfl rfl ?_; refine wpO_cons ?_; refine op1_faddr0 rfl rfl ?_; refine wpO_cons ?_; refine op1_load rfl rfl (by with_reducible refine AHeap.ga_lt (by omega) ?_; with_reducible assumption) rfl ?_; refine wpO_cons ?_
  refine op1_appendO rfl rfl (by (conv => lhs; whnf) <;> rfl) rfl (SlO.new (vs := []) (n := 0) rfl) rfl ((h.line.add lt.2.1 _).rd.src (by omega) (k := s.line.length) (by simp [bts])) (by simp [bts]) (by rw [bts_take]; exact bts_one _) (by omega) (fun b hb => by simp at hb; subst hb; simp) ?_
  intro a3 c3 o3 H3 hO3 hE3
  rw [List.nil_append, Nat.mul_one, List.take_of_length_le (by simp [bts])] at hO3
  have own3 := hE3.own
  have hlt3 := hE3.lt fun b hb => by simp at hb; subst hb; simp
  have hn3 := hE3.next
  simp only [AHeap.next_add] at own3 hn3
  refine wpO_cons ?_; refine op1_mov rfl (by (conv => lhs; whnf) <;> rfl) ?_; refine wpO_cons ?_; refine op1_bslice rfl ?_; refine bk_one (by (conv => lhs; whnf) <;> rfl) rfl rfl rfl ?_; refine bk_nil ?_; refine wpO_cons ?_
  refine op1_appendN rfl rfl rfl rfl AHeap.ga_same rfl rfl (hO3.add hlt3 _) (by omega) (fun b hb => by have := hlt3 b hb; simp only [AHeap.next_add]; omega) ?_
  intro a4 c4 o4 H4 hO4 hE4
  have hE5 := (Ext.add o3 H3 (.cells [.int .u8 b] 1 false)).trans hE4 hlt3
  have hk : ∀ d, d < H.next → H4.get d = H.get d := fun d hd => (hE5.keep d (by omega) (by grind)).trans ((hE3.keep d (by simp only [AHeap.next_add]; omega) (by simp; omega)).trans (by rw [AHeap.get_add, if_neg (by omega)]))
  have hn5 := hE5.next
  have own5 := hE5.own
  have hg4 : H4.get p = _ := (hk p lt.1).trans hg
  have hE6 : Ext ol H o4 H4 := ⟨by omega, fun d hd _ => hk d hd, fun d hd => .inr (by grind)⟩
  obtain ⟨O1, hR1, hE1⟩ := h.setLine (line' := s.line ++ [b]) (by rw [bts_append]; exact hO4) hE6
  refine wpO_cons ?_; refine op1_nilchk rfl rfl ?_; refine wpO_cons ?_; refine op1_faddr0 rfl rfl ?_; refine wpO_cons ?_; refine op1_store1 rfl rfl (by (conv => lhs; whnf) <;> rfl) rfl rfl (by with_reducible assumption) rfl ?_; refine wpO_nil ?_; refine seq_normal ?_; refine wp_region ?_; refine wpO_cons ?_; refine op1_mov rfl (by (conv => lhs; whnf) <;> rfl) ?_; refine wpO_cons ?_; refine op1_mov rfl (by (conv => lhs; whnf) <;> rfl) ?_; refine wpO_cons ?_; refine op1_bslice rfl ?_; refine bk_one (by (conv => lhs; whnf) <;> rfl) rfl rfl rfl ?_; refine bk_nil ?_; refine wpO_cons ?_; refine op1_call2 rfl (by (conv => lhs; whnf) <;> rfl) (by (conv => lhs; whnf) <;> rfl) ?_
  refine wpF_mono (L84new hR1 [b] (by show s.output.length + 2 * 1 ≤ 1000000; omega)) ?_
  rintro v H7 ⟨O7, hR7, hE7⟩
  refine wpO_nil ?_; refine block_normal ?_; refine nrm_of ?_; refine rk_nil ?_
  exact ⟨O7, hR7, hE1.trans hE7 hlt⟩
end Go.E.Pty

/- The reference's terminal: what a byte that is typed does. -/
namespace Go.E.Pty
open Go Go.E Go.Proofs.YtfgejkhhkacknaaDoor.base Go.Proofs.YtfgejkhhkacknaaDoor Go.Proofs
set_option linter.unusedVariables false
set_option linter.unusedSimpArgs false
set_option maxRecDepth 100000

theorem OpT.setRunT {H H3 : AHeap} {p : Nat} {s : PT} {vl vo vs v v' : Value} {cs0 csi : List Value} {ol o1 o2 oo os o2' : List Nat} {bi offi li ci : Nat} {rs : List (List Int × Bool)} {d' : List Int} {r : Bool} (h : OpT true H p s vl (.slice (some ⟨bi, offi, none⟩) li ci) vo vs (cs0 ++ recC true v r) ol [bi] (o1 ++ o2) oo os)
    (hr1 : RecsO H true cs0 rs o1) (hgi : H.get bi = .cells csi 2 false) (hO : SlO H3 1 v' (bts d') o2') (hE : Ext o2 H o2' H3) :
    ∃ O'', RepT true (H3.set bi (.cells (csi.set (offi + (rs.length * 2 + 1)) v') 2 false)) p { s with input := rs ++ [(d', r)] } O'' ∧
      Ext (p :: (ol ++ ([bi] ++ ((o1 ++ o2) ++ (oo ++ os))))) H O'' (H3.set bi (.cells (csi.set (offi + (rs.length * 2 + 1)) v') 2 false)) := by
  have nd := h.nd
  have low := h.low
  have own := hE.own
  have keep := hE.keep
  have hnx := hE.next
  have hl := hr1.length
  have hs1 := hO.single
  simp only [List.nodup_cons, List.nodup_append, List.mem_append, List.mem_cons, List.not_mem_nil, or_false] at nd low
  have k : ∀ b, b < H.next → b ∉ o2 → b ≠ bi → (H3.set bi (.cells (csi.set (offi + (rs.length * 2 + 1)) v') 2 false)).get b = H.get b := by
    intro b h1 h2 h3
    rw [AHeap.get_set, if_neg h3]
    exact keep b h1 h2
  have hi := h.inp.setAt (H1 := H3) hgi (rs.length * 2 + 1) v'
  have e : (cs0 ++ recC true v r).set (rs.length * 2 + 1) v' = cs0 ++ (recC true v' r ++ []) := by
    rw [List.set_append_right _ _ (by omega), hl, Nat.add_sub_cancel_left]
    simp [recC]
  rw [e] at hi
  refine ⟨p :: (ol ++ ([bi] ++ ((o1 ++ (o2' ++ [])) ++ (oo ++ os)))), ⟨vl, _, vo, vs, _, ol, [bi], o1 ++ (o2' ++ []), oo, os, ⟨⟨fun b hb => ?_, Nat.le_trans h.glob.le hnx⟩, (k p (by grind) (by grind) (by grind)).trans h.get, h.line.frame fun b hb => k b (by grind) (by grind) (by grind), hi, (hr1.frame fun b hb => k b (by grind) (by grind) (by grind)).append (.cons (hO.frame fun b hb => ?_) .nil), h.out.frame fun b hb => k b (by grind) (by grind) (by grind), h.sig.frame fun b hb => k b (by grind) (by grind) (by grind), ?_, ?_⟩, rfl⟩, ⟨hnx, ?_, ?_⟩⟩
  · rw [k b (Nat.lt_of_lt_of_le hb h.glob.le) (by grind) (by grind)]; exact h.glob.get b hb
  · rw [AHeap.get_set, if_neg (by grind)]
  · simp only [List.nodup_cons, List.nodup_append, List.mem_append, List.append_nil, List.mem_cons, List.not_mem_nil, or_false]; grind
  · simp only [List.mem_append, List.mem_cons, AHeap.next_set, List.append_nil, List.not_mem_nil, or_false]; grind [h.glob.le]
  · intro b h1 h2
    simp only [List.mem_append, List.mem_cons, List.not_mem_nil, or_false] at h2
    exact k b h1 (by grind) (by grind)
  · simp only [List.mem_append, List.mem_cons, AHeap.next_set, List.append_nil, List.not_mem_nil, or_false]; grind


theorem OpT.addRecT {H H3 : AHeap} {p : Nat} {s : PT} {vl vi vo vs vi' v : Value} {cells : List Value} {ol oi orr oo os oi' : List Nat} {d : List Int} {r : Bool} {z : AObj} (h : OpT true H p s vl vi vo vs cells ol oi orr oo os)
    (hv : SlO (H.add z) 1 v (bts d) [H.next]) (hi : SlO H3 2 vi' (cells ++ recC true v r) oi') (hE : Ext oi (H.add z) oi' H3) :
    ∃ O'', RepT true (H3.set p (.cells [.int .i64 s.modes, .int .i64 s.rows, .int .i64 s.cols, vl, vi', vo, .bool s.stopped, vs, .bool s.hung] 0 false)) p { s with input := s.input ++ [(d, r)] } O'' ∧
      Ext (p :: (ol ++ (oi ++ (orr ++ (oo ++ os))))) H O'' (H3.set p (.cells [.int .i64 s.modes, .int .i64 s.rows, .int .i64 s.cols, vl, vi', vo, .bool s.stopped, vs, .bool s.hung] 0 false)) := by
  have nd := h.nd
  have lt := h.lt
  have own := hE.own
  have keep := hE.keep
  have hnx := hE.next
  simp only [AHeap.next_add] at own keep hnx
  have hs1 := hi.single
  simp only [List.nodup_cons, List.nodup_append, List.mem_append] at nd
  have k : ∀ b, b < H.next → b ∉ oi → H3.get b = H.get b := fun b h1 h2 => (keep b (by omega) h2).trans (by rw [AHeap.get_add, if_neg (by omega)])
  have hr : RecsO H3 true (cells ++ (recC true v r ++ [])) (s.input ++ [(d, r)]) (orr ++ ([H.next] ++ [])) :=
    (h.recs.frame fun b hb => k b (lt.2.2.2.1 b hb) (by grind)).append (.cons (hv.frame fun b hb => keep b (by simp at hb; omega) (by have := lt.2.2.1; grind)) .nil)
  rw [List.append_nil] at hr
  have hli : SlO H3 1 vl (bts s.line) ol := h.line.frame fun b hb => k b (lt.2.1 b hb) (by grind)
  obtain ⟨h1, h2⟩ := h.setLI (line' := s.line) (ol' := ol) hli hi hr ⟨by omega, fun b hb hn => k b hb (by grind), fun b hb => by
    simp only [List.mem_append, List.append_nil, List.mem_cons, List.not_mem_nil, or_false] at hb ⊢
    grind⟩ (by simp only [List.append_nil, List.nodup_append, List.mem_append, List.mem_cons, List.not_mem_nil, or_false]; have := lt; grind)
  exact ⟨_, ⟨_, _, _, _, _, _, _, _, _, _, h1, rfl⟩, h2⟩


theorem process_canon {s : PT} {b : Int} (h1 : ¬(s.has 32 = true ∧ (b = 19 ∨ b = 17))) (h2 : ¬(s.has 4 = true ∧ (sendOf b).isSome = true)) (h3 : s.has 1 = true) : s.process b = s.canon b := by
  unfold PT.process PT.canon
  rw [if_neg h1, if_neg h2, if_neg (by rw [h3]; simp)]

def PT.feed (s : PT) (b : Int) : PT :=
  match lastRun s.input with
  | some d => { s with input := s.input.dropLast ++ [(d ++ [b], true)] }
  | none => { s with input := s.input ++ [([b], true)] }
theorem feed_some {s : PT} {b : Int} {d : List Int} (h : lastRun s.input = some d) : s.feed b = { s with input := s.input.dropLast ++ [(d ++ [b], true)] } := by unfold PT.feed; rw [h]
theorem feed_none {s : PT} {b : Int} (h : lastRun s.input = none) : s.feed b = { s with input := s.input ++ [([b], true)] } := by unfold PT.feed; rw [h]
theorem feed_out (s : PT) (b : Int) : (s.feed b).output = s.output := by unfold PT.feed; split <;> rfl
theorem process_feed {s : PT} {b : Int} (h1 : ¬(s.has 32 = true ∧ (b = 19 ∨ b = 17))) (h2 : ¬(s.has 4 = true ∧ (sendOf b).isSome = true)) (h3 : s.has 1 = false) : s.process b = (s.feed b).echo [b] := by
  unfold PT.process PT.feed
  rw [if_neg h1, if_neg h2, if_pos h3]
  cases lastRun s.input <;> rfl

theorem L75 {H : AHeap} {p : Nat} {s : PT} {O : List Nat} (h : RepT true H p s O) (b : Int) (hlim : s.input.length ≤ 100000) (h1 : s.line.length ≤ 1000) (h2 : s.output.length ≤ 800000) (h3 : ∀ x ∈ s.input, x.1.length ≤ 10000000) : wpF C 75 [.pointer (some ⟨p, 0, none⟩), .int .u8 b] H fun v H' => ∃ O', RepT true H' p (s.process b) O' ∧ Ext O H O' H' := by
  have hR := h
  have hlt := h.lt
  have hso := sendOf_some b
  obtain ⟨vl, vi, vo, vs, cells, ol, oi, orr, oo, os, h, rfl⟩ := h
  obtain ⟨ai, li, ci, rfl, hli⟩ := h.inp.shape
  obtain rfl : li = s.input.length := by have := h.recs.length; omega
  have hg := h.get
  have lt := h.lt
  refine wpF_ofW o75 rfl rfl ?_
  refine wp_seq ?_
  refine wp_cut [14] (fun vs H2 => vs = [.bool (decide (s.has 32 = true ∧ (b = 19 ∨ b = 17)))] ∧ H = H2) ?_ ?_
  · refine wp_region ?_; refine wpO_cons ?_; refine op1_mov rfl (by (conv => lhs; whnf) <;> rfl) ?_; refine wpO_cons ?_; refine op1_call2 rfl (by (conv => lhs; whnf) <;> rfl) (by (conv => lhs; whnf) <;> rfl) ?_; (refine wpF_mono (L73 hR _) ?_; rintro _ _ ⟨rfl, rfl⟩); refine wpO_cons ?_; refine op1_mov rfl (by (conv => lhs; whnf) <;> rfl) ?_; refine wpO_cons ?_; refine op1_split rfl (fun hc0 => ?_) (fun hc0 => ?_); (focus (refine op1_mov rfl (by (conv => lhs; whnf) <;> rfl) ?_; refine wpO_cons ?_; refine op1_eqlI rfl rfl rfl ?_; refine wpO_cons ?_; refine op1_mov rfl (by (conv => lhs; whnf) <;> rfl) ?_; refine wpO_cons ?_; refine op1_split rfl (fun hc1 => ?_) (fun hc1 => ?_); (focus (refine op1_skip rfl ?_; refine wpO_cons ?_; refine op1_skip rfl ?_; refine wpO_cons ?_; refine op1_pick_t rfl rfl (by (conv => lhs; whnf) <;> rfl) ?_; refine wpO_cons ?_; refine op1_pick_t rfl rfl (by (conv => lhs; whnf) <;> rfl) ?_; refine wpO_nil ?_; refine cut1 (by (conv => lhs; whnf) <;> rfl) ?_; (exact ⟨by simp_all, rfl⟩))); (focus (refine op1_mov rfl (by (conv => lhs; whnf) <;> rfl) ?_; refine wpO_cons ?_; refine op1_eqlI rfl rfl rfl ?_; refine wpO_cons ?_; refine op1_pick_f rfl rfl (by (conv => lhs; whnf) <;> rfl) ?_; refine wpO_cons ?_; refine op1_pick_t rfl rfl (by (conv => lhs; whnf) <;> rfl) ?_; refine wpO_nil ?_; refine cut1 (by (conv => lhs; whnf) <;> rfl) ?_; (exact ⟨by simp_all, rfl⟩))))); (focus (refine op1_skip rfl ?_; refine wpO_cons ?_; refine op1_skip rfl ?_; refine wpO_cons ?_; refine op1_skip rfl ?_; refine wpO_cons ?_; refine op1_skip rfl ?_; refine wpO_cons ?_; refine op1_skip rfl ?_; refine wpO_cons ?_; refine op1_skip rfl ?_; refine wpO_cons ?_; refine op1_pick_f rfl rfl (by (conv => lhs; whnf) <;> rfl) ?_; refine wpO_nil ?_; refine cut1 (by (conv => lhs; whnf) <;> rfl) ?_; (exact ⟨by simp_all, rfl⟩)))
  rintro vs2 T2 H2 ⟨rfl, rfl⟩
  refine wp_dec rfl (fun hc1 => ?_) (fun hc1 => ?_)
  · have e : s.process b = { s with stopped := decide (b = 19) } := by unfold PT.process; rw [if_pos hc1]
    rw [e]
    refine wp_seq ?_; refine wp_region ?_; refine wpO_cons ?_; refine op1_mov rfl (by (conv => lhs; whnf) <;> rfl) ?_; refine wpO_cons ?_; refine op1_mov rfl (by (conv => lhs; whnf) <;> rfl) ?_; refine wpO_cons ?_; refine op1_eqlI rfl rfl rfl ?_; refine wpO_cons ?_; refine op1_nilchk rfl rfl ?_; refine wpO_cons ?_; refine op1_faddr0 rfl rfl ?_; refine wpO_cons ?_; refine op1_store1 rfl rfl (by (conv => lhs; whnf) <;> rfl) rfl rfl (by with_reducible assumption) rfl ?_; refine wpO_nil ?_; refine seq_normal ?_; refine wp_ret ?_; refine seq_ret ?_; refine ret_of ?_; refine rk_nil ?_
    obtain ⟨q1, q2⟩ := h.setFl s.modes s.rows s.cols (decide (b = 19)) s.hung
    exact ⟨_, ⟨_, _, _, _, _, _, _, _, _, _, q1, rfl⟩, q2⟩
  refine wp_skip ?_; refine seq_normal ?_; refine wp_seq ?_
  refine wp_cut [33] (fun vs H2 => vs = [.bool (decide (s.has 4 = true ∧ (sendOf b).isSome = true))] ∧ H = H2) ?_ ?_
  · refine wp_region ?_; refine wpO_cons ?_; refine op1_mov rfl (by (conv => lhs; whnf) <;> rfl) ?_; refine wpO_cons ?_; refine op1_call2 rfl (by (conv => lhs; whnf) <;> rfl) (by (conv => lhs; whnf) <;> rfl) ?_; (refine wpF_mono (L73 hR _) ?_; rintro _ _ ⟨rfl, rfl⟩); refine wpO_cons ?_; refine op1_mov rfl (by (conv => lhs; whnf) <;> rfl) ?_; refine wpO_cons ?_; refine op1_split rfl (fun hc0 => ?_) (fun hc0 => ?_); (focus (refine op1_mov rfl (by (conv => lhs; whnf) <;> rfl) ?_; refine wpO_cons ?_; refine op1_eqlI rfl rfl rfl ?_; refine wpO_cons ?_; refine op1_mov rfl (by (conv => lhs; whnf) <;> rfl) ?_; refine wpO_cons ?_; refine op1_split rfl (fun hc1 => ?_) (fun hc1 => ?_); (focus (refine op1_skip rfl ?_; refine wpO_cons ?_; refine op1_skip rfl ?_; refine wpO_cons ?_; refine op1_pick_t rfl rfl (by (conv => lhs; whnf) <;> rfl) ?_; refine wpO_cons ?_; refine op1_mov rfl (by (conv => lhs; whnf) <;> rfl) ?_; refine wpO_cons ?_; refine op1_skip rfl ?_; refine wpO_cons ?_; refine op1_skip rfl ?_; refine wpO_cons ?_; refine op1_pick_t rfl rfl (by (conv => lhs; whnf) <;> rfl) ?_; refine wpO_cons ?_; refine op1_pick_t rfl rfl (by (conv => lhs; whnf) <;> rfl) ?_; refine wpO_nil ?_; refine cut1 (by (conv => lhs; whnf) <;> rfl) ?_; (exact ⟨by simp_all, rfl⟩))); (focus (refine op1_mov rfl (by (conv => lhs; whnf) <;> rfl) ?_; refine wpO_cons ?_; refine op1_eqlI rfl rfl rfl ?_; refine wpO_cons ?_; refine op1_pick_f rfl rfl (by (conv => lhs; whnf) <;> rfl) ?_; refine wpO_cons ?_; refine op1_mov rfl (by (conv => lhs; whnf) <;> rfl) ?_; refine wpO_cons ?_; refine op1_split rfl (fun hc2 => ?_) (fun hc2 => ?_); (focus (refine op1_skip rfl ?_; refine wpO_cons ?_; refine op1_skip rfl ?_; refine wpO_cons ?_; refine op1_pick_t rfl rfl (by (conv => lhs; whnf) <;> rfl) ?_; refine wpO_cons ?_; refine op1_pick_t rfl rfl (by (conv => lhs; whnf) <;> rfl) ?_; refine wpO_nil ?_; refine cut1 (by (conv => lhs; whnf) <;> rfl) ?_; (exact ⟨by simp_all, rfl⟩))); (focus (refine op1_mov rfl (by (conv => lhs; whnf) <;> rfl) ?_; refine wpO_cons ?_; refine op1_eqlI rfl rfl rfl ?_; refine wpO_cons ?_; refine op1_pick_f rfl rfl (by (conv => lhs; whnf) <;> rfl) ?_; refine wpO_cons ?_; refine op1_pick_t rfl rfl (by (conv => lhs; whnf) <;> rfl) ?_; refine wpO_nil ?_; refine cut1 (by (conv => lhs; whnf) <;> rfl) ?_; (exact ⟨by simp_all, rfl⟩))))))); (focus (refine op1_skip rfl ?_; refine wpO_cons ?_; refine op1_skip rfl ?_; refine wpO_cons ?_; refine op1_skip rfl ?_; refine wpO_cons ?_; refine op1_skip rfl ?_; refine wpO_cons ?_; refine op1_skip rfl ?_; refine wpO_cons ?_; refine op1_skip rfl ?_; refine wpO_cons ?_; refine op1_skip rfl ?_; refine wpO_cons ?_; refine op1_skip rfl ?_; refine wpO_cons ?_; refine op1_skip rfl ?_; refine wpO_cons ?_; refine op1_skip rfl ?_; refine wpO_cons ?_; refine op1_pick_f rfl rfl (by (conv => lhs; whnf) <;> rfl) ?_; refine wpO_nil ?_; refine cut1 (by (conv => lhs; whnf) <;> rfl) ?_; (exact ⟨by simp_all, rfl⟩)))
  rintro vs3 T3 H3 ⟨rfl, rfl⟩
  refine wp_dec rfl (fun hc2 => ?_) (fun hc2 => ?_)
  · have e : s.process b = ({ s.send ((sendOf b).getD 0) with line := [], input := [] } : PT).echo [94, b + 64, 10] := by unfold PT.process; rw [if_neg hc1, if_pos hc2]
    rw [e]
    have hb := hso.1 hc2.2
    skip
    refine wp_cut [] (fun _ H2 => ∃ O2, RepT true H2 p (s.send ((sendOf b).getD 0)) O2 ∧ Ext (p :: (ol ++ (oi ++ (orr ++ (oo ++ os))))) H O2 H2) ?_ ?_
    · rcases hb with rfl | rfl | rfl
      · refine wp_seq ?_; refine wp_region ?_; refine wpO_cons ?_; refine op1_mov rfl (by (conv => lhs; whnf) <;> rfl) ?_; refine wpO_nil ?_; refine seq_normal ?_; refine wp_block ?_; refine wp_seq ?_; refine wp_region ?_; refine wpO_cons ?_; refine op1_eqlI_s rfl rfl rfl ?_; refine wpO_cons ?_; refine op1_mov rfl (by (conv => lhs; whnf) <;> rfl) ?_; refine wpO_nil ?_; refine seq_normal ?_; refine wp_true rfl ?_; refine wp_region ?_; refine wpO_cons ?_; refine op1_mov rfl (by (conv => lhs; whnf) <;> rfl) ?_; refine wpO_cons ?_; refine op1_call2 rfl (by (conv => lhs; whnf) <;> rfl) (by (conv => lhs; whnf) <;> rfl) ?_
        refine wpF_mono (L77 hR 2) ?_
        rintro v H2 hq
        refine wpO_nil ?_; refine block_normal ?_; refine cut0  ?_
        exact hq
      · refine wp_seq ?_; refine wp_region ?_; refine wpO_cons ?_; refine op1_mov rfl (by (conv => lhs; whnf) <;> rfl) ?_; refine wpO_nil ?_; refine seq_normal ?_; refine wp_block ?_; refine wp_seq ?_; refine wp_region ?_; refine wpO_cons ?_; refine op1_eqlI rfl rfl rfl ?_; refine wpO_cons ?_; refine op1_mov rfl (by (conv => lhs; whnf) <;> rfl) ?_; refine wpO_nil ?_; refine seq_normal ?_; refine wp_false rfl ?_; refine wp_seq ?_; refine wp_region ?_; refine wpO_cons ?_; refine op1_eqlI_s rfl rfl rfl ?_; refine wpO_cons ?_; refine op1_mov rfl (by (conv => lhs; whnf) <;> rfl) ?_; refine wpO_nil ?_; refine seq_normal ?_; refine wp_true rfl ?_; refine wp_region ?_; refine wpO_cons ?_; refine op1_mov rfl (by (conv => lhs; whnf) <;> rfl) ?_; refine wpO_cons ?_; refine op1_call2 rfl (by (conv => lhs; whnf) <;> rfl) (by (conv => lhs; whnf) <;> rfl) ?_
        refine wpF_mono (L77 hR 3) ?_
        rintro v H2 hq
        refine wpO_nil ?_; refine block_normal ?_; refine cut0  ?_
        exact hq
      · refine wp_seq ?_; refine wp_region ?_; refine wpO_cons ?_; refine op1_mov rfl (by (conv => lhs; whnf) <;> rfl) ?_; refine wpO_nil ?_; refine seq_normal ?_; refine wp_block ?_; refine wp_seq ?_; refine wp_region ?_; refine wpO_cons ?_; refine op1_eqlI rfl rfl rfl ?_; refine wpO_cons ?_; refine op1_mov rfl (by (conv => lhs; whnf) <;> rfl) ?_; refine wpO_nil ?_; refine seq_normal ?_; refine wp_false rfl ?_; refine wp_seq ?_; refine wp_region ?_; refine wpO_cons ?_; refine op1_eqlI rfl rfl rfl ?_; refine wpO_cons ?_; refine op1_mov rfl (by (conv => lhs; whnf) <;> rfl) ?_; refine wpO_nil ?_; refine seq_normal ?_; refine wp_false rfl ?_; refine wp_region ?_; refine wpO_cons ?_; refine op1_mov rfl (by (conv => lhs; whnf) <;> rfl) ?_; refine wpO_cons ?_; refine op1_call2 rfl (by (conv => lhs; whnf) <;> rfl) (by (conv => lhs; whnf) <;> rfl) ?_
        refine wpF_mono (L77 hR 20) ?_
        rintro v H2 hq
        refine wpO_nil ?_; refine block_normal ?_; refine cut0  ?_
        exact hq
    rintro vs4 T4 H2 ⟨O2, hR2, hE2⟩
    obtain ⟨vl2, vi2, vo2, vs2, cells2, ol2, oi2, orr2, oo2, os2, h2', rfl⟩ := hR2
    have hg2 := h2'.get
    have hq := h2'.reset (A := .cells [.int .i64 (s.send ((sendOf b).getD 0)).modes, .int .i64 (s.send ((sendOf b).getD 0)).rows, .int .i64 (s.send ((sendOf b).getD 0)).cols, .slice none 0 0, vi2, vo2, .bool (s.send ((sendOf b).getD 0)).stopped, vs2, .bool (s.send ((sendOf b).getD 0)).hung] 0 false)
    refine wp_seq ?_; refine wp_region ?_; refine wpO_cons ?_; refine op1_mov rfl (by (conv => lhs; whnf) <;> rfl) ?_; refine wpO_cons ?_; refine op1_mov rfl (by (conv => lhs; whnf) <;> rfl) ?_; refine wpO_cons ?_; refine op1_nilchk rfl rfl ?_; refine wpO_cons ?_; refine op1_faddr0 rfl rfl ?_; refine wpO_cons ?_; refine op1_store1 rfl rfl (by (conv => lhs; whnf) <;> rfl) rfl rfl (by with_reducible assumption) rfl ?_; refine wpO_cons ?_; refine op1_nilchk rfl rfl ?_; refine wpO_cons ?_; refine op1_faddr0 rfl rfl ?_; refine wpO_cons ?_; refine op1_store1 rfl rfl (by (conv => lhs; whnf) <;> rfl) rfl rfl (by with_reducible exact AHeap.gs_same) rfl ?_; refine wpO_nil ?_; refine seq_normal ?_; refine wp_seq ?_; refine wp_region ?_; refine wpO_cons ?_; refine op1_mov rfl (by (conv => lhs; whnf) <;> rfl) ?_; refine wpO_cons ?_; refine op1_mov rfl (by (conv => lhs; whnf) <;> rfl) ?_; refine wpO_cons ?_; refine op1_add rfl rfl rfl (by exact wrap_u8 (by omega) (by omega)) ?_; refine wpO_cons ?_; refine op1_bslice rfl ?_; refine bk_one (by (conv => lhs; whnf) <;> rfl) rfl rfl rfl ?_; refine bk_one (by (conv => lhs; whnf) <;> rfl) rfl rfl rfl ?_; refine bk_one (by (conv => lhs; whnf) <;> rfl) rfl rfl rfl ?_; refine bk_nil ?_; refine wpO_cons ?_; refine op1_call2 rfl (by (conv => lhs; whnf) <;> rfl) (by (conv => lhs; whnf) <;> rfl) ?_
    obtain ⟨O3, hR3, hE3⟩ := hq
    have hsout : (s.send ((sendOf b).getD 0)).output = s.output := by unfold PT.send; split <;> rfl
    refine wpF_mono (L84new hR3 [94, b + 64, 10] (by show (s.send ((sendOf b).getD 0)).output.length + 2 * 3 ≤ 1000000; rw [hsout]; omega)) ?_
    rintro v H4 ⟨O4, hR4, hE4⟩
    refine wpO_nil ?_; refine seq_normal ?_; refine wp_ret ?_; refine seq_ret ?_; refine ret_of ?_; refine rk_nil ?_
    exact ⟨O4, hR4, (hE2.trans hE3 hlt).trans hE4 hlt⟩
  refine wp_skip ?_; refine seq_normal ?_; refine wp_seq ?_; refine wp_seq ?_; refine wp_region ?_; refine wpO_cons ?_; refine op1_mov rfl (by (conv => lhs; whnf) <;> rfl) ?_; refine wpO_cons ?_; refine op1_call2 rfl (by (conv => lhs; whnf) <;> rfl) (by (conv => lhs; whnf) <;> rfl) ?_; (refine wpF_mono (L73 hR _) ?_; rintro _ _ ⟨rfl, rfl⟩); refine wpO_nil ?_; refine seq_normal ?_
  refine wp_cond rfl (fun hc3 => ?_) (fun hc3 => ?_)
  · rw [process_canon hc1 hc2 hc3]
    refine wp_seq ?_; refine wp_region ?_; refine wpO_cons ?_; refine op1_mov rfl (by (conv => lhs; whnf) <;> rfl) ?_; refine wpO_cons ?_; refine op1_mov rfl (by (conv => lhs; whnf) <;> rfl) ?_; refine wpO_cons ?_; refine op1_call2 rfl (by (conv => lhs; whnf) <;> rfl) (by (conv => lhs; whnf) <;> rfl) ?_
    refine wpF_mono (L85 hR b hlim h1 h2) ?_
    rintro v H4 hq
    refine wpO_nil ?_; refine seq_normal ?_; refine wp_ret ?_; refine seq_ret ?_; refine ret_of ?_; refine rk_nil ?_
    exact hq
  rw [process_feed hc1 hc2 hc3]
  refine wp_skip ?_; refine seq_normal ?_; refine wp_seq ?_; refine wp_region ?_; refine wpO_cons ?_; refine op1_mov rfl (by (conv => lhs; whnf) <;> rfl) ?_; refine wpO_cons ?_; refine op1_nilchk rfl rfl ?_; refine wpO_cons ?_; refine op1_faddr0 rfl rfl ?_; refine wpO_cons ?_; refine op1_load rfl rfl (by with_reducible assumption) rfl ?_; refine wpO_cons ?_; refine op1_len rfl rfl ?_; refine wpO_cons ?_; refine op1_mov rfl (by (conv => lhs; whnf) <;> rfl) ?_; refine wpO_nil ?_; refine seq_normal ?_
  refine wp_cut [] (fun _ H2 => ∃ O2, RepT true H2 p (s.feed b) O2 ∧ Ext (p :: (ol ++ (oi ++ (orr ++ (oo ++ os))))) H O2 H2) ?_ ?_
  · rcases s.input.eq_nil_or_concat with hnil | ⟨rs, ⟨d, r⟩, hin⟩
    · have e : lastRun s.input = none := by rw [hnil]; rfl
      rw [feed_none e]
      refine wp_seq ?_; refine wp_region ?_; refine wpO_cons ?_; refine op1_mov rfl (by (conv => lhs; whnf) <;> rfl) ?_; refine wpO_cons ?_; refine op1_gtr rfl rfl rfl ?_; refine wpO_cons ?_; refine op1_mov rfl (by (conv => lhs; whnf) <;> rfl) ?_; refine wpO_cons ?_
      refine op1_dec rfl (fun h4 => ?_) (fun h4 => ?_)
      · rw [hnil] at h4; simp at h4
      refine op1_skip rfl ?_; refine wpO_cons ?_; refine op1_skip rfl ?_; refine wpO_cons ?_; refine op1_skip rfl ?_; refine wpO_cons ?_; refine op1_skip rfl ?_; refine wpO_cons ?_; refine op1_skip rfl ?_; refine wpO_cons ?_; refine op1_skip rfl ?_; refine wpO_cons ?_; refine op1_skip rfl ?_; refine wpO_cons ?_; refine op1_skip rfl ?_; refine wpO_cons ?_; refine op1_skip rfl ?_; refine wpO_cons ?_; refine op1_pick_f rfl rfl (by (conv => lhs; whnf) <;> rfl) ?_; refine wpO_nil ?_; refine seq_normal ?_; refine wp_false rfl ?_; refine wp_region ?_; refine wpO_cons ?_; refine op1_mov rfl (by (conv => lhs; whnf) <;> rfl) ?_; refine wpO_cons ?_; refine op1_mov rfl (by (conv => lhs; whnf) <;> rfl) ?_; refine wpO_cons ?_; refine op1_nilchk rfl rfl ?_; refine wpO_cons ?_; refine op1_faddr0 rfl rfl ?_; refine wpO_cons ?_; refine op1_load rfl rfl (by with_reducible assumption) rfl ?_; refine wpO_cons ?_; refine op1_mov rfl (by (conv => lhs; whnf) <;> rfl) ?_; refine wpO_cons ?_; refine op1_bslice rfl ?_; refine bk_one (by (conv => lhs; whnf) <;> rfl) rfl rfl rfl ?_; refine bk_nil ?_; refine wpO_cons ?_; refine op1_build rfl ?_; refine bk_one (by (conv => lhs; whnf) <;> rfl) rfl rfl rfl ?_; refine bk_one (by (conv => lhs; whnf) <;> rfl) rfl rfl rfl ?_; refine bk_nil ?_; refine wpO_cons ?_; refine op1_bslice rfl ?_; refine bk_agg rfl rfl rfl rfl ?_; refine bk_nil ?_; refine wpO_cons ?_
      skip
      have hN := lt.2.2.1
      have hgA := AHeap.ga_lt (o := .cells [.int .u8 b] 1 false) lt.1 hg
      have hiA := (h.inp.add hN (.cells [.int .u8 b] 1 false)).add (fun d hd => by have := hN d hd; simp only [AHeap.next_add]; omega) (.cells (recC true (.slice (some ⟨H.next, 0, none⟩) 1 1) true) 2 false)
      refine op1_appendN rfl rfl rfl rfl AHeap.ga_same rfl rfl hiA (by omega) (fun d hd => by have := hN d hd; simp only [AHeap.next_add]; omega) ?_
      intro a9 c9 o9 H9 hO9 hE9
      have hE10 : Ext oi (H.add (.cells (bts [b]) 1 false)) o9 H9 := (Ext.add oi (H.add (.cells (bts [b]) 1 false)) (.cells (recC true (.slice (some ⟨H.next, 0, none⟩) 1 1) true) 2 false)).trans hE9 (fun d hd => by have := hN d hd; simp only [AHeap.next_add]; omega)
      have hg9 := h.get3 hE10 h.pn.2.1
      refine wpO_cons ?_; refine op1_nilchk rfl rfl ?_; refine wpO_cons ?_; refine op1_faddr0 rfl rfl ?_; refine wpO_cons ?_; refine op1_store1 rfl rfl (by (conv => lhs; whnf) <;> rfl) rfl rfl (by with_reducible assumption) rfl ?_; refine wpO_nil ?_; refine cut0  ?_
      obtain ⟨O9, q1, q2⟩ := h.addRecT (d := [b]) (r := true) (v := .slice (some ⟨H.next, 0, none⟩) 1 1) (SlO.new rfl) hO9 hE10
      exact ⟨O9, q1, q2⟩
    · rw [List.concat_eq_append] at hin
      have hrecs := h.recs
      rw [hin] at hrecs
      obtain ⟨cs0, vr, o1, o2, rfl, rfl, hr1, hr2⟩ := hrecs.last
      have hl1 := hr1.length
      obtain ⟨ar, cr, rfl⟩ := hr2.b1
      have hlen : s.input.length = rs.length + 1 := by rw [hin]; simp
      obtain ⟨bi, offi, csi, rfl, rfl, hgi, hle, hat⟩ := h.inp.at (i := rs.length) (by omega)
      have ha0 := hat 0 (by omega)
      have ha1 := hat 1 (by omega)
      simp only [recC, Nat.add_zero, if_true] at ha0 ha1
      rw [List.getElem?_append_right (by omega), show rs.length * 2 - cs0.length = 0 by omega] at ha0
      rw [List.getElem?_append_right (by omega), show rs.length * 2 + 1 - cs0.length = 1 by omega] at ha1
      simp only [List.getElem?_cons_zero, List.getElem?_cons_succ] at ha0 ha1
      have e1 : ((s.input.length : Int) - 1).toNat = rs.length := by omega
      have hdl : d.length ≤ 10000000 := h3 (d, r) (by rw [hin]; simp)
      have hlo2 : ∀ d ∈ o2, d < H.next := fun d hd => lt.2.2.2.1 d (by simp [hd])
      have hbi := lt.2.2.1 bi (by simp)
      have hgiA := AHeap.ga_lt (o := .cells [] 1 false) hbi hgi
      have hgA := AHeap.ga_lt (o := .cells [] 1 false) lt.1 hg
      refine wp_seq ?_; refine wp_region ?_; refine wpO_cons ?_; refine op1_mov rfl (by (conv => lhs; whnf) <;> rfl) ?_; refine wpO_cons ?_; refine op1_gtr rfl rfl rfl ?_; refine wpO_cons ?_; refine op1_mov rfl (by (conv => lhs; whnf) <;> rfl) ?_; refine wpO_cons ?_
      refine op1_dec rfl (fun h4 => ?_) (fun h4 => ?_)
      · refine op1_mov rfl (by (conv => lhs; whnf) <;> rfl) ?_; refine wpO_cons ?_; refine op1_nilchk rfl rfl ?_; refine wpO_cons ?_; refine op1_faddr0 rfl rfl ?_; refine wpO_cons ?_; refine op1_load rfl rfl (by with_reducible assumption) rfl ?_; refine wpO_cons ?_; refine op1_mov rfl (by (conv => lhs; whnf) <;> rfl) ?_; refine wpO_cons ?_; refine op1_sub rfl rfl rfl (by exact wrap_i64 (by omega) (by omega)) ?_; refine wpO_cons ?_; refine op1_iaddr rfl rfl rfl (by omega) (by omega) ?_; refine wpO_cons ?_; refine op1_faddr rfl rfl ?_; refine wpO_cons ?_
        rw [e1]
        skip
        refine op1_load rfl rfl hgi ha0 ?_
        refine wpO_cons ?_; refine op1_pick_t rfl rfl (by (conv => lhs; whnf) <;> rfl) ?_; refine wpO_nil ?_; refine seq_normal ?_
        refine wp_cond rfl (fun h5 => ?_) (fun h5 => ?_)
        · subst h5
          have e : lastRun s.input = some d := by rw [hin]; unfold lastRun; simp
          rw [feed_some e]
          refine wp_regionD ?_; refine wpD_cons ?_; refine op1_mov rfl (by (conv => lhs; whnf) <;> rfl) ?_; refine wpD_cons ?_; refine op1_nilchk rfl rfl ?_; refine wpD_cons ?_; refine op1_faddr0 rfl rfl ?_; refine wpD_cons ?_; refine op1_load rfl rfl (by with_reducible assumption) rfl ?_; refine wpD_cons ?_; refine op1_mov rfl (by (conv => lhs; whnf) <;> rfl) ?_; refine wpD_cons ?_; refine op1_sub rfl rfl rfl (by exact wrap_i64 (by omega) (by omega)) ?_; refine wpD_cons ?_; refine op1_bslice rfl ?_; refine bk_nil ?_; refine wpD_cons ?_; refine op1_mov rfl (by (conv => lhs; whnf) <;> rfl) ?_; refine wpD_cons ?_; refine op1_nilchk rfl rfl ?_; refine wpD_cons ?_; refine op1_faddr0 rfl rfl ?_; refine wpD_cons ?_; refine op1_load rfl rfl (by with_reducible assumption) rfl ?_; refine wpD_cons ?_; refine op1_mov rfl (by (conv => lhs; whnf) <;> rfl) ?_; refine wpD_cons ?_; refine op1_sub rfl rfl rfl (by exact wrap_i64 (by omega) (by omega)) ?_; refine wpD_cons ?_; refine op1_iaddr rfl rfl rfl (by omega) (by omega) ?_; refine wpD_cons ?_; refine op1_faddr rfl rfl ?_; refine wpD_cons ?_
          rw [e1]
          skip
          refine op1_load rfl rfl hgiA ha1 ?_
          refine wpD_cons ?_; refine op1_mov rfl (by (conv => lhs; whnf) <;> rfl) ?_; refine wpD_cons ?_; refine op1_bslice rfl ?_; refine bk_one (by (conv => lhs; whnf) <;> rfl) rfl rfl rfl ?_; refine bk_nil ?_; refine wpD_cons ?_
          refine op1_appendO rfl rfl (by (conv => lhs; whnf) <;> rfl) rfl ((SlO.new (vs := []) (n := 0) rfl).add (fun b hb => by simp at hb; subst hb; simp) _) rfl (((hr2.add hlo2 _).add (fun d hd => by have := hlo2 d hd; simp only [AHeap.next_add]; omega) _).rd.src (by omega) (k := d.length) (by simp [bts])) (by simp [bts]) (by rw [bts_take]; exact bts_one _) (by omega) (fun b hb => by simp at hb; subst hb; simp; omega) ?_
          intro a5 c5 o5 H5 hO5 hE5
          rw [List.nil_append, Nat.mul_one, List.take_of_length_le (by simp [bts])] at hO5
          have own5 := hE5.own
          have hlt5 := hE5.lt fun b hb => by simp at hb; subst hb; simp; omega
          have hn5 := hE5.next
          simp only [AHeap.next_add, List.mem_singleton] at own5 hn5
          have hgc : H5.get (H.next + 1) = .cells [.int .u8 b] 1 false := (hE5.keep (H.next + 1) (by simp only [AHeap.next_add]; omega) (by simp)).trans (AHeap.ga_same (H := H.add (.cells [] 1 false)))
          have hk5 : ∀ d, d < H.next → H5.get d = H.get d := fun d hd => (hE5.keep d (by simp only [AHeap.next_add]; omega) (by simp; omega)).trans (AHeap.ga_lt (by simp only [AHeap.next_add]; omega) (AHeap.ga_lt hd rfl))
          refine wpD_cons ?_
          refine op1_appendN rfl rfl rfl rfl hgc rfl rfl hO5 (by omega) hlt5 ?_
          intro a6 c6 o6 H6 hO6 hE6
          have hlt6 := hE6.lt hlt5
          have own6 := hE6.own
          have hn6 := hE6.next
          have hk6 : ∀ d, d < H.next → H6.get d = H.get d := fun d hd => (hE6.keep d (by omega) (fun hm => by have := own5 d hm; omega)).trans (hk5 d hd)
          have hfr6 : ∀ d ∈ o6, H.next ≤ d := fun d hd => by
            rcases own6 d hd with h5 | h5
            · have := own5 d h5; omega
            · omega
          have hgi6 : H6.get bi = _ := (hk6 bi hbi).trans hgi
          have hgi5 : H5.get bi = _ := (hk5 bi hbi).trans hgi
          have hg6 : H6.get p = _ := (hk6 p lt.1).trans hg
          have hg5 : H5.get p = _ := (hk5 p lt.1).trans hg
          refine wpD_cons ?_; refine op1_iaddr rfl rfl rfl (by omega) (by omega) ?_; refine wpD_cons ?_; refine op1_faddr rfl rfl ?_; refine wpD_cons ?_
          refine op1_store1 rfl rfl (by (conv => lhs; whnf) <;> rfl) rfl rfl hgi6 (Nat.ble_eq_true_of_le (by omega)) ?_
          refine wpD_nil ?_; refine dk_of ?_ ?_; refine chk_skip ?_; refine chk_skip ?_; refine chk_skip ?_; refine chk_cons 20 rfl rfl rfl ?_ ?_; refine chkFs_cons 5 rfl rfl ?_ ?_; exact chk_load rfl (by with_reducible refine AHeap.ga_lt (by simp only [AHeap.next_set, AHeap.next_add]; omega) ?_; with_reducible assumption) rfl rfl; refine chkFs_cons 4 rfl rfl ?_ ?_; exact chk_load rfl (by with_reducible assumption) rfl rfl; refine chkFs_cons 1 rfl rfl ?_ ?_; exact chk_load rfl (by with_reducible assumption) rfl rfl; exact chkFs_nil; refine chk_skip ?_; refine chk_skip ?_; refine chk_skip ?_; refine chk_skip ?_; refine chk_skip ?_; refine chk_skip ?_; refine chk_cons 13 rfl rfl rfl ?_ ?_; refine chkFs_cons 5 rfl rfl ?_ ?_; exact chk_load rfl (by with_reducible refine AHeap.ga_lt (by simp only [AHeap.next_set, AHeap.next_add]; omega) ?_; with_reducible assumption) rfl rfl; exact chkFs_nil; refine chk_skip ?_; refine chk_skip ?_; refine chk_skip ?_; refine chk_skip ?_; refine chk_cons 8 rfl rfl rfl ?_ ?_; refine chkFs_cons 5 rfl rfl ?_ ?_
          · exact chk_load rfl (AHeap.ga_lt (by simp only [AHeap.next_add]; omega) hgiA) ha1 rfl
          exact chkFs_nil
          refine chk_skip ?_; refine chk_skip ?_; refine chk_skip ?_; refine chk_skip ?_; refine chk_skip ?_; refine chk_skip ?_; refine chk_skip ?_; exact chk_end
          refine cut0  ?_
          have hE7 : Ext o2 H o6 H6 := ⟨by omega, fun d hd _ => hk6 d hd, fun d hd => .inr ⟨hfr6 d hd, hlt6 d hd⟩⟩
          obtain ⟨O8, q1, q2⟩ := h.setRunT (d' := d ++ [b]) hr1 hgi (by rw [bts_append]; exact hO6) hE7
          have e5 : s.input.dropLast = rs := by rw [hin]; simp
          have e8 : offi + ((s.input.length : Int) - 1).toNat * 2 + 1 = offi + (rs.length * 2 + 1) := by omega
          rw [e5, e8]
          exact ⟨O8, q1, q2⟩
        · subst h5
          have e : lastRun s.input = none := by rw [hin]; unfold lastRun; simp
          rw [feed_none e]
          refine wp_region ?_; refine wpO_cons ?_; refine op1_mov rfl (by (conv => lhs; whnf) <;> rfl) ?_; refine wpO_cons ?_; refine op1_mov rfl (by (conv => lhs; whnf) <;> rfl) ?_; refine wpO_cons ?_; refine op1_nilchk rfl rfl ?_; refine wpO_cons ?_; refine op1_faddr0 rfl rfl ?_; refine wpO_cons ?_; refine op1_load rfl rfl (by with_reducible assumption) rfl ?_; refine wpO_cons ?_; refine op1_mov rfl (by (conv => lhs; whnf) <;> rfl) ?_; refine wpO_cons ?_; refine op1_bslice rfl ?_; refine bk_one (by (conv => lhs; whnf) <;> rfl) rfl rfl rfl ?_; refine bk_nil ?_; refine wpO_cons ?_; refine op1_build rfl ?_; refine bk_one (by (conv => lhs; whnf) <;> rfl) rfl rfl rfl ?_; refine bk_one (by (conv => lhs; whnf) <;> rfl) rfl rfl rfl ?_; refine bk_nil ?_; refine wpO_cons ?_; refine op1_bslice rfl ?_; refine bk_agg rfl rfl rfl rfl ?_; refine bk_nil ?_; refine wpO_cons ?_
          have hN := lt.2.2.1
          have hgA := AHeap.ga_lt (o := .cells [.int .u8 b] 1 false) lt.1 hg
          have hiA := (h.inp.add hN (.cells [.int .u8 b] 1 false)).add (fun d hd => by have := hN d hd; simp only [AHeap.next_add]; omega) (.cells (recC true (.slice (some ⟨H.next, 0, none⟩) 1 1) true) 2 false)
          refine op1_appendN rfl rfl rfl rfl AHeap.ga_same rfl rfl hiA (by omega) (fun d hd => by have := hN d hd; simp only [AHeap.next_add]; omega) ?_
          intro a9 c9 o9 H9 hO9 hE9
          have hE10 : Ext [bi] (H.add (.cells (bts [b]) 1 false)) o9 H9 := (Ext.add [bi] (H.add (.cells (bts [b]) 1 false)) (.cells (recC true (.slice (some ⟨H.next, 0, none⟩) 1 1) true) 2 false)).trans hE9 (fun d hd => by have := hN d hd; simp only [AHeap.next_add]; omega)
          have hg9 := h.get3 hE10 h.pn.2.1
          refine wpO_cons ?_; refine op1_nilchk rfl rfl ?_; refine wpO_cons ?_; refine op1_faddr0 rfl rfl ?_; refine wpO_cons ?_; refine op1_store1 rfl rfl (by (conv => lhs; whnf) <;> rfl) rfl rfl (by with_reducible assumption) rfl ?_; refine wpO_nil ?_; refine cut0  ?_
          obtain ⟨O9, q1, q2⟩ := h.addRecT (d := [b]) (r := true) (v := .slice (some ⟨H.next, 0, none⟩) 1 1) (SlO.new rfl) hO9 hE10
          exact ⟨O9, q1, q2⟩
      · omega
  rintro vs5 T5 H5 ⟨O5, hR5, hE5⟩
  refine wp_region ?_; refine wpO_cons ?_; refine op1_mov rfl (by (conv => lhs; whnf) <;> rfl) ?_; refine wpO_cons ?_; refine op1_mov rfl (by (conv => lhs; whnf) <;> rfl) ?_; refine wpO_cons ?_; refine op1_bslice rfl ?_; refine bk_one (by (conv => lhs; whnf) <;> rfl) rfl rfl rfl ?_; refine bk_nil ?_; refine wpO_cons ?_; refine op1_call2 rfl (by (conv => lhs; whnf) <;> rfl) (by (conv => lhs; whnf) <;> rfl) ?_
  refine wpF_mono (L84new hR5 [b] (by rw [feed_out]; show s.output.length + 2 * 1 ≤ 1000000; omega)) ?_
  rintro v H6 ⟨O6, hR6, hE6⟩
  refine wpO_nil ?_; refine nrm_of ?_; refine rk_nil ?_
  exact ⟨O6, hR6, hE5.trans hE6 hlt⟩
end Go.E.Pty

/- The reference's terminal: Type, Output, and the looks. -/
namespace Go.E.Pty
open Go Go.E Go.Proofs.YtfgejkhhkacknaaDoor.base Go.Proofs.YtfgejkhhkacknaaDoor Go.Proofs
set_option linter.unusedVariables false
set_option linter.unusedSimpArgs false
set_option maxRecDepth 100000

theorem L49 {H : AHeap} {p : Nat} {s : PT} {O : List Nat} (h : RepT true H p s O) {M N : Nat} (hI : Inv M N s) (hM : 255 ≤ M) (hM2 : M ≤ 1000000) (hN : 64 ≤ N) (hN2 : N ≤ 1000) {vd : Value} {l : List Int} {r : List Nat} (hd : RdS H 1 vd (bts l) r) (hr : ∀ b ∈ r, b < H.next ∧ b ∉ O) :
    wpF C 49 [.pointer (some ⟨p, 0, none⟩), vd] H fun v H' => v = .tuple ⟨[.int .i64 (s.type l).1, .int .i64 (s.type l).2.1]⟩ ∧ Inv M N (s.type l).2.2 ∧ ∃ O', RepT true H' p (s.type l).2.2 O' ∧ Ext O H O' H' := by
  obtain ⟨a, c, rfl⟩ := hd.b1
  have hR := h
  have hlt := h.lt
  obtain ⟨vl, vi, vo, vs, cells, ol, oi, orr, oo, os, h, rfl⟩ := h
  have hg := h.get
  refine wpF_ofW o49 rfl rfl ?_
  refine wp_seq ?_; refine wp_region ?_; refine wpO_cons ?_; refine op1_mov rfl (by (conv => lhs; whnf) <;> rfl) ?_; refine wpO_cons ?_; refine op1_mov rfl (by (conv => lhs; whnf) <;> rfl) ?_; refine wpO_nil ?_; refine seq_normal ?_; refine wp_seq ?_; refine wp_seq ?_; refine wp_region ?_; refine wpO_cons ?_; refine op1_mov rfl (by (conv => lhs; whnf) <;> rfl) ?_; refine wpO_cons ?_; refine op1_len rfl rfl ?_; refine wpO_cons ?_; refine op1_gtr rfl rfl rfl ?_; refine wpO_nil ?_; refine seq_normal ?_
  unfold PT.type
  refine wp_dec rfl (fun hc => ?_) (fun hc => ?_)
  · rw [if_pos (by omega)]
    refine wp_seq ?_; refine wp_region ?_; refine wpO_cons ?_; refine op1_mov rfl (by (conv => lhs; whnf) <;> rfl) ?_; refine wpO_cons ?_; refine op1_mov rfl (by (conv => lhs; whnf) <;> rfl) ?_; refine wpO_nil ?_; refine seq_normal ?_; refine wp_ret ?_; refine seq_ret ?_; refine ret_of ?_; refine rk_tmp (by (conv => lhs; whnf) <;> rfl) ?_; refine rk_tmp (by (conv => lhs; whnf) <;> rfl) ?_; refine rk_nil ?_
    exact ⟨rfl, hI, _, hR, Ext.refl _ _⟩
  rw [if_neg (by omega)]
  refine wp_skip ?_; refine seq_normal ?_; refine wp_seq ?_; refine wp_seq ?_; refine wp_region ?_; refine wpO_cons ?_; refine op1_mov rfl (by (conv => lhs; whnf) <;> rfl) ?_; refine wpO_cons ?_; refine op1_nilchk rfl rfl ?_; refine wpO_cons ?_; refine op1_faddr0 rfl rfl ?_; refine wpO_cons ?_; refine op1_load rfl rfl (by with_reducible assumption) rfl ?_; refine wpO_nil ?_; refine seq_normal ?_
  refine wp_cond rfl (fun hh => ?_) (fun hh => ?_)
  · rw [if_pos hh]
    refine wp_seq ?_; refine wp_region ?_; refine wpO_cons ?_; refine op1_mov rfl (by (conv => lhs; whnf) <;> rfl) ?_; refine wpO_cons ?_; refine op1_mov rfl (by (conv => lhs; whnf) <;> rfl) ?_; refine wpO_nil ?_; refine seq_normal ?_; refine wp_ret ?_; refine seq_ret ?_; refine ret_of ?_; refine rk_tmp (by (conv => lhs; whnf) <;> rfl) ?_; refine rk_tmp (by (conv => lhs; whnf) <;> rfl) ?_; refine rk_nil ?_
    exact ⟨rfl, hI, _, hR, Ext.refl _ _⟩
  rw [if_neg (by rw [hh]; simp)]
  refine wp_skip ?_; refine seq_normal ?_; refine wp_seq ?_; refine wp_region ?_; refine wpO_cons ?_; refine op1_mov rfl (by (conv => lhs; whnf) <;> rfl) ?_; refine wpO_nil ?_; refine seq_normal ?_
  refine wp_cut [6] (fun vs H' => vs = [.int .i64 (typeGo s l).1] ∧ Inv M N (typeGo s l).2 ∧ ∃ O', RepT true H' p (typeGo s l).2 O' ∧ Ext (p :: (ol ++ (oi ++ (orr ++ (oo ++ os))))) H O' H') ?_ ?_
  · refine wp_block ?_
    refine wp_loop [6] (fun k vs H' => ∃ (i : Nat) (si : PT), vs = [.int .i64 i] ∧ i + k = l.length ∧ Inv M N si ∧ typeGo s l = (i + (typeGo si (l.drop i)).1, (typeGo si (l.drop i)).2) ∧
      ∃ O', RepT true H' p si O' ∧ Ext (p :: (ol ++ (oi ++ (orr ++ (oo ++ os))))) H O' H') ⟨l.length, 0, s, rfl, by omega, hI, by simp, _, hR, Ext.refl _ _⟩ ?_
    rintro k vs' T' H' ⟨i, si, rfl, hk, hIi, hgo, O', hRi, hE⟩
    refine wp_seq ?_; refine wp_seq ?_; refine wp_region ?_; refine wpO_cons ?_; refine op1_mov rfl (by (conv => lhs; whnf) <;> rfl) ?_; refine wpO_cons ?_; refine op1_mov rfl (by (conv => lhs; whnf) <;> rfl) ?_; refine wpO_cons ?_; refine op1_len rfl rfl ?_; refine wpO_cons ?_; refine op1_lss rfl rfl rfl ?_; refine wpO_nil ?_; refine seq_normal ?_
    refine wp_dec rfl (fun hlt' => ?_) (fun hlt' => ?_)
    · have hi : i < l.length := by omega
      obtain ⟨b, off, cs, e, ro, v, rfl, rfl, hgb, hv, hx⟩ := hd.at1 hi
      have hgb' : H'.get b = .cells cs e ro := (hE.keep b (hr b (by simp)).1 (hr b (by simp)).2).trans hgb
      obtain ⟨x, hx', rfl⟩ : ∃ x, l[i]? = some x ∧ v = .int .u8 x := by
        simp only [bts, List.getElem?_map, Option.map_eq_some_iff] at hx
        obtain ⟨x, h1, h2⟩ := hx
        exact ⟨x, h1, h2.symm⟩
      have hdrop : l.drop i = x :: l.drop (i + 1) := by
        obtain ⟨_, hx2⟩ := List.getElem?_eq_some_iff.1 hx'
        rw [List.drop_eq_getElem_cons hi, hx2]
      rw [hdrop] at hgo
      refine wp_skip ?_; refine seq_normal ?_; refine wp_block ?_; refine wp_seq ?_; refine wp_region ?_; refine wpO_cons ?_; refine op1_mov rfl (by (conv => lhs; whnf) <;> rfl) ?_; refine wpO_cons ?_; refine op1_mov rfl (by (conv => lhs; whnf) <;> rfl) ?_; refine wpO_cons ?_; refine op1_iaddr rfl rfl rfl (by omega) (by omega) ?_; refine wpO_cons ?_
      refine op1_load rfl rfl hgb' hv ?_
      refine wpO_cons ?_; refine op1_mov rfl (by (conv => lhs; whnf) <;> rfl) ?_; refine wpO_nil ?_; refine seq_normal ?_
      refine wp_cut [7] (fun vs H2 => vs = [.int .u8 (si.map x)] ∧ H' = H2) ?_ ?_
      · refine wp_seq ?_; refine wp_region ?_; refine wpO_cons ?_; refine op1_mov rfl (by (conv => lhs; whnf) <;> rfl) ?_; refine wpO_cons ?_; refine op1_eqlI rfl rfl rfl ?_; refine wpO_cons ?_; refine op1_mov rfl (by (conv => lhs; whnf) <;> rfl) ?_; refine wpO_cons ?_; refine op1_split rfl (fun hc0 => ?_) (fun hc0 => ?_); (focus (refine op1_mov rfl (by (conv => lhs; whnf) <;> rfl) ?_; refine wpO_cons ?_; refine op1_call2 rfl (by (conv => lhs; whnf) <;> rfl) (by (conv => lhs; whnf) <;> rfl) ?_; (refine wpF_mono (L73 hRi _) ?_; rintro _ _ ⟨rfl, rfl⟩); refine wpO_cons ?_; refine op1_pick_t rfl rfl (by (conv => lhs; whnf) <;> rfl) ?_; refine wpO_nil ?_; refine seq_normal ?_; refine wp_cond rfl (fun hc1 => ?_) (fun hc1 => ?_); (focus (refine wp_region ?_; refine wpO_cons ?_; refine op1_mov rfl (by (conv => lhs; whnf) <;> rfl) ?_; refine wpO_nil ?_; refine cut1 (by (conv => lhs; whnf) <;> rfl) ?_; (exact ⟨by unfold PT.map; simp_all, rfl⟩))); (focus (refine wp_skip ?_; refine cut1 (by (conv => lhs; whnf) <;> rfl) ?_; (exact ⟨by unfold PT.map; simp_all, rfl⟩))))); (focus (refine op1_skip rfl ?_; refine wpO_cons ?_; refine op1_skip rfl ?_; refine wpO_cons ?_; refine op1_pick_f rfl rfl (by (conv => lhs; whnf) <;> rfl) ?_; refine wpO_nil ?_; refine seq_normal ?_; refine wp_false rfl ?_; refine wp_skip ?_; refine cut1 (by (conv => lhs; whnf) <;> rfl) ?_; (exact ⟨by unfold PT.map; simp_all, rfl⟩)))
      rintro vs2 T2 H2 ⟨rfl, rfl⟩
      refine wp_seq ?_; refine wp_seq ?_; refine wp_region ?_; refine wpO_cons ?_; refine op1_mov rfl (by (conv => lhs; whnf) <;> rfl) ?_; refine wpO_cons ?_; refine op1_mov rfl (by (conv => lhs; whnf) <;> rfl) ?_; refine wpO_cons ?_; refine op1_call2 rfl (by (conv => lhs; whnf) <;> rfl) (by (conv => lhs; whnf) <;> rfl) ?_
      refine wpF_mono (L74 hRi (si.map x) (by have := hIi.inp; omega)) ?_
      rintro v H2 ⟨rfl, rfl⟩
      refine wpO_nil ?_; refine seq_normal ?_
      refine wp_cond rfl (fun hroom => ?_) (fun hroom => ?_)
      · have hroom : si.room (si.map x) = false := by simpa using hroom
        have e : typeGo si (x :: l.drop (i + 1)) = (0, si) := by simp only [typeGo]; rw [if_neg (by rw [hroom]; simp)]
        rw [e] at hgo
        simp only [Nat.add_zero] at hgo
        simp only [hgo]
        refine wp_exit ?_; refine seq_exit ?_; refine block_other rfl ?_; refine iter_exit ?_; refine block_exit ?_; refine cut1 (by (conv => lhs; whnf) <;> rfl) ?_
        exact ⟨rfl, hIi, O', hRi, hE⟩
      · have hroom : si.room (si.map x) = true := by simpa using hroom
        simp only [typeGo] at hgo
        rw [if_pos hroom] at hgo
        refine wp_skip ?_; refine seq_normal ?_; refine wp_seq ?_; refine wp_region ?_; refine wpO_cons ?_; refine op1_mov rfl (by (conv => lhs; whnf) <;> rfl) ?_; refine wpO_cons ?_; refine op1_mov rfl (by (conv => lhs; whnf) <;> rfl) ?_; refine wpO_cons ?_; refine op1_call2 rfl (by (conv => lhs; whnf) <;> rfl) (by (conv => lhs; whnf) <;> rfl) ?_
        refine wpF_mono (L75 hRi (si.map x) (by have := hIi.inp; omega) (by have := hIi.line; omega) (by have := hIi.out; omega) (fun y hy => by have := hIi.recs y hy; omega)) ?_
        rintro v H3 ⟨O3, hR3, hE3⟩
        refine wpO_nil ?_; refine seq_normal ?_; refine wp_region ?_; refine wpO_cons ?_; refine op1_mov rfl (by (conv => lhs; whnf) <;> rfl) ?_; refine wpO_cons ?_; refine op1_add rfl rfl rfl (by exact wrap_i64 (by omega) (by omega)) ?_; refine wpO_cons ?_; refine op1_mov rfl (by (conv => lhs; whnf) <;> rfl) ?_; refine wpO_nil ?_; refine block_normal ?_
        exact ⟨k - 1, by omega, i + 1, _, rfl, by omega, hIi.process hM hN hroom, by rw [hgo]; simp only [Prod.mk.injEq, and_true]; omega, O3, hR3, hE.trans hE3 hlt⟩
    · have hi : i = l.length := by omega
      subst hi
      rw [List.drop_length] at hgo
      simp only [typeGo, Nat.add_zero] at hgo
      simp only [hgo]
      refine wp_exit ?_; refine seq_exit ?_; refine iter_exit ?_; refine block_exit ?_; refine cut1 (by (conv => lhs; whnf) <;> rfl) ?_
      exact ⟨rfl, hIi, O', hRi, hE⟩
  rintro vs3 T3 H3 ⟨rfl, hI3, O3, hR3, hE3⟩
  have hle := typeGo_le s l
  generalize (typeGo s l).1 = n at *
  generalize (typeGo s l).2 = s3 at *
  refine wp_seq ?_; refine wp_seq ?_; refine wp_region ?_; refine wpO_cons ?_; refine op1_mov rfl (by (conv => lhs; whnf) <;> rfl) ?_; refine wpO_cons ?_; refine op1_eqlI rfl rfl rfl ?_; refine wpO_cons ?_; refine op1_mov rfl (by (conv => lhs; whnf) <;> rfl) ?_; refine wpO_cons ?_
  refine op1_dec rfl (fun hn => ?_) (fun hn => ?_)
  · refine op1_mov rfl (by (conv => lhs; whnf) <;> rfl) ?_; refine wpO_cons ?_; refine op1_len rfl rfl ?_; refine wpO_cons ?_; refine op1_gtr rfl rfl rfl ?_; refine wpO_cons ?_; refine op1_pick_t rfl rfl (by (conv => lhs; whnf) <;> rfl) ?_; refine wpO_nil ?_; refine seq_normal ?_
    refine wp_dec rfl (fun hn2 => ?_) (fun hn2 => ?_)
    · rw [if_neg (by omega), if_pos (by omega)]
      refine wp_seq ?_; refine wp_region ?_; refine wpO_cons ?_; refine op1_mov rfl (by (conv => lhs; whnf) <;> rfl) ?_; refine wpO_cons ?_; refine op1_mov rfl (by (conv => lhs; whnf) <;> rfl) ?_; refine wpO_nil ?_; refine seq_normal ?_; refine wp_ret ?_; refine seq_ret ?_; refine ret_of ?_; refine rk_tmp (by (conv => lhs; whnf) <;> rfl) ?_; refine rk_tmp (by (conv => lhs; whnf) <;> rfl) ?_; refine rk_nil ?_
      exact ⟨rfl, hI3, O3, hR3, hE3⟩
    · rw [if_pos (by omega)]
      refine wp_skip ?_; refine seq_normal ?_; refine wp_seq ?_; refine wp_region ?_; refine wpO_cons ?_; refine op1_mov rfl (by (conv => lhs; whnf) <;> rfl) ?_; refine wpO_cons ?_; refine op1_mov rfl (by (conv => lhs; whnf) <;> rfl) ?_; refine wpO_cons ?_; refine op1_mov rfl (by (conv => lhs; whnf) <;> rfl) ?_; refine wpO_nil ?_; refine seq_normal ?_; refine wp_ret ?_; refine ret_of ?_; refine rk_tmp (by (conv => lhs; whnf) <;> rfl) ?_; refine rk_tmp (by (conv => lhs; whnf) <;> rfl) ?_; refine rk_nil ?_
      exact ⟨by rw [show n = l.length by omega]; rfl, hI3, O3, hR3, hE3⟩
  · refine op1_skip rfl ?_; refine wpO_cons ?_; refine op1_skip rfl ?_; refine wpO_cons ?_; refine op1_skip rfl ?_; refine wpO_cons ?_; refine op1_pick_f rfl rfl (by (conv => lhs; whnf) <;> rfl) ?_; refine wpO_nil ?_; refine seq_normal ?_; refine wp_false rfl ?_; refine wp_skip ?_; refine seq_normal ?_; refine wp_seq ?_; refine wp_region ?_; refine wpO_cons ?_; refine op1_mov rfl (by (conv => lhs; whnf) <;> rfl) ?_; refine wpO_cons ?_; refine op1_mov rfl (by (conv => lhs; whnf) <;> rfl) ?_; refine wpO_cons ?_; refine op1_mov rfl (by (conv => lhs; whnf) <;> rfl) ?_; refine wpO_nil ?_; refine seq_normal ?_; refine wp_ret ?_; refine ret_of ?_; refine rk_tmp (by (conv => lhs; whnf) <;> rfl) ?_; refine rk_tmp (by (conv => lhs; whnf) <;> rfl) ?_; refine rk_nil ?_
    split
    · rename_i hn3
      exact ⟨by rw [hn3]; rfl, hI3, O3, hR3, hE3⟩
    · rw [if_neg (by omega)]
      exact ⟨rfl, hI3, O3, hR3, hE3⟩
end Go.E.Pty
