/- The pseudo terminal's small methods, walked through. -/
import Derived.Test.YtfgejkhhkacknaaDoorPtRep
namespace Go.E.Pty
open Go Go.E Go.Proofs.YtfgejkhhkacknaaDoor.base Go.Proofs.YtfgejkhhkacknaaDoor Go.Proofs
set_option linter.unusedVariables false
set_option linter.unusedSimpArgs false
set_option maxRecDepth 100000

def PT.has (s : PT) (m : Int) : Bool := !decide (bitAnd .i64 s.modes m = 0)
def PT.send (s : PT) (n : Int) : PT := if s.signals.length < 64 then { s with signals := s.signals ++ [n] } else s
def PT.out1 (s : PT) (b : Int) : PT := { s with output := s.output ++ (if b = 10 ∧ s.has 16 = true then [13, b] else [b]) }
def PT.outs (s : PT) (l : List Int) : PT := l.foldl PT.out1 s
def PT.echo (s : PT) (l : List Int) : PT := if s.has 2 then s.outs l else s

theorem _root_.Go.E.SlO.b1 {H : AHeap} {v : Value} {l : List Int} {o : List Nat} (h : SlO H 1 v (bts l) o) : ∃ a c, v = .slice a l.length c := by simpa using h.shape1
theorem _root_.Go.E.SlO.i1 {H : AHeap} {v : Value} {l : List Int} {o : List Nat} (h : SlO H 1 v (ints l) o) : ∃ a c, v = .slice a l.length c := by simpa using h.shape1
theorem _root_.Go.E.RdS.b1 {H : AHeap} {v : Value} {l : List Int} {o : List Nat} (h : RdS H 1 v (bts l) o) : ∃ a c, v = .slice a l.length c := by simpa using h.shape1

theorem L37 {rl : Bool} {H : AHeap} {p : Nat} {s : PT} {O : List Nat} (h : RepT rl H p s O) (m : Int) : wpF C 37 [.pointer (some ⟨p, 0, none⟩), .int .i64 m] H fun v H' => v = .bool (s.has m) ∧ H = H' := by
  obtain ⟨vl, vi, vo, vs, cells, ol, oi, orr, oo, os, h, rfl⟩ := h
  have hg := h.get
  refine wpF_ofW o37 rfl rfl ?_
  refine wp_seq ?_; refine wp_region ?_; refine wpO_cons ?_; refine op1_mov rfl (by (conv => lhs; whnf) <;> rfl) ?_; refine wpO_nil ?_; refine seq_normal ?_; refine wp_seq ?_; refine wp_region ?_; refine wpO_cons ?_; refine op1_mov rfl (by (conv => lhs; whnf) <;> rfl) ?_; refine wpO_cons ?_; refine op1_nilchk rfl rfl ?_; refine wpO_cons ?_; refine op1_faddr0 rfl rfl ?_; refine wpO_cons ?_; refine op1_load rfl rfl (by with_reducible assumption) rfl ?_; refine wpO_cons ?_; refine op1_mov rfl (by (conv => lhs; whnf) <;> rfl) ?_; refine wpO_cons ?_; refine op1_and rfl rfl rfl ?_; refine wpO_cons ?_; refine op1_neqI rfl rfl rfl ?_; refine wpO_cons ?_; refine op1_mov rfl (by (conv => lhs; whnf) <;> rfl) ?_; refine wpO_nil ?_; refine seq_normal ?_; refine wp_ret ?_; refine ret_of ?_; refine rk_tmp (by (conv => lhs; whnf) <;> rfl) ?_; refine rk_nil ?_
  exact ⟨rfl, rfl⟩

theorem L44 {rl : Bool} {H : AHeap} {p : Nat} {s : PT} {O : List Nat} (h : RepT rl H p s O) (n : Int) : wpF C 44 [.pointer (some ⟨p, 0, none⟩), .int .i64 n] H fun v H' => ∃ O', RepT rl H' p (s.send n) O' ∧ Ext O H O' H' := by
  obtain ⟨vl, vi, vo, vs, cells, ol, oi, orr, oo, os, h, rfl⟩ := h
  obtain ⟨a, c, rfl⟩ := h.sig.i1
  have hg := h.get
  have hp := (h.low p (by simp)).2
  refine wpF_ofW o44 rfl rfl ?_
  refine wp_seq ?_; refine wp_region ?_; refine wpO_cons ?_; refine op1_mov rfl (by (conv => lhs; whnf) <;> rfl) ?_; refine wpO_cons ?_; refine op1_nilchk rfl rfl ?_; refine wpO_cons ?_; refine op1_faddr0 rfl rfl ?_; refine wpO_cons ?_; refine op1_load rfl rfl (by with_reducible assumption) rfl ?_; refine wpO_cons ?_; refine op1_len rfl rfl ?_; refine wpO_cons ?_; refine op1_lss rfl rfl rfl ?_; refine wpO_nil ?_; refine seq_normal ?_
  refine wp_dec rfl (fun hc => ?_) (fun hc => ?_)
  · refine wp_region ?_; refine wpO_cons ?_; refine op1_mov rfl (by (conv => lhs; whnf) <;> rfl) ?_; refine wpO_cons ?_; refine op1_mov rfl (by (conv => lhs; whnf) <;> rfl) ?_; refine wpO_cons ?_; refine op1_nilchk rfl rfl ?_; refine wpO_cons ?_; refine op1_faddr0 rfl rfl ?_; refine wpO_cons ?_; refine op1_load rfl rfl (by with_reducible assumption) rfl ?_; refine wpO_cons ?_; refine op1_mov rfl (by (conv => lhs; whnf) <;> rfl) ?_; refine wpO_cons ?_; refine op1_bslice rfl ?_; refine bk_one (by (conv => lhs; whnf) <;> rfl) rfl rfl rfl ?_; refine bk_nil ?_; refine wpO_cons ?_
    have hos : ∀ b ∈ os, b < H.next := fun b hb => (h.low b (by simp [hb])).2
    refine op1_appendN rfl rfl rfl rfl AHeap.ga_same rfl rfl (h.sig.add hos _) (by omega) (fun b hb => by have := hos b hb; simp only [AHeap.next_add]; omega) ?_
    intro a' c' o' H' hO' hE
    have hg' : H'.get p = _ := (hE.keep p (by simp only [AHeap.next_add]; omega) (by have := h.nd; simp only [List.nodup_cons, List.mem_append] at this; grind)).trans (AHeap.ga_lt hp hg)
    refine wpO_cons ?_; refine op1_nilchk rfl rfl ?_; refine wpO_cons ?_; refine op1_faddr0 rfl rfl ?_; refine wpO_cons ?_; refine op1_store1 rfl rfl (by (conv => lhs; whnf) <;> rfl) rfl rfl (by with_reducible assumption) rfl ?_; refine wpO_nil ?_; refine nrm_of ?_; refine rk_nil ?_
    have e : s.send n = { s with signals := s.signals ++ [n] } := by unfold PT.send; rw [if_pos (by omega)]
    rw [e]
    have hE' := (Ext.add os H (.cells [.int .i64 n] 1 false)).trans hE hos
    obtain ⟨h1, h2⟩ := h.setSig (sig' := s.signals ++ [n]) (by rw [ints_append]; exact hO') hE'
    exact ⟨_, ⟨_, _, _, _, _, _, _, _, _, _, h1, rfl⟩, h2⟩
  · refine wp_skip ?_; refine nrm_of ?_; refine rk_nil ?_
    have e : s.send n = s := by unfold PT.send; rw [if_neg (by omega)]
    rw [e]
    exact ⟨_, ⟨_, _, _, _, _, _, _, _, _, _, h, rfl⟩, Ext.refl _ _⟩

theorem has_outs (s : PT) (l : List Int) (m : Int) : (s.outs l).has m = s.has m := by
  unfold PT.outs
  induction l generalizing s with
  | nil => rfl
  | cons b l ih => rw [List.foldl_cons, ih]; rfl
theorem outs_len (s : PT) (l : List Int) : (s.outs l).output.length ≤ s.output.length + 2 * l.length := by
  unfold PT.outs
  induction l generalizing s with
  | nil => simp
  | cons b l ih =>
    rw [List.foldl_cons]
    have := ih (s.out1 b)
    have h2 : (s.out1 b).output.length ≤ s.output.length + 2 := by simp only [PT.out1]; split <;> simp
    simp only [List.length_cons]; omega
theorem outs_snoc (s : PT) (l : List Int) (b : Int) : s.outs (l ++ [b]) = (s.outs l).out1 b := by simp [PT.outs]

theorem L41 {rl : Bool} {H : AHeap} {p : Nat} {s : PT} {O : List Nat} (h : RepT rl H p s O) {vd : Value} {l : List Int} {r : List Nat} (hd : RdS H 1 vd (bts l) r) (hr : ∀ b ∈ r, b < H.next ∧ b ∉ O) (hlim : s.output.length + 2 * l.length ≤ 1000000) :
    wpF C 41 [.pointer (some ⟨p, 0, none⟩), vd] H fun v H' => ∃ O', RepT rl H' p (s.outs l) O' ∧ Ext O H O' H' := by
  obtain ⟨a, c, rfl⟩ := hd.b1
  refine wpF_ofW o41 rfl rfl ?_
  refine wp_seq ?_; refine wp_region ?_; refine wpO_cons ?_; refine op1_mov rfl (by (conv => lhs; whnf) <;> rfl) ?_; refine wpO_cons ?_; refine op1_len rfl rfl ?_; refine wpO_cons ?_; refine op1_mov rfl (by (conv => lhs; whnf) <;> rfl) ?_; refine wpO_nil ?_; refine seq_normal ?_; refine wp_block ?_
  refine wp_loop [8] (fun k vs H' => ∃ i : Nat, vs = [.int .i64 i] ∧ i + k = l.length ∧ ∃ O', RepT rl H' p (s.outs (l.take i)) O' ∧ Ext O H O' H') ⟨l.length, 0, rfl, by omega, O, h, Ext.refl _ _⟩ ?_
  rintro k vs T' H' ⟨i, rfl, hk, O', hR, hE⟩
  refine wp_seq ?_; refine wp_region ?_; refine wpO_cons ?_; refine op1_lss rfl rfl rfl ?_; refine wpO_nil ?_; refine seq_normal ?_; refine wp_seq ?_
  refine wp_dec rfl (fun hc => ?_) (fun hc => ?_)
  · have hi : i < l.length := by omega
    obtain ⟨b, off, cs, e, ro, v, rfl, rfl, hg, hv, hx⟩ := hd.at1 hi
    have hg' : H'.get b = .cells cs e ro := (hE.keep b (hr b (by simp)).1 (hr b (by simp)).2).trans hg
    obtain ⟨x, hx', rfl⟩ : ∃ x, l[i]? = some x ∧ v = .int .u8 x := by
      simp only [bts, List.getElem?_map, Option.map_eq_some_iff] at hx
      obtain ⟨x, h1, h2⟩ := hx
      exact ⟨x, h1, h2.symm⟩
    refine wp_skip ?_; refine seq_normal ?_; refine wp_seq ?_; refine wp_block ?_; refine wp_seq ?_; refine wp_region ?_; refine wpO_cons ?_; refine op1_iaddr rfl rfl rfl (by omega) (by omega) ?_; refine wpO_cons ?_
    refine op1_load rfl rfl hg' hv ?_
    have hlo : (s.outs (l.take i)).output.length ≤ 1000000 := by
      have h1 := outs_len s (l.take i)
      have h2 : (l.take i).length ≤ l.length := by simp only [List.length_take]; omega
      omega
    refine wpO_cons ?_; refine op1_mov rfl (by (conv => lhs; whnf) <;> rfl) ?_; refine wpO_nil ?_; refine seq_normal ?_
    refine wp_cut [] (fun _ H1 => ∃ O1, RepT rl H1 p (if x = 10 ∧ s.has 16 = true then (s.outs (l.take i)).raw 13 else s.outs (l.take i)) O1 ∧ Ext O' H' O1 H1) ?_ ?_
    · refine wp_seq ?_; refine wp_region ?_; refine wpO_cons ?_; refine op1_mov rfl (by (conv => lhs; whnf) <;> rfl) ?_; refine wpO_cons ?_; refine op1_eqlI rfl rfl rfl ?_; refine wpO_cons ?_; refine op1_mov rfl (by (conv => lhs; whnf) <;> rfl) ?_; refine wpO_cons ?_
      refine op1_dec rfl (fun h10 => ?_) (fun h10 => ?_)
      · refine op1_mov rfl (by (conv => lhs; whnf) <;> rfl) ?_; refine wpO_cons ?_; refine op1_call2 rfl (by (conv => lhs; whnf) <;> rfl) (by (conv => lhs; whnf) <;> rfl) ?_
        refine wpF_mono (L37 hR 16) ?_
        rintro v H2 ⟨rfl, rfl⟩
        rw [has_outs]
        refine wpO_cons ?_; refine op1_pick_t rfl rfl (by (conv => lhs; whnf) <;> rfl) ?_; refine wpO_nil ?_; refine seq_normal ?_
        refine wp_cond rfl (fun hh => ?_) (fun hh => ?_)
        · rw [if_pos ⟨h10, hh⟩]
          obtain ⟨vl, vi, vo, vs, cells, ol, oi, orr, oo, os, hT, rfl⟩ := hR
          obtain ⟨ao, co, rfl⟩ := hT.out.b1
          have hgp := hT.get
          have hoo := hT.lt.2.2.2.2.1
          refine wp_region ?_; refine wpO_cons ?_; refine op1_mov rfl (by (conv => lhs; whnf) <;> rfl) ?_; refine wpO_cons ?_; refine op1_mov rfl (by (conv => lhs; whnf) <;> rfl) ?_; refine wpO_cons ?_; refine op1_nilchk rfl rfl ?_; refine wpO_cons ?_; refine op1_faddr0 rfl rfl ?_; refine wpO_cons ?_; refine op1_load rfl rfl (by with_reducible assumption) rfl ?_; refine wpO_cons ?_; refine op1_bslice rfl ?_; refine bk_one (by (conv => lhs; whnf) <;> rfl) rfl rfl rfl ?_; refine bk_nil ?_; refine wpO_cons ?_
          refine op1_appendN rfl rfl rfl rfl AHeap.ga_same rfl rfl (hT.out.add hoo _) (by omega) (fun b hb => by have := hoo b hb; simp only [AHeap.next_add]; omega) ?_
          intro a' c' o' H3 hO3 hE3
          have hg3 := hT.get3 hE3 hT.pn.2.2.2.1
          have hfin := hT.put hO3 hE3
          refine wpO_cons ?_; refine op1_nilchk rfl rfl ?_; refine wpO_cons ?_; refine op1_faddr0 rfl rfl ?_; refine wpO_cons ?_; refine op1_store1 rfl rfl (by (conv => lhs; whnf) <;> rfl) rfl rfl (by with_reducible assumption) rfl ?_; refine wpO_nil ?_; refine cut0  ?_
          exact hfin
        · rw [if_neg (by rw [hh]; simp)]
          refine wp_skip ?_; refine cut0  ?_
          exact ⟨O', hR, Ext.refl _ _⟩
      · rw [if_neg (fun hh => h10 hh.1)]
        refine op1_skip rfl ?_; refine wpO_cons ?_; refine op1_skip rfl ?_; refine wpO_cons ?_; refine op1_pick_f rfl rfl (by (conv => lhs; whnf) <;> rfl) ?_; refine wpO_nil ?_; refine seq_normal ?_; refine wp_false rfl ?_; refine wp_skip ?_; refine cut0  ?_
        exact ⟨O', hR, Ext.refl _ _⟩
    · rintro vs2 T2 H1 ⟨O1, hR1, hE1⟩
      have hlo2 : (if x = 10 ∧ s.has 16 = true then (s.outs (l.take i)).raw 13 else s.outs (l.take i)).output.length ≤ 1000001 := by
        split
        · simp only [PT.raw, List.length_append, List.length_cons, List.length_nil]; omega
        · omega
      have e3 : (if x = 10 ∧ s.has 16 = true then (s.outs (l.take i)).raw 13 else s.outs (l.take i)).raw x = s.outs (l.take (i + 1)) := by
        rw [List.take_add_one, hx', Option.toList_some, outs_snoc]
        by_cases hcn : x = 10 ∧ s.has 16 = true
        · rw [if_pos hcn]; simp only [PT.out1, has_outs, if_pos hcn, PT.raw, List.append_assoc, List.cons_append, List.nil_append]
        · rw [if_neg hcn]; simp only [PT.out1, has_outs, if_neg hcn, PT.raw]
      generalize (if x = 10 ∧ s.has 16 = true then (s.outs (l.take i)).raw 13 else s.outs (l.take i)) = s2 at *
      obtain ⟨vl, vi, vo, vs, cells, ol, oi, orr, oo, os, hT, rfl⟩ := hR1
      obtain ⟨ao, co, rfl⟩ := hT.out.b1
      have hgp := hT.get
      have hoo := hT.lt.2.2.2.2.1
      refine wp_region ?_; refine wpO_cons ?_; refine op1_mov rfl (by (conv => lhs; whnf) <;> rfl) ?_; refine wpO_cons ?_; refine op1_mov rfl (by (conv => lhs; whnf) <;> rfl) ?_; refine wpO_cons ?_; refine op1_nilchk rfl rfl ?_; refine wpO_cons ?_; refine op1_faddr0 rfl rfl ?_; refine wpO_cons ?_; refine op1_load rfl rfl (by with_reducible assumption) rfl ?_; refine wpO_cons ?_; refine op1_mov rfl (by (conv => lhs; whnf) <;> rfl) ?_; refine wpO_cons ?_; refine op1_bslice rfl ?_; refine bk_one (by (conv => lhs; whnf) <;> rfl) rfl rfl rfl ?_; refine bk_nil ?_; refine wpO_cons ?_
      refine op1_appendN rfl rfl rfl rfl AHeap.ga_same rfl rfl (hT.out.add hoo _) (by omega) (fun b hb => by have := hoo b hb; simp only [AHeap.next_add]; omega) ?_
      intro a' c' o' H3 hO3 hE3
      have hg3 := hT.get3 hE3 hT.pn.2.2.2.1
      have hfin := hT.put hO3 hE3
      refine wpO_cons ?_; refine op1_nilchk rfl rfl ?_; refine wpO_cons ?_; refine op1_faddr0 rfl rfl ?_; refine wpO_cons ?_; refine op1_store1 rfl rfl (by (conv => lhs; whnf) <;> rfl) rfl rfl (by with_reducible assumption) rfl ?_; refine wpO_nil ?_; refine block_normal ?_; refine seq_normal ?_; refine wp_region ?_; refine wpO_cons ?_; refine op1_add rfl rfl rfl (by exact wrap_i64 (by omega) (by omega)) ?_; refine wpO_cons ?_; refine op1_mov rfl (by (conv => lhs; whnf) <;> rfl) ?_; refine wpO_nil ?_
      obtain ⟨O4, hR4, hE4⟩ := hfin
      rw [e3] at hR4
      refine ⟨k - 1, by omega, i + 1, rfl, by omega, O4, hR4, (hE.trans hE1 h.lt).trans hE4 h.lt⟩
  · refine wp_exit ?_; refine seq_exit ?_; refine iter_exit ?_; refine block_exit ?_; refine nrm_of ?_; refine rk_nil ?_
    have : i = l.length := by omega
    subst this
    rw [List.take_length] at hR
    exact ⟨O', hR, hE⟩

theorem L71 {rl : Bool} {H : AHeap} {p : Nat} {s : PT} {O : List Nat} (h : RepT rl H p s O) {vd : Value} {l : List Int} {r : List Nat} (hd : RdS H 1 vd (bts l) r) (hr : ∀ b ∈ r, b < H.next ∧ b ∉ O) (hlim : s.output.length + 2 * l.length ≤ 1000000) :
    wpF C 71 [.pointer (some ⟨p, 0, none⟩), vd] H fun v H' => ∃ O', RepT rl H' p (s.echo l) O' ∧ Ext O H O' H' := by
  obtain ⟨a, c, rfl⟩ := hd.b1
  refine wpF_ofW o71 rfl rfl ?_
  refine wp_seq ?_; refine wp_region ?_; refine wpO_cons ?_; refine op1_mov rfl (by (conv => lhs; whnf) <;> rfl) ?_; refine wpO_cons ?_; refine op1_call2 rfl (by (conv => lhs; whnf) <;> rfl) (by (conv => lhs; whnf) <;> rfl) ?_
  refine wpF_mono (L37 h 2) ?_
  rintro v H2 ⟨rfl, rfl⟩
  refine wpO_nil ?_; refine seq_normal ?_
  refine wp_cond rfl (fun hh => ?_) (fun hh => ?_)
  · refine wp_region ?_; refine wpO_cons ?_; refine op1_mov rfl (by (conv => lhs; whnf) <;> rfl) ?_; refine wpO_cons ?_; refine op1_mov rfl (by (conv => lhs; whnf) <;> rfl) ?_; refine wpO_cons ?_; refine op1_call2 rfl (by (conv => lhs; whnf) <;> rfl) (by (conv => lhs; whnf) <;> rfl) ?_
    refine wpF_mono (L41 h hd hr hlim) ?_
    rintro v H3 hq
    refine wpO_nil ?_; refine nrm_of ?_; refine rk_nil ?_
    unfold PT.echo
    rw [if_pos hh]
    exact hq
  · refine wp_skip ?_; refine nrm_of ?_; refine rk_nil ?_
    unfold PT.echo
    rw [if_neg (by rw [hh]; simp)]
    exact ⟨O, h, Ext.refl _ _⟩

/-- what lies in a block that was just laid -/
theorem RdS.new {H : AHeap} {vs : List Value} {n : Nat} (hn : vs.length = n) : RdS (H.add (.cells vs 1 false)) 1 (.slice (some ⟨H.next, 0, none⟩) n n) vs [H.next] := by
  have := RdS.blk (H := H.add (.cells vs 1 false)) (es := 1) (b := H.next) (off := 0) (l := n) (c := n) AHeap.ga_same (by omega) (.inr rfl) (Nat.le_refl _)
  rwa [List.drop_zero, List.take_of_length_le (by omega)] at this

theorem _root_.Go.E.SlO.new {H : AHeap} {es : Nat} {vs : List Value} {n : Nat} (hn : vs.length = n * es) : SlO (H.add (.cells vs es false)) es (.slice (some ⟨H.next, 0, none⟩) n n) vs [H.next] := by
  have := SlO.blk (H := H.add (.cells vs es false)) (es := es) (b := H.next) (off := 0) (l := n) (c := n) AHeap.ga_same (by omega) (Nat.le_refl _)
  rwa [List.drop_zero, List.take_of_length_le (by omega)] at this
/-- queue.add: a record more in the input; the terminal may be half changed here -/
theorem L43 {H : AHeap} {p : Nat} {x0 x1 x2 x3 vi x5 x6 x7 x8 : Value} {cells : List Value} {ax : Option Addr} {lx cx : Nat} {r : Bool} {oi : List Nat} (hg : H.get p = .cells [x0, x1, x2, x3, vi, x5, x6, x7, x8] 0 false) (hi : SlO H 2 vi cells oi) (hpo : p ∉ oi) (hp : p < H.next) (hoi : ∀ b ∈ oi, b < H.next) (hlim : cells.length ≤ 1000000) :
    wpF C 43 [.pointer (some ⟨p, 4, none⟩), .agg ⟨[.slice ax lx cx, .bool r]⟩] H fun v H' => ∃ H1 vi' oi', H' = H1.set p (.cells [x0, x1, x2, x3, vi', x5, x6, x7, x8] 0 false) ∧ SlO H1 2 vi' (cells ++ [.slice ax lx cx, .bool r]) oi' ∧ Ext oi H oi' H1 := by
  obtain ⟨a, l, c, rfl, hl⟩ := hi.shape
  refine wpF_ofW o43 rfl rfl ?_
  refine wp_seq ?_; refine wp_region ?_; refine wpO_cons ?_; refine op1_boxN rfl rfl rfl ?_; refine wpO_nil ?_; refine seq_normal ?_; refine wp_regionD ?_; refine wpD_cons ?_; refine op1_mov rfl (by (conv => lhs; whnf) <;> rfl) ?_; refine wpD_cons ?_; refine op1_mov rfl (by (conv => lhs; whnf) <;> rfl) ?_; refine wpD_cons ?_; refine op1_nilchk rfl rfl ?_; refine wpD_cons ?_; refine op1_faddr rfl rfl ?_; refine wpD_cons ?_; refine op1_load rfl rfl (by with_reducible refine AHeap.ga_lt (by omega) ?_; with_reducible assumption) rfl ?_; refine wpD_cons ?_; refine op1_load_2 rfl rfl (by with_reducible exact AHeap.ga_same) rfl rfl ?_; refine wpD_cons ?_; refine op1_bslice rfl ?_; refine bk_agg rfl rfl rfl rfl ?_; refine bk_nil ?_; refine wpD_cons ?_
  refine op1_appendN rfl rfl rfl rfl AHeap.ga_same rfl rfl ((hi.add hoi _).add (fun b hb => by have := hoi b hb; simp only [AHeap.next_add]; omega) _) (by omega) (fun b hb => by have := hoi b hb; simp only [AHeap.next_add]; omega) ?_
  intro a' c' o' H3 hO3 hE3
  have hg3 : H3.get p = .cells [x0, x1, x2, x3, .slice a l c, x5, x6, x7, x8] 0 false := (hE3.keep p (by simp only [AHeap.next_add]; omega) hpo).trans (AHeap.ga_lt (by simp only [AHeap.next_add]; omega) (AHeap.ga_lt hp hg))
  refine wpD_cons ?_; refine op1_nilchk rfl rfl ?_; refine wpD_cons ?_; refine op1_faddr rfl rfl ?_; refine wpD_cons ?_; refine op1_store1 rfl rfl (by (conv => lhs; whnf) <;> rfl) rfl rfl (by with_reducible assumption) rfl ?_; refine wpD_nil ?_; refine dk_of ?_ ?_; refine chk_skip ?_; refine chk_skip ?_; refine chk_skip ?_; refine chk_skip ?_; refine chk_cons 7 rfl rfl rfl ?_ ?_; refine chkFs_cons 4 rfl rfl ?_ ?_; exact chk_load rfl (by with_reducible refine AHeap.ga_lt (by simp only [AHeap.next_set, AHeap.next_add]; omega) ?_; with_reducible refine AHeap.ga_lt (by omega) ?_; with_reducible assumption) rfl rfl; exact chkFs_nil; refine chk_cons 6 rfl rfl rfl ?_ ?_; refine chkFs_cons 4 rfl rfl ?_ ?_; exact chk_loadN rfl (by with_reducible refine AHeap.ga_lt (by simp only [AHeap.next_set, AHeap.next_add]; omega) ?_; with_reducible exact AHeap.ga_same) rfl rfl rfl; exact chkFs_nil; refine chk_skip ?_; refine chk_skip ?_; refine chk_skip ?_; refine chk_skip ?_; refine chk_skip ?_; exact chk_end; refine nrm_of ?_; refine rk_nil ?_
  exact ⟨H3, _, o', rfl, hO3, ((Ext.add oi H _).trans (Ext.add oi _ _) hoi).trans hE3 hoi⟩

theorem L42 {H : AHeap} {p b off l c : Nat} {x0 x1 x2 x3 x5 x6 x7 x8 : Value} (hg : H.get p = .cells [x0, x1, x2, x3, .slice (some ⟨b, off, none⟩) l c, x5, x6, x7, x8] 0 false) (hl : 0 < l) (hl2 : l ≤ 1000000) :
    wpF C 42 [.pointer (some ⟨p, 4, none⟩)] H fun v H' => v = .pointer (some ⟨b, off + (l - 1) * 2, none⟩) ∧ H = H' := by
  refine wpF_ofW o42 rfl rfl ?_
  refine wp_seq ?_; refine wp_region ?_; refine wpO_cons ?_; refine op1_mov rfl (by (conv => lhs; whnf) <;> rfl) ?_; refine wpO_nil ?_; refine seq_normal ?_; refine wp_seq ?_; refine wp_seq ?_; refine wp_region ?_; refine wpO_cons ?_; refine op1_mov rfl (by (conv => lhs; whnf) <;> rfl) ?_; refine wpO_cons ?_; refine op1_nilchk rfl rfl ?_; refine wpO_cons ?_; refine op1_faddr rfl rfl ?_; refine wpO_cons ?_; refine op1_load rfl rfl (by with_reducible assumption) rfl ?_; refine wpO_cons ?_; refine op1_len rfl rfl ?_; refine wpO_cons ?_; refine op1_eqlI rfl rfl rfl ?_; refine wpO_nil ?_; refine seq_normal ?_
  refine wp_dec rfl (fun hh => ?_) (fun hh => ?_)
  · omega
  · refine wp_skip ?_; refine seq_normal ?_; refine wp_seq ?_; refine wp_regionD ?_; refine wpD_cons ?_; refine op1_mov rfl (by (conv => lhs; whnf) <;> rfl) ?_; refine wpD_cons ?_; refine op1_nilchk rfl rfl ?_; refine wpD_cons ?_; refine op1_faddr rfl rfl ?_; refine wpD_cons ?_; refine op1_load rfl rfl (by with_reducible assumption) rfl ?_; refine wpD_cons ?_; refine op1_mov rfl (by (conv => lhs; whnf) <;> rfl) ?_; refine wpD_cons ?_; refine op1_nilchk rfl rfl ?_; refine wpD_cons ?_; refine op1_faddr rfl rfl ?_; refine wpD_cons ?_; refine op1_load rfl rfl (by with_reducible assumption) rfl ?_; refine wpD_cons ?_; refine op1_len rfl rfl ?_; refine wpD_cons ?_; refine op1_sub rfl rfl rfl (by exact wrap_i64 (by omega) (by omega)) ?_; refine wpD_cons ?_; refine op1_iaddr rfl rfl rfl (by omega) (by omega) ?_; refine wpD_cons ?_; refine op1_mov rfl (by (conv => lhs; whnf) <;> rfl) ?_; refine wpD_nil ?_; refine dk_of ?_ ?_; refine chk_skip ?_; refine chk_skip ?_; refine chk_skip ?_; refine chk_cons 9 rfl rfl rfl ?_ ?_; refine chkFs_cons 0 rfl rfl ?_ ?_; exact chk_load rfl (by with_reducible assumption) rfl rfl; exact chkFs_nil; refine chk_skip ?_; refine chk_skip ?_; refine chk_skip ?_; refine chk_cons 5 rfl rfl rfl ?_ ?_; refine chkFs_cons 0 rfl rfl ?_ ?_; exact chk_load rfl (by with_reducible assumption) rfl rfl; exact chkFs_nil; refine chk_cons 4 rfl rfl rfl ?_ ?_; refine chkFs_cons 0 rfl rfl ?_ ?_; exact chk_len rfl rfl; exact chkFs_nil; refine chk_skip ?_; refine chk_skip ?_; refine chk_skip ?_; exact chk_end; refine seq_normal ?_; refine wp_ret ?_; refine ret_of ?_; refine rk_tmp (by (conv => lhs; whnf) <;> rfl) ?_; refine rk_nil ?_
    have e : ((l : Int) - 1).toNat = l - 1 := by omega
    rw [e]
    exact ⟨rfl, rfl⟩
theorem L42n {H : AHeap} {p c : Nat} {a : Option Addr} {x0 x1 x2 x3 x5 x6 x7 x8 : Value} (hg : H.get p = .cells [x0, x1, x2, x3, .slice a 0 c, x5, x6, x7, x8] 0 false) :
    wpF C 42 [.pointer (some ⟨p, 4, none⟩)] H fun v H' => v = .pointer none ∧ H = H' := by
  refine wpF_ofW o42 rfl rfl ?_
  refine wp_seq ?_; refine wp_region ?_; refine wpO_cons ?_; refine op1_mov rfl (by (conv => lhs; whnf) <;> rfl) ?_; refine wpO_nil ?_; refine seq_normal ?_; refine wp_seq ?_; refine wp_seq ?_; refine wp_region ?_; refine wpO_cons ?_; refine op1_mov rfl (by (conv => lhs; whnf) <;> rfl) ?_; refine wpO_cons ?_; refine op1_nilchk rfl rfl ?_; refine wpO_cons ?_; refine op1_faddr rfl rfl ?_; refine wpO_cons ?_; refine op1_load rfl rfl (by with_reducible assumption) rfl ?_; refine wpO_cons ?_; refine op1_len rfl rfl ?_; refine wpO_cons ?_; refine op1_eqlI_s rfl rfl rfl ?_; refine wpO_nil ?_; refine seq_normal ?_; refine wp_true rfl ?_; refine wp_seq ?_; refine wp_region ?_; refine wpO_cons ?_; refine op1_mov rfl (by (conv => lhs; whnf) <;> rfl) ?_; refine wpO_nil ?_; refine seq_normal ?_; refine wp_ret ?_; refine seq_ret ?_; refine ret_of ?_; refine rk_tmp (by (conv => lhs; whnf) <;> rfl) ?_; refine rk_nil ?_
  exact ⟨rfl, rfl⟩

def PT.endL (s : PT) : PT := { s with line := [], input := s.input ++ [(s.line, false)] }
def PT.erase (s : PT) : PT := if 0 < s.line.length then ({ s with line := s.line.take (s.line.length - 1) } : PT).echo [8, 32, 8] else s
def PT.next (s : PT) (b : Int) : PT := (({ s with line := s.line ++ [b] } : PT).endL).echo [b]
def iter (f : PT → PT) : Nat → PT → PT
  | 0, s => s
  | n + 1, s => f (iter f n s)
def PT.kill (s : PT) : PT := iter PT.erase s.line.length s

theorem L110 {H : AHeap} {p : Nat} {s : PT} {O : List Nat} (h : RepT false H p s O) (hlim : s.input.length ≤ 100000) : wpF C 110 [.pointer (some ⟨p, 0, none⟩)] H fun v H' => ∃ O', RepT false H' p s.endL O' ∧ Ext O H O' H' := by
  obtain ⟨vl, vi, vo, vs, cells, ol, oi, orr, oo, os, h, rfl⟩ := h
  have hg := h.get
  obtain ⟨al, cl, rfl⟩ := h.line.b1
  have hlen := h.recs.length
  refine wpF_ofW o110 rfl rfl ?_
  refine wp_seq ?_; refine wp_regionD ?_; refine wpD_cons ?_; refine op1_mov rfl (by (conv => lhs; whnf) <;> rfl) ?_; refine wpD_cons ?_; refine op1_nilchk rfl rfl ?_; refine wpD_cons ?_; refine op1_faddr0 rfl rfl ?_; refine wpD_cons ?_; refine op1_mov rfl (by (conv => lhs; whnf) <;> rfl) ?_; refine wpD_cons ?_; refine op1_nilchk rfl rfl ?_; refine wpD_cons ?_; refine op1_faddr0 rfl rfl ?_; refine wpD_cons ?_; refine op1_load rfl rfl (by with_reducible assumption) rfl ?_; refine wpD_cons ?_; refine op1_build rfl ?_; refine bk_one (by (conv => lhs; whnf) <;> rfl) rfl rfl rfl ?_; refine bk_nil ?_; refine wpD_cons ?_; refine op1_call2 rfl (by (conv => lhs; whnf) <;> rfl) (by (conv => lhs; whnf) <;> rfl) ?_
  refine wpF_mono (L43 hg h.inp h.pn.2.1 h.lt.1 h.lt.2.2.1 (by omega)) ?_
  rintro v H' ⟨H1, vi', oi', rfl, hi', hE⟩
  refine wpD_nil ?_; refine dk_of ?_ ?_; refine chk_skip ?_; refine chk_skip ?_; refine chk_skip ?_; refine chk_skip ?_; refine chk_skip ?_; refine chk_skip ?_; refine chk_cons 3 rfl rfl rfl ?_ ?_; refine chkFs_cons 1 rfl rfl ?_ ?_; exact chk_load rfl (by with_reducible assumption) rfl rfl; exact chkFs_nil; refine chk_skip ?_; refine chk_skip ?_; exact chk_end; refine seq_normal ?_; refine wp_region ?_; refine wpO_cons ?_; refine op1_mov rfl (by (conv => lhs; whnf) <;> rfl) ?_; refine wpO_cons ?_; refine op1_nilchk rfl rfl ?_; refine wpO_cons ?_; refine op1_faddr0 rfl rfl ?_; refine wpO_cons ?_; refine op1_store1 rfl rfl (by (conv => lhs; whnf) <;> rfl) rfl rfl (by with_reducible exact AHeap.gs_same) rfl ?_; refine wpO_nil ?_; refine nrm_of ?_; refine rk_nil ?_
  refine fin_congr ?_ (set_set _ _ _ _) rfl
  have nd := h.nd
  have own := hE.own
  simp only [List.nodup_cons, List.nodup_append, List.mem_append] at nd
  have hr : RecsO H1 false (cells ++ (recC false (.slice al s.line.length cl) false ++ [])) (s.input ++ [(s.line, false)]) (orr ++ (ol ++ [])) :=
    (h.recs.frame fun b hb => hE.keep b (h.lt.2.2.2.1 b hb) (by grind)).append (.cons (h.line.frame fun b hb => hE.keep b (h.lt.2.1 b hb) (by grind)) .nil)
  rw [List.append_nil, List.append_nil] at hr
  have hs1 := hi'.single
  obtain ⟨h1, h2⟩ := h.setLI (line' := []) (inp' := s.input ++ [(s.line, false)]) (ol' := []) (vl' := .slice none 0 0) .nil hi' hr ⟨hE.next, fun b hb hn => hE.keep b hb (by grind), fun b hb => by
    simp only [List.mem_append, List.nil_append] at hb ⊢
    grind⟩ (by simp only [List.nil_append, List.nodup_append, List.mem_append]; have := h.lt; grind)
  exact ⟨_, ⟨_, _, _, _, _, _, _, _, _, _, h1, rfl⟩, h2⟩

theorem L71new {rl : Bool} {H : AHeap} {p : Nat} {s : PT} {O : List Nat} (h : RepT rl H p s O) (l : List Int) (hlim : s.output.length + 2 * l.length ≤ 1000000) :
    wpF C 71 [.pointer (some ⟨p, 0, none⟩), .slice (some ⟨H.next, 0, none⟩) l.length l.length] (H.add (.cells (bts l) 1 false)) fun v H' => ∃ O', RepT rl H' p (s.echo l) O' ∧ Ext O H O' H' := by
  refine wpF_mono (L71 (h.add _) (RdS.new (bts_length l)) (r := [H.next]) (fun b hb => ?_) hlim) fun v H' ⟨O', h1, h2⟩ => ⟨O', h1, (Ext.add O H _).trans h2 h.lt⟩
  simp only [List.mem_singleton] at hb
  subst hb
  exact ⟨by simp, fun hm => absurd (h.lt _ hm) (by omega)⟩
theorem L41new {rl : Bool} {H : AHeap} {p : Nat} {s : PT} {O : List Nat} (h : RepT rl H p s O) (l : List Int) (hlim : s.output.length + 2 * l.length ≤ 1000000) :
    wpF C 41 [.pointer (some ⟨p, 0, none⟩), .slice (some ⟨H.next, 0, none⟩) l.length l.length] (H.add (.cells (bts l) 1 false)) fun v H' => ∃ O', RepT rl H' p (s.outs l) O' ∧ Ext O H O' H' := by
  refine wpF_mono (L41 (h.add _) (RdS.new (bts_length l)) (r := [H.next]) (fun b hb => ?_) hlim) fun v H' ⟨O', h1, h2⟩ => ⟨O', h1, (Ext.add O H _).trans h2 h.lt⟩
  simp only [List.mem_singleton] at hb
  subst hb
  exact ⟨by simp, fun hm => absurd (h.lt _ hm) (by omega)⟩

theorem L113 {H : AHeap} {p : Nat} {s : PT} {O : List Nat} (h : RepT false H p s O) (b : Int) (h1 : s.line.length ≤ 100000) (h2 : s.output.length ≤ 900000) : wpF C 113 [.pointer (some ⟨p, 0, none⟩), .int .u8 b] H fun v H' => ∃ O', RepT false H' p s.erase O' ∧ Ext O H O' H' := by
  obtain ⟨vl, vi, vo, vs, cells, ol, oi, orr, oo, os, h, rfl⟩ := h
  have hg := h.get
  obtain ⟨al, cl, rfl⟩ := h.line.b1
  refine wpF_ofW o113 rfl rfl ?_
  refine wp_seq ?_; refine wp_region ?_; refine wpO_cons ?_; refine op1_mov rfl (by (conv => lhs; whnf) <;> rfl) ?_; refine wpO_cons ?_; refine op1_nilchk rfl rfl ?_; refine wpO_cons ?_; refine op1_faddr0 rfl rfl ?_; refine wpO_cons ?_; refine op1_load rfl rfl (by with_reducible assumption) rfl ?_; refine wpO_cons ?_; refine op1_len rfl rfl ?_; refine wpO_cons ?_; refine op1_mov rfl (by (conv => lhs; whnf) <;> rfl) ?_; refine wpO_nil ?_; refine seq_normal ?_; refine wp_seq ?_; refine wp_region ?_; refine wpO_cons ?_; refine op1_mov rfl (by (conv => lhs; whnf) <;> rfl) ?_; refine wpO_cons ?_; refine op1_gtr rfl rfl rfl ?_; refine wpO_nil ?_; refine seq_normal ?_
  refine wp_dec rfl (fun hh => ?_) (fun hh => ?_)
  · refine wp_seq ?_; refine wp_region ?_; refine wpO_cons ?_; refine op1_mov rfl (by (conv => lhs; whnf) <;> rfl) ?_; refine wpO_cons ?_; refine op1_mov rfl (by (conv => lhs; whnf) <;> rfl) ?_; refine wpO_cons ?_; refine op1_nilchk rfl rfl ?_; refine wpO_cons ?_; refine op1_faddr0 rfl rfl ?_; refine wpO_cons ?_; refine op1_load rfl rfl (by with_reducible assumption) rfl ?_; refine wpO_cons ?_; refine op1_mov rfl (by (conv => lhs; whnf) <;> rfl) ?_; refine wpO_cons ?_; refine op1_sub rfl rfl rfl (by exact wrap_i64 (by omega) (by omega)) ?_; refine wpO_cons ?_
    refine op1_sliceO rfl rfl h.line (bnds_hi (by omega) (by have := h.line.len_le; omega)) (by omega) (by omega) ?_
    intro a' c' hO
    refine wpO_cons ?_; refine op1_nilchk rfl rfl ?_; refine wpO_cons ?_; refine op1_faddr0 rfl rfl ?_; refine wpO_cons ?_; refine op1_store1 rfl rfl (by (conv => lhs; whnf) <;> rfl) rfl rfl (by with_reducible assumption) rfl ?_; refine wpO_nil ?_; refine seq_normal ?_; refine wp_region ?_; refine wpO_cons ?_; refine op1_mov rfl (by (conv => lhs; whnf) <;> rfl) ?_; refine wpO_cons ?_; refine op1_bslice rfl ?_; refine bk_one (by (conv => lhs; whnf) <;> rfl) rfl rfl rfl ?_; refine bk_one (by (conv => lhs; whnf) <;> rfl) rfl rfl rfl ?_; refine bk_one (by (conv => lhs; whnf) <;> rfl) rfl rfl rfl ?_; refine bk_nil ?_; refine wpO_cons ?_; refine op1_call2 rfl (by (conv => lhs; whnf) <;> rfl) (by (conv => lhs; whnf) <;> rfl) ?_
    have hO' : SlO H 1 (.slice a' (((s.line.length : Int) - 1).toNat - 0) c') (bts (s.line.take (s.line.length - 1))) ol := by
      have e : (List.drop (0 * 1) (bts s.line)).take ((((s.line.length : Int) - 1).toNat - 0) * 1) = bts (s.line.take (s.line.length - 1)) := by
        rw [Nat.zero_mul, List.drop_zero, ← bts_take]
        congr 1
        omega
      rw [← e]
      exact hO
    obtain ⟨O1, hR1, hE1⟩ := h.setLine hO' (Ext.refl ol H)
    refine wpF_mono (L71new hR1 [8, 32, 8] (by show s.output.length + 2 * 3 ≤ 1000000; omega)) ?_
    rintro v H2 ⟨O2, hR2, hE2⟩
    refine wpO_nil ?_; refine nrm_of ?_; refine rk_nil ?_
    unfold PT.erase
    rw [if_pos (by omega)]
    exact ⟨O2, hR2, hE1.trans hE2 (fun b hb => (h.low b hb).2)⟩
  · refine wp_skip ?_; refine nrm_of ?_; refine rk_nil ?_
    unfold PT.erase
    rw [if_neg (by omega)]
    exact ⟨_, ⟨_, _, _, _, _, _, _, _, _, _, h, rfl⟩, Ext.refl _ _⟩

theorem echo_line (s : PT) (l : List Int) : (s.echo l).line = s.line ∧ (s.echo l).input = s.input := by
  have : ∀ l (s : PT), (s.outs l).line = s.line ∧ (s.outs l).input = s.input := by
    intro l
    induction l with
    | nil => intro s; exact ⟨rfl, rfl⟩
    | cons b l ih => intro s; exact ih (s.out1 b)
  unfold PT.echo
  split
  · exact this l s
  · exact ⟨rfl, rfl⟩
theorem echo_len (s : PT) (l : List Int) : (s.echo l).output.length ≤ s.output.length + 2 * l.length := by
  unfold PT.echo
  split
  · exact outs_len s l
  · omega
theorem erase_line (s : PT) : s.erase.line = s.line.take (s.line.length - 1) ∧ s.erase.input = s.input ∧ s.erase.output.length ≤ s.output.length + 6 := by
  unfold PT.erase
  split
  · exact ⟨(echo_line _ _).1, (echo_line _ _).2, echo_len _ _⟩
  · rename_i h
    have : s.line = [] := List.eq_nil_of_length_eq_zero (by omega)
    rw [this]
    exact ⟨rfl, rfl, by omega⟩
theorem iter_erase (s : PT) : ∀ n, n ≤ s.line.length → (iter PT.erase n s).line.length = s.line.length - n ∧ (iter PT.erase n s).output.length ≤ s.output.length + 6 * n
  | 0, _ => ⟨rfl, by simp [iter]⟩
  | n + 1, h => by
    obtain ⟨h1, h2⟩ := iter_erase s n (by omega)
    obtain ⟨h3, _, h4⟩ := erase_line (iter PT.erase n s)
    simp only [iter]
    refine ⟨by rw [h3, List.length_take]; omega, by omega⟩

theorem L114 {H : AHeap} {p : Nat} {s : PT} {O : List Nat} (h : RepT false H p s O) (b : Int) (h1 : s.line.length ≤ 1000) (h2 : s.output.length ≤ 800000) : wpF C 114 [.pointer (some ⟨p, 0, none⟩), .int .u8 b] H fun v H' => ∃ O', RepT false H' p s.kill O' ∧ Ext O H O' H' := by
  refine wpF_ofW o114 rfl rfl ?_
  refine wp_block ?_
  refine wp_loop [] (fun k vs H' => ∃ i : Nat, i + k = s.line.length ∧ ∃ O', RepT false H' p (iter PT.erase i s) O' ∧ Ext O H O' H') ⟨s.line.length, 0, by omega, O, h, Ext.refl _ _⟩ ?_
  rintro k vs T' H' ⟨i, hk, O', hR, hE⟩
  obtain ⟨hi1, hi2⟩ := iter_erase s i (by omega)
  have hR' := hR
  obtain ⟨vl, vi, vo, vs, cells, ol, oi, orr, oo, os, hT, rfl⟩ := hR'
  obtain ⟨al, cl, rfl⟩ := hT.line.b1
  have hg := hT.get
  refine wp_seq ?_; refine wp_seq ?_; refine wp_region ?_; refine wpO_cons ?_; refine op1_mov rfl (by (conv => lhs; whnf) <;> rfl) ?_; refine wpO_cons ?_; refine op1_nilchk rfl rfl ?_; refine wpO_cons ?_; refine op1_faddr0 rfl rfl ?_; refine wpO_cons ?_; refine op1_load rfl rfl (by with_reducible assumption) rfl ?_; refine wpO_cons ?_; refine op1_len rfl rfl ?_; refine wpO_cons ?_; refine op1_gtr rfl rfl rfl ?_; refine wpO_nil ?_; refine seq_normal ?_
  refine wp_dec rfl (fun hh => ?_) (fun hh => ?_)
  · refine wp_skip ?_; refine seq_normal ?_; refine wp_block ?_; refine wp_region ?_; refine wpO_cons ?_; refine op1_mov rfl (by (conv => lhs; whnf) <;> rfl) ?_; refine wpO_cons ?_; refine op1_mov rfl (by (conv => lhs; whnf) <;> rfl) ?_; refine wpO_cons ?_; refine op1_call2 rfl (by (conv => lhs; whnf) <;> rfl) (by (conv => lhs; whnf) <;> rfl) ?_
    refine wpF_mono (L113 hR b (by omega) (by omega)) ?_
    rintro v H2 ⟨O2, hR2, hE2⟩
    refine wpO_nil ?_; refine block_normal ?_
    exact ⟨k - 1, by omega, i + 1, by omega, O2, hR2, hE.trans hE2 h.lt⟩
  · refine wp_exit ?_; refine seq_exit ?_; refine iter_exit ?_; refine block_exit ?_; refine nrm_of ?_; refine rk_nil ?_
    have : i = s.line.length := by omega
    subst this
    exact ⟨_, hR, hE⟩

theorem L115 {H : AHeap} {p : Nat} {s : PT} {O : List Nat} (h : RepT false H p s O) (b : Int) (hlim : s.input.length ≤ 100000) : wpF C 115 [.pointer (some ⟨p, 0, none⟩), .int .u8 b] H fun v H' => ∃ O', RepT false H' p s.endL O' ∧ Ext O H O' H' := by
  refine wpF_ofW o115 rfl rfl ?_
  refine wp_region ?_; refine wpO_cons ?_; refine op1_mov rfl (by (conv => lhs; whnf) <;> rfl) ?_; refine wpO_cons ?_; refine op1_call1 rfl (by (conv => lhs; whnf) <;> rfl) ?_
  refine wpF_mono (L110 h hlim) ?_
  rintro v H2 hq
  refine wpO_nil ?_; refine nrm_of ?_; refine rk_nil ?_
  exact hq

theorem L116 {H : AHeap} {p : Nat} {s : PT} {O : List Nat} (h : RepT false H p s O) (b : Int) (hlim : s.input.length ≤ 100000) (h1 : s.line.length ≤ 100000) (h2 : s.output.length ≤ 900000) : wpF C 116 [.pointer (some ⟨p, 0, none⟩), .int .u8 b] H fun v H' => ∃ O', RepT false H' p (s.next b) O' ∧ Ext O H O' H' := by
  have hlt := h.lt
  obtain ⟨vl, vi, vo, vs, cells, ol, oi, orr, oo, os, h, rfl⟩ := h
  have hg := h.get
  have hol := h.lt.2.1
  obtain ⟨al, cl, rfl⟩ := h.line.b1
  refine wpF_ofW o116 rfl rfl ?_
  refine wp_seq ?_; refine wp_region ?_; refine wpO_cons ?_; refine op1_mov rfl (by (conv => lhs; whnf) <;> rfl) ?_; refine wpO_cons ?_; refine op1_mov rfl (by (conv => lhs; whnf) <;> rfl) ?_; refine wpO_cons ?_; refine op1_nilchk rfl rfl ?_; refine wpO_cons ?_; refine op1_faddr0 rfl rfl ?_; refine wpO_cons ?_; refine op1_load rfl rfl (by with_reducible assumption) rfl ?_; refine wpO_cons ?_; refine op1_mov rfl (by (conv => lhs; whnf) <;> rfl) ?_; refine wpO_cons ?_; refine op1_bslice rfl ?_; refine bk_one (by (conv => lhs; whnf) <;> rfl) rfl rfl rfl ?_; refine bk_nil ?_; refine wpO_cons ?_
  refine op1_appendN rfl rfl rfl rfl AHeap.ga_same rfl rfl (h.line.add hol _) (by omega) (fun b hb => by have := hol b hb; simp only [AHeap.next_add]; omega) ?_
  intro a' c' o' H3 hO3 hE3
  have hg3 := h.get3 hE3 h.pn.1
  have hE4 := (Ext.add ol H (.cells [.int .u8 b] 1 false)).trans hE3 hol
  obtain ⟨O1, hR1, hE1⟩ := h.setLine (line' := s.line ++ [b]) (by rw [bts_append]; exact hO3) hE4
  refine wpO_cons ?_; refine op1_nilchk rfl rfl ?_; refine wpO_cons ?_; refine op1_faddr0 rfl rfl ?_; refine wpO_cons ?_; refine op1_store1 rfl rfl (by (conv => lhs; whnf) <;> rfl) rfl rfl (by with_reducible assumption) rfl ?_; refine wpO_nil ?_; refine seq_normal ?_; refine wp_seq ?_; refine wp_region ?_; refine wpO_cons ?_; refine op1_mov rfl (by (conv => lhs; whnf) <;> rfl) ?_; refine wpO_cons ?_; refine op1_call1 rfl (by (conv => lhs; whnf) <;> rfl) ?_
  refine wpF_mono (L110 hR1 hlim) ?_
  rintro v H2 ⟨O2, hR2, hE2⟩
  refine wpO_nil ?_; refine seq_normal ?_; refine wp_region ?_; refine wpO_cons ?_; refine op1_mov rfl (by (conv => lhs; whnf) <;> rfl) ?_; refine wpO_cons ?_; refine op1_mov rfl (by (conv => lhs; whnf) <;> rfl) ?_; refine wpO_cons ?_; refine op1_bslice rfl ?_; refine bk_one (by (conv => lhs; whnf) <;> rfl) rfl rfl rfl ?_; refine bk_nil ?_; refine wpO_cons ?_; refine op1_call2 rfl (by (conv => lhs; whnf) <;> rfl) (by (conv => lhs; whnf) <;> rfl) ?_
  refine wpF_mono (L71new hR2 [b] (by show s.output.length + 2 * 1 ≤ 1000000; omega)) ?_
  rintro v H4 ⟨O4, hR4, hE5⟩
  refine wpO_nil ?_; refine nrm_of ?_; refine rk_nil ?_
  exact ⟨O4, hR4, (hE1.trans hE2 hlt).trans hE5 hlt⟩
end Go.E.Pty
