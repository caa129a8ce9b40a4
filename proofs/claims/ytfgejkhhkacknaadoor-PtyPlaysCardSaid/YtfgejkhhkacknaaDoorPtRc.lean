/- The given terminal: SetModes. -/
import Derived.Test.YtfgejkhhkacknaaDoorPtRb
import Derived.Test.YtfgejkhhkacknaaDoorPtStart
import Derived.Test.YtfgejkhhkacknaaDoorPtPieces
namespace Go.E.Pty
open Go Go.E Go.Proofs.YtfgejkhhkacknaaDoor.base Go.Proofs.YtfgejkhhkacknaaDoor Go.Proofs
set_option linter.unusedVariables false
set_option linter.unusedSimpArgs false
set_option maxRecDepth 100000

def PT.flush (s : PT) : PT :=
  match lastRun s.input with
  | some d => { s with input := s.input.dropLast ++ [(d ++ s.line, true)], line := [] }
  | none => { s with input := s.input ++ [(s.line, true)], line := [] }
theorem flush_some {s : PT} {d : List Int} (h : lastRun s.input = some d) : s.flush = { s with input := s.input.dropLast ++ [(d ++ s.line, true)], line := [] } := by unfold PT.flush; rw [h]
theorem flush_none {s : PT} (h : lastRun s.input = none) : s.flush = { s with input := s.input ++ [(s.line, true)], line := [] } := by unfold PT.flush; rw [h]
def PT.setModes (s : PT) (m : Int) : Int × PT := if m < 0 ∨ 63 < m then (34, s) else if s.hung = true then (35, s) else (0, { (if s.has 1 = true ∧ bitAnd .i64 m 1 = 0 ∧ 0 < s.line.length then s.flush else s) with modes := m })

/-- the line becomes a record -/
theorem OpT.lineRec {rl : Bool} {H H1 : AHeap} {p : Nat} {s : PT} {al : Option Addr} {cl : Nat} {vi vo vs vi' : Value} {cells : List Value} {ol oi orr oo os oi' : List Nat} {r : Bool} (h : OpT rl H p s (.slice al s.line.length cl) vi vo vs cells ol oi orr oo os)
    (hi' : SlO H1 2 vi' (cells ++ recC rl (.slice al s.line.length cl) r) oi') (hE : Ext oi H oi' H1) :
    ∃ O'', RepT rl (H1.set p (.cells [.int .i64 s.modes, .int .i64 s.rows, .int .i64 s.cols, .slice none 0 0, vi', vo, .bool s.stopped, vs, .bool s.hung] 0 false)) p { s with line := [], input := s.input ++ [(s.line, r)] } O'' ∧
      Ext (p :: (ol ++ (oi ++ (orr ++ (oo ++ os))))) H O'' (H1.set p (.cells [.int .i64 s.modes, .int .i64 s.rows, .int .i64 s.cols, .slice none 0 0, vi', vo, .bool s.stopped, vs, .bool s.hung] 0 false)) := by
  have nd := h.nd
  have own := hE.own
  simp only [List.nodup_cons, List.nodup_append, List.mem_append] at nd
  have hr : RecsO H1 rl (cells ++ (recC rl (.slice al s.line.length cl) r ++ [])) (s.input ++ [(s.line, r)]) (orr ++ (ol ++ [])) :=
    (h.recs.frame fun b hb => hE.keep b (h.lt.2.2.2.1 b hb) (by grind)).append (.cons (h.line.frame fun b hb => hE.keep b (h.lt.2.1 b hb) (by grind)) .nil)
  rw [List.append_nil, List.append_nil] at hr
  have hs1 := hi'.single
  obtain ⟨h1, h2⟩ := h.setLI (line' := []) (inp' := s.input ++ [(s.line, r)]) (ol' := []) (vl' := .slice none 0 0) .nil hi' hr ⟨hE.next, fun b hb hn => hE.keep b hb (by grind), fun b hb => by
    simp only [List.mem_append, List.nil_append] at hb ⊢
    grind⟩ (by simp only [List.nil_append, List.nodup_append, List.mem_append]; have := h.lt; grind)
  exact ⟨_, ⟨_, _, _, _, _, _, _, _, _, _, h1, rfl⟩, h2⟩

theorem L22 {H : AHeap} {p : Nat} {s : PT} {O : List Nat} (h : RepT false H p s O) (m : Int) (hlim : s.input.length ≤ 100000) (hll : s.line.length ≤ 1000) (h3 : ∀ x ∈ s.input, x.1.length ≤ 10000000) : wpF C 22 [.pointer (some ⟨p, 0, none⟩), .int .i64 m] H fun v H' => v = .int .i64 (s.setModes m).1 ∧ ∃ O', RepT false H' p (s.setModes m).2 O' ∧ Ext O H O' H' := by
  have hlt := h.lt
  have hR := h
  obtain ⟨vl, vi, vo, vs, cells, ol, oi, orr, oo, os, h, rfl⟩ := h
  obtain ⟨al, cl, rfl⟩ := h.line.b1
  obtain ⟨ai, li, ci, rfl, hli⟩ := h.inp.shape
  obtain rfl : li = s.input.length := by have := h.recs.length; omega
  have hg := h.get
  unfold PT.setModes
  refine wpF_ofW o22 rfl rfl ?_
  refine wp_seq ?_; refine wp_region ?_; refine wpO_cons ?_; refine op1_mov rfl (by (conv => lhs; whnf) <;> rfl) ?_; refine wpO_nil ?_; refine seq_normal ?_; refine wp_seq ?_; refine wp_block ?_; refine wp_seq ?_; refine wp_region ?_; refine wpO_cons ?_; refine op1_mov rfl (by (conv => lhs; whnf) <;> rfl) ?_; refine wpO_cons ?_; refine op1_bin_false rfl (by (conv => lhs; whnf) <;> rfl) (by (conv => lhs; whnf) <;> rfl) rfl ?_; refine wpO_cons ?_; refine op1_mov rfl (by (conv => lhs; whnf) <;> rfl) ?_; refine wpO_nil ?_; refine seq_normal ?_; refine wp_false rfl ?_
  refine wp_cut [9] (fun vs H' => vs = [.bool (decide (m < 0 ∨ 63 < m))] ∧ H = H') ?_ ?_
  · refine wp_region ?_; refine wpO_cons ?_; refine op1_mov rfl (by (conv => lhs; whnf) <;> rfl) ?_; refine wpO_cons ?_; refine op1_lss rfl rfl rfl ?_; refine wpO_cons ?_; refine op1_mov rfl (by (conv => lhs; whnf) <;> rfl) ?_; refine wpO_cons ?_; refine op1_split rfl (fun hc0 => ?_) (fun hc0 => ?_); (focus (refine op1_skip rfl ?_; refine wpO_cons ?_; refine op1_skip rfl ?_; refine wpO_cons ?_; refine op1_pick_t rfl rfl (by (conv => lhs; whnf) <;> rfl) ?_; refine wpO_cons ?_; refine op1_mov rfl (by (conv => lhs; whnf) <;> rfl) ?_; refine wpO_nil ?_; refine cut1 (by (conv => lhs; whnf) <;> rfl) ?_; (exact ⟨by simp only [List.cons.injEq, Value.bool.injEq, and_true]; grind, rfl⟩))); (focus (refine op1_mov rfl (by (conv => lhs; whnf) <;> rfl) ?_; refine wpO_cons ?_; refine op1_gtr rfl rfl rfl ?_; refine wpO_cons ?_; refine op1_pick_f rfl rfl (by (conv => lhs; whnf) <;> rfl) ?_; refine wpO_cons ?_; refine op1_mov rfl (by (conv => lhs; whnf) <;> rfl) ?_; refine wpO_nil ?_; refine cut1 (by (conv => lhs; whnf) <;> rfl) ?_; (exact ⟨by simp only [List.cons.injEq, Value.bool.injEq, and_true]; grind, rfl⟩)))
  rintro vs2 T2 H2 ⟨rfl, rfl⟩
  refine wp_dec rfl (fun hc => ?_) (fun hc => ?_)
  · rw [if_pos hc]
    refine wp_seq ?_; refine wp_region ?_; refine wpO_cons ?_; refine op1_mov rfl (by (conv => lhs; whnf) <;> rfl) ?_; refine wpO_nil ?_; refine seq_normal ?_; refine wp_ret ?_; refine block_ret ?_; refine seq_ret ?_; refine ret_of ?_; refine rk_tmp (by (conv => lhs; whnf) <;> rfl) ?_; refine rk_nil ?_
    exact ⟨rfl, _, hR, Ext.refl _ _⟩
  rw [if_neg hc]
  refine wp_seq ?_; refine wp_region ?_; refine wpO_cons ?_; refine op1_mov rfl (by (conv => lhs; whnf) <;> rfl) ?_; refine wpO_cons ?_; refine op1_nilchk rfl rfl ?_; refine wpO_cons ?_; refine op1_faddr0 rfl rfl ?_; refine wpO_cons ?_; refine op1_load rfl rfl (by with_reducible assumption) rfl ?_; refine wpO_cons ?_; refine op1_mov rfl (by (conv => lhs; whnf) <;> rfl) ?_; refine wpO_nil ?_; refine seq_normal ?_
  refine wp_cond rfl (fun hh => ?_) (fun hh => ?_)
  · rw [if_pos hh]
    refine wp_seq ?_; refine wp_region ?_; refine wpO_cons ?_; refine op1_mov rfl (by (conv => lhs; whnf) <;> rfl) ?_; refine wpO_nil ?_; refine seq_normal ?_; refine wp_ret ?_; refine block_ret ?_; refine seq_ret ?_; refine ret_of ?_; refine rk_tmp (by (conv => lhs; whnf) <;> rfl) ?_; refine rk_nil ?_
    exact ⟨rfl, _, hR, Ext.refl _ _⟩
  rw [if_neg (by rw [hh]; simp)]
  refine wp_skip ?_; refine block_normal ?_; refine seq_normal ?_
  refine wp_cut [] (fun _ H2 => ∃ O2, RepT false H2 p (if s.has 1 = true ∧ bitAnd .i64 m 1 = 0 ∧ 0 < s.line.length then s.flush else s) O2 ∧ Ext (p :: (ol ++ (oi ++ (orr ++ (oo ++ os))))) H O2 H2) ?_ ?_
  · skip
    refine wp_cut [35] (fun vs H2 => vs = [.bool (decide (s.has 1 = true ∧ bitAnd .i64 m 1 = 0 ∧ 0 < s.line.length))] ∧ H = H2) ?_ ?_
    · refine wp_region ?_; refine wpO_cons ?_; refine op1_mov rfl (by (conv => lhs; whnf) <;> rfl) ?_; refine wpO_cons ?_; refine op1_call2 rfl (by (conv => lhs; whnf) <;> rfl) (by (conv => lhs; whnf) <;> rfl) ?_; (refine wpF_mono (L37 hR _) ?_; rintro _ _ ⟨rfl, rfl⟩); refine wpO_cons ?_; refine op1_mov rfl (by (conv => lhs; whnf) <;> rfl) ?_; refine wpO_cons ?_; refine op1_split rfl (fun hc0 => ?_) (fun hc0 => ?_); (focus (refine op1_mov rfl (by (conv => lhs; whnf) <;> rfl) ?_; refine wpO_cons ?_; refine op1_and rfl rfl rfl ?_; refine wpO_cons ?_; refine op1_eqlI rfl rfl rfl ?_; refine wpO_cons ?_; refine op1_pick_t rfl rfl (by (conv => lhs; whnf) <;> rfl) ?_; refine wpO_cons ?_; refine op1_mov rfl (by (conv => lhs; whnf) <;> rfl) ?_; refine wpO_cons ?_; refine op1_split rfl (fun hc1 => ?_) (fun hc1 => ?_); (focus (refine op1_mov rfl (by (conv => lhs; whnf) <;> rfl) ?_; refine wpO_cons ?_; refine op1_nilchk rfl rfl ?_; refine wpO_cons ?_; refine op1_faddr0 rfl rfl ?_; refine wpO_cons ?_; refine op1_load rfl rfl (by with_reducible assumption) rfl ?_; refine wpO_cons ?_; refine op1_len rfl rfl ?_; refine wpO_cons ?_; refine op1_gtr rfl rfl rfl ?_; refine wpO_cons ?_; refine op1_pick_t rfl rfl (by (conv => lhs; whnf) <;> rfl) ?_; refine wpO_nil ?_; refine cut1 (by (conv => lhs; whnf) <;> rfl) ?_; (exact ⟨by simp_all, rfl⟩))); (focus (refine op1_skip rfl ?_; refine wpO_cons ?_; refine op1_skip rfl ?_; refine wpO_cons ?_; refine op1_skip rfl ?_; refine wpO_cons ?_; refine op1_skip rfl ?_; refine wpO_cons ?_; refine op1_skip rfl ?_; refine wpO_cons ?_; refine op1_skip rfl ?_; refine wpO_cons ?_; refine op1_pick_f rfl rfl (by (conv => lhs; whnf) <;> rfl) ?_; refine wpO_nil ?_; refine cut1 (by (conv => lhs; whnf) <;> rfl) ?_; (exact ⟨by simp_all, rfl⟩))))); (focus (refine op1_skip rfl ?_; refine wpO_cons ?_; refine op1_skip rfl ?_; refine wpO_cons ?_; refine op1_skip rfl ?_; refine wpO_cons ?_; refine op1_pick_f rfl rfl (by (conv => lhs; whnf) <;> rfl) ?_; refine wpO_cons ?_; refine op1_mov rfl (by (conv => lhs; whnf) <;> rfl) ?_; refine wpO_cons ?_; refine op1_skip rfl ?_; refine wpO_cons ?_; refine op1_skip rfl ?_; refine wpO_cons ?_; refine op1_skip rfl ?_; refine wpO_cons ?_; refine op1_skip rfl ?_; refine wpO_cons ?_; refine op1_skip rfl ?_; refine wpO_cons ?_; refine op1_skip rfl ?_; refine wpO_cons ?_; refine op1_pick_f rfl rfl (by (conv => lhs; whnf) <;> rfl) ?_; refine wpO_nil ?_; refine cut1 (by (conv => lhs; whnf) <;> rfl) ?_; (exact ⟨by simp_all, rfl⟩)))
    rintro vs3 T3 H3 ⟨rfl, rfl⟩
    refine wp_dec rfl (fun hc2 => ?_) (fun hc2 => ?_)
    · rw [if_pos hc2]
      rcases s.input.eq_nil_or_concat with hnil | ⟨rs, ⟨d, r⟩, hin⟩
      · have e : lastRun s.input = none := by rw [hnil]; rfl
        rw [flush_none e]
        have hg0 := hg
        rw [hnil] at hg0
        refine wp_seq ?_; refine wp_seq ?_; refine wp_region ?_; refine wpO_cons ?_; refine op1_mov rfl (by (conv => lhs; whnf) <;> rfl) ?_; refine wpO_cons ?_; refine op1_nilchk rfl rfl ?_; refine wpO_cons ?_; refine op1_faddr0 rfl rfl ?_; refine wpO_cons ?_; refine op1_call1 rfl (by (conv => lhs; whnf) <;> rfl) ?_
        refine wpF_mono (L42n hg0) ?_
        rintro v H2 ⟨rfl, rfl⟩
        refine wpO_cons ?_; refine op1_mov rfl (by (conv => lhs; whnf) <;> rfl) ?_; refine wpO_nil ?_; refine seq_normal ?_; refine wp_seq ?_; refine wp_region ?_; refine wpO_cons ?_; refine op1_mov rfl (by (conv => lhs; whnf) <;> rfl) ?_; refine wpO_cons ?_; refine op1_bin_false rfl (by (conv => lhs; whnf) <;> rfl) (by (conv => lhs; whnf) <;> rfl) rfl ?_; refine wpO_cons ?_; refine op1_mov rfl (by (conv => lhs; whnf) <;> rfl) ?_; refine wpO_cons ?_; refine op1_skip rfl ?_; refine wpO_cons ?_; refine op1_skip rfl ?_; refine wpO_cons ?_; refine op1_skip rfl ?_; refine wpO_cons ?_; refine op1_skip rfl ?_; refine wpO_cons ?_; refine op1_pick_f rfl rfl (by (conv => lhs; whnf) <;> rfl) ?_; refine wpO_nil ?_; refine seq_normal ?_; refine wp_false rfl ?_; refine wp_regionD ?_; refine wpD_cons ?_; refine op1_mov rfl (by (conv => lhs; whnf) <;> rfl) ?_; refine wpD_cons ?_; refine op1_nilchk rfl rfl ?_; refine wpD_cons ?_; refine op1_faddr0 rfl rfl ?_; refine wpD_cons ?_; refine op1_mov rfl (by (conv => lhs; whnf) <;> rfl) ?_; refine wpD_cons ?_; refine op1_nilchk rfl rfl ?_; refine wpD_cons ?_; refine op1_faddr0 rfl rfl ?_; refine wpD_cons ?_; refine op1_load rfl rfl (by with_reducible assumption) rfl ?_; refine wpD_cons ?_; refine op1_build rfl ?_; refine bk_one (by (conv => lhs; whnf) <;> rfl) rfl rfl rfl ?_; refine bk_one (by (conv => lhs; whnf) <;> rfl) rfl rfl rfl ?_; refine bk_nil ?_; refine wpD_cons ?_; refine op1_call2 rfl (by (conv => lhs; whnf) <;> rfl) (by (conv => lhs; whnf) <;> rfl) ?_
        skip
        refine wpF_mono (L43 hg h.inp h.pn.2.1 h.lt.1 h.lt.2.2.1 (by have := h.recs.length; omega)) ?_
        rintro v H' ⟨H1, vi', oi', rfl, hi', hE⟩
        refine wpD_nil ?_; refine dk_of ?_ ?_; refine chk_skip ?_; refine chk_skip ?_; refine chk_skip ?_; refine chk_skip ?_; refine chk_skip ?_; refine chk_skip ?_; refine chk_cons 3 rfl rfl rfl ?_ ?_; refine chkFs_cons 1 rfl rfl ?_ ?_; exact chk_load rfl (by with_reducible assumption) rfl rfl; exact chkFs_nil; refine chk_skip ?_; refine chk_skip ?_; exact chk_end; refine seq_normal ?_; refine wp_region ?_; refine wpO_cons ?_; refine op1_mov rfl (by (conv => lhs; whnf) <;> rfl) ?_; refine wpO_cons ?_; refine op1_nilchk rfl rfl ?_; refine wpO_cons ?_; refine op1_faddr0 rfl rfl ?_; refine wpO_cons ?_; refine op1_store1 rfl rfl (by (conv => lhs; whnf) <;> rfl) rfl rfl (by with_reducible exact AHeap.gs_same) rfl ?_; refine wpO_nil ?_; refine cut0  ?_
        exact fin_congr (h.lineRec hi' hE) (set_set _ _ _ _) rfl
      · rw [List.concat_eq_append] at hin
        have hrecs := h.recs
        rw [hin] at hrecs
        obtain ⟨cs0, vr, o1, o2, rfl, rfl, hr1, hr2⟩ := hrecs.last
        have hl1 := hr1.length
        obtain ⟨ar, cr, rfl⟩ := hr2.b1
        have hlen : s.input.length = rs.length + 1 := by rw [hin]; simp
        obtain ⟨bi, offi, csi, rfl, rfl, hgi, hle, hat⟩ := h.inp.at (i := rs.length) (by omega)
        have ha0 := hat 0 (by omega)
        have ha1 := hat 1 (by omega)
        simp only [recC, Nat.add_zero, Bool.false_eq_true, if_false] at ha0 ha1
        rw [List.getElem?_append_right (by omega), show rs.length * 2 - cs0.length = 0 by omega] at ha0
        rw [List.getElem?_append_right (by omega), show rs.length * 2 + 1 - cs0.length = 1 by omega] at ha1
        simp only [List.getElem?_cons_zero, List.getElem?_cons_succ] at ha0 ha1
        have e1 : s.input.length - 1 = rs.length := by omega
        have hdl : d.length ≤ 10000000 := h3 (d, r) (by rw [hin]; simp)
        refine wp_seq ?_; refine wp_seq ?_; refine wp_region ?_; refine wpO_cons ?_; refine op1_mov rfl (by (conv => lhs; whnf) <;> rfl) ?_; refine wpO_cons ?_; refine op1_nilchk rfl rfl ?_; refine wpO_cons ?_; refine op1_faddr0 rfl rfl ?_; refine wpO_cons ?_; refine op1_call1 rfl (by (conv => lhs; whnf) <;> rfl) ?_
        refine wpF_mono (L42 hg (by omega) (by omega)) ?_
        rintro v H2 ⟨rfl, rfl⟩
        rw [e1]
        refine wpO_cons ?_; refine op1_mov rfl (by (conv => lhs; whnf) <;> rfl) ?_; refine wpO_nil ?_; refine seq_normal ?_; refine wp_seq ?_; refine wp_region ?_; refine wpO_cons ?_; refine op1_mov rfl (by (conv => lhs; whnf) <;> rfl) ?_; refine wpO_cons ?_; refine op1_bin_true rfl (by (conv => lhs; whnf) <;> rfl) (by (conv => lhs; whnf) <;> rfl) rfl ?_; refine wpO_cons ?_; refine op1_mov rfl (by (conv => lhs; whnf) <;> rfl) ?_; refine wpO_cons ?_; refine op1_mov rfl (by (conv => lhs; whnf) <;> rfl) ?_; refine wpO_cons ?_; refine op1_nilchk rfl rfl ?_; refine wpO_cons ?_; refine op1_faddr rfl rfl ?_; refine wpO_cons ?_
        refine op1_load rfl rfl hgi ha1 ?_
        refine wpO_cons ?_; refine op1_pick_t rfl rfl (by (conv => lhs; whnf) <;> rfl) ?_; refine wpO_nil ?_; refine seq_normal ?_
        refine wp_cond rfl (fun h4 => ?_) (fun h4 => ?_)
        · subst h4
          have e : lastRun s.input = some d := by rw [hin]; unfold lastRun; simp
          rw [flush_some e]
          refine wp_regionD ?_; refine wpD_cons ?_; refine op1_mov rfl (by (conv => lhs; whnf) <;> rfl) ?_; refine wpD_cons ?_; refine op1_mov rfl (by (conv => lhs; whnf) <;> rfl) ?_; refine wpD_cons ?_; refine op1_nilchk rfl rfl ?_; refine wpD_cons ?_; refine op1_faddr rfl rfl ?_; refine wpD_cons ?_
          refine op1_load rfl rfl hgi ha0 ?_
          refine wpD_cons ?_; refine op1_mov rfl (by (conv => lhs; whnf) <;> rfl) ?_; refine wpD_cons ?_; refine op1_nilchk rfl rfl ?_; refine wpD_cons ?_; refine op1_faddr0 rfl rfl ?_; refine wpD_cons ?_; refine op1_load rfl rfl (by with_reducible assumption) rfl ?_; refine wpD_cons ?_
          have hlo2 : ∀ b ∈ o2, b < H.next := fun b hb => h.lt.2.2.2.1 b (by simp [hb])
          refine op1_appendO rfl rfl rfl rfl hr2 rfl (h.line.rd.src (by omega) (k := s.line.length) (by simp [bts])) (by simp [bts]) (by rw [bts_take]; exact bts_one _) (by omega) hlo2 ?_
          intro a' c' o' H3 hO3 hE3
          rw [Nat.mul_one, List.take_of_length_le (by simp [bts]), ← bts_append] at hO3
          have hbi := h.lt.2.2.1 bi (by simp)
          have hnd := h.nd
          simp only [List.nodup_cons, List.nodup_append, List.mem_append, List.mem_cons, List.not_mem_nil, or_false] at hnd
          have hg3 : H3.get bi = .cells csi 2 false := (hE3.keep bi hbi (by grind)).trans hgi
          have hgp3 : H3.get p = _ := (hE3.keep p h.lt.1 (by grind)).trans hg
          refine wpD_cons ?_; refine op1_nilchk rfl rfl ?_; refine wpD_cons ?_; refine op1_faddr rfl rfl ?_; refine wpD_cons ?_
          refine op1_store1 rfl rfl (by (conv => lhs; whnf) <;> rfl) rfl rfl hg3 (Nat.ble_eq_true_of_le (by omega)) ?_
          obtain ⟨O4, q1, q2⟩ := h.setRun (d' := d ++ s.line) hr1 hgi hO3 hE3
          have e5 : s.input.dropLast = rs := by rw [hin]; simp
          rw [e5]
          obtain ⟨vl5, vi5, vo5, vs5, cells5, ol5, oi5, orr5, oo5, os5, h5, rfl⟩ := q1
          have hg5 := h5.get
          have hlt5 := h5.lt.1
          obtain ⟨O6, q5, q6⟩ := h5.setLine (line' := []) (vl' := .slice none 0 0) (ol' := []) .nil ⟨Nat.le_refl _, fun _ _ _ => rfl, fun b hb => by simp at hb⟩
          refine wpD_nil ?_; refine dk_of ?_ ?_; refine chk_skip ?_; refine chk_skip ?_; refine chk_skip ?_; refine chk_skip ?_; refine chk_cons 9 rfl rfl rfl ?_ ?_; refine chkFs_cons 4 rfl rfl ?_ ?_
          · exact chk_load rfl hgi ha0 rfl
          exact chkFs_nil
          refine chk_skip ?_; refine chk_skip ?_; refine chk_skip ?_; refine chk_cons 5 rfl rfl rfl ?_ ?_; refine chkFs_cons 4 rfl rfl ?_ ?_; exact chk_load rfl (by with_reducible assumption) rfl rfl; exact chkFs_nil; refine chk_skip ?_; refine chk_skip ?_; refine chk_skip ?_; refine chk_skip ?_; exact chk_end
          refine seq_normal ?_; refine wp_region ?_; refine wpO_cons ?_; refine op1_mov rfl (by (conv => lhs; whnf) <;> rfl) ?_; refine wpO_cons ?_; refine op1_nilchk rfl rfl ?_; refine wpO_cons ?_; refine op1_faddr0 rfl rfl ?_; refine wpO_cons ?_; refine op1_store1 rfl rfl (by (conv => lhs; whnf) <;> rfl) rfl rfl (by assumption) rfl ?_; refine wpO_nil ?_; refine cut0  ?_
          exact ⟨O6, q5, q2.trans q6 hlt⟩
        · subst h4
          have e : lastRun s.input = none := by rw [hin]; unfold lastRun; simp
          rw [flush_none e]
          refine wp_regionD ?_; refine wpD_cons ?_; refine op1_mov rfl (by (conv => lhs; whnf) <;> rfl) ?_; refine wpD_cons ?_; refine op1_nilchk rfl rfl ?_; refine wpD_cons ?_; refine op1_faddr0 rfl rfl ?_; refine wpD_cons ?_; refine op1_mov rfl (by (conv => lhs; whnf) <;> rfl) ?_; refine wpD_cons ?_; refine op1_nilchk rfl rfl ?_; refine wpD_cons ?_; refine op1_faddr0 rfl rfl ?_; refine wpD_cons ?_; refine op1_load rfl rfl (by with_reducible assumption) rfl ?_; refine wpD_cons ?_; refine op1_build rfl ?_; refine bk_one (by (conv => lhs; whnf) <;> rfl) rfl rfl rfl ?_; refine bk_one (by (conv => lhs; whnf) <;> rfl) rfl rfl rfl ?_; refine bk_nil ?_; refine wpD_cons ?_; refine op1_call2 rfl (by (conv => lhs; whnf) <;> rfl) (by (conv => lhs; whnf) <;> rfl) ?_
          skip
          refine wpF_mono (L43 hg h.inp h.pn.2.1 h.lt.1 h.lt.2.2.1 (by have := h.recs.length; omega)) ?_
          rintro v H' ⟨H1, vi', oi', rfl, hi', hE⟩
          refine wpD_nil ?_; refine dk_of ?_ ?_; refine chk_skip ?_; refine chk_skip ?_; refine chk_skip ?_; refine chk_skip ?_; refine chk_skip ?_; refine chk_skip ?_; refine chk_cons 3 rfl rfl rfl ?_ ?_; refine chkFs_cons 1 rfl rfl ?_ ?_; exact chk_load rfl (by with_reducible assumption) rfl rfl; exact chkFs_nil; refine chk_skip ?_; refine chk_skip ?_; exact chk_end; refine seq_normal ?_; refine wp_region ?_; refine wpO_cons ?_; refine op1_mov rfl (by (conv => lhs; whnf) <;> rfl) ?_; refine wpO_cons ?_; refine op1_nilchk rfl rfl ?_; refine wpO_cons ?_; refine op1_faddr0 rfl rfl ?_; refine wpO_cons ?_; refine op1_store1 rfl rfl (by (conv => lhs; whnf) <;> rfl) rfl rfl (by with_reducible exact AHeap.gs_same) rfl ?_; refine wpO_nil ?_; refine cut0  ?_
          exact fin_congr (h.lineRec hi' hE) (set_set _ _ _ _) rfl
    · rw [if_neg hc2]
      refine wp_skip ?_; refine cut0  ?_
      exact ⟨_, hR, Ext.refl _ _⟩
  rintro vs4 T4 H4 ⟨O4, hR4, hE4⟩
  generalize (if s.has 1 = true ∧ bitAnd .i64 m 1 = 0 ∧ 0 < s.line.length then s.flush else s) = s4 at *
  obtain ⟨vl4, vi4, vo4, vs4', cells4, ol4, oi4, orr4, oo4, os4, h4, rfl⟩ := hR4
  have hg4 := h4.get
  refine wp_seq ?_; refine wp_region ?_; refine wpO_cons ?_; refine op1_mov rfl (by (conv => lhs; whnf) <;> rfl) ?_; refine wpO_cons ?_; refine op1_mov rfl (by (conv => lhs; whnf) <;> rfl) ?_; refine wpO_cons ?_; refine op1_nilchk rfl rfl ?_; refine wpO_cons ?_; refine op1_faddr0 rfl rfl ?_; refine wpO_cons ?_; refine op1_store1 rfl rfl (by (conv => lhs; whnf) <;> rfl) rfl rfl (by with_reducible assumption) rfl ?_; refine wpO_nil ?_; refine seq_normal ?_; refine wp_seq ?_; refine wp_region ?_; refine wpO_cons ?_; refine op1_mov rfl (by (conv => lhs; whnf) <;> rfl) ?_; refine wpO_nil ?_; refine seq_normal ?_; refine wp_ret ?_; refine ret_of ?_; refine rk_tmp (by (conv => lhs; whnf) <;> rfl) ?_; refine rk_nil ?_
  obtain ⟨q1, q2⟩ := h4.setFl m s4.rows s4.cols s4.stopped s4.hung
  exact ⟨rfl, _, ⟨_, _, _, _, _, _, _, _, _, _, q1, rfl⟩, hE4.trans q2 hlt⟩
end Go.E.Pty

/- The reference's terminal: SetModes. -/
namespace Go.E.Pty
open Go Go.E Go.Proofs.YtfgejkhhkacknaaDoor.base Go.Proofs.YtfgejkhhkacknaaDoor Go.Proofs
set_option linter.unusedVariables false
set_option linter.unusedSimpArgs false
set_option maxRecDepth 100000

theorem L53 {H : AHeap} {p : Nat} {s : PT} {O : List Nat} (h : RepT true H p s O) (m : Int) (hlim : s.input.length ≤ 100000) (hll : s.line.length ≤ 1000) (h3 : ∀ x ∈ s.input, x.1.length ≤ 10000000) : wpF C 53 [.pointer (some ⟨p, 0, none⟩), .int .i64 m] H fun v H' => v = .int .i64 (s.setModes m).1 ∧ ∃ O', RepT true H' p (s.setModes m).2 O' ∧ Ext O H O' H' := by
  have hlt := h.lt
  have hR := h
  obtain ⟨vl, vi, vo, vs, cells, ol, oi, orr, oo, os, h, rfl⟩ := h
  obtain ⟨al, cl, rfl⟩ := h.line.b1
  obtain ⟨ai, li, ci, rfl, hli⟩ := h.inp.shape
  obtain rfl : li = s.input.length := by have := h.recs.length; omega
  have hg := h.get
  have lt := h.lt
  unfold PT.setModes
  refine wpF_ofW o53 rfl rfl ?_
  refine wp_seq ?_; refine wp_region ?_; refine wpO_cons ?_; refine op1_mov rfl (by (conv => lhs; whnf) <;> rfl) ?_; refine wpO_nil ?_; refine seq_normal ?_; refine wp_seq ?_
  refine wp_cut [11] (fun vs H' => vs = [.bool (decide (m < 0 ∨ 63 < m))] ∧ H = H') ?_ ?_
  · refine wp_region ?_; refine wpO_cons ?_; refine op1_mov rfl (by (conv => lhs; whnf) <;> rfl) ?_; refine wpO_cons ?_; refine op1_lss rfl rfl rfl ?_; refine wpO_cons ?_; refine op1_mov rfl (by (conv => lhs; whnf) <;> rfl) ?_; refine wpO_cons ?_; refine op1_split rfl (fun hc0 => ?_) (fun hc0 => ?_); (focus (refine op1_skip rfl ?_; refine wpO_cons ?_; refine op1_skip rfl ?_; refine wpO_cons ?_; refine op1_pick_t rfl rfl (by (conv => lhs; whnf) <;> rfl) ?_; refine wpO_nil ?_; refine cut1 (by (conv => lhs; whnf) <;> rfl) ?_; (exact ⟨by simp only [List.cons.injEq, Value.bool.injEq, and_true]; grind, rfl⟩))); (focus (refine op1_mov rfl (by (conv => lhs; whnf) <;> rfl) ?_; refine wpO_cons ?_; refine op1_gtr rfl rfl rfl ?_; refine wpO_cons ?_; refine op1_pick_f rfl rfl (by (conv => lhs; whnf) <;> rfl) ?_; refine wpO_nil ?_; refine cut1 (by (conv => lhs; whnf) <;> rfl) ?_; (exact ⟨by simp only [List.cons.injEq, Value.bool.injEq, and_true]; grind, rfl⟩)))
  rintro vs2 T2 H2 ⟨rfl, rfl⟩
  refine wp_dec rfl (fun hc => ?_) (fun hc => ?_)
  · rw [if_pos hc]
    refine wp_seq ?_; refine wp_region ?_; refine wpO_cons ?_; refine op1_mov rfl (by (conv => lhs; whnf) <;> rfl) ?_; refine wpO_nil ?_; refine seq_normal ?_; refine wp_ret ?_; refine seq_ret ?_; refine ret_of ?_; refine rk_tmp (by (conv => lhs; whnf) <;> rfl) ?_; refine rk_nil ?_
    exact ⟨rfl, _, hR, Ext.refl _ _⟩
  rw [if_neg hc]
  refine wp_skip ?_; refine seq_normal ?_; refine wp_seq ?_; refine wp_seq ?_; refine wp_region ?_; refine wpO_cons ?_; refine op1_mov rfl (by (conv => lhs; whnf) <;> rfl) ?_; refine wpO_cons ?_; refine op1_nilchk rfl rfl ?_; refine wpO_cons ?_; refine op1_faddr0 rfl rfl ?_; refine wpO_cons ?_; refine op1_load rfl rfl (by with_reducible assumption) rfl ?_; refine wpO_nil ?_; refine seq_normal ?_
  refine wp_cond rfl (fun hh => ?_) (fun hh => ?_)
  · rw [if_pos hh]
    refine wp_seq ?_; refine wp_region ?_; refine wpO_cons ?_; refine op1_mov rfl (by (conv => lhs; whnf) <;> rfl) ?_; refine wpO_nil ?_; refine seq_normal ?_; refine wp_ret ?_; refine seq_ret ?_; refine ret_of ?_; refine rk_tmp (by (conv => lhs; whnf) <;> rfl) ?_; refine rk_nil ?_
    exact ⟨rfl, _, hR, Ext.refl _ _⟩
  rw [if_neg (by rw [hh]; simp)]
  refine wp_skip ?_; refine seq_normal ?_
  refine wp_cut [] (fun _ H2 => ∃ O2, RepT true H2 p (if s.has 1 = true ∧ bitAnd .i64 m 1 = 0 ∧ 0 < s.line.length then s.flush else s) O2 ∧ Ext (p :: (ol ++ (oi ++ (orr ++ (oo ++ os))))) H O2 H2) ?_ ?_
  · skip
    refine wp_cut [30] (fun vs H2 => vs = [.bool (decide (s.has 1 = true ∧ bitAnd .i64 m 1 = 0 ∧ 0 < s.line.length))] ∧ H = H2) ?_ ?_
    · refine wp_region ?_; refine wpO_cons ?_; refine op1_mov rfl (by (conv => lhs; whnf) <;> rfl) ?_; refine wpO_cons ?_; refine op1_call2 rfl (by (conv => lhs; whnf) <;> rfl) (by (conv => lhs; whnf) <;> rfl) ?_; (refine wpF_mono (L73 hR _) ?_; rintro _ _ ⟨rfl, rfl⟩); refine wpO_cons ?_; refine op1_mov rfl (by (conv => lhs; whnf) <;> rfl) ?_; refine wpO_cons ?_; refine op1_split rfl (fun hc0 => ?_) (fun hc0 => ?_); (focus (refine op1_mov rfl (by (conv => lhs; whnf) <;> rfl) ?_; refine wpO_cons ?_; refine op1_and rfl rfl rfl ?_; refine wpO_cons ?_; refine op1_eqlI rfl rfl rfl ?_; refine wpO_cons ?_; refine op1_pick_t rfl rfl (by (conv => lhs; whnf) <;> rfl) ?_; refine wpO_cons ?_; refine op1_mov rfl (by (conv => lhs; whnf) <;> rfl) ?_; refine wpO_cons ?_; refine op1_split rfl (fun hc1 => ?_) (fun hc1 => ?_); (focus (refine op1_mov rfl (by (conv => lhs; whnf) <;> rfl) ?_; refine wpO_cons ?_; refine op1_nilchk rfl rfl ?_; refine wpO_cons ?_; refine op1_faddr0 rfl rfl ?_; refine wpO_cons ?_; refine op1_load rfl rfl (by with_reducible assumption) rfl ?_; refine wpO_cons ?_; refine op1_len rfl rfl ?_; refine wpO_cons ?_; refine op1_gtr rfl rfl rfl ?_; refine wpO_cons ?_; refine op1_pick_t rfl rfl (by (conv => lhs; whnf) <;> rfl) ?_; refine wpO_nil ?_; refine cut1 (by (conv => lhs; whnf) <;> rfl) ?_; (exact ⟨by simp_all, rfl⟩))); (focus (refine op1_skip rfl ?_; refine wpO_cons ?_; refine op1_skip rfl ?_; refine wpO_cons ?_; refine op1_skip rfl ?_; refine wpO_cons ?_; refine op1_skip rfl ?_; refine wpO_cons ?_; refine op1_skip rfl ?_; refine wpO_cons ?_; refine op1_skip rfl ?_; refine wpO_cons ?_; refine op1_pick_f rfl rfl (by (conv => lhs; whnf) <;> rfl) ?_; refine wpO_nil ?_; refine cut1 (by (conv => lhs; whnf) <;> rfl) ?_; (exact ⟨by simp_all, rfl⟩))))); (focus (refine op1_skip rfl ?_; refine wpO_cons ?_; refine op1_skip rfl ?_; refine wpO_cons ?_; refine op1_skip rfl ?_; refine wpO_cons ?_; refine op1_pick_f rfl rfl (by (conv => lhs; whnf) <;> rfl) ?_; refine wpO_cons ?_; refine op1_mov rfl (by (conv => lhs; whnf) <;> rfl) ?_; refine wpO_cons ?_; refine op1_skip rfl ?_; refine wpO_cons ?_; refine op1_skip rfl ?_; refine wpO_cons ?_; refine op1_skip rfl ?_; refine wpO_cons ?_; refine op1_skip rfl ?_; refine wpO_cons ?_; refine op1_skip rfl ?_; refine wpO_cons ?_; refine op1_skip rfl ?_; refine wpO_cons ?_; refine op1_pick_f rfl rfl (by (conv => lhs; whnf) <;> rfl) ?_; refine wpO_nil ?_; refine cut1 (by (conv => lhs; whnf) <;> rfl) ?_; (exact ⟨by simp_all, rfl⟩)))
    rintro vs3 T3 H3 ⟨rfl, rfl⟩
    refine wp_dec rfl (fun hc2 => ?_) (fun hc2 => ?_)
    · rw [if_pos hc2]
      rcases s.input.eq_nil_or_concat with hnil | ⟨rs, ⟨d, r⟩, hin⟩
      · have e : lastRun s.input = none := by rw [hnil]; rfl
        rw [flush_none e]
        refine wp_seq ?_; refine wp_region ?_; refine wpO_cons ?_; refine op1_mov rfl (by (conv => lhs; whnf) <;> rfl) ?_; refine wpO_cons ?_; refine op1_nilchk rfl rfl ?_; refine wpO_cons ?_; refine op1_faddr0 rfl rfl ?_; refine wpO_cons ?_; refine op1_load rfl rfl (by with_reducible assumption) rfl ?_; refine wpO_cons ?_; refine op1_len rfl rfl ?_; refine wpO_cons ?_; refine op1_mov rfl (by (conv => lhs; whnf) <;> rfl) ?_; refine wpO_nil ?_; refine seq_normal ?_; refine wp_seq ?_; refine wp_seq ?_; refine wp_region ?_; refine wpO_cons ?_; refine op1_mov rfl (by (conv => lhs; whnf) <;> rfl) ?_; refine wpO_cons ?_; refine op1_gtr rfl rfl rfl ?_; refine wpO_cons ?_; refine op1_mov rfl (by (conv => lhs; whnf) <;> rfl) ?_; refine wpO_cons ?_
        refine op1_dec rfl (fun h4 => ?_) (fun h4 => ?_)
        · rw [hnil] at h4; simp at h4
        refine op1_skip rfl ?_; refine wpO_cons ?_; refine op1_skip rfl ?_; refine wpO_cons ?_; refine op1_skip rfl ?_; refine wpO_cons ?_; refine op1_skip rfl ?_; refine wpO_cons ?_; refine op1_skip rfl ?_; refine wpO_cons ?_; refine op1_skip rfl ?_; refine wpO_cons ?_; refine op1_skip rfl ?_; refine wpO_cons ?_; refine op1_skip rfl ?_; refine wpO_cons ?_; refine op1_skip rfl ?_; refine wpO_cons ?_; refine op1_pick_f rfl rfl (by (conv => lhs; whnf) <;> rfl) ?_; refine wpO_nil ?_; refine seq_normal ?_; refine wp_false rfl ?_; refine wp_regionD ?_; refine wpD_cons ?_; refine op1_mov rfl (by (conv => lhs; whnf) <;> rfl) ?_; refine wpD_cons ?_; refine op1_mov rfl (by (conv => lhs; whnf) <;> rfl) ?_; refine wpD_cons ?_; refine op1_nilchk rfl rfl ?_; refine wpD_cons ?_; refine op1_faddr0 rfl rfl ?_; refine wpD_cons ?_; refine op1_load rfl rfl (by with_reducible assumption) rfl ?_; refine wpD_cons ?_; refine op1_mov rfl (by (conv => lhs; whnf) <;> rfl) ?_; refine wpD_cons ?_; refine op1_nilchk rfl rfl ?_; refine wpD_cons ?_; refine op1_faddr0 rfl rfl ?_; refine wpD_cons ?_; refine op1_load rfl rfl (by with_reducible assumption) rfl ?_; refine wpD_cons ?_; refine op1_build rfl ?_; refine bk_one (by (conv => lhs; whnf) <;> rfl) rfl rfl rfl ?_; refine bk_one (by (conv => lhs; whnf) <;> rfl) rfl rfl rfl ?_; refine bk_nil ?_; refine wpD_cons ?_; refine op1_bslice rfl ?_; refine bk_agg rfl rfl rfl rfl ?_; refine bk_nil ?_; refine wpD_cons ?_
        skip
        have hN := lt.2.2.1
        have hiA := h.inp.add hN (.cells (recC true (.slice al s.line.length cl) true) 2 false)
        refine op1_appendN rfl rfl rfl rfl AHeap.ga_same rfl rfl hiA (by omega) (fun d hd => by have := hN d hd; simp only [AHeap.next_add]; omega) ?_
        intro a9 c9 o9 H9 hO9 hE9
        have hE10 := (Ext.add oi H (.cells (recC true (.slice al s.line.length cl) true) 2 false)).trans hE9 hN
        have hg9 := h.get3 hE9 h.pn.2.1
        refine wpD_cons ?_; refine op1_nilchk rfl rfl ?_; refine wpD_cons ?_; refine op1_faddr0 rfl rfl ?_; refine wpD_cons ?_; refine op1_store1 rfl rfl (by (conv => lhs; whnf) <;> rfl) rfl rfl (by with_reducible assumption) rfl ?_; refine wpD_nil ?_; refine dk_of ?_ ?_; refine chk_skip ?_; refine chk_skip ?_; refine chk_skip ?_; refine chk_skip ?_; refine chk_cons 11 rfl rfl rfl ?_ ?_; refine chkFs_cons 4 rfl rfl ?_ ?_; exact chk_load rfl (by with_reducible refine AHeap.ga_lt (by omega) ?_; with_reducible assumption) rfl rfl; exact chkFs_nil; refine chk_skip ?_; refine chk_skip ?_; refine chk_skip ?_; refine chk_cons 7 rfl rfl rfl ?_ ?_; refine chkFs_cons 4 rfl rfl ?_ ?_; exact chk_load rfl (by with_reducible refine AHeap.ga_lt (by omega) ?_; with_reducible assumption) rfl rfl; exact chkFs_nil; refine chk_skip ?_; refine chk_skip ?_; refine chk_skip ?_; refine chk_skip ?_; refine chk_skip ?_; refine chk_skip ?_; exact chk_end; refine seq_normal ?_; refine wp_region ?_; refine wpO_cons ?_; refine op1_mov rfl (by (conv => lhs; whnf) <;> rfl) ?_; refine wpO_cons ?_; refine op1_nilchk rfl rfl ?_; refine wpO_cons ?_; refine op1_faddr0 rfl rfl ?_; refine wpO_cons ?_; refine op1_store1 rfl rfl (by (conv => lhs; whnf) <;> rfl) rfl rfl (by with_reducible exact AHeap.gs_same) rfl ?_; refine wpO_nil ?_; refine cut0  ?_
        exact fin_congr (h.lineRec hO9 hE10) (set_set _ _ _ _) rfl
      · rw [List.concat_eq_append] at hin
        have hrecs := h.recs
        rw [hin] at hrecs
        obtain ⟨cs0, vr, o1, o2, rfl, rfl, hr1, hr2⟩ := hrecs.last
        have hl1 := hr1.length
        obtain ⟨ar, cr, rfl⟩ := hr2.b1
        have hlen : s.input.length = rs.length + 1 := by rw [hin]; simp
        obtain ⟨bi, offi, csi, rfl, rfl, hgi, hle, hat⟩ := h.inp.at (i := rs.length) (by omega)
        have ha0 := hat 0 (by omega)
        have ha1 := hat 1 (by omega)
        simp only [recC, Nat.add_zero, if_true] at ha0 ha1
        rw [List.getElem?_append_right (by omega), show rs.length * 2 - cs0.length = 0 by omega] at ha0
        rw [List.getElem?_append_right (by omega), show rs.length * 2 + 1 - cs0.length = 1 by omega] at ha1
        simp only [List.getElem?_cons_zero, List.getElem?_cons_succ] at ha0 ha1
        have e1 : ((s.input.length : Int) - 1).toNat = rs.length := by omega
        have hdl : d.length ≤ 10000000 := h3 (d, r) (by rw [hin]; simp)
        have hlo2 : ∀ d ∈ o2, d < H.next := fun d hd => lt.2.2.2.1 d (by simp [hd])
        have hbi := lt.2.2.1 bi (by simp)
        have hgiA := AHeap.ga_lt (o := .cells [] 1 false) hbi hgi
        have hgA := AHeap.ga_lt (o := .cells [] 1 false) lt.1 hg
        refine wp_seq ?_; refine wp_region ?_; refine wpO_cons ?_; refine op1_mov rfl (by (conv => lhs; whnf) <;> rfl) ?_; refine wpO_cons ?_; refine op1_nilchk rfl rfl ?_; refine wpO_cons ?_; refine op1_faddr0 rfl rfl ?_; refine wpO_cons ?_; refine op1_load rfl rfl (by with_reducible assumption) rfl ?_; refine wpO_cons ?_; refine op1_len rfl rfl ?_; refine wpO_cons ?_; refine op1_mov rfl (by (conv => lhs; whnf) <;> rfl) ?_; refine wpO_nil ?_; refine seq_normal ?_; refine wp_seq ?_; refine wp_seq ?_; refine wp_region ?_; refine wpO_cons ?_; refine op1_mov rfl (by (conv => lhs; whnf) <;> rfl) ?_; refine wpO_cons ?_; refine op1_gtr rfl rfl rfl ?_; refine wpO_cons ?_; refine op1_mov rfl (by (conv => lhs; whnf) <;> rfl) ?_; refine wpO_cons ?_
        refine op1_dec rfl (fun h4 => ?_) (fun h4 => ?_)
        · refine op1_mov rfl (by (conv => lhs; whnf) <;> rfl) ?_; refine wpO_cons ?_; refine op1_nilchk rfl rfl ?_; refine wpO_cons ?_; refine op1_faddr0 rfl rfl ?_; refine wpO_cons ?_; refine op1_load rfl rfl (by with_reducible assumption) rfl ?_; refine wpO_cons ?_; refine op1_mov rfl (by (conv => lhs; whnf) <;> rfl) ?_; refine wpO_cons ?_; refine op1_sub rfl rfl rfl (by exact wrap_i64 (by omega) (by omega)) ?_; refine wpO_cons ?_; refine op1_iaddr rfl rfl rfl (by omega) (by omega) ?_; refine wpO_cons ?_; refine op1_faddr rfl rfl ?_; refine wpO_cons ?_
          rw [e1]
          skip
          refine op1_load rfl rfl hgi ha0 ?_
          refine wpO_cons ?_; refine op1_pick_t rfl rfl (by (conv => lhs; whnf) <;> rfl) ?_; refine wpO_nil ?_; refine seq_normal ?_
          refine wp_cond rfl (fun h5 => ?_) (fun h5 => ?_)
          · subst h5
            have e : lastRun s.input = some d := by rw [hin]; unfold lastRun; simp
            rw [flush_some e]
            refine wp_regionD ?_; refine wpD_cons ?_; refine op1_mov rfl (by (conv => lhs; whnf) <;> rfl) ?_; refine wpD_cons ?_; refine op1_nilchk rfl rfl ?_; refine wpD_cons ?_; refine op1_faddr0 rfl rfl ?_; refine wpD_cons ?_; refine op1_load rfl rfl (by with_reducible assumption) rfl ?_; refine wpD_cons ?_; refine op1_mov rfl (by (conv => lhs; whnf) <;> rfl) ?_; refine wpD_cons ?_; refine op1_sub rfl rfl rfl (by exact wrap_i64 (by omega) (by omega)) ?_; refine wpD_cons ?_; refine op1_bslice rfl ?_; refine bk_nil ?_; refine wpD_cons ?_; refine op1_mov rfl (by (conv => lhs; whnf) <;> rfl) ?_; refine wpD_cons ?_; refine op1_nilchk rfl rfl ?_; refine wpD_cons ?_; refine op1_faddr0 rfl rfl ?_; refine wpD_cons ?_; refine op1_load rfl rfl (by with_reducible assumption) rfl ?_; refine wpD_cons ?_; refine op1_mov rfl (by (conv => lhs; whnf) <;> rfl) ?_; refine wpD_cons ?_; refine op1_sub rfl rfl rfl (by exact wrap_i64 (by omega) (by omega)) ?_; refine wpD_cons ?_; refine op1_iaddr rfl rfl rfl (by omega) (by omega) ?_; refine wpD_cons ?_; refine op1_faddr rfl rfl ?_; refine wpD_cons ?_
            rw [e1]
            skip
            refine op1_load rfl rfl hgiA ha1 ?_
            refine wpD_cons ?_; refine op1_mov rfl (by (conv => lhs; whnf) <;> rfl) ?_; refine wpD_cons ?_; refine op1_nilchk rfl rfl ?_; refine wpD_cons ?_; refine op1_faddr0 rfl rfl ?_; refine wpD_cons ?_; refine op1_load rfl rfl (by with_reducible assumption) rfl ?_; refine wpD_cons ?_
            refine op1_appendE rfl rfl rfl hr2.rd (bts_length d) hlo2 (bts_one _) (by omega) ?_
            intro a5 c5 o5 H5 hO5 hf5 hk5 hn5
            have hol := lt.2.1
            have hl5 : SlO H5 1 (.slice al s.line.length cl) (bts s.line) ol := h.line.frame fun b hb => hk5 b (hol b hb)
            have hgi5 : H5.get bi = _ := (hk5 bi hbi).trans hgi
            have hg5 : H5.get p = _ := (hk5 p lt.1).trans hg
            refine wpD_cons ?_
            refine op1_appendO rfl rfl rfl rfl hO5 rfl (hl5.rd.src (by omega) (k := s.line.length) (by simp [bts])) (by simp [bts]) (by rw [bts_take]; exact bts_one _) (by omega) (fun b hb => (hf5 b hb).2) ?_
            intro a6 c6 o6 H6 hO6 hE6
            rw [Nat.mul_one, List.take_of_length_le (by simp [bts]), ← bts_append] at hO6
            have hlt6 := hE6.lt fun b hb => (hf5 b hb).2
            have own6 := hE6.own
            have hn6 := hE6.next
            have hk6 : ∀ d, d < H.next → H6.get d = H.get d := fun d hd => (hE6.keep d (by omega) (fun hm => by have := (hf5 d hm).1; omega)).trans (hk5 d hd)
            have hfr6 : ∀ d ∈ o6, H.next ≤ d := fun d hd => by
              rcases own6 d hd with h5 | h5
              · exact (hf5 d h5).1
              · omega
            have hgi6 : H6.get bi = _ := (hk6 bi hbi).trans hgi
            have hg6 : H6.get p = _ := (hk6 p lt.1).trans hg
            refine wpD_cons ?_; refine op1_iaddr rfl rfl rfl (by omega) (by omega) ?_; refine wpD_cons ?_; refine op1_faddr rfl rfl ?_; refine wpD_cons ?_
            refine op1_store1 rfl rfl (by (conv => lhs; whnf) <;> rfl) rfl rfl hgi6 (Nat.ble_eq_true_of_le (by omega)) ?_
            have hE7 : Ext o2 H o6 H6 := ⟨by omega, fun d hd _ => hk6 d hd, fun d hd => .inr ⟨hfr6 d hd, hlt6 d hd⟩⟩
            obtain ⟨O8, q1, q2⟩ := h.setRunT (d' := d ++ s.line) hr1 hgi hO6 hE7
            have e5 : s.input.dropLast = rs := by rw [hin]; simp
            have e8 : offi + ((s.input.length : Int) - 1).toNat * 2 + 1 = offi + (rs.length * 2 + 1) := by omega
            rw [e5, e8]
            obtain ⟨vl9, vi9, vo9, vs9, cells9, ol9, oi9, orr9, oo9, os9, h9, rfl⟩ := q1
            have hg9 := h9.get
            obtain ⟨O9, q5, q6⟩ := h9.setLine (line' := []) (vl' := .slice none 0 0) (ol' := []) .nil ⟨Nat.le_refl _, fun _ _ _ => rfl, fun b hb => by simp at hb⟩
            refine wpD_nil ?_; refine dk_of ?_ ?_; refine chk_skip ?_; refine chk_skip ?_; refine chk_skip ?_; refine chk_cons 22 rfl rfl rfl ?_ ?_; refine chkFs_cons 5 rfl rfl ?_ ?_; exact chk_load rfl (by with_reducible assumption) rfl rfl; refine chkFs_cons 4 rfl rfl ?_ ?_; exact chk_load rfl (by with_reducible assumption) rfl rfl; refine chkFs_cons 1 rfl rfl ?_ ?_; exact chk_load rfl (by with_reducible assumption) rfl rfl; exact chkFs_nil; refine chk_skip ?_; refine chk_skip ?_; refine chk_skip ?_; refine chk_skip ?_; refine chk_skip ?_; refine chk_skip ?_; refine chk_cons 15 rfl rfl rfl ?_ ?_; refine chkFs_cons 5 rfl rfl ?_ ?_; exact chk_load rfl (by with_reducible assumption) rfl rfl; exact chkFs_nil; refine chk_skip ?_; refine chk_skip ?_; refine chk_skip ?_; refine chk_skip ?_; refine chk_cons 10 rfl rfl rfl ?_ ?_; refine chkFs_cons 5 rfl rfl ?_ ?_
            · exact chk_load rfl hgiA ha1 rfl
            exact chkFs_nil
            refine chk_skip ?_; refine chk_skip ?_; refine chk_skip ?_; refine chk_cons 6 rfl rfl rfl ?_ ?_; refine chkFs_cons 5 rfl rfl ?_ ?_; exact chk_load rfl (by with_reducible assumption) rfl rfl; refine chkFs_cons 4 rfl rfl ?_ ?_; exact chk_load rfl (by with_reducible assumption) rfl rfl; exact chkFs_nil; refine chk_skip ?_; refine chk_skip ?_; refine chk_skip ?_; refine chk_skip ?_; refine chk_skip ?_; exact chk_end
            refine seq_normal ?_; refine wp_region ?_; refine wpO_cons ?_; refine op1_mov rfl (by (conv => lhs; whnf) <;> rfl) ?_; refine wpO_cons ?_; refine op1_nilchk rfl rfl ?_; refine wpO_cons ?_; refine op1_faddr0 rfl rfl ?_; refine wpO_cons ?_; refine op1_store1 rfl rfl (by (conv => lhs; whnf) <;> rfl) rfl rfl (by with_reducible assumption) rfl ?_; refine wpO_nil ?_; refine cut0  ?_
            exact ⟨O9, q5, q2.trans q6 hlt⟩
          · subst h5
            have e : lastRun s.input = none := by rw [hin]; unfold lastRun; simp
            rw [flush_none e]
            refine wp_regionD ?_; refine wpD_cons ?_; refine op1_mov rfl (by (conv => lhs; whnf) <;> rfl) ?_; refine wpD_cons ?_; refine op1_mov rfl (by (conv => lhs; whnf) <;> rfl) ?_; refine wpD_cons ?_; refine op1_nilchk rfl rfl ?_; refine wpD_cons ?_; refine op1_faddr0 rfl rfl ?_; refine wpD_cons ?_; refine op1_load rfl rfl (by with_reducible assumption) rfl ?_; refine wpD_cons ?_; refine op1_mov rfl (by (conv => lhs; whnf) <;> rfl) ?_; refine wpD_cons ?_; refine op1_nilchk rfl rfl ?_; refine wpD_cons ?_; refine op1_faddr0 rfl rfl ?_; refine wpD_cons ?_; refine op1_load rfl rfl (by with_reducible assumption) rfl ?_; refine wpD_cons ?_; refine op1_build rfl ?_; refine bk_one (by (conv => lhs; whnf) <;> rfl) rfl rfl rfl ?_; refine bk_one (by (conv => lhs; whnf) <;> rfl) rfl rfl rfl ?_; refine bk_nil ?_; refine wpD_cons ?_; refine op1_bslice rfl ?_; refine bk_agg rfl rfl rfl rfl ?_; refine bk_nil ?_; refine wpD_cons ?_
            have hN := lt.2.2.1
            have hiA := h.inp.add hN (.cells (recC true (.slice al s.line.length cl) true) 2 false)
            refine op1_appendN rfl rfl rfl rfl AHeap.ga_same rfl rfl hiA (by omega) (fun d hd => by have := hN d hd; simp only [AHeap.next_add]; omega) ?_
            intro a9 c9 o9 H9 hO9 hE9
            have hE10 := (Ext.add [bi] H (.cells (recC true (.slice al s.line.length cl) true) 2 false)).trans hE9 hN
            have hg9 := h.get3 hE9 h.pn.2.1
            refine wpD_cons ?_; refine op1_nilchk rfl rfl ?_; refine wpD_cons ?_; refine op1_faddr0 rfl rfl ?_; refine wpD_cons ?_; refine op1_store1 rfl rfl (by (conv => lhs; whnf) <;> rfl) rfl rfl (by with_reducible assumption) rfl ?_; refine wpD_nil ?_; refine dk_of ?_ ?_; refine chk_skip ?_; refine chk_skip ?_; refine chk_skip ?_; refine chk_skip ?_; refine chk_cons 11 rfl rfl rfl ?_ ?_; refine chkFs_cons 4 rfl rfl ?_ ?_; exact chk_load rfl (by with_reducible refine AHeap.ga_lt (by omega) ?_; with_reducible assumption) rfl rfl; exact chkFs_nil; refine chk_skip ?_; refine chk_skip ?_; refine chk_skip ?_; refine chk_cons 7 rfl rfl rfl ?_ ?_; refine chkFs_cons 4 rfl rfl ?_ ?_; exact chk_load rfl (by with_reducible refine AHeap.ga_lt (by omega) ?_; with_reducible assumption) rfl rfl; exact chkFs_nil; refine chk_skip ?_; refine chk_skip ?_; refine chk_skip ?_; refine chk_skip ?_; refine chk_skip ?_; refine chk_skip ?_; exact chk_end; refine seq_normal ?_; refine wp_region ?_; refine wpO_cons ?_; refine op1_mov rfl (by (conv => lhs; whnf) <;> rfl) ?_; refine wpO_cons ?_; refine op1_nilchk rfl rfl ?_; refine wpO_cons ?_; refine op1_faddr0 rfl rfl ?_; refine wpO_cons ?_; refine op1_store1 rfl rfl (by (conv => lhs; whnf) <;> rfl) rfl rfl (by with_reducible exact AHeap.gs_same) rfl ?_; refine wpO_nil ?_; refine cut0  ?_
            exact fin_congr (h.lineRec hO9 hE10) (set_set _ _ _ _) rfl
        · omega
    · rw [if_neg hc2]
      refine wp_skip ?_; refine cut0  ?_
      exact ⟨_, hR, Ext.refl _ _⟩
  rintro vs4 T4 H4 ⟨O4, hR4, hE4⟩
  generalize (if s.has 1 = true ∧ bitAnd .i64 m 1 = 0 ∧ 0 < s.line.length then s.flush else s) = s4 at *
  obtain ⟨vl4, vi4, vo4, vs4', cells4, ol4, oi4, orr4, oo4, os4, h4, rfl⟩ := hR4
  have hg4 := h4.get
  refine wp_seq ?_; refine wp_region ?_; refine wpO_cons ?_; refine op1_mov rfl (by (conv => lhs; whnf) <;> rfl) ?_; refine wpO_cons ?_; refine op1_mov rfl (by (conv => lhs; whnf) <;> rfl) ?_; refine wpO_cons ?_; refine op1_nilchk rfl rfl ?_; refine wpO_cons ?_; refine op1_faddr0 rfl rfl ?_; refine wpO_cons ?_; refine op1_store1 rfl rfl (by (conv => lhs; whnf) <;> rfl) rfl rfl (by with_reducible assumption) rfl ?_; refine wpO_nil ?_; refine seq_normal ?_; refine wp_seq ?_; refine wp_region ?_; refine wpO_cons ?_; refine op1_mov rfl (by (conv => lhs; whnf) <;> rfl) ?_; refine wpO_nil ?_; refine seq_normal ?_; refine wp_ret ?_; refine ret_of ?_; refine rk_tmp (by (conv => lhs; whnf) <;> rfl) ?_; refine rk_nil ?_
  obtain ⟨q1, q2⟩ := h4.setFl m s4.rows s4.cols s4.stopped s4.hung
  exact ⟨rfl, _, ⟨_, _, _, _, _, _, _, _, _, _, q1, rfl⟩, hE4.trans q2 hlt⟩
end Go.E.Pty

/- The law's acts: what the argument holds. -/
namespace Go.E.Pty
open Go Go.E Go.ChangeShapes Go.WideShapes Go.ChangeAt Go.RowKit Go.Proofs.YtfgejkhhkacknaaDoor.base Go.Proofs.YtfgejkhhkacknaaDoor Go.Proofs
set_option linter.unusedVariables false
set_option maxRecDepth 100000

structure ActM where
  kind : Int
  n : Int
  m : Int
  data : Value
  l : List Int
  r : List Nat
def ActM.cells (a : ActM) : List Value := [.int .u8 a.kind, .int .i64 a.n, .int .i64 a.m, a.data]
structure ActOk (H : AHeap) (a : ActM) : Prop where
  k0 : 0 ≤ a.kind ∧ a.kind ≤ 255
  d : RdS H 1 a.data (bts a.l) a.r
  lo : ∀ b ∈ a.r, b < H.next
structure Acts (H : AHeap) (a : Option Addr) (xs : List ActM) : Prop where
  ok : ∀ x ∈ xs, ActOk H x
  at_ : ∀ (i : Nat) x, xs[i]? = some x → ∃ b cs, a = some ⟨b, 0, none⟩ ∧ H.get b = .cells cs 0 true ∧ b < H.next ∧ i * 4 + 4 ≤ cs.length ∧ (cs.drop (i * 4)).take 4 = x.cells

theorem p6 : Tryd.f6.params.toList = [3, 56] := by kernel_rfl
theorem u56 : Tryd.prog.underlying 56 = some (.slice 45) := by kernel_rfl
theorem u45 : (match Tryd.prog.underlying 45 with | some (.struct fs) => fs.toList.map fun f => (f.type, f.offset) | _ => []) = [(5,0),(3,1),(3,2),(22,3)] := by kernel_rfl
theorem co45 : Tryd.prog.cellsOf 45 = 4 := by kernel_rfl
theorem co22 : Tryd.prog.cellsOf 22 = 1 := by kernel_rfl
theorem co3 : Tryd.prog.cellsOf 3 = 1 := by kernel_rfl
theorem ag56 : aggT Tryd.prog 56 = false := by kernel_rfl

theorem act_of {gs : List AObj} {vs : List Value} (h : OkA Tryd.prog gs 3 45 vs) : ∃ x : ActM, ActOk (startH gs) x ∧ vs = x.cells := by
  unfold OkA at h
  have hu := u45
  split at h
  case h_5 fs hfs =>
    rw [hfs] at hu
    simp only at hu
    obtain ⟨hl, hf⟩ := h
    rw [co45] at hl
    have hm : ∀ t o, (t, o) ∈ [(5,0),(3,1),(3,2),(22,3)] → OkA Tryd.prog gs 2 t ((vs.drop o).take (Tryd.prog.cellsOf t)) := by
      intro t o hto
      rw [← hu] at hto
      obtain ⟨f, h1, h2⟩ := List.mem_map.1 hto
      cases h2
      exact hf f h1
    have h5 := hm 5 0 (by simp)
    have h3 := hm 3 1 (by simp)
    have h3' := hm 3 2 (by simp)
    have h22 := hm 22 3 (by simp)
    rw [co5] at h5
    rw [co3] at h3 h3'
    rw [co22] at h22
    match vs, hl with
    | [a, b, c, d], _ =>
    simp only [List.drop_zero, List.take_succ_cons, List.take_zero, List.drop_succ_cons] at h5 h3 h3' h22
    unfold OkA at h5 h3 h3'
    rw [u5] at h5
    rw [u3] at h3 h3'
    obtain ⟨k, hk, hw⟩ := h5
    obtain ⟨n, hn, _⟩ := h3
    obtain ⟨m, hm', _⟩ := h3'
    cases hk; cases hn; cases hm'
    obtain ⟨v, l, r, hv, h1, h2, h3⟩ := h22.bytes (n := 0) u22 u5 co5
    cases hv
    refine ⟨⟨k, n, m, d, l, r⟩, ⟨?_, h1, by rw [next_startH]; exact h2⟩, rfl⟩
    simp [Lit.wf, IntKind.min, IntKind.max, IntKind.signed, IntKind.bits] at hw
    show 0 ≤ k ∧ k ≤ 255
    omega
  all_goals (rename_i h0; first | (rw [h0] at hu; cases hu) | skip)
  all_goals exact h.elim

theorem arg_acts {gs : List AObj} {a : Value} (h : ∃ cells, a = argV Tryd.prog 56 cells ∧ OkA Tryd.prog gs 4 56 cells) :
    ∃ (ad : Option Addr) (xs : List ActM) (c : Nat), a = .slice ad xs.length c ∧ Acts (startH gs) ad xs := by
  obtain ⟨cells, rfl, h⟩ := h
  unfold OkA at h
  rw [u56] at h
  rcases h with rfl | ⟨b, c, rfl, _⟩ | ⟨b, l, c, cells, rfl, hlc, hg, hl, hc⟩
  · exact ⟨none, [], 0, by unfold argV; rw [ag56]; rfl, ⟨by simp, by simp⟩⟩
  · exact ⟨some ⟨b, 0, none⟩, [], 0, by unfold argV; rw [ag56]; rfl, ⟨by simp, by simp⟩⟩
  · rw [co45] at hl hc
    obtain ⟨xs, h1, h2⟩ := list_of (Q := fun i (x : ActM) => ActOk (startH gs) x ∧ (cells.drop (i * 4)).take 4 = x.cells) l fun i hi => act_of (hc i hi)
    have hb := (List.getElem?_eq_some_iff.1 hg).1
    refine ⟨some ⟨b, 0, none⟩, xs, c, by unfold argV; rw [ag56, h1]; rfl, ⟨fun x hx => ?_, fun i x hx => ?_⟩⟩
    · obtain ⟨i, hi⟩ := List.getElem?_of_mem hx
      exact (h2 i x hi).1
    · have hi := (List.getElem?_eq_some_iff.1 hx).1
      exact ⟨b, cells, rfl, by rw [get_startH, List.getD_eq_getElem?_getD, hg]; rfl, by rw [next_startH]; exact hb, by omega, (h2 i x hx).2⟩
end Go.E.Pty

/- PtyPlays' small functions: few, bytes.Clone. -/
namespace Go.E.Pty
open Go Go.E Go.Proofs.YtfgejkhhkacknaaDoor.base Go.Proofs.YtfgejkhhkacknaaDoor Go.Proofs
set_option linter.unusedVariables false
set_option linter.unusedSimpArgs false
set_option maxRecDepth 100000

theorem L47 {H : AHeap} {k n m : Int} {a : Option Addr} {l c : Nat} : wpF C 47 [.agg ⟨[.int .u8 k, .int .i64 n, .int .i64 m, .slice a l c]⟩] H fun v H' => v = .bool (decide (5000 < l)) ∧ Ext [] H [] H' := by
  refine wpF_ofW o47 rfl rfl ?_
  refine wp_seq ?_; refine wp_region ?_; refine wpO_cons ?_; refine op1_boxN rfl rfl rfl ?_; refine wpO_cons ?_; refine op1_mov rfl (by (conv => lhs; whnf) <;> rfl) ?_; refine wpO_nil ?_; refine seq_normal ?_; refine wp_seq ?_; refine wp_region ?_; refine wpO_cons ?_; refine op1_faddr0 rfl rfl ?_; refine wpO_cons ?_; refine op1_load rfl rfl (by with_reducible exact AHeap.ga_same) rfl ?_; refine wpO_cons ?_; refine op1_len rfl rfl ?_; refine wpO_cons ?_; refine op1_gtr rfl rfl rfl ?_; refine wpO_cons ?_; refine op1_mov rfl (by (conv => lhs; whnf) <;> rfl) ?_; refine wpO_nil ?_; refine seq_normal ?_; refine wp_ret ?_; refine ret_of ?_; refine rk_tmp (by (conv => lhs; whnf) <;> rfl) ?_; refine rk_nil ?_
  exact ⟨by simp only [resultV, Value.bool.injEq]; rw [decide_eq_decide]; omega, Ext.add [] H _⟩

theorem Acts.frame {H H' : AHeap} {ad : Option Addr} {xs : List ActM} (h : Acts H ad xs) (hE : Ext [] H [] H') : Acts H' ad xs :=
  ⟨fun x hx => ⟨(h.ok x hx).k0, (h.ok x hx).d.frame fun b hb => hE.keep b ((h.ok x hx).lo b hb) (by simp), fun b hb => Nat.lt_of_lt_of_le ((h.ok x hx).lo b hb) hE.next⟩,
    fun i x hi => by
      obtain ⟨b, cs, h1, h2, h3, h4⟩ := h.at_ i x hi
      exact ⟨b, cs, h1, (hE.keep b h3 (by simp)).trans h2, Nat.lt_of_lt_of_le h3 hE.next, h4⟩⟩

theorem L72 {H : AHeap} {ad : Option Addr} {xs : List ActM} {c : Nat} (h : Acts H ad xs) (hl : xs.length ≤ 1000) : wpF C 72 [.slice ad xs.length c, .func (.func 47) #[] #[]] H fun v H' => (∃ i : Int, v = .int .i64 i ∧ (i < 0 → ∀ x ∈ xs, x.l.length ≤ 5000)) ∧ Ext [] H [] H' := by
  refine wpF_ofW o72 rfl rfl ?_
  refine wp_seq ?_; refine wp_region ?_; refine wpO_cons ?_; refine op1_mov rfl (by (conv => lhs; whnf) <;> rfl) ?_; refine wpO_nil ?_; refine seq_normal ?_; refine wp_seq ?_; refine wp_seq ?_; refine wp_region ?_; refine wpO_cons ?_; refine op1_mov rfl (by (conv => lhs; whnf) <;> rfl) ?_; refine wpO_cons ?_; refine op1_len rfl rfl ?_; refine wpO_cons ?_; refine op1_mov rfl (by (conv => lhs; whnf) <;> rfl) ?_; refine wpO_nil ?_; refine seq_normal ?_; refine wp_block ?_
  refine wp_loop [8] (fun k vs H' => ∃ i : Nat, vs = [.int .i64 i] ∧ i + k = xs.length ∧ Ext [] H [] H' ∧ ∀ j x, j < i → xs[j]? = some x → x.l.length ≤ 5000) ⟨xs.length, 0, rfl, by omega, Ext.refl _ _, fun j x hj => absurd hj (by omega)⟩ ?_
  rintro k vs T' H' ⟨i, rfl, hk, hE, hall⟩
  refine wp_seq ?_; refine wp_region ?_; refine wpO_cons ?_; refine op1_lss rfl rfl rfl ?_; refine wpO_nil ?_; refine seq_normal ?_; refine wp_seq ?_
  refine wp_dec rfl (fun hc => ?_) (fun hc => ?_)
  · have hi : i < xs.length := by omega
    obtain ⟨x, hx⟩ : ∃ x, xs[i]? = some x := ⟨xs[i], by simp [hi]⟩
    obtain ⟨b, cs, rfl, hg, hb, hle, hcut⟩ := h.at_ i x hx
    have hok := h.ok x (List.mem_of_getElem? hx)
    obtain ⟨ax, cx, hdx⟩ := hok.d.b1
    have hg' := (hE.keep b hb (by simp)).trans hg
    rw [ActM.cells, hdx] at hcut
    have hcut' : (cs.drop (0 + (i : Int).toNat * 4)).take 4 = _ := (by rw [Nat.zero_add, Int.toNat_natCast] : (cs.drop (0 + (i : Int).toNat * 4)).take 4 = (cs.drop (i * 4)).take 4).trans hcut
    refine wp_skip ?_; refine seq_normal ?_; refine wp_seq ?_; refine wp_block ?_; refine wp_seq ?_; refine wp_region ?_; refine wpO_cons ?_; refine op1_mov rfl (by (conv => lhs; whnf) <;> rfl) ?_; refine wpO_cons ?_; refine op1_mov rfl (by (conv => lhs; whnf) <;> rfl) ?_; refine wpO_nil ?_; refine seq_normal ?_; refine wp_seq ?_; refine wp_region ?_; refine wpO_cons ?_; refine op1_mov rfl (by (conv => lhs; whnf) <;> rfl) ?_; refine wpO_cons ?_; refine op1_mov rfl (by (conv => lhs; whnf) <;> rfl) ?_; refine wpO_cons ?_; refine op1_mov rfl (by (conv => lhs; whnf) <;> rfl) ?_; refine wpO_cons ?_; refine op1_iaddr rfl rfl rfl (by omega) (by omega) ?_; refine wpO_cons ?_
    refine op1_load_4 rfl rfl hg' (Nat.ble_eq_true_of_le (by simp only [Int.toNat_natCast]; omega)) hcut' ?_
    refine wpO_cons ?_; refine op1_dyn1 rfl rfl (by (conv => lhs; whnf) <;> rfl) ?_
    refine wpF_mono L47 ?_
    rintro v H2 ⟨rfl, hE2⟩
    have hE3 := hE.trans hE2 (by simp)
    refine wpO_nil ?_; refine seq_normal ?_
    refine wp_dec rfl (fun hh => ?_) (fun hh => ?_)
    · refine wp_seq ?_; refine wp_region ?_; refine wpO_cons ?_; refine op1_mov rfl (by (conv => lhs; whnf) <;> rfl) ?_; refine wpO_cons ?_; refine op1_mov rfl (by (conv => lhs; whnf) <;> rfl) ?_; refine wpO_nil ?_; refine seq_normal ?_; refine wp_ret ?_; refine block_ret ?_; refine seq_ret ?_; refine iter_ret ?_; refine block_ret ?_; refine seq_ret ?_; refine ret_of ?_; refine rk_tmp (by (conv => lhs; whnf) <;> rfl) ?_; refine rk_nil ?_
      exact ⟨⟨_, rfl, fun h0 => absurd h0 (by omega)⟩, hE3⟩
    · refine wp_skip ?_; refine block_normal ?_; refine seq_normal ?_; refine wp_region ?_; refine wpO_cons ?_; refine op1_add rfl rfl rfl (by exact wrap_i64 (by omega) (by omega)) ?_; refine wpO_cons ?_; refine op1_mov rfl (by (conv => lhs; whnf) <;> rfl) ?_; refine wpO_nil ?_
      refine ⟨k - 1, by omega, i + 1, rfl, by omega, hE3, fun j y hj hy => ?_⟩
      by_cases hji : j = i
      · subst hji
        rw [hx] at hy
        cases hy
        omega
      · exact hall j y (by omega) hy
  · refine wp_exit ?_; refine seq_exit ?_; refine iter_exit ?_; refine block_exit ?_; refine seq_normal ?_; refine wp_seq ?_; refine wp_region ?_; refine wpO_cons ?_; refine op1_mov rfl (by (conv => lhs; whnf) <;> rfl) ?_; refine wpO_nil ?_; refine seq_normal ?_; refine wp_ret ?_; refine ret_of ?_; refine rk_tmp (by (conv => lhs; whnf) <;> rfl) ?_; refine rk_nil ?_
    refine ⟨⟨_, rfl, fun _ y hy => ?_⟩, hE⟩
    obtain ⟨j, hj⟩ := List.getElem?_of_mem hy
    have := (List.getElem?_eq_some_iff.1 hj).1
    exact hall j y (by omega) hj
theorem L30 {H : AHeap} {ad : Option Addr} {xs : List ActM} {c : Nat} (h : Acts H ad xs) : wpF C 30 [.slice ad xs.length c] H fun v H' => (∃ b, v = .bool b ∧ (b = true → xs.length ≤ 40 ∧ ∀ x ∈ xs, x.l.length ≤ 5000)) ∧ Ext [] H [] H' := by
  refine wpF_ofW o30 rfl rfl ?_
  refine wp_seq ?_; refine wp_region ?_; refine wpO_cons ?_; refine op1_mov rfl (by (conv => lhs; whnf) <;> rfl) ?_; refine wpO_nil ?_; refine seq_normal ?_; refine wp_seq ?_; refine wp_region ?_; refine wpO_cons ?_; refine op1_mov rfl (by (conv => lhs; whnf) <;> rfl) ?_; refine wpO_cons ?_; refine op1_len rfl rfl ?_; refine wpO_cons ?_; refine op1_leq rfl rfl rfl ?_; refine wpO_cons ?_; refine op1_mov rfl (by (conv => lhs; whnf) <;> rfl) ?_; refine wpO_cons ?_
  refine op1_dec rfl (fun hc => ?_) (fun hc => ?_)
  · refine op1_mov rfl (by (conv => lhs; whnf) <;> rfl) ?_; refine wpO_cons ?_; refine op1_call2 rfl (by (conv => lhs; whnf) <;> rfl) (by (conv => lhs; whnf) <;> rfl) ?_
    refine wpF_ofW o46 rfl rfl ?_
    refine wp_seq ?_; refine wp_region ?_; refine wpO_cons ?_; refine op1_mov rfl (by (conv => lhs; whnf) <;> rfl) ?_; refine wpO_nil ?_; refine seq_normal ?_; refine wp_seq ?_; refine wp_region ?_; refine wpO_cons ?_; refine op1_mov rfl (by (conv => lhs; whnf) <;> rfl) ?_; refine wpO_cons ?_; refine op1_mov rfl (by (conv => lhs; whnf) <;> rfl) ?_; refine wpO_cons ?_; refine op1_call2 rfl (by (conv => lhs; whnf) <;> rfl) (by (conv => lhs; whnf) <;> rfl) ?_
    refine wpF_mono (L72 h (by omega)) ?_
    rintro v H2 ⟨⟨i, rfl, hall⟩, hE⟩
    refine wpO_cons ?_; refine op1_geq rfl rfl rfl ?_; refine wpO_cons ?_; refine op1_mov rfl (by (conv => lhs; whnf) <;> rfl) ?_; refine wpO_nil ?_; refine seq_normal ?_; refine wp_ret ?_; refine ret_of ?_; refine rk_tmp (by (conv => lhs; whnf) <;> rfl) ?_; refine rk_nil ?_; refine wpO_cons ?_; refine op1_not rfl rfl ?_; refine wpO_cons ?_; refine op1_pick_t rfl rfl (by (conv => lhs; whnf) <;> rfl) ?_; refine wpO_cons ?_; refine op1_mov rfl (by (conv => lhs; whnf) <;> rfl) ?_; refine wpO_nil ?_; refine seq_normal ?_; refine wp_ret ?_; refine ret_of ?_; refine rk_tmp (by (conv => lhs; whnf) <;> rfl) ?_; refine rk_nil ?_
    exact ⟨⟨_, rfl, fun hb => ⟨by omega, hall (by simp at hb; omega)⟩⟩, hE⟩
  · refine op1_skip rfl ?_; refine wpO_cons ?_; refine op1_skip rfl ?_; refine wpO_cons ?_; refine op1_skip rfl ?_; refine wpO_cons ?_; refine op1_pick_f rfl rfl (by (conv => lhs; whnf) <;> rfl) ?_; refine wpO_cons ?_; refine op1_mov rfl (by (conv => lhs; whnf) <;> rfl) ?_; refine wpO_nil ?_; refine seq_normal ?_; refine wp_ret ?_; refine ret_of ?_; refine rk_tmp (by (conv => lhs; whnf) <;> rfl) ?_; refine rk_nil ?_
    exact ⟨⟨_, rfl, fun h => by cases h⟩, Ext.refl _ _⟩

theorem L48 {H : AHeap} {v : Value} {l : List Int} {r : List Nat} (h : RdS H 1 v (bts l) r) (hr : ∀ b ∈ r, b < H.next) (hlim : l.length ≤ 2147483648) : wpF C 48 [v] H fun v' H' => ∃ r', RdS H' 1 v' (bts l) r' ∧ (∀ b ∈ r', H.next ≤ b ∧ b < H'.next) ∧ Ext [] H [] H' := by
  obtain ⟨a, c, rfl⟩ := h.b1
  refine wpF_ofW o48 rfl rfl ?_
  refine wp_seq ?_; refine wp_region ?_; refine wpO_cons ?_; refine op1_mov rfl (by (conv => lhs; whnf) <;> rfl) ?_; refine wpO_nil ?_; refine seq_normal ?_; refine wp_seq ?_; refine wp_seq ?_; refine wp_region ?_; refine wpO_cons ?_; refine op1_mov rfl (by (conv => lhs; whnf) <;> rfl) ?_; refine wpO_cons ?_
  rcases a with _ | a
  · refine op1_bin rfl rfl rfl rfl ?_
    have hl : l = [] := by
      generalize hx : bts l = xs at h
      generalize hn : l.length = n at h
      cases h
      exact List.eq_nil_of_length_eq_zero hn
    subst hl
    refine wpO_nil ?_; refine seq_normal ?_; refine wp_true rfl ?_; refine wp_seq ?_; refine wp_region ?_; refine wpO_cons ?_; refine op1_mov rfl (by (conv => lhs; whnf) <;> rfl) ?_; refine wpO_nil ?_; refine seq_normal ?_; refine wp_ret ?_; refine seq_ret ?_; refine ret_of ?_; refine rk_tmp (by (conv => lhs; whnf) <;> rfl) ?_; refine rk_nil ?_
    exact ⟨[], .nil, by simp, Ext.refl _ _⟩
  · refine op1_bin rfl rfl rfl rfl ?_
    refine wpO_nil ?_; refine seq_normal ?_; refine wp_false rfl ?_; refine wp_skip ?_; refine seq_normal ?_; refine wp_seq ?_; refine wp_region ?_; refine wpO_cons ?_; refine op1_bslice rfl ?_; refine bk_nil ?_; refine wpO_cons ?_; refine op1_mov rfl (by (conv => lhs; whnf) <;> rfl) ?_; refine wpO_cons ?_
    refine op1_appendE rfl rfl rfl h (bts_length l) hr (bts_one _) hlim ?_
    intro a' c' o' H' hO hf hk hn
    refine wpO_cons ?_; refine op1_mov rfl (by (conv => lhs; whnf) <;> rfl) ?_; refine wpO_nil ?_; refine seq_normal ?_; refine wp_ret ?_; refine ret_of ?_; refine rk_tmp (by (conv => lhs; whnf) <;> rfl) ?_; refine rk_nil ?_
    exact ⟨o', hO.rd, hf, ⟨hn, fun b hb _ => hk b hb, fun b hb => by simp at hb⟩⟩
end Go.E.Pty

/- PtyPlays: an act done with both terminals. -/
namespace Go.E.Pty
open Go Go.E Go.Proofs.YtfgejkhhkacknaaDoor.base Go.Proofs.YtfgejkhhkacknaaDoor Go.Proofs
set_option linter.unusedVariables false
set_option linter.unusedSimpArgs false
set_option maxRecDepth 100000

/-- both terminals -/
structure Pair (H0 H : AHeap) (p q : Nat) (s t : PT) (O1 O2 : List Nat) : Prop where
  a : RepT false H p s O1
  b : RepT true H q t O2
  dis : ∀ b ∈ O1, b ∉ O2
  lo : ∀ b ∈ O1, H0.next ≤ b
  lo2 : ∀ b ∈ O2, H0.next ≤ b
  keep : ∀ b, b < H0.next → H.get b = H0.get b
  next : H0.next ≤ H.next
theorem Pair.stepA {H0 H H' : AHeap} {p q : Nat} {s t s' : PT} {O1 O2 O1' : List Nat} (h : Pair H0 H p q s t O1 O2) (hR : RepT false H' p s' O1') (hE : Ext O1 H O1' H') : Pair H0 H' p q s' t O1' O2 where
  a := hR
  b := h.b.frame hR.glob hE.next fun b hb => hE.keep b (h.b.lt b hb) fun hm => h.dis b hm hb
  dis b hb hm := (hE.own b hb).elim (fun h1 => h.dis b h1 hm) fun h1 => absurd (h.b.lt b hm) (by omega)
  lo b hb := (hE.own b hb).elim (h.lo b) fun h1 => Nat.le_trans h.next h1.1
  lo2 := h.lo2
  keep b hb := (hE.keep b (Nat.lt_of_lt_of_le hb h.next) fun hm => absurd (h.lo b hm) (by omega)).trans (h.keep b hb)
  next := Nat.le_trans h.next hE.next
theorem Pair.stepB {H0 H H' : AHeap} {p q : Nat} {s t t' : PT} {O1 O2 O2' : List Nat} (h : Pair H0 H p q s t O1 O2) (hR : RepT true H' q t' O2') (hE : Ext O2 H O2' H') : Pair H0 H' p q s t' O1 O2' where
  a := h.a.frame hR.glob hE.next fun b hb => hE.keep b (h.a.lt b hb) fun hm => h.dis b hb hm
  b := hR
  dis b hb hm := (hE.own b hm).elim (fun h1 => h.dis b hb h1) fun h1 => absurd (h.a.lt b hb) (by omega)
  lo := h.lo
  lo2 b hb := (hE.own b hb).elim (h.lo2 b) fun h1 => Nat.le_trans h.next h1.1
  keep b hb := (hE.keep b (Nat.lt_of_lt_of_le hb h.next) fun hm => absurd (h.lo2 b hm) (by omega)).trans (h.keep b hb)
  next := Nat.le_trans h.next hE.next
theorem Pair.step0 {H0 H H' : AHeap} {p q : Nat} {s t : PT} {O1 O2 : List Nat} (h : Pair H0 H p q s t O1 O2) (hE : Ext [] H [] H') : Pair H0 H' p q s t O1 O2 where
  a := h.a.frame (h.a.glob.ext hE (by simp)) hE.next fun b hb => hE.keep b (h.a.lt b hb) (by simp)
  b := h.b.frame (h.a.glob.ext hE (by simp)) hE.next fun b hb => hE.keep b (h.b.lt b hb) (by simp)
  dis := h.dis
  lo := h.lo
  lo2 := h.lo2
  keep b hb := (hE.keep b (Nat.lt_of_lt_of_le hb h.next) (by simp)).trans (h.keep b hb)
  next := Nat.le_trans h.next hE.next
theorem Pair.rd {H0 H : AHeap} {p q : Nat} {s t : PT} {O1 O2 : List Nat} (h : Pair H0 H p q s t O1 O2) {v : Value} {l : List Value} {r : List Nat} (hd : RdS H0 1 v l r) (hr : ∀ b ∈ r, b < H0.next) : RdS H 1 v l r ∧ (∀ b ∈ r, b < H.next ∧ b ∉ O1) ∧ ∀ b ∈ r, b < H.next ∧ b ∉ O2 :=
  ⟨hd.frame fun b hb => h.keep b (hr b hb), fun b hb => ⟨Nat.lt_of_lt_of_le (hr b hb) h.next, fun hm => absurd (hr b hb) (by have := h.lo b hm; omega)⟩, fun b hb => ⟨Nat.lt_of_lt_of_le (hr b hb) h.next, fun hm => absurd (hr b hb) (by have := h.lo2 b hm; omega)⟩⟩

def PT.step (s : PT) (x : ActM) : PT :=
  if x.kind.tmod 13 < 5 then (s.type x.l).2.2
  else if x.kind.tmod 13 < 7 then (s.read x.n).2.2.2
  else if x.kind.tmod 13 = 7 then (s.outp x.n).2.2
  else if x.kind.tmod 13 = 8 then (s.write x.l).2.2
  else if x.kind.tmod 13 = 9 then (s.setModes x.n).2
  else if x.kind.tmod 13 = 10 then (s.setSize x.n x.m).2
  else if x.kind.tmod 13 = 11 then { s with signals := [] }
  else s.hangup.2

/-- what holds between acts -/
structure Inv2 (M N : Nat) (s : PT) : Prop extends Inv M N s where
  sig : s.signals.length ≤ 64

theorem Inv.mono {M N M' N' : Nat} {s : PT} (h : Inv M N s) (h1 : M ≤ M') (h2 : N ≤ N') : Inv M' N' s :=
  ⟨h.out, h.line, Nat.le_trans h.inp h2, fun x hx => Nat.le_trans (h.recs x hx) h1⟩

theorem Inv.read {M N : Nat} {s : PT} (h : Inv M N s) (n : Int) : Inv M N (s.read n).2.2.2 := by
  unfold PT.read
  split
  · exact h
  split
  · exact h
  split
  · split <;> exact h
  · rename_i d r rest hin
    have h1 := h.inp
    have h2 := h.recs
    rw [hin] at h1 h2
    simp only [List.length_cons] at h1
    have hd := h2 (d, r) (by simp)
    refine ⟨h.out, h.line, ?_, ?_⟩
    · dsimp only
      split
      · omega
      · simp only [List.length_cons]; omega
    · dsimp only
      split
      · exact fun x hx => h2 x (by simp [hx])
      · intro x hx
        rcases List.mem_cons.1 hx with rfl | hx
        · show (d.drop _).length ≤ M
          simp only [List.length_drop]; simp only at hd; omega
        · exact h2 x (by simp [hx])
theorem sig_read (s : PT) (n : Int) : (s.read n).2.2.2.signals = s.signals := by
  unfold PT.read; split; rfl; split; rfl; split; split <;> rfl; rfl
theorem sig_outp (s : PT) (n : Int) : (s.outp n).2.2.signals = s.signals := by
  unfold PT.outp; split; rfl; split <;> rfl
theorem Inv.outp {M N : Nat} {s : PT} (h : Inv M N s) (n : Int) : Inv M N (s.outp n).2.2 := by
  unfold PT.outp
  split
  · exact h
  split
  · exact h
  · exact ⟨by show (s.output.drop _).length ≤ 10000; simp only [List.length_drop]; have := h.out; omega, h.line, h.inp, h.recs⟩
theorem sig_writeGo (s : PT) (l : List Int) : (writeGo s l).2.signals = s.signals := by
  induction l generalizing s with
  | nil => rfl
  | cons b l ih => simp only [writeGo]; split; rfl; simp only [ih]; rfl
theorem sig_write (s : PT) (l : List Int) : (s.write l).2.2.signals = s.signals := by
  unfold PT.write; split; rfl; split; rfl; split; exact sig_writeGo s l; split <;> exact sig_writeGo s l
theorem sig_send (s : PT) (n : Int) (h : s.signals.length ≤ 64) : (s.send n).signals.length ≤ 64 := by
  unfold PT.send; split
  · simp; omega
  · exact h
theorem lastRun_some {l : List (List Int × Bool)} {d : List Int} (h : lastRun l = some d) : ∃ rs, l = rs ++ [(d, true)] := by
  rcases l.eq_nil_or_concat with hnil | ⟨rs, ⟨d', r⟩, hin⟩
  · rw [hnil] at h; simp [lastRun] at h
  · rw [List.concat_eq_append] at hin
    subst hin
    unfold lastRun at h
    cases r with
    | true => simp at h; exact ⟨rs, by rw [h]⟩
    | false => simp at h
theorem Inv.flush {M N : Nat} {s : PT} (h : Inv M N s) (hM : 255 ≤ M) : Inv (M + 254) (N + 1) s.flush := by
  unfold PT.flush
  have hl := h.line
  have hi := h.inp
  split
  · rename_i d hd
    obtain ⟨rs, hrs⟩ := lastRun_some hd
    have h2 := h.recs
    rw [hrs] at h2 hi
    have hdl := h2 (d, true) (by simp)
    refine ⟨h.out, by simp, ?_, ?_⟩
    · rw [hrs]; simp at hi ⊢; omega
    · intro x hx
      rw [hrs] at hx
      simp only [List.dropLast_concat, List.mem_append, List.mem_singleton] at hx
      rcases hx with hx | rfl
      · have := h2 x (by simp [hx]); omega
      · simp only [List.length_append] at hdl ⊢; omega
  · refine ⟨h.out, by simp, by simp; omega, ?_⟩
    intro x hx
    simp only [List.mem_append, List.mem_singleton] at hx
    rcases hx with hx | rfl
    · have := h.recs x hx; omega
    · simp only; omega
theorem sig_flush (s : PT) : s.flush.signals = s.signals := by unfold PT.flush; split <;> rfl
theorem Inv2.setModes {M N : Nat} {s : PT} (h : Inv2 M N s) (hM : 255 ≤ M) (m : Int) : Inv2 (M + 254) (N + 1) (s.setModes m).2 := by
  have h0 : Inv2 (M + 254) (N + 1) s := ⟨h.toInv.mono (by omega) (by omega), h.sig⟩
  unfold PT.setModes
  split
  · exact h0
  split
  · exact h0
  · have h1 : Inv2 (M + 254) (N + 1) (if s.has 1 = true ∧ bitAnd .i64 m 1 = 0 ∧ 0 < s.line.length then s.flush else s) := by
      split
      · exact ⟨h.toInv.flush hM, by rw [sig_flush]; exact h.sig⟩
      · exact h0
    exact ⟨⟨h1.out, h1.line, h1.inp, h1.recs⟩, h1.sig⟩
theorem Inv2.send {M N : Nat} {s : PT} (h : Inv2 M N s) (n : Int) : Inv2 M N (s.send n) := by
  refine ⟨?_, sig_send s n h.sig⟩
  unfold PT.send
  split
  · exact ⟨h.out, h.line, h.inp, h.recs⟩
  · exact h.toInv
theorem Inv2.setSize {M N : Nat} {s : PT} (h : Inv2 M N s) (r c : Int) : Inv2 M N (s.setSize r c).2 := by
  unfold PT.setSize
  split
  · exact h
  split
  · exact h
  split
  · exact h
  · exact Inv2.send (s := { s with rows := r, cols := c }) ⟨⟨h.out, h.line, h.inp, h.recs⟩, h.sig⟩ 28
theorem Inv2.hangup {M N : Nat} {s : PT} (h : Inv2 M N s) : Inv2 M N s.hangup.2 := by
  unfold PT.hangup
  split
  · exact h
  · have h1 := h.send 1
    exact ⟨⟨by simp, by simp, h1.inp, h1.recs⟩, h1.sig⟩
end Go.E.Pty

/- PtyPlays: an act done with both terminals, walked. -/
namespace Go.E.Pty
open Go Go.E Go.Proofs.YtfgejkhhkacknaaDoor.base Go.Proofs.YtfgejkhhkacknaaDoor Go.Proofs
set_option linter.unusedVariables false
set_option linter.unusedSimpArgs false
set_option maxRecDepth 100000

theorem sig_type (s : PT) (l : List Int) (h : s.signals.length ≤ 64) : (s.type l).2.2.signals.length ≤ 64 := by
  unfold PT.type; split; exact h; split; exact h; split; exact typeGo_sig s l h; split <;> exact typeGo_sig s l h

def DoPost (H0 : AHeap) (M N p q : Nat) (s' : PT) (v : Value) (H' : AHeap) : Prop :=
  v = .bool true ∧ Inv2 (M + 254) (N + 1) s' ∧ ∃ O1' O2', Pair H0 H' p q s' s' O1' O2'


theorem L31 {H0 H00 : AHeap} {p q : Nat} {s : PT} {O1 O2 : List Nat} (hP0 : Pair H0 H00 p q s s O1 O2) {M N : Nat} (hI : Inv2 M N s) (hM : 255 ≤ M) (hM2 : M ≤ 1000000) (hN : 64 ≤ N) (hN2 : N ≤ 1000) {x : ActM} (hx : ActOk H0 x) (hl : x.l.length ≤ 5000) :
    wpF C 31 [.pointer (some ⟨p, 0, none⟩), .pointer (some ⟨q, 0, none⟩), .agg ⟨x.cells⟩] H00 fun v H' => DoPost H0 M N p q (s.step x) v H' := by
  obtain ⟨kind, xn, xm, data, xl, xr⟩ := x
  have hd0 : RdS H0 1 data (bts xl) xr := hx.d
  have hlo : ∀ b ∈ xr, b < H0.next := hx.lo
  have hk : 0 ≤ kind ∧ kind ≤ 255 := hx.k0
  have hl : xl.length ≤ 5000 := hl
  obtain ⟨ax, cx, rfl⟩ := hd0.b1
  have hk13 : 0 ≤ kind.tmod 13 ∧ kind.tmod 13 ≤ 12 := by
    rw [Int.tmod_eq_emod_of_nonneg hk.1]; omega
  clear hx
  unfold PT.step ActM.cells
  dsimp only
  refine wpF_ofW o31 rfl rfl ?_
  refine wp_seq ?_; refine wp_region ?_; refine wpO_cons ?_; refine op1_boxN rfl rfl rfl ?_; refine wpO_cons ?_; refine op1_mov rfl (by (conv => lhs; whnf) <;> rfl) ?_; refine wpO_nil ?_; refine seq_normal ?_
  have hP := hP0.step0 (Ext.add [] H00 (.cells [.int .u8 kind, .int .i64 xn, .int .i64 xm, .slice ax xl.length cx] 0 false))
  have hgb := AHeap.ga_same (H := H00) (o := .cells [.int .u8 kind, .int .i64 xn, .int .i64 xm, .slice ax xl.length cx] 0 false)
  have hbn : H00.next < (H00.add (.cells [.int .u8 kind, .int .i64 xn, .int .i64 xm, .slice ax xl.length cx] 0 false)).next := by simp
  have hb1 : H00.next ∉ O1 := fun hm => absurd (hP0.a.lt _ hm) (by omega)
  have hb2 : H00.next ∉ O2 := fun hm => absurd (hP0.b.lt _ hm) (by omega)
  clear hP0
  generalize H00.add (.cells [.int .u8 kind, .int .i64 xn, .int .i64 xm, .slice ax xl.length cx] 0 false) = Hb at *
  generalize H00.next = b0 at *
  obtain ⟨hd, hrA, hrB⟩ := hP.rd hd0 hlo
  refine wp_seq ?_; refine wp_seq ?_; refine wp_region ?_; refine wpO_cons ?_; refine op1_faddr0 rfl rfl ?_; refine wpO_cons ?_; refine op1_load rfl rfl (by with_reducible assumption) rfl ?_; refine wpO_cons ?_; refine op1_rem rfl rfl rfl (by omega) ?_; refine wpO_cons ?_; refine op1_mov rfl (by (conv => lhs; whnf) <;> rfl) ?_; refine wpO_nil ?_; refine seq_normal ?_
  generalize kind.tmod 13 = k at *
  obtain rfl | rfl | rfl | rfl | rfl | rfl | rfl | rfl | rfl | rfl | rfl | rfl | rfl : k = 0 ∨ k = 1 ∨ k = 2 ∨ k = 3 ∨ k = 4 ∨ k = 5 ∨ k = 6 ∨ k = 7 ∨ k = 8 ∨ k = 9 ∨ k = 10 ∨ k = 11 ∨ k = 12 := by omega
  · rw [if_pos (by decide)]
    refine wp_seq ?_; refine wp_region ?_; refine wpO_cons ?_; refine op1_mov rfl (by (conv => lhs; whnf) <;> rfl) ?_; refine wpO_nil ?_; refine seq_normal ?_; refine wp_block ?_; refine wp_seq ?_; refine wp_seq ?_; refine wp_region ?_; refine wpO_cons ?_; refine op1_eqlI_s rfl rfl rfl ?_; refine wpO_cons ?_; refine op1_mov rfl (by (conv => lhs; whnf) <;> rfl) ?_; refine wpO_nil ?_; refine seq_normal ?_; refine wp_true rfl ?_; refine wp_skip ?_; refine seq_normal ?_; refine wp_true rfl ?_; refine wp_seq ?_; refine wp_region ?_; refine wpO_cons ?_; refine op1_mov rfl (by (conv => lhs; whnf) <;> rfl) ?_; refine wpO_cons ?_; refine op1_faddr0 rfl rfl ?_; refine wpO_cons ?_; refine op1_load rfl rfl (by with_reducible assumption) rfl ?_; refine wpO_cons ?_; refine op1_call1 rfl (by (conv => lhs; whnf) <;> rfl) ?_
    refine wpF_mono (L48 hd (fun b hb => (hrA b hb).1) (by omega)) ?_
    rintro v2 H2 ⟨r2, hd2, hf2, hE2⟩
    have hP2 := hP.step0 hE2
    have hr2 : ∀ b ∈ r2, b < H2.next ∧ b ∉ O1 := fun b hb => ⟨(hf2 b hb).2, fun hm => absurd (hP.a.lt b hm) (by have := (hf2 b hb).1; omega)⟩
    have hgb2 := (hE2.keep b0 hbn (by simp)).trans hgb
    have hbn2 := Nat.lt_of_lt_of_le hbn hE2.next
    refine wpO_cons ?_; refine op1_call2 rfl (by (conv => lhs; whnf) <;> rfl) (by (conv => lhs; whnf) <;> rfl) ?_
    refine wpF_mono (L11 hP2.a hI.toInv hM hM2 hN hN2 hd2 hr2) ?_
    rintro v H3 ⟨rfl, hI3, O3, hR3, hE3⟩
    have hP3 := hP2.stepA hR3 hE3
    obtain ⟨hd3, hrA3, hrB3⟩ := hP3.rd hd0 hlo
    have hgb3 := (hE3.keep b0 hbn2 hb1).trans hgb2
    refine wpO_cons ?_; refine op1_mov rfl (by (conv => lhs; whnf) <;> rfl) ?_; refine wpO_cons ?_; refine op1_extract rfl rfl rfl ?_; refine wpO_cons ?_; refine op1_extract rfl rfl rfl ?_; refine wpO_cons ?_; refine op1_mov rfl (by (conv => lhs; whnf) <;> rfl) ?_; refine wpO_cons ?_; refine op1_mov rfl (by (conv => lhs; whnf) <;> rfl) ?_; refine wpO_nil ?_; refine seq_normal ?_; refine wp_seq ?_; refine wp_region ?_; refine wpO_cons ?_; refine op1_mov rfl (by (conv => lhs; whnf) <;> rfl) ?_; refine wpO_cons ?_; refine op1_faddr0 rfl rfl ?_; refine wpO_cons ?_; refine op1_load rfl rfl (by with_reducible assumption) rfl ?_; refine wpO_cons ?_; refine op1_call2 rfl (by (conv => lhs; whnf) <;> rfl) (by (conv => lhs; whnf) <;> rfl) ?_
    refine wpF_mono (L49 hP3.b hI.toInv hM hM2 hN hN2 hd3 hrB3) ?_
    rintro v H4 ⟨rfl, hI4, O4, hR4, hE4⟩
    have hP4 := hP3.stepB hR4 hE4
    refine wpO_cons ?_; refine op1_mov rfl (by (conv => lhs; whnf) <;> rfl) ?_; refine wpO_cons ?_; refine op1_extract rfl rfl rfl ?_; refine wpO_cons ?_; refine op1_extract rfl rfl rfl ?_; refine wpO_cons ?_; refine op1_mov rfl (by (conv => lhs; whnf) <;> rfl) ?_; refine wpO_cons ?_; refine op1_mov rfl (by (conv => lhs; whnf) <;> rfl) ?_; refine wpO_nil ?_; refine seq_normal ?_; refine wp_seq ?_; refine wp_region ?_; refine wpO_cons ?_; refine op1_mov rfl (by (conv => lhs; whnf) <;> rfl) ?_; refine wpO_cons ?_; refine op1_mov rfl (by (conv => lhs; whnf) <;> rfl) ?_; refine wpO_cons ?_; refine op1_eqlI_s rfl rfl rfl ?_; refine wpO_cons ?_; refine op1_mov rfl (by (conv => lhs; whnf) <;> rfl) ?_; refine wpO_cons ?_; refine op1_mov rfl (by (conv => lhs; whnf) <;> rfl) ?_; refine wpO_cons ?_; refine op1_mov rfl (by (conv => lhs; whnf) <;> rfl) ?_; refine wpO_cons ?_; refine op1_eqlI_s rfl rfl rfl ?_; refine wpO_cons ?_; refine op1_pick_t rfl rfl (by (conv => lhs; whnf) <;> rfl) ?_; refine wpO_cons ?_; refine op1_mov rfl (by (conv => lhs; whnf) <;> rfl) ?_; refine wpO_nil ?_; refine seq_normal ?_; refine wp_ret ?_; refine block_ret ?_; refine seq_ret ?_; refine ret_of ?_; refine rk_tmp (by (conv => lhs; whnf) <;> rfl) ?_; refine rk_nil ?_
    exact ⟨rfl, ⟨hI4.mono (by omega) (by omega), sig_type s xl hI.sig⟩, O3, O4, hP4⟩
  · rw [if_pos (by decide)]
    refine wp_seq ?_; refine wp_region ?_; refine wpO_cons ?_; refine op1_mov rfl (by (conv => lhs; whnf) <;> rfl) ?_; refine wpO_nil ?_; refine seq_normal ?_; refine wp_block ?_; refine wp_seq ?_; refine wp_seq ?_; refine wp_region ?_; refine wpO_cons ?_; refine op1_eqlI rfl rfl rfl ?_; refine wpO_cons ?_; refine op1_mov rfl (by (conv => lhs; whnf) <;> rfl) ?_; refine wpO_nil ?_; refine seq_normal ?_; refine wp_false rfl ?_; refine wp_seq ?_; refine wp_region ?_; refine wpO_cons ?_; refine op1_eqlI_s rfl rfl rfl ?_; refine wpO_cons ?_; refine op1_mov rfl (by (conv => lhs; whnf) <;> rfl) ?_; refine wpO_nil ?_; refine seq_normal ?_; refine wp_true rfl ?_; refine wp_skip ?_; refine seq_normal ?_; refine wp_true rfl ?_; refine wp_seq ?_; refine wp_region ?_; refine wpO_cons ?_; refine op1_mov rfl (by (conv => lhs; whnf) <;> rfl) ?_; refine wpO_cons ?_; refine op1_faddr0 rfl rfl ?_; refine wpO_cons ?_; refine op1_load rfl rfl (by with_reducible assumption) rfl ?_; refine wpO_cons ?_; refine op1_call1 rfl (by (conv => lhs; whnf) <;> rfl) ?_
    refine wpF_mono (L48 hd (fun b hb => (hrA b hb).1) (by omega)) ?_
    rintro v2 H2 ⟨r2, hd2, hf2, hE2⟩
    have hP2 := hP.step0 hE2
    have hr2 : ∀ b ∈ r2, b < H2.next ∧ b ∉ O1 := fun b hb => ⟨(hf2 b hb).2, fun hm => absurd (hP.a.lt b hm) (by have := (hf2 b hb).1; omega)⟩
    have hgb2 := (hE2.keep b0 hbn (by simp)).trans hgb
    have hbn2 := Nat.lt_of_lt_of_le hbn hE2.next
    refine wpO_cons ?_; refine op1_call2 rfl (by (conv => lhs; whnf) <;> rfl) (by (conv => lhs; whnf) <;> rfl) ?_
    refine wpF_mono (L11 hP2.a hI.toInv hM hM2 hN hN2 hd2 hr2) ?_
    rintro v H3 ⟨rfl, hI3, O3, hR3, hE3⟩
    have hP3 := hP2.stepA hR3 hE3
    obtain ⟨hd3, hrA3, hrB3⟩ := hP3.rd hd0 hlo
    have hgb3 := (hE3.keep b0 hbn2 hb1).trans hgb2
    refine wpO_cons ?_; refine op1_mov rfl (by (conv => lhs; whnf) <;> rfl) ?_; refine wpO_cons ?_; refine op1_extract rfl rfl rfl ?_; refine wpO_cons ?_; refine op1_extract rfl rfl rfl ?_; refine wpO_cons ?_; refine op1_mov rfl (by (conv => lhs; whnf) <;> rfl) ?_; refine wpO_cons ?_; refine op1_mov rfl (by (conv => lhs; whnf) <;> rfl) ?_; refine wpO_nil ?_; refine seq_normal ?_; refine wp_seq ?_; refine wp_region ?_; refine wpO_cons ?_; refine op1_mov rfl (by (conv => lhs; whnf) <;> rfl) ?_; refine wpO_cons ?_; refine op1_faddr0 rfl rfl ?_; refine wpO_cons ?_; refine op1_load rfl rfl (by with_reducible assumption) rfl ?_; refine wpO_cons ?_; refine op1_call2 rfl (by (conv => lhs; whnf) <;> rfl) (by (conv => lhs; whnf) <;> rfl) ?_
    refine wpF_mono (L49 hP3.b hI.toInv hM hM2 hN hN2 hd3 hrB3) ?_
    rintro v H4 ⟨rfl, hI4, O4, hR4, hE4⟩
    have hP4 := hP3.stepB hR4 hE4
    refine wpO_cons ?_; refine op1_mov rfl (by (conv => lhs; whnf) <;> rfl) ?_; refine wpO_cons ?_; refine op1_extract rfl rfl rfl ?_; refine wpO_cons ?_; refine op1_extract rfl rfl rfl ?_; refine wpO_cons ?_; refine op1_mov rfl (by (conv => lhs; whnf) <;> rfl) ?_; refine wpO_cons ?_; refine op1_mov rfl (by (conv => lhs; whnf) <;> rfl) ?_; refine wpO_nil ?_; refine seq_normal ?_; refine wp_seq ?_; refine wp_region ?_; refine wpO_cons ?_; refine op1_mov rfl (by (conv => lhs; whnf) <;> rfl) ?_; refine wpO_cons ?_; refine op1_mov rfl (by (conv => lhs; whnf) <;> rfl) ?_; refine wpO_cons ?_; refine op1_eqlI_s rfl rfl rfl ?_; refine wpO_cons ?_; refine op1_mov rfl (by (conv => lhs; whnf) <;> rfl) ?_; refine wpO_cons ?_; refine op1_mov rfl (by (conv => lhs; whnf) <;> rfl) ?_; refine wpO_cons ?_; refine op1_mov rfl (by (conv => lhs; whnf) <;> rfl) ?_; refine wpO_cons ?_; refine op1_eqlI_s rfl rfl rfl ?_; refine wpO_cons ?_; refine op1_pick_t rfl rfl (by (conv => lhs; whnf) <;> rfl) ?_; refine wpO_cons ?_; refine op1_mov rfl (by (conv => lhs; whnf) <;> rfl) ?_; refine wpO_nil ?_; refine seq_normal ?_; refine wp_ret ?_; refine block_ret ?_; refine seq_ret ?_; refine ret_of ?_; refine rk_tmp (by (conv => lhs; whnf) <;> rfl) ?_; refine rk_nil ?_
    exact ⟨rfl, ⟨hI4.mono (by omega) (by omega), sig_type s xl hI.sig⟩, O3, O4, hP4⟩
  · rw [if_pos (by decide)]
    refine wp_seq ?_; refine wp_region ?_; refine wpO_cons ?_; refine op1_mov rfl (by (conv => lhs; whnf) <;> rfl) ?_; refine wpO_nil ?_; refine seq_normal ?_; refine wp_block ?_; refine wp_seq ?_; refine wp_seq ?_; refine wp_region ?_; refine wpO_cons ?_; refine op1_eqlI rfl rfl rfl ?_; refine wpO_cons ?_; refine op1_mov rfl (by (conv => lhs; whnf) <;> rfl) ?_; refine wpO_nil ?_; refine seq_normal ?_; refine wp_false rfl ?_; refine wp_seq ?_; refine wp_region ?_; refine wpO_cons ?_; refine op1_eqlI rfl rfl rfl ?_; refine wpO_cons ?_; refine op1_mov rfl (by (conv => lhs; whnf) <;> rfl) ?_; refine wpO_nil ?_; refine seq_normal ?_; refine wp_false rfl ?_; refine wp_seq ?_; refine wp_region ?_; refine wpO_cons ?_; refine op1_eqlI_s rfl rfl rfl ?_; refine wpO_cons ?_; refine op1_mov rfl (by (conv => lhs; whnf) <;> rfl) ?_; refine wpO_nil ?_; refine seq_normal ?_; refine wp_true rfl ?_; refine wp_skip ?_; refine seq_normal ?_; refine wp_true rfl ?_; refine wp_seq ?_; refine wp_region ?_; refine wpO_cons ?_; refine op1_mov rfl (by (conv => lhs; whnf) <;> rfl) ?_; refine wpO_cons ?_; refine op1_faddr0 rfl rfl ?_; refine wpO_cons ?_; refine op1_load rfl rfl (by with_reducible assumption) rfl ?_; refine wpO_cons ?_; refine op1_call1 rfl (by (conv => lhs; whnf) <;> rfl) ?_
    refine wpF_mono (L48 hd (fun b hb => (hrA b hb).1) (by omega)) ?_
    rintro v2 H2 ⟨r2, hd2, hf2, hE2⟩
    have hP2 := hP.step0 hE2
    have hr2 : ∀ b ∈ r2, b < H2.next ∧ b ∉ O1 := fun b hb => ⟨(hf2 b hb).2, fun hm => absurd (hP.a.lt b hm) (by have := (hf2 b hb).1; omega)⟩
    have hgb2 := (hE2.keep b0 hbn (by simp)).trans hgb
    have hbn2 := Nat.lt_of_lt_of_le hbn hE2.next
    refine wpO_cons ?_; refine op1_call2 rfl (by (conv => lhs; whnf) <;> rfl) (by (conv => lhs; whnf) <;> rfl) ?_
    refine wpF_mono (L11 hP2.a hI.toInv hM hM2 hN hN2 hd2 hr2) ?_
    rintro v H3 ⟨rfl, hI3, O3, hR3, hE3⟩
    have hP3 := hP2.stepA hR3 hE3
    obtain ⟨hd3, hrA3, hrB3⟩ := hP3.rd hd0 hlo
    have hgb3 := (hE3.keep b0 hbn2 hb1).trans hgb2
    refine wpO_cons ?_; refine op1_mov rfl (by (conv => lhs; whnf) <;> rfl) ?_; refine wpO_cons ?_; refine op1_extract rfl rfl rfl ?_; refine wpO_cons ?_; refine op1_extract rfl rfl rfl ?_; refine wpO_cons ?_; refine op1_mov rfl (by (conv => lhs; whnf) <;> rfl) ?_; refine wpO_cons ?_; refine op1_mov rfl (by (conv => lhs; whnf) <;> rfl) ?_; refine wpO_nil ?_; refine seq_normal ?_; refine wp_seq ?_; refine wp_region ?_; refine wpO_cons ?_; refine op1_mov rfl (by (conv => lhs; whnf) <;> rfl) ?_; refine wpO_cons ?_; refine op1_faddr0 rfl rfl ?_; refine wpO_cons ?_; refine op1_load rfl rfl (by with_reducible assumption) rfl ?_; refine wpO_cons ?_; refine op1_call2 rfl (by (conv => lhs; whnf) <;> rfl) (by (conv => lhs; whnf) <;> rfl) ?_
    refine wpF_mono (L49 hP3.b hI.toInv hM hM2 hN hN2 hd3 hrB3) ?_
    rintro v H4 ⟨rfl, hI4, O4, hR4, hE4⟩
    have hP4 := hP3.stepB hR4 hE4
    refine wpO_cons ?_; refine op1_mov rfl (by (conv => lhs; whnf) <;> rfl) ?_; refine wpO_cons ?_; refine op1_extract rfl rfl rfl ?_; refine wpO_cons ?_; refine op1_extract rfl rfl rfl ?_; refine wpO_cons ?_; refine op1_mov rfl (by (conv => lhs; whnf) <;> rfl) ?_; refine wpO_cons ?_; refine op1_mov rfl (by (conv => lhs; whnf) <;> rfl) ?_; refine wpO_nil ?_; refine seq_normal ?_; refine wp_seq ?_; refine wp_region ?_; refine wpO_cons ?_; refine op1_mov rfl (by (conv => lhs; whnf) <;> rfl) ?_; refine wpO_cons ?_; refine op1_mov rfl (by (conv => lhs; whnf) <;> rfl) ?_; refine wpO_cons ?_; refine op1_eqlI_s rfl rfl rfl ?_; refine wpO_cons ?_; refine op1_mov rfl (by (conv => lhs; whnf) <;> rfl) ?_; refine wpO_cons ?_; refine op1_mov rfl (by (conv => lhs; whnf) <;> rfl) ?_; refine wpO_cons ?_; refine op1_mov rfl (by (conv => lhs; whnf) <;> rfl) ?_; refine wpO_cons ?_; refine op1_eqlI_s rfl rfl rfl ?_; refine wpO_cons ?_; refine op1_pick_t rfl rfl (by (conv => lhs; whnf) <;> rfl) ?_; refine wpO_cons ?_; refine op1_mov rfl (by (conv => lhs; whnf) <;> rfl) ?_; refine wpO_nil ?_; refine seq_normal ?_; refine wp_ret ?_; refine block_ret ?_; refine seq_ret ?_; refine ret_of ?_; refine rk_tmp (by (conv => lhs; whnf) <;> rfl) ?_; refine rk_nil ?_
    exact ⟨rfl, ⟨hI4.mono (by omega) (by omega), sig_type s xl hI.sig⟩, O3, O4, hP4⟩
  · rw [if_pos (by decide)]
    refine wp_seq ?_; refine wp_region ?_; refine wpO_cons ?_; refine op1_mov rfl (by (conv => lhs; whnf) <;> rfl) ?_; refine wpO_nil ?_; refine seq_normal ?_; refine wp_block ?_; refine wp_seq ?_; refine wp_seq ?_; refine wp_region ?_; refine wpO_cons ?_; refine op1_eqlI rfl rfl rfl ?_; refine wpO_cons ?_; refine op1_mov rfl (by (conv => lhs; whnf) <;> rfl) ?_; refine wpO_nil ?_; refine seq_normal ?_; refine wp_false rfl ?_; refine wp_seq ?_; refine wp_region ?_; refine wpO_cons ?_; refine op1_eqlI rfl rfl rfl ?_; refine wpO_cons ?_; refine op1_mov rfl (by (conv => lhs; whnf) <;> rfl) ?_; refine wpO_nil ?_; refine seq_normal ?_; refine wp_false rfl ?_; refine wp_seq ?_; refine wp_region ?_; refine wpO_cons ?_; refine op1_eqlI rfl rfl rfl ?_; refine wpO_cons ?_; refine op1_mov rfl (by (conv => lhs; whnf) <;> rfl) ?_; refine wpO_nil ?_; refine seq_normal ?_; refine wp_false rfl ?_; refine wp_seq ?_; refine wp_region ?_; refine wpO_cons ?_; refine op1_eqlI_s rfl rfl rfl ?_; refine wpO_cons ?_; refine op1_mov rfl (by (conv => lhs; whnf) <;> rfl) ?_; refine wpO_nil ?_; refine seq_normal ?_; refine wp_true rfl ?_; refine wp_skip ?_; refine seq_normal ?_; refine wp_true rfl ?_; refine wp_seq ?_; refine wp_region ?_; refine wpO_cons ?_; refine op1_mov rfl (by (conv => lhs; whnf) <;> rfl) ?_; refine wpO_cons ?_; refine op1_faddr0 rfl rfl ?_; refine wpO_cons ?_; refine op1_load rfl rfl (by with_reducible assumption) rfl ?_; refine wpO_cons ?_; refine op1_call1 rfl (by (conv => lhs; whnf) <;> rfl) ?_
    refine wpF_mono (L48 hd (fun b hb => (hrA b hb).1) (by omega)) ?_
    rintro v2 H2 ⟨r2, hd2, hf2, hE2⟩
    have hP2 := hP.step0 hE2
    have hr2 : ∀ b ∈ r2, b < H2.next ∧ b ∉ O1 := fun b hb => ⟨(hf2 b hb).2, fun hm => absurd (hP.a.lt b hm) (by have := (hf2 b hb).1; omega)⟩
    have hgb2 := (hE2.keep b0 hbn (by simp)).trans hgb
    have hbn2 := Nat.lt_of_lt_of_le hbn hE2.next
    refine wpO_cons ?_; refine op1_call2 rfl (by (conv => lhs; whnf) <;> rfl) (by (conv => lhs; whnf) <;> rfl) ?_
    refine wpF_mono (L11 hP2.a hI.toInv hM hM2 hN hN2 hd2 hr2) ?_
    rintro v H3 ⟨rfl, hI3, O3, hR3, hE3⟩
    have hP3 := hP2.stepA hR3 hE3
    obtain ⟨hd3, hrA3, hrB3⟩ := hP3.rd hd0 hlo
    have hgb3 := (hE3.keep b0 hbn2 hb1).trans hgb2
    refine wpO_cons ?_; refine op1_mov rfl (by (conv => lhs; whnf) <;> rfl) ?_; refine wpO_cons ?_; refine op1_extract rfl rfl rfl ?_; refine wpO_cons ?_; refine op1_extract rfl rfl rfl ?_; refine wpO_cons ?_; refine op1_mov rfl (by (conv => lhs; whnf) <;> rfl) ?_; refine wpO_cons ?_; refine op1_mov rfl (by (conv => lhs; whnf) <;> rfl) ?_; refine wpO_nil ?_; refine seq_normal ?_; refine wp_seq ?_; refine wp_region ?_; refine wpO_cons ?_; refine op1_mov rfl (by (conv => lhs; whnf) <;> rfl) ?_; refine wpO_cons ?_; refine op1_faddr0 rfl rfl ?_; refine wpO_cons ?_; refine op1_load rfl rfl (by with_reducible assumption) rfl ?_; refine wpO_cons ?_; refine op1_call2 rfl (by (conv => lhs; whnf) <;> rfl) (by (conv => lhs; whnf) <;> rfl) ?_
    refine wpF_mono (L49 hP3.b hI.toInv hM hM2 hN hN2 hd3 hrB3) ?_
    rintro v H4 ⟨rfl, hI4, O4, hR4, hE4⟩
    have hP4 := hP3.stepB hR4 hE4
    refine wpO_cons ?_; refine op1_mov rfl (by (conv => lhs; whnf) <;> rfl) ?_; refine wpO_cons ?_; refine op1_extract rfl rfl rfl ?_; refine wpO_cons ?_; refine op1_extract rfl rfl rfl ?_; refine wpO_cons ?_; refine op1_mov rfl (by (conv => lhs; whnf) <;> rfl) ?_; refine wpO_cons ?_; refine op1_mov rfl (by (conv => lhs; whnf) <;> rfl) ?_; refine wpO_nil ?_; refine seq_normal ?_; refine wp_seq ?_; refine wp_region ?_; refine wpO_cons ?_; refine op1_mov rfl (by (conv => lhs; whnf) <;> rfl) ?_; refine wpO_cons ?_; refine op1_mov rfl (by (conv => lhs; whnf) <;> rfl) ?_; refine wpO_cons ?_; refine op1_eqlI_s rfl rfl rfl ?_; refine wpO_cons ?_; refine op1_mov rfl (by (conv => lhs; whnf) <;> rfl) ?_; refine wpO_cons ?_; refine op1_mov rfl (by (conv => lhs; whnf) <;> rfl) ?_; refine wpO_cons ?_; refine op1_mov rfl (by (conv => lhs; whnf) <;> rfl) ?_; refine wpO_cons ?_; refine op1_eqlI_s rfl rfl rfl ?_; refine wpO_cons ?_; refine op1_pick_t rfl rfl (by (conv => lhs; whnf) <;> rfl) ?_; refine wpO_cons ?_; refine op1_mov rfl (by (conv => lhs; whnf) <;> rfl) ?_; refine wpO_nil ?_; refine seq_normal ?_; refine wp_ret ?_; refine block_ret ?_; refine seq_ret ?_; refine ret_of ?_; refine rk_tmp (by (conv => lhs; whnf) <;> rfl) ?_; refine rk_nil ?_
    exact ⟨rfl, ⟨hI4.mono (by omega) (by omega), sig_type s xl hI.sig⟩, O3, O4, hP4⟩
  · rw [if_pos (by decide)]
    refine wp_seq ?_; refine wp_region ?_; refine wpO_cons ?_; refine op1_mov rfl (by (conv => lhs; whnf) <;> rfl) ?_; refine wpO_nil ?_; refine seq_normal ?_; refine wp_block ?_; refine wp_seq ?_; refine wp_seq ?_; refine wp_region ?_; refine wpO_cons ?_; refine op1_eqlI rfl rfl rfl ?_; refine wpO_cons ?_; refine op1_mov rfl (by (conv => lhs; whnf) <;> rfl) ?_; refine wpO_nil ?_; refine seq_normal ?_; refine wp_false rfl ?_; refine wp_seq ?_; refine wp_region ?_; refine wpO_cons ?_; refine op1_eqlI rfl rfl rfl ?_; refine wpO_cons ?_; refine op1_mov rfl (by (conv => lhs; whnf) <;> rfl) ?_; refine wpO_nil ?_; refine seq_normal ?_; refine wp_false rfl ?_; refine wp_seq ?_; refine wp_region ?_; refine wpO_cons ?_; refine op1_eqlI rfl rfl rfl ?_; refine wpO_cons ?_; refine op1_mov rfl (by (conv => lhs; whnf) <;> rfl) ?_; refine wpO_nil ?_; refine seq_normal ?_; refine wp_false rfl ?_; refine wp_seq ?_; refine wp_region ?_; refine wpO_cons ?_; refine op1_eqlI rfl rfl rfl ?_; refine wpO_cons ?_; refine op1_mov rfl (by (conv => lhs; whnf) <;> rfl) ?_; refine wpO_nil ?_; refine seq_normal ?_; refine wp_false rfl ?_; refine wp_region ?_; refine wpO_cons ?_; refine op1_eqlI_s rfl rfl rfl ?_; refine wpO_cons ?_; refine op1_mov rfl (by (conv => lhs; whnf) <;> rfl) ?_; refine wpO_nil ?_; refine seq_normal ?_; refine wp_true rfl ?_; refine wp_seq ?_; refine wp_region ?_; refine wpO_cons ?_; refine op1_mov rfl (by (conv => lhs; whnf) <;> rfl) ?_; refine wpO_cons ?_; refine op1_faddr0 rfl rfl ?_; refine wpO_cons ?_; refine op1_load rfl rfl (by with_reducible assumption) rfl ?_; refine wpO_cons ?_; refine op1_call1 rfl (by (conv => lhs; whnf) <;> rfl) ?_
    refine wpF_mono (L48 hd (fun b hb => (hrA b hb).1) (by omega)) ?_
    rintro v2 H2 ⟨r2, hd2, hf2, hE2⟩
    have hP2 := hP.step0 hE2
    have hr2 : ∀ b ∈ r2, b < H2.next ∧ b ∉ O1 := fun b hb => ⟨(hf2 b hb).2, fun hm => absurd (hP.a.lt b hm) (by have := (hf2 b hb).1; omega)⟩
    have hgb2 := (hE2.keep b0 hbn (by simp)).trans hgb
    have hbn2 := Nat.lt_of_lt_of_le hbn hE2.next
    refine wpO_cons ?_; refine op1_call2 rfl (by (conv => lhs; whnf) <;> rfl) (by (conv => lhs; whnf) <;> rfl) ?_
    refine wpF_mono (L11 hP2.a hI.toInv hM hM2 hN hN2 hd2 hr2) ?_
    rintro v H3 ⟨rfl, hI3, O3, hR3, hE3⟩
    have hP3 := hP2.stepA hR3 hE3
    obtain ⟨hd3, hrA3, hrB3⟩ := hP3.rd hd0 hlo
    have hgb3 := (hE3.keep b0 hbn2 hb1).trans hgb2
    refine wpO_cons ?_; refine op1_mov rfl (by (conv => lhs; whnf) <;> rfl) ?_; refine wpO_cons ?_; refine op1_extract rfl rfl rfl ?_; refine wpO_cons ?_; refine op1_extract rfl rfl rfl ?_; refine wpO_cons ?_; refine op1_mov rfl (by (conv => lhs; whnf) <;> rfl) ?_; refine wpO_cons ?_; refine op1_mov rfl (by (conv => lhs; whnf) <;> rfl) ?_; refine wpO_nil ?_; refine seq_normal ?_; refine wp_seq ?_; refine wp_region ?_; refine wpO_cons ?_; refine op1_mov rfl (by (conv => lhs; whnf) <;> rfl) ?_; refine wpO_cons ?_; refine op1_faddr0 rfl rfl ?_; refine wpO_cons ?_; refine op1_load rfl rfl (by with_reducible assumption) rfl ?_; refine wpO_cons ?_; refine op1_call2 rfl (by (conv => lhs; whnf) <;> rfl) (by (conv => lhs; whnf) <;> rfl) ?_
    refine wpF_mono (L49 hP3.b hI.toInv hM hM2 hN hN2 hd3 hrB3) ?_
    rintro v H4 ⟨rfl, hI4, O4, hR4, hE4⟩
    have hP4 := hP3.stepB hR4 hE4
    refine wpO_cons ?_; refine op1_mov rfl (by (conv => lhs; whnf) <;> rfl) ?_; refine wpO_cons ?_; refine op1_extract rfl rfl rfl ?_; refine wpO_cons ?_; refine op1_extract rfl rfl rfl ?_; refine wpO_cons ?_; refine op1_mov rfl (by (conv => lhs; whnf) <;> rfl) ?_; refine wpO_cons ?_; refine op1_mov rfl (by (conv => lhs; whnf) <;> rfl) ?_; refine wpO_nil ?_; refine seq_normal ?_; refine wp_seq ?_; refine wp_region ?_; refine wpO_cons ?_; refine op1_mov rfl (by (conv => lhs; whnf) <;> rfl) ?_; refine wpO_cons ?_; refine op1_mov rfl (by (conv => lhs; whnf) <;> rfl) ?_; refine wpO_cons ?_; refine op1_eqlI_s rfl rfl rfl ?_; refine wpO_cons ?_; refine op1_mov rfl (by (conv => lhs; whnf) <;> rfl) ?_; refine wpO_cons ?_; refine op1_mov rfl (by (conv => lhs; whnf) <;> rfl) ?_; refine wpO_cons ?_; refine op1_mov rfl (by (conv => lhs; whnf) <;> rfl) ?_; refine wpO_cons ?_; refine op1_eqlI_s rfl rfl rfl ?_; refine wpO_cons ?_; refine op1_pick_t rfl rfl (by (conv => lhs; whnf) <;> rfl) ?_; refine wpO_cons ?_; refine op1_mov rfl (by (conv => lhs; whnf) <;> rfl) ?_; refine wpO_nil ?_; refine seq_normal ?_; refine wp_ret ?_; refine block_ret ?_; refine seq_ret ?_; refine ret_of ?_; refine rk_tmp (by (conv => lhs; whnf) <;> rfl) ?_; refine rk_nil ?_
    exact ⟨rfl, ⟨hI4.mono (by omega) (by omega), sig_type s xl hI.sig⟩, O3, O4, hP4⟩
  · rw [if_neg (by decide), if_pos (by decide)]
    have hP2 := hP
    have hgb2 := hgb
    have hbn2 := hbn
    have hin : s.input.length ≤ 100000 := by have := hI.inp; omega
    have hrc : ∀ y ∈ s.input, y.1.length ≤ 10000000 := fun y hy => by have := hI.recs y hy; omega
    refine wp_seq ?_; refine wp_region ?_; refine wpO_cons ?_; refine op1_mov rfl (by (conv => lhs; whnf) <;> rfl) ?_; refine wpO_nil ?_; refine seq_normal ?_; refine wp_block ?_; refine wp_seq ?_; refine wp_seq ?_; refine wp_region ?_; refine wpO_cons ?_; refine op1_eqlI rfl rfl rfl ?_; refine wpO_cons ?_; refine op1_mov rfl (by (conv => lhs; whnf) <;> rfl) ?_; refine wpO_nil ?_; refine seq_normal ?_; refine wp_false rfl ?_; refine wp_seq ?_; refine wp_region ?_; refine wpO_cons ?_; refine op1_eqlI rfl rfl rfl ?_; refine wpO_cons ?_; refine op1_mov rfl (by (conv => lhs; whnf) <;> rfl) ?_; refine wpO_nil ?_; refine seq_normal ?_; refine wp_false rfl ?_; refine wp_seq ?_; refine wp_region ?_; refine wpO_cons ?_; refine op1_eqlI rfl rfl rfl ?_; refine wpO_cons ?_; refine op1_mov rfl (by (conv => lhs; whnf) <;> rfl) ?_; refine wpO_nil ?_; refine seq_normal ?_; refine wp_false rfl ?_; refine wp_seq ?_; refine wp_region ?_; refine wpO_cons ?_; refine op1_eqlI rfl rfl rfl ?_; refine wpO_cons ?_; refine op1_mov rfl (by (conv => lhs; whnf) <;> rfl) ?_; refine wpO_nil ?_; refine seq_normal ?_; refine wp_false rfl ?_; refine wp_region ?_; refine wpO_cons ?_; refine op1_eqlI rfl rfl rfl ?_; refine wpO_cons ?_; refine op1_mov rfl (by (conv => lhs; whnf) <;> rfl) ?_; refine wpO_nil ?_; refine seq_normal ?_; refine wp_false rfl ?_; refine wp_seq ?_; refine wp_seq ?_; refine wp_region ?_; refine wpO_cons ?_; refine op1_eqlI_s rfl rfl rfl ?_; refine wpO_cons ?_; refine op1_mov rfl (by (conv => lhs; whnf) <;> rfl) ?_; refine wpO_nil ?_; refine seq_normal ?_; refine wp_true rfl ?_; refine wp_skip ?_; refine seq_normal ?_; refine wp_true rfl ?_; refine wp_seq ?_; refine wp_region ?_; refine wpO_cons ?_; refine op1_mov rfl (by (conv => lhs; whnf) <;> rfl) ?_; refine wpO_cons ?_; refine op1_faddr0 rfl rfl ?_; refine wpO_cons ?_; refine op1_load rfl rfl (by with_reducible assumption) rfl ?_; refine wpO_cons ?_; refine op1_call2 rfl (by (conv => lhs; whnf) <;> rfl) (by (conv => lhs; whnf) <;> rfl) ?_
    refine wpF_mono (L12 hP.a xn hin hrc) ?_
    rintro v H3 ⟨O3, vo3, r3, rfl, hN3, hR3, hE3⟩
    have hP3 := hP2.stepA hR3 hE3
    obtain ⟨hd3, hrA3, hrB3⟩ := hP3.rd hd0 hlo
    have hgb3 := (hE3.keep b0 hbn2 hb1).trans hgb2
    refine wpO_cons ?_; refine op1_mov rfl (by (conv => lhs; whnf) <;> rfl) ?_; refine wpO_cons ?_; refine op1_extract rfl rfl rfl ?_; refine wpO_cons ?_; refine op1_extract rfl rfl rfl ?_; refine wpO_cons ?_; refine op1_extract rfl rfl rfl ?_; refine wpO_cons ?_; refine op1_mov rfl (by (conv => lhs; whnf) <;> rfl) ?_; refine wpO_cons ?_; refine op1_mov rfl (by (conv => lhs; whnf) <;> rfl) ?_; refine wpO_cons ?_; refine op1_mov rfl (by (conv => lhs; whnf) <;> rfl) ?_; refine wpO_nil ?_; refine seq_normal ?_; refine wp_seq ?_; refine wp_region ?_; refine wpO_cons ?_; refine op1_mov rfl (by (conv => lhs; whnf) <;> rfl) ?_; refine wpO_cons ?_; refine op1_faddr0 rfl rfl ?_; refine wpO_cons ?_; refine op1_load rfl rfl (by with_reducible assumption) rfl ?_; refine wpO_cons ?_; refine op1_call2 rfl (by (conv => lhs; whnf) <;> rfl) (by (conv => lhs; whnf) <;> rfl) ?_
    refine wpF_mono (L50 hP3.b xn hin hrc) ?_
    rintro v H4 ⟨O4, vo4, r4, rfl, hN4, hR4, hE4⟩
    have hP4 := hP3.stepB hR4 hE4
    have hS3 := hN3.sl.rd.frame fun b hb => hE4.keep b (hN3.fresh b hb).2.1 fun hm => absurd (hP.b.lt b hm) (by have := (hN3.fresh b hb).1; omega)
    refine wpO_cons ?_; refine op1_mov rfl (by (conv => lhs; whnf) <;> rfl) ?_; refine wpO_cons ?_; refine op1_extract rfl rfl rfl ?_; refine wpO_cons ?_; refine op1_extract rfl rfl rfl ?_; refine wpO_cons ?_; refine op1_extract rfl rfl rfl ?_; refine wpO_cons ?_; refine op1_mov rfl (by (conv => lhs; whnf) <;> rfl) ?_; refine wpO_cons ?_; refine op1_mov rfl (by (conv => lhs; whnf) <;> rfl) ?_; refine wpO_cons ?_; refine op1_mov rfl (by (conv => lhs; whnf) <;> rfl) ?_; refine wpO_nil ?_; refine seq_normal ?_; refine wp_seq ?_; refine wp_region ?_; refine wpO_cons ?_; refine op1_mov rfl (by (conv => lhs; whnf) <;> rfl) ?_; refine wpO_cons ?_; refine op1_mov rfl (by (conv => lhs; whnf) <;> rfl) ?_; refine wpO_cons ?_; refine op1_call2 rfl (by (conv => lhs; whnf) <;> rfl) (by (conv => lhs; whnf) <;> rfl) ?_
    refine wpF_mono (L14 hS3 hN4.sl.rd) ?_
    rintro _ _ ⟨rfl, rfl⟩
    refine wpO_cons ?_; refine op1_mov rfl (by (conv => lhs; whnf) <;> rfl) ?_; refine wpO_cons ?_; refine op1_mov rfl (by (conv => lhs; whnf) <;> rfl) ?_; refine wpO_cons ?_; refine op1_mov rfl (by (conv => lhs; whnf) <;> rfl) ?_; refine wpO_cons ?_; refine op1_eqlB_s rfl rfl rfl rfl ?_; refine wpO_cons ?_; refine op1_pick_t rfl rfl (by (conv => lhs; whnf) <;> rfl) ?_; refine wpO_cons ?_; refine op1_mov rfl (by (conv => lhs; whnf) <;> rfl) ?_; refine wpO_cons ?_; refine op1_mov rfl (by (conv => lhs; whnf) <;> rfl) ?_; refine wpO_cons ?_; refine op1_mov rfl (by (conv => lhs; whnf) <;> rfl) ?_; refine wpO_cons ?_; refine op1_eqlI_s rfl rfl rfl ?_; refine wpO_cons ?_; refine op1_pick_t rfl rfl (by (conv => lhs; whnf) <;> rfl) ?_; refine wpO_cons ?_; refine op1_mov rfl (by (conv => lhs; whnf) <;> rfl) ?_; refine wpO_nil ?_; refine seq_normal ?_; refine wp_ret ?_; refine block_ret ?_; refine seq_ret ?_; refine ret_of ?_; refine rk_tmp (by (conv => lhs; whnf) <;> rfl) ?_; refine rk_nil ?_
    exact ⟨rfl, ⟨(hI.toInv.read xn).mono (by omega) (by omega), by rw [sig_read]; exact hI.sig⟩, O3, O4, hP4⟩
  · rw [if_neg (by decide), if_pos (by decide)]
    have hP2 := hP
    have hgb2 := hgb
    have hbn2 := hbn
    have hin : s.input.length ≤ 100000 := by have := hI.inp; omega
    have hrc : ∀ y ∈ s.input, y.1.length ≤ 10000000 := fun y hy => by have := hI.recs y hy; omega
    refine wp_seq ?_; refine wp_region ?_; refine wpO_cons ?_; refine op1_mov rfl (by (conv => lhs; whnf) <;> rfl) ?_; refine wpO_nil ?_; refine seq_normal ?_; refine wp_block ?_; refine wp_seq ?_; refine wp_seq ?_; refine wp_region ?_; refine wpO_cons ?_; refine op1_eqlI rfl rfl rfl ?_; refine wpO_cons ?_; refine op1_mov rfl (by (conv => lhs; whnf) <;> rfl) ?_; refine wpO_nil ?_; refine seq_normal ?_; refine wp_false rfl ?_; refine wp_seq ?_; refine wp_region ?_; refine wpO_cons ?_; refine op1_eqlI rfl rfl rfl ?_; refine wpO_cons ?_; refine op1_mov rfl (by (conv => lhs; whnf) <;> rfl) ?_; refine wpO_nil ?_; refine seq_normal ?_; refine wp_false rfl ?_; refine wp_seq ?_; refine wp_region ?_; refine wpO_cons ?_; refine op1_eqlI rfl rfl rfl ?_; refine wpO_cons ?_; refine op1_mov rfl (by (conv => lhs; whnf) <;> rfl) ?_; refine wpO_nil ?_; refine seq_normal ?_; refine wp_false rfl ?_; refine wp_seq ?_; refine wp_region ?_; refine wpO_cons ?_; refine op1_eqlI rfl rfl rfl ?_; refine wpO_cons ?_; refine op1_mov rfl (by (conv => lhs; whnf) <;> rfl) ?_; refine wpO_nil ?_; refine seq_normal ?_; refine wp_false rfl ?_; refine wp_region ?_; refine wpO_cons ?_; refine op1_eqlI rfl rfl rfl ?_; refine wpO_cons ?_; refine op1_mov rfl (by (conv => lhs; whnf) <;> rfl) ?_; refine wpO_nil ?_; refine seq_normal ?_; refine wp_false rfl ?_; refine wp_seq ?_; refine wp_seq ?_; refine wp_region ?_; refine wpO_cons ?_; refine op1_eqlI rfl rfl rfl ?_; refine wpO_cons ?_; refine op1_mov rfl (by (conv => lhs; whnf) <;> rfl) ?_; refine wpO_nil ?_; refine seq_normal ?_; refine wp_false rfl ?_; refine wp_region ?_; refine wpO_cons ?_; refine op1_eqlI_s rfl rfl rfl ?_; refine wpO_cons ?_; refine op1_mov rfl (by (conv => lhs; whnf) <;> rfl) ?_; refine wpO_nil ?_; refine seq_normal ?_; refine wp_true rfl ?_; refine wp_seq ?_; refine wp_region ?_; refine wpO_cons ?_; refine op1_mov rfl (by (conv => lhs; whnf) <;> rfl) ?_; refine wpO_cons ?_; refine op1_faddr0 rfl rfl ?_; refine wpO_cons ?_; refine op1_load rfl rfl (by with_reducible assumption) rfl ?_; refine wpO_cons ?_; refine op1_call2 rfl (by (conv => lhs; whnf) <;> rfl) (by (conv => lhs; whnf) <;> rfl) ?_
    refine wpF_mono (L12 hP.a xn hin hrc) ?_
    rintro v H3 ⟨O3, vo3, r3, rfl, hN3, hR3, hE3⟩
    have hP3 := hP2.stepA hR3 hE3
    obtain ⟨hd3, hrA3, hrB3⟩ := hP3.rd hd0 hlo
    have hgb3 := (hE3.keep b0 hbn2 hb1).trans hgb2
    refine wpO_cons ?_; refine op1_mov rfl (by (conv => lhs; whnf) <;> rfl) ?_; refine wpO_cons ?_; refine op1_extract rfl rfl rfl ?_; refine wpO_cons ?_; refine op1_extract rfl rfl rfl ?_; refine wpO_cons ?_; refine op1_extract rfl rfl rfl ?_; refine wpO_cons ?_; refine op1_mov rfl (by (conv => lhs; whnf) <;> rfl) ?_; refine wpO_cons ?_; refine op1_mov rfl (by (conv => lhs; whnf) <;> rfl) ?_; refine wpO_cons ?_; refine op1_mov rfl (by (conv => lhs; whnf) <;> rfl) ?_; refine wpO_nil ?_; refine seq_normal ?_; refine wp_seq ?_; refine wp_region ?_; refine wpO_cons ?_; refine op1_mov rfl (by (conv => lhs; whnf) <;> rfl) ?_; refine wpO_cons ?_; refine op1_faddr0 rfl rfl ?_; refine wpO_cons ?_; refine op1_load rfl rfl (by with_reducible assumption) rfl ?_; refine wpO_cons ?_; refine op1_call2 rfl (by (conv => lhs; whnf) <;> rfl) (by (conv => lhs; whnf) <;> rfl) ?_
    refine wpF_mono (L50 hP3.b xn hin hrc) ?_
    rintro v H4 ⟨O4, vo4, r4, rfl, hN4, hR4, hE4⟩
    have hP4 := hP3.stepB hR4 hE4
    have hS3 := hN3.sl.rd.frame fun b hb => hE4.keep b (hN3.fresh b hb).2.1 fun hm => absurd (hP.b.lt b hm) (by have := (hN3.fresh b hb).1; omega)
    refine wpO_cons ?_; refine op1_mov rfl (by (conv => lhs; whnf) <;> rfl) ?_; refine wpO_cons ?_; refine op1_extract rfl rfl rfl ?_; refine wpO_cons ?_; refine op1_extract rfl rfl rfl ?_; refine wpO_cons ?_; refine op1_extract rfl rfl rfl ?_; refine wpO_cons ?_; refine op1_mov rfl (by (conv => lhs; whnf) <;> rfl) ?_; refine wpO_cons ?_; refine op1_mov rfl (by (conv => lhs; whnf) <;> rfl) ?_; refine wpO_cons ?_; refine op1_mov rfl (by (conv => lhs; whnf) <;> rfl) ?_; refine wpO_nil ?_; refine seq_normal ?_; refine wp_seq ?_; refine wp_region ?_; refine wpO_cons ?_; refine op1_mov rfl (by (conv => lhs; whnf) <;> rfl) ?_; refine wpO_cons ?_; refine op1_mov rfl (by (conv => lhs; whnf) <;> rfl) ?_; refine wpO_cons ?_; refine op1_call2 rfl (by (conv => lhs; whnf) <;> rfl) (by (conv => lhs; whnf) <;> rfl) ?_
    refine wpF_mono (L14 hS3 hN4.sl.rd) ?_
    rintro _ _ ⟨rfl, rfl⟩
    refine wpO_cons ?_; refine op1_mov rfl (by (conv => lhs; whnf) <;> rfl) ?_; refine wpO_cons ?_; refine op1_mov rfl (by (conv => lhs; whnf) <;> rfl) ?_; refine wpO_cons ?_; refine op1_mov rfl (by (conv => lhs; whnf) <;> rfl) ?_; refine wpO_cons ?_; refine op1_eqlB_s rfl rfl rfl rfl ?_; refine wpO_cons ?_; refine op1_pick_t rfl rfl (by (conv => lhs; whnf) <;> rfl) ?_; refine wpO_cons ?_; refine op1_mov rfl (by (conv => lhs; whnf) <;> rfl) ?_; refine wpO_cons ?_; refine op1_mov rfl (by (conv => lhs; whnf) <;> rfl) ?_; refine wpO_cons ?_; refine op1_mov rfl (by (conv => lhs; whnf) <;> rfl) ?_; refine wpO_cons ?_; refine op1_eqlI_s rfl rfl rfl ?_; refine wpO_cons ?_; refine op1_pick_t rfl rfl (by (conv => lhs; whnf) <;> rfl) ?_; refine wpO_cons ?_; refine op1_mov rfl (by (conv => lhs; whnf) <;> rfl) ?_; refine wpO_nil ?_; refine seq_normal ?_; refine wp_ret ?_; refine block_ret ?_; refine seq_ret ?_; refine ret_of ?_; refine rk_tmp (by (conv => lhs; whnf) <;> rfl) ?_; refine rk_nil ?_
    exact ⟨rfl, ⟨(hI.toInv.read xn).mono (by omega) (by omega), by rw [sig_read]; exact hI.sig⟩, O3, O4, hP4⟩
  · rw [if_neg (by decide), if_neg (by decide), if_pos (by decide)]
    have hP2 := hP
    have hgb2 := hgb
    have hbn2 := hbn
    have hol : s.output.length ≤ 1000000 := by have := hI.out; omega
    refine wp_seq ?_; refine wp_region ?_; refine wpO_cons ?_; refine op1_mov rfl (by (conv => lhs; whnf) <;> rfl) ?_; refine wpO_nil ?_; refine seq_normal ?_; refine wp_block ?_; refine wp_seq ?_; refine wp_seq ?_; refine wp_region ?_; refine wpO_cons ?_; refine op1_eqlI rfl rfl rfl ?_; refine wpO_cons ?_; refine op1_mov rfl (by (conv => lhs; whnf) <;> rfl) ?_; refine wpO_nil ?_; refine seq_normal ?_; refine wp_false rfl ?_; refine wp_seq ?_; refine wp_region ?_; refine wpO_cons ?_; refine op1_eqlI rfl rfl rfl ?_; refine wpO_cons ?_; refine op1_mov rfl (by (conv => lhs; whnf) <;> rfl) ?_; refine wpO_nil ?_; refine seq_normal ?_; refine wp_false rfl ?_; refine wp_seq ?_; refine wp_region ?_; refine wpO_cons ?_; refine op1_eqlI rfl rfl rfl ?_; refine wpO_cons ?_; refine op1_mov rfl (by (conv => lhs; whnf) <;> rfl) ?_; refine wpO_nil ?_; refine seq_normal ?_; refine wp_false rfl ?_; refine wp_seq ?_; refine wp_region ?_; refine wpO_cons ?_; refine op1_eqlI rfl rfl rfl ?_; refine wpO_cons ?_; refine op1_mov rfl (by (conv => lhs; whnf) <;> rfl) ?_; refine wpO_nil ?_; refine seq_normal ?_; refine wp_false rfl ?_; refine wp_region ?_; refine wpO_cons ?_; refine op1_eqlI rfl rfl rfl ?_; refine wpO_cons ?_; refine op1_mov rfl (by (conv => lhs; whnf) <;> rfl) ?_; refine wpO_nil ?_; refine seq_normal ?_; refine wp_false rfl ?_; refine wp_seq ?_; refine wp_seq ?_; refine wp_region ?_; refine wpO_cons ?_; refine op1_eqlI rfl rfl rfl ?_; refine wpO_cons ?_; refine op1_mov rfl (by (conv => lhs; whnf) <;> rfl) ?_; refine wpO_nil ?_; refine seq_normal ?_; refine wp_false rfl ?_; refine wp_region ?_; refine wpO_cons ?_; refine op1_eqlI rfl rfl rfl ?_; refine wpO_cons ?_; refine op1_mov rfl (by (conv => lhs; whnf) <;> rfl) ?_; refine wpO_nil ?_; refine seq_normal ?_; refine wp_false rfl ?_; refine wp_seq ?_; refine wp_region ?_; refine wpO_cons ?_; refine op1_eqlI_s rfl rfl rfl ?_; refine wpO_cons ?_; refine op1_mov rfl (by (conv => lhs; whnf) <;> rfl) ?_; refine wpO_nil ?_; refine seq_normal ?_; refine wp_true rfl ?_; refine wp_seq ?_; refine wp_region ?_; refine wpO_cons ?_; refine op1_mov rfl (by (conv => lhs; whnf) <;> rfl) ?_; refine wpO_cons ?_; refine op1_faddr0 rfl rfl ?_; refine wpO_cons ?_; refine op1_load rfl rfl (by with_reducible assumption) rfl ?_; refine wpO_cons ?_; refine op1_call2 rfl (by (conv => lhs; whnf) <;> rfl) (by (conv => lhs; whnf) <;> rfl) ?_
    refine wpF_mono (L13 hP.a xn hol) ?_
    rintro v H3 ⟨O3, vo3, r3, rfl, hN3, hR3, hE3⟩
    have hP3 := hP2.stepA hR3 hE3
    obtain ⟨hd3, hrA3, hrB3⟩ := hP3.rd hd0 hlo
    have hgb3 := (hE3.keep b0 hbn2 hb1).trans hgb2
    refine wpO_cons ?_; refine op1_mov rfl (by (conv => lhs; whnf) <;> rfl) ?_; refine wpO_cons ?_; refine op1_extract rfl rfl rfl ?_; refine wpO_cons ?_; refine op1_extract rfl rfl rfl ?_; refine wpO_cons ?_; refine op1_mov rfl (by (conv => lhs; whnf) <;> rfl) ?_; refine wpO_cons ?_; refine op1_mov rfl (by (conv => lhs; whnf) <;> rfl) ?_; refine wpO_nil ?_; refine seq_normal ?_; refine wp_seq ?_; refine wp_region ?_; refine wpO_cons ?_; refine op1_mov rfl (by (conv => lhs; whnf) <;> rfl) ?_; refine wpO_cons ?_; refine op1_faddr0 rfl rfl ?_; refine wpO_cons ?_; refine op1_load rfl rfl (by with_reducible assumption) rfl ?_; refine wpO_cons ?_; refine op1_call2 rfl (by (conv => lhs; whnf) <;> rfl) (by (conv => lhs; whnf) <;> rfl) ?_
    refine wpF_mono (L51 hP3.b xn hol) ?_
    rintro v H4 ⟨O4, vo4, r4, rfl, hN4, hR4, hE4⟩
    have hP4 := hP3.stepB hR4 hE4
    have hS3 := hN3.sl.rd.frame fun b hb => hE4.keep b (hN3.fresh b hb).2.1 fun hm => absurd (hP.b.lt b hm) (by have := (hN3.fresh b hb).1; omega)
    refine wpO_cons ?_; refine op1_mov rfl (by (conv => lhs; whnf) <;> rfl) ?_; refine wpO_cons ?_; refine op1_extract rfl rfl rfl ?_; refine wpO_cons ?_; refine op1_extract rfl rfl rfl ?_; refine wpO_cons ?_; refine op1_mov rfl (by (conv => lhs; whnf) <;> rfl) ?_; refine wpO_cons ?_; refine op1_mov rfl (by (conv => lhs; whnf) <;> rfl) ?_; refine wpO_nil ?_; refine seq_normal ?_; refine wp_seq ?_; refine wp_region ?_; refine wpO_cons ?_; refine op1_mov rfl (by (conv => lhs; whnf) <;> rfl) ?_; refine wpO_cons ?_; refine op1_mov rfl (by (conv => lhs; whnf) <;> rfl) ?_; refine wpO_cons ?_; refine op1_call2 rfl (by (conv => lhs; whnf) <;> rfl) (by (conv => lhs; whnf) <;> rfl) ?_
    refine wpF_mono (L14 hS3 hN4.sl.rd) ?_
    rintro _ _ ⟨rfl, rfl⟩
    refine wpO_cons ?_; refine op1_mov rfl (by (conv => lhs; whnf) <;> rfl) ?_; refine wpO_cons ?_; refine op1_mov rfl (by (conv => lhs; whnf) <;> rfl) ?_; refine wpO_cons ?_; refine op1_mov rfl (by (conv => lhs; whnf) <;> rfl) ?_; refine wpO_cons ?_; refine op1_eqlI_s rfl rfl rfl ?_; refine wpO_cons ?_; refine op1_pick_t rfl rfl (by (conv => lhs; whnf) <;> rfl) ?_; refine wpO_cons ?_; refine op1_mov rfl (by (conv => lhs; whnf) <;> rfl) ?_; refine wpO_nil ?_; refine seq_normal ?_; refine wp_ret ?_; refine block_ret ?_; refine seq_ret ?_; refine ret_of ?_; refine rk_tmp (by (conv => lhs; whnf) <;> rfl) ?_; refine rk_nil ?_
    exact ⟨rfl, ⟨(hI.toInv.outp xn).mono (by omega) (by omega), by rw [sig_outp]; exact hI.sig⟩, O3, O4, hP4⟩
  · rw [if_neg (by decide), if_neg (by decide), if_neg (by decide), if_pos (by decide)]
    refine wp_seq ?_; refine wp_region ?_; refine wpO_cons ?_; refine op1_mov rfl (by (conv => lhs; whnf) <;> rfl) ?_; refine wpO_nil ?_; refine seq_normal ?_; refine wp_block ?_; refine wp_seq ?_; refine wp_seq ?_; refine wp_region ?_; refine wpO_cons ?_; refine op1_eqlI rfl rfl rfl ?_; refine wpO_cons ?_; refine op1_mov rfl (by (conv => lhs; whnf) <;> rfl) ?_; refine wpO_nil ?_; refine seq_normal ?_; refine wp_false rfl ?_; refine wp_seq ?_; refine wp_region ?_; refine wpO_cons ?_; refine op1_eqlI rfl rfl rfl ?_; refine wpO_cons ?_; refine op1_mov rfl (by (conv => lhs; whnf) <;> rfl) ?_; refine wpO_nil ?_; refine seq_normal ?_; refine wp_false rfl ?_; refine wp_seq ?_; refine wp_region ?_; refine wpO_cons ?_; refine op1_eqlI rfl rfl rfl ?_; refine wpO_cons ?_; refine op1_mov rfl (by (conv => lhs; whnf) <;> rfl) ?_; refine wpO_nil ?_; refine seq_normal ?_; refine wp_false rfl ?_; refine wp_seq ?_; refine wp_region ?_; refine wpO_cons ?_; refine op1_eqlI rfl rfl rfl ?_; refine wpO_cons ?_; refine op1_mov rfl (by (conv => lhs; whnf) <;> rfl) ?_; refine wpO_nil ?_; refine seq_normal ?_; refine wp_false rfl ?_; refine wp_region ?_; refine wpO_cons ?_; refine op1_eqlI rfl rfl rfl ?_; refine wpO_cons ?_; refine op1_mov rfl (by (conv => lhs; whnf) <;> rfl) ?_; refine wpO_nil ?_; refine seq_normal ?_; refine wp_false rfl ?_; refine wp_seq ?_; refine wp_seq ?_; refine wp_region ?_; refine wpO_cons ?_; refine op1_eqlI rfl rfl rfl ?_; refine wpO_cons ?_; refine op1_mov rfl (by (conv => lhs; whnf) <;> rfl) ?_; refine wpO_nil ?_; refine seq_normal ?_; refine wp_false rfl ?_; refine wp_region ?_; refine wpO_cons ?_; refine op1_eqlI rfl rfl rfl ?_; refine wpO_cons ?_; refine op1_mov rfl (by (conv => lhs; whnf) <;> rfl) ?_; refine wpO_nil ?_; refine seq_normal ?_; refine wp_false rfl ?_; refine wp_seq ?_; refine wp_region ?_; refine wpO_cons ?_; refine op1_eqlI rfl rfl rfl ?_; refine wpO_cons ?_; refine op1_mov rfl (by (conv => lhs; whnf) <;> rfl) ?_; refine wpO_nil ?_; refine seq_normal ?_; refine wp_false rfl ?_; refine wp_seq ?_; refine wp_region ?_; refine wpO_cons ?_; refine op1_eqlI_s rfl rfl rfl ?_; refine wpO_cons ?_; refine op1_mov rfl (by (conv => lhs; whnf) <;> rfl) ?_; refine wpO_nil ?_; refine seq_normal ?_; refine wp_true rfl ?_; refine wp_seq ?_; refine wp_region ?_; refine wpO_cons ?_; refine op1_mov rfl (by (conv => lhs; whnf) <;> rfl) ?_; refine wpO_cons ?_; refine op1_faddr0 rfl rfl ?_; refine wpO_cons ?_; refine op1_load rfl rfl (by with_reducible assumption) rfl ?_; refine wpO_cons ?_; refine op1_call1 rfl (by (conv => lhs; whnf) <;> rfl) ?_
    refine wpF_mono (L48 hd (fun b hb => (hrA b hb).1) (by omega)) ?_
    rintro v2 H2 ⟨r2, hd2, hf2, hE2⟩
    have hP2 := hP.step0 hE2
    have hr2 : ∀ b ∈ r2, b < H2.next ∧ b ∉ O1 := fun b hb => ⟨(hf2 b hb).2, fun hm => absurd (hP.a.lt b hm) (by have := (hf2 b hb).1; omega)⟩
    have hgb2 := (hE2.keep b0 hbn (by simp)).trans hgb
    have hbn2 := Nat.lt_of_lt_of_le hbn hE2.next
    refine wpO_cons ?_; refine op1_call2 rfl (by (conv => lhs; whnf) <;> rfl) (by (conv => lhs; whnf) <;> rfl) ?_
    refine wpF_mono (L21 hP2.a hI.toInv hd2 hr2) ?_
    rintro v H3 ⟨rfl, hI3, O3, hR3, hE3⟩
    have hP3 := hP2.stepA hR3 hE3
    obtain ⟨hd3, hrA3, hrB3⟩ := hP3.rd hd0 hlo
    have hgb3 := (hE3.keep b0 hbn2 hb1).trans hgb2
    refine wpO_cons ?_; refine op1_mov rfl (by (conv => lhs; whnf) <;> rfl) ?_; refine wpO_cons ?_; refine op1_extract rfl rfl rfl ?_; refine wpO_cons ?_; refine op1_extract rfl rfl rfl ?_; refine wpO_cons ?_; refine op1_mov rfl (by (conv => lhs; whnf) <;> rfl) ?_; refine wpO_cons ?_; refine op1_mov rfl (by (conv => lhs; whnf) <;> rfl) ?_; refine wpO_nil ?_; refine seq_normal ?_; refine wp_seq ?_; refine wp_region ?_; refine wpO_cons ?_; refine op1_mov rfl (by (conv => lhs; whnf) <;> rfl) ?_; refine wpO_cons ?_; refine op1_faddr0 rfl rfl ?_; refine wpO_cons ?_; refine op1_load rfl rfl (by with_reducible assumption) rfl ?_; refine wpO_cons ?_; refine op1_call2 rfl (by (conv => lhs; whnf) <;> rfl) (by (conv => lhs; whnf) <;> rfl) ?_
    refine wpF_mono (L52 hP3.b hI.toInv hd3 hrB3) ?_
    rintro v H4 ⟨rfl, hI4, O4, hR4, hE4⟩
    have hP4 := hP3.stepB hR4 hE4
    refine wpO_cons ?_; refine op1_mov rfl (by (conv => lhs; whnf) <;> rfl) ?_; refine wpO_cons ?_; refine op1_extract rfl rfl rfl ?_; refine wpO_cons ?_; refine op1_extract rfl rfl rfl ?_; refine wpO_cons ?_; refine op1_mov rfl (by (conv => lhs; whnf) <;> rfl) ?_; refine wpO_cons ?_; refine op1_mov rfl (by (conv => lhs; whnf) <;> rfl) ?_; refine wpO_nil ?_; refine seq_normal ?_; refine wp_seq ?_; refine wp_region ?_; refine wpO_cons ?_; refine op1_mov rfl (by (conv => lhs; whnf) <;> rfl) ?_; refine wpO_cons ?_; refine op1_mov rfl (by (conv => lhs; whnf) <;> rfl) ?_; refine wpO_cons ?_; refine op1_eqlI_s rfl rfl rfl ?_; refine wpO_cons ?_; refine op1_mov rfl (by (conv => lhs; whnf) <;> rfl) ?_; refine wpO_cons ?_; refine op1_mov rfl (by (conv => lhs; whnf) <;> rfl) ?_; refine wpO_cons ?_; refine op1_mov rfl (by (conv => lhs; whnf) <;> rfl) ?_; refine wpO_cons ?_; refine op1_eqlI_s rfl rfl rfl ?_; refine wpO_cons ?_; refine op1_pick_t rfl rfl (by (conv => lhs; whnf) <;> rfl) ?_; refine wpO_cons ?_; refine op1_mov rfl (by (conv => lhs; whnf) <;> rfl) ?_; refine wpO_nil ?_; refine seq_normal ?_; refine wp_ret ?_; refine block_ret ?_; refine seq_ret ?_; refine ret_of ?_; refine rk_tmp (by (conv => lhs; whnf) <;> rfl) ?_; refine rk_nil ?_
    exact ⟨rfl, ⟨hI4.mono (by omega) (by omega), by rw [sig_write]; exact hI.sig⟩, O3, O4, hP4⟩
  · rw [if_neg (by decide), if_neg (by decide), if_neg (by decide), if_neg (by decide), if_pos (by decide)]
    have hP2 := hP
    have hgb2 := hgb
    have hbn2 := hbn
    have hin : s.input.length ≤ 100000 := by have := hI.inp; omega
    have hll : s.line.length ≤ 1000 := by have := hI.line; omega
    have hrc : ∀ y ∈ s.input, y.1.length ≤ 10000000 := fun y hy => by have := hI.recs y hy; omega
    refine wp_seq ?_; refine wp_region ?_; refine wpO_cons ?_; refine op1_mov rfl (by (conv => lhs; whnf) <;> rfl) ?_; refine wpO_nil ?_; refine seq_normal ?_; refine wp_block ?_; refine wp_seq ?_; refine wp_seq ?_; refine wp_region ?_; refine wpO_cons ?_; refine op1_eqlI rfl rfl rfl ?_; refine wpO_cons ?_; refine op1_mov rfl (by (conv => lhs; whnf) <;> rfl) ?_; refine wpO_nil ?_; refine seq_normal ?_; refine wp_false rfl ?_; refine wp_seq ?_; refine wp_region ?_; refine wpO_cons ?_; refine op1_eqlI rfl rfl rfl ?_; refine wpO_cons ?_; refine op1_mov rfl (by (conv => lhs; whnf) <;> rfl) ?_; refine wpO_nil ?_; refine seq_normal ?_; refine wp_false rfl ?_; refine wp_seq ?_; refine wp_region ?_; refine wpO_cons ?_; refine op1_eqlI rfl rfl rfl ?_; refine wpO_cons ?_; refine op1_mov rfl (by (conv => lhs; whnf) <;> rfl) ?_; refine wpO_nil ?_; refine seq_normal ?_; refine wp_false rfl ?_; refine wp_seq ?_; refine wp_region ?_; refine wpO_cons ?_; refine op1_eqlI rfl rfl rfl ?_; refine wpO_cons ?_; refine op1_mov rfl (by (conv => lhs; whnf) <;> rfl) ?_; refine wpO_nil ?_; refine seq_normal ?_; refine wp_false rfl ?_; refine wp_region ?_; refine wpO_cons ?_; refine op1_eqlI rfl rfl rfl ?_; refine wpO_cons ?_; refine op1_mov rfl (by (conv => lhs; whnf) <;> rfl) ?_; refine wpO_nil ?_; refine seq_normal ?_; refine wp_false rfl ?_; refine wp_seq ?_; refine wp_seq ?_; refine wp_region ?_; refine wpO_cons ?_; refine op1_eqlI rfl rfl rfl ?_; refine wpO_cons ?_; refine op1_mov rfl (by (conv => lhs; whnf) <;> rfl) ?_; refine wpO_nil ?_; refine seq_normal ?_; refine wp_false rfl ?_; refine wp_region ?_; refine wpO_cons ?_; refine op1_eqlI rfl rfl rfl ?_; refine wpO_cons ?_; refine op1_mov rfl (by (conv => lhs; whnf) <;> rfl) ?_; refine wpO_nil ?_; refine seq_normal ?_; refine wp_false rfl ?_; refine wp_seq ?_; refine wp_region ?_; refine wpO_cons ?_; refine op1_eqlI rfl rfl rfl ?_; refine wpO_cons ?_; refine op1_mov rfl (by (conv => lhs; whnf) <;> rfl) ?_; refine wpO_nil ?_; refine seq_normal ?_; refine wp_false rfl ?_; refine wp_seq ?_; refine wp_region ?_; refine wpO_cons ?_; refine op1_eqlI rfl rfl rfl ?_; refine wpO_cons ?_; refine op1_mov rfl (by (conv => lhs; whnf) <;> rfl) ?_; refine wpO_nil ?_; refine seq_normal ?_; refine wp_false rfl ?_; refine wp_seq ?_; refine wp_region ?_; refine wpO_cons ?_; refine op1_eqlI_s rfl rfl rfl ?_; refine wpO_cons ?_; refine op1_mov rfl (by (conv => lhs; whnf) <;> rfl) ?_; refine wpO_nil ?_; refine seq_normal ?_; refine wp_true rfl ?_; refine wp_seq ?_; refine wp_regionD ?_; refine wpD_cons ?_; refine op1_mov rfl (by (conv => lhs; whnf) <;> rfl) ?_; refine wpD_cons ?_; refine op1_faddr0 rfl rfl ?_; refine wpD_cons ?_; refine op1_load rfl rfl (by with_reducible assumption) rfl ?_; refine wpD_cons ?_; refine op1_mov rfl (by (conv => lhs; whnf) <;> rfl) ?_; refine wpD_cons ?_; refine op1_faddr0 rfl rfl ?_; refine wpD_cons ?_; refine op1_load rfl rfl (by with_reducible assumption) rfl ?_; refine wpD_cons ?_; refine op1_call2 rfl (by (conv => lhs; whnf) <;> rfl) (by (conv => lhs; whnf) <;> rfl) ?_
    refine wpF_mono (L22 hP.a xn hin hll hrc) ?_
    rintro v H3 ⟨rfl, O3, hR3, hE3⟩
    have hP3 := hP2.stepA hR3 hE3
    obtain ⟨hd3, hrA3, hrB3⟩ := hP3.rd hd0 hlo
    have hgb3 := (hE3.keep b0 hbn2 hb1).trans hgb2
    refine wpD_cons ?_; refine op1_call2 rfl (by (conv => lhs; whnf) <;> rfl) (by (conv => lhs; whnf) <;> rfl) ?_
    refine wpF_mono (L53 hP3.b xn hin hll hrc) ?_
    rintro v H4 ⟨rfl, O4, hR4, hE4⟩
    have hP4 := hP3.stepB hR4 hE4
    refine wpD_cons ?_; refine op1_eqlI_s rfl rfl rfl ?_; refine wpD_cons ?_; refine op1_mov rfl (by (conv => lhs; whnf) <;> rfl) ?_; refine wpD_nil ?_; refine dk_of ?_ ?_; refine chk_skip ?_; refine chk_skip ?_; refine chk_cons 8 rfl rfl rfl ?_ ?_; refine chkFs_cons 4 rfl rfl ?_ ?_; exact chk_load rfl (by with_reducible assumption) rfl rfl; exact chkFs_nil; refine chk_skip ?_; refine chk_skip ?_; refine chk_cons 5 rfl rfl rfl ?_ ?_; refine chkFs_cons 4 rfl rfl ?_ ?_; exact chk_load rfl (by with_reducible assumption) rfl rfl; refine chkFs_cons 3 rfl rfl ?_ ?_; exact chk_load rfl (by with_reducible assumption) rfl rfl; exact chkFs_nil; refine chk_skip ?_; refine chk_skip ?_; refine chk_skip ?_; refine chk_skip ?_; exact chk_end; refine seq_normal ?_; refine wp_ret ?_; refine block_ret ?_; refine seq_ret ?_; refine ret_of ?_; refine rk_tmp (by (conv => lhs; whnf) <;> rfl) ?_; refine rk_nil ?_
    exact ⟨rfl, hI.setModes hM xn, O3, O4, hP4⟩
  · rw [if_neg (by decide), if_neg (by decide), if_neg (by decide), if_neg (by decide), if_neg (by decide), if_pos (by decide)]
    have hP2 := hP
    have hgb2 := hgb
    have hbn2 := hbn
    refine wp_seq ?_; refine wp_region ?_; refine wpO_cons ?_; refine op1_mov rfl (by (conv => lhs; whnf) <;> rfl) ?_; refine wpO_nil ?_; refine seq_normal ?_; refine wp_block ?_; refine wp_seq ?_; refine wp_seq ?_; refine wp_region ?_; refine wpO_cons ?_; refine op1_eqlI rfl rfl rfl ?_; refine wpO_cons ?_; refine op1_mov rfl (by (conv => lhs; whnf) <;> rfl) ?_; refine wpO_nil ?_; refine seq_normal ?_; refine wp_false rfl ?_; refine wp_seq ?_; refine wp_region ?_; refine wpO_cons ?_; refine op1_eqlI rfl rfl rfl ?_; refine wpO_cons ?_; refine op1_mov rfl (by (conv => lhs; whnf) <;> rfl) ?_; refine wpO_nil ?_; refine seq_normal ?_; refine wp_false rfl ?_; refine wp_seq ?_; refine wp_region ?_; refine wpO_cons ?_; refine op1_eqlI rfl rfl rfl ?_; refine wpO_cons ?_; refine op1_mov rfl (by (conv => lhs; whnf) <;> rfl) ?_; refine wpO_nil ?_; refine seq_normal ?_; refine wp_false rfl ?_; refine wp_seq ?_; refine wp_region ?_; refine wpO_cons ?_; refine op1_eqlI rfl rfl rfl ?_; refine wpO_cons ?_; refine op1_mov rfl (by (conv => lhs; whnf) <;> rfl) ?_; refine wpO_nil ?_; refine seq_normal ?_; refine wp_false rfl ?_; refine wp_region ?_; refine wpO_cons ?_; refine op1_eqlI rfl rfl rfl ?_; refine wpO_cons ?_; refine op1_mov rfl (by (conv => lhs; whnf) <;> rfl) ?_; refine wpO_nil ?_; refine seq_normal ?_; refine wp_false rfl ?_; refine wp_seq ?_; refine wp_seq ?_; refine wp_region ?_; refine wpO_cons ?_; refine op1_eqlI rfl rfl rfl ?_; refine wpO_cons ?_; refine op1_mov rfl (by (conv => lhs; whnf) <;> rfl) ?_; refine wpO_nil ?_; refine seq_normal ?_; refine wp_false rfl ?_; refine wp_region ?_; refine wpO_cons ?_; refine op1_eqlI rfl rfl rfl ?_; refine wpO_cons ?_; refine op1_mov rfl (by (conv => lhs; whnf) <;> rfl) ?_; refine wpO_nil ?_; refine seq_normal ?_; refine wp_false rfl ?_; refine wp_seq ?_; refine wp_region ?_; refine wpO_cons ?_; refine op1_eqlI rfl rfl rfl ?_; refine wpO_cons ?_; refine op1_mov rfl (by (conv => lhs; whnf) <;> rfl) ?_; refine wpO_nil ?_; refine seq_normal ?_; refine wp_false rfl ?_; refine wp_seq ?_; refine wp_region ?_; refine wpO_cons ?_; refine op1_eqlI rfl rfl rfl ?_; refine wpO_cons ?_; refine op1_mov rfl (by (conv => lhs; whnf) <;> rfl) ?_; refine wpO_nil ?_; refine seq_normal ?_; refine wp_false rfl ?_; refine wp_seq ?_; refine wp_region ?_; refine wpO_cons ?_; refine op1_eqlI rfl rfl rfl ?_; refine wpO_cons ?_; refine op1_mov rfl (by (conv => lhs; whnf) <;> rfl) ?_; refine wpO_nil ?_; refine seq_normal ?_; refine wp_false rfl ?_; refine wp_seq ?_; refine wp_region ?_; refine wpO_cons ?_; refine op1_eqlI_s rfl rfl rfl ?_; refine wpO_cons ?_; refine op1_mov rfl (by (conv => lhs; whnf) <;> rfl) ?_; refine wpO_nil ?_; refine seq_normal ?_; refine wp_true rfl ?_; refine wp_seq ?_; refine wp_regionD ?_; refine wpD_cons ?_; refine op1_mov rfl (by (conv => lhs; whnf) <;> rfl) ?_; refine wpD_cons ?_; refine op1_faddr0 rfl rfl ?_; refine wpD_cons ?_; refine op1_load rfl rfl (by with_reducible assumption) rfl ?_; refine wpD_cons ?_; refine op1_faddr0 rfl rfl ?_; refine wpD_cons ?_; refine op1_load rfl rfl (by with_reducible assumption) rfl ?_; refine wpD_cons ?_; refine op1_build rfl ?_; refine bk_one (by (conv => lhs; whnf) <;> rfl) rfl rfl rfl ?_; refine bk_one (by (conv => lhs; whnf) <;> rfl) rfl rfl rfl ?_; refine bk_nil ?_; refine wpD_cons ?_; refine op1_mov rfl (by (conv => lhs; whnf) <;> rfl) ?_; refine wpD_cons ?_; refine op1_faddr0 rfl rfl ?_; refine wpD_cons ?_; refine op1_load rfl rfl (by with_reducible assumption) rfl ?_; refine wpD_cons ?_; refine op1_faddr0 rfl rfl ?_; refine wpD_cons ?_; refine op1_load rfl rfl (by with_reducible assumption) rfl ?_; refine wpD_cons ?_; refine op1_build rfl ?_; refine bk_one (by (conv => lhs; whnf) <;> rfl) rfl rfl rfl ?_; refine bk_one (by (conv => lhs; whnf) <;> rfl) rfl rfl rfl ?_; refine bk_nil ?_; refine wpD_cons ?_; refine op1_call2 rfl (by (conv => lhs; whnf) <;> rfl) (by (conv => lhs; whnf) <;> rfl) ?_
    refine wpF_mono (L23 hP.a xn xm) ?_
    rintro v H3 ⟨rfl, O3, hR3, hE3⟩
    have hP3 := hP2.stepA hR3 hE3
    obtain ⟨hd3, hrA3, hrB3⟩ := hP3.rd hd0 hlo
    have hgb3 := (hE3.keep b0 hbn2 hb1).trans hgb2
    refine wpD_cons ?_; refine op1_call2 rfl (by (conv => lhs; whnf) <;> rfl) (by (conv => lhs; whnf) <;> rfl) ?_
    refine wpF_mono (L54 hP3.b xn xm) ?_
    rintro v H4 ⟨rfl, O4, hR4, hE4⟩
    have hP4 := hP3.stepB hR4 hE4
    refine wpD_cons ?_; refine op1_eqlI_s rfl rfl rfl ?_; refine wpD_cons ?_; refine op1_mov rfl (by (conv => lhs; whnf) <;> rfl) ?_; refine wpD_nil ?_; refine dk_of ?_ ?_; refine chk_skip ?_; refine chk_skip ?_; refine chk_cons 14 rfl rfl rfl ?_ ?_; refine chkFs_cons 4 rfl rfl ?_ ?_; exact chk_load rfl (by with_reducible assumption) rfl rfl; exact chkFs_nil; refine chk_skip ?_; refine chk_cons 12 rfl rfl rfl ?_ ?_; refine chkFs_cons 4 rfl rfl ?_ ?_; exact chk_load rfl (by with_reducible assumption) rfl rfl; exact chkFs_nil; refine chk_skip ?_; refine chk_skip ?_; refine chk_skip ?_; refine chk_cons 8 rfl rfl rfl ?_ ?_; refine chkFs_cons 4 rfl rfl ?_ ?_; exact chk_load rfl (by with_reducible assumption) rfl rfl; refine chkFs_cons 3 rfl rfl ?_ ?_; exact chk_load rfl (by with_reducible assumption) rfl rfl; exact chkFs_nil; refine chk_skip ?_; refine chk_cons 6 rfl rfl rfl ?_ ?_; refine chkFs_cons 4 rfl rfl ?_ ?_; exact chk_load rfl (by with_reducible assumption) rfl rfl; refine chkFs_cons 3 rfl rfl ?_ ?_; exact chk_load rfl (by with_reducible assumption) rfl rfl; exact chkFs_nil; refine chk_skip ?_; refine chk_skip ?_; refine chk_skip ?_; refine chk_skip ?_; refine chk_skip ?_; exact chk_end; refine seq_normal ?_; refine wp_ret ?_; refine block_ret ?_; refine seq_ret ?_; refine ret_of ?_; refine rk_tmp (by (conv => lhs; whnf) <;> rfl) ?_; refine rk_nil ?_
    exact ⟨rfl, ⟨(hI.setSize xn xm).toInv.mono (by omega) (by omega), (hI.setSize xn xm).sig⟩, O3, O4, hP4⟩
  · rw [if_neg (by decide), if_neg (by decide), if_neg (by decide), if_neg (by decide), if_neg (by decide), if_neg (by decide), if_pos (by decide)]
    have hP2 := hP
    have hgb2 := hgb
    have hbn2 := hbn
    refine wp_seq ?_; refine wp_region ?_; refine wpO_cons ?_; refine op1_mov rfl (by (conv => lhs; whnf) <;> rfl) ?_; refine wpO_nil ?_; refine seq_normal ?_; refine wp_block ?_; refine wp_seq ?_; refine wp_seq ?_; refine wp_region ?_; refine wpO_cons ?_; refine op1_eqlI rfl rfl rfl ?_; refine wpO_cons ?_; refine op1_mov rfl (by (conv => lhs; whnf) <;> rfl) ?_; refine wpO_nil ?_; refine seq_normal ?_; refine wp_false rfl ?_; refine wp_seq ?_; refine wp_region ?_; refine wpO_cons ?_; refine op1_eqlI rfl rfl rfl ?_; refine wpO_cons ?_; refine op1_mov rfl (by (conv => lhs; whnf) <;> rfl) ?_; refine wpO_nil ?_; refine seq_normal ?_; refine wp_false rfl ?_; refine wp_seq ?_; refine wp_region ?_; refine wpO_cons ?_; refine op1_eqlI rfl rfl rfl ?_; refine wpO_cons ?_; refine op1_mov rfl (by (conv => lhs; whnf) <;> rfl) ?_; refine wpO_nil ?_; refine seq_normal ?_; refine wp_false rfl ?_; refine wp_seq ?_; refine wp_region ?_; refine wpO_cons ?_; refine op1_eqlI rfl rfl rfl ?_; refine wpO_cons ?_; refine op1_mov rfl (by (conv => lhs; whnf) <;> rfl) ?_; refine wpO_nil ?_; refine seq_normal ?_; refine wp_false rfl ?_; refine wp_region ?_; refine wpO_cons ?_; refine op1_eqlI rfl rfl rfl ?_; refine wpO_cons ?_; refine op1_mov rfl (by (conv => lhs; whnf) <;> rfl) ?_; refine wpO_nil ?_; refine seq_normal ?_; refine wp_false rfl ?_; refine wp_seq ?_; refine wp_seq ?_; refine wp_region ?_; refine wpO_cons ?_; refine op1_eqlI rfl rfl rfl ?_; refine wpO_cons ?_; refine op1_mov rfl (by (conv => lhs; whnf) <;> rfl) ?_; refine wpO_nil ?_; refine seq_normal ?_; refine wp_false rfl ?_; refine wp_region ?_; refine wpO_cons ?_; refine op1_eqlI rfl rfl rfl ?_; refine wpO_cons ?_; refine op1_mov rfl (by (conv => lhs; whnf) <;> rfl) ?_; refine wpO_nil ?_; refine seq_normal ?_; refine wp_false rfl ?_; refine wp_seq ?_; refine wp_region ?_; refine wpO_cons ?_; refine op1_eqlI rfl rfl rfl ?_; refine wpO_cons ?_; refine op1_mov rfl (by (conv => lhs; whnf) <;> rfl) ?_; refine wpO_nil ?_; refine seq_normal ?_; refine wp_false rfl ?_; refine wp_seq ?_; refine wp_region ?_; refine wpO_cons ?_; refine op1_eqlI rfl rfl rfl ?_; refine wpO_cons ?_; refine op1_mov rfl (by (conv => lhs; whnf) <;> rfl) ?_; refine wpO_nil ?_; refine seq_normal ?_; refine wp_false rfl ?_; refine wp_seq ?_; refine wp_region ?_; refine wpO_cons ?_; refine op1_eqlI rfl rfl rfl ?_; refine wpO_cons ?_; refine op1_mov rfl (by (conv => lhs; whnf) <;> rfl) ?_; refine wpO_nil ?_; refine seq_normal ?_; refine wp_false rfl ?_; refine wp_seq ?_; refine wp_region ?_; refine wpO_cons ?_; refine op1_eqlI rfl rfl rfl ?_; refine wpO_cons ?_; refine op1_mov rfl (by (conv => lhs; whnf) <;> rfl) ?_; refine wpO_nil ?_; refine seq_normal ?_; refine wp_false rfl ?_; refine wp_seq ?_; refine wp_region ?_; refine wpO_cons ?_; refine op1_eqlI_s rfl rfl rfl ?_; refine wpO_cons ?_; refine op1_mov rfl (by (conv => lhs; whnf) <;> rfl) ?_; refine wpO_nil ?_; refine seq_normal ?_; refine wp_true rfl ?_; refine wp_seq ?_; refine wp_region ?_; refine wpO_cons ?_; refine op1_mov rfl (by (conv => lhs; whnf) <;> rfl) ?_; refine wpO_cons ?_; refine op1_call1 rfl (by (conv => lhs; whnf) <;> rfl) ?_
    refine wpF_mono (L19 hP.a) ?_
    rintro v3 H3 ⟨O3, r3, hN3, hf3, hR3, hE3⟩
    have hP3 := hP2.stepA hR3 hE3
    obtain ⟨hd3, hrA3, hrB3⟩ := hP3.rd hd0 hlo
    have hgb3 := (hE3.keep b0 hbn2 hb1).trans hgb2
    refine wpO_cons ?_; refine op1_mov rfl (by (conv => lhs; whnf) <;> rfl) ?_; refine wpO_cons ?_; refine op1_call1 rfl (by (conv => lhs; whnf) <;> rfl) ?_
    refine wpF_mono (L55 hP3.b) ?_
    rintro v4 H4 ⟨O4, r4, hN4, hf4, hR4, hE4⟩
    have hP4 := hP3.stepB hR4 hE4
    have hS3 := hN3.rd.frame fun b hb => hE4.keep b (hf3 b hb).1 fun hm => hP.dis b (hf3 b hb).2.1 hm
    have hsl := hI.sig
    refine wpO_cons ?_; refine op1_call2 rfl (by (conv => lhs; whnf) <;> rfl) (by (conv => lhs; whnf) <;> rfl) ?_
    refine wpF_mono (L18 hS3 hN4.rd (by omega)) ?_
    rintro _ _ ⟨rfl, rfl⟩
    refine wpO_cons ?_; refine op1_mov rfl (by (conv => lhs; whnf) <;> rfl) ?_; refine wpO_nil ?_; refine seq_normal ?_; refine wp_ret ?_; refine block_ret ?_; refine seq_ret ?_; refine ret_of ?_; refine rk_tmp (by (conv => lhs; whnf) <;> rfl) ?_; refine rk_nil ?_
    exact ⟨rfl, ⟨⟨hI.out, hI.line, by have := hI.inp; show s.input.length ≤ _; omega, fun y hy => by have := hI.recs y hy; omega⟩, by simp⟩, O3, O4, hP4⟩
  · rw [if_neg (by decide), if_neg (by decide), if_neg (by decide), if_neg (by decide), if_neg (by decide), if_neg (by decide), if_neg (by decide)]
    have hP2 := hP
    have hgb2 := hgb
    have hbn2 := hbn
    refine wp_seq ?_; refine wp_region ?_; refine wpO_cons ?_; refine op1_mov rfl (by (conv => lhs; whnf) <;> rfl) ?_; refine wpO_nil ?_; refine seq_normal ?_; refine wp_block ?_; refine wp_seq ?_; refine wp_seq ?_; refine wp_region ?_; refine wpO_cons ?_; refine op1_eqlI rfl rfl rfl ?_; refine wpO_cons ?_; refine op1_mov rfl (by (conv => lhs; whnf) <;> rfl) ?_; refine wpO_nil ?_; refine seq_normal ?_; refine wp_false rfl ?_; refine wp_seq ?_; refine wp_region ?_; refine wpO_cons ?_; refine op1_eqlI rfl rfl rfl ?_; refine wpO_cons ?_; refine op1_mov rfl (by (conv => lhs; whnf) <;> rfl) ?_; refine wpO_nil ?_; refine seq_normal ?_; refine wp_false rfl ?_; refine wp_seq ?_; refine wp_region ?_; refine wpO_cons ?_; refine op1_eqlI rfl rfl rfl ?_; refine wpO_cons ?_; refine op1_mov rfl (by (conv => lhs; whnf) <;> rfl) ?_; refine wpO_nil ?_; refine seq_normal ?_; refine wp_false rfl ?_; refine wp_seq ?_; refine wp_region ?_; refine wpO_cons ?_; refine op1_eqlI rfl rfl rfl ?_; refine wpO_cons ?_; refine op1_mov rfl (by (conv => lhs; whnf) <;> rfl) ?_; refine wpO_nil ?_; refine seq_normal ?_; refine wp_false rfl ?_; refine wp_region ?_; refine wpO_cons ?_; refine op1_eqlI rfl rfl rfl ?_; refine wpO_cons ?_; refine op1_mov rfl (by (conv => lhs; whnf) <;> rfl) ?_; refine wpO_nil ?_; refine seq_normal ?_; refine wp_false rfl ?_; refine wp_seq ?_; refine wp_seq ?_; refine wp_region ?_; refine wpO_cons ?_; refine op1_eqlI rfl rfl rfl ?_; refine wpO_cons ?_; refine op1_mov rfl (by (conv => lhs; whnf) <;> rfl) ?_; refine wpO_nil ?_; refine seq_normal ?_; refine wp_false rfl ?_; refine wp_region ?_; refine wpO_cons ?_; refine op1_eqlI rfl rfl rfl ?_; refine wpO_cons ?_; refine op1_mov rfl (by (conv => lhs; whnf) <;> rfl) ?_; refine wpO_nil ?_; refine seq_normal ?_; refine wp_false rfl ?_; refine wp_seq ?_; refine wp_region ?_; refine wpO_cons ?_; refine op1_eqlI rfl rfl rfl ?_; refine wpO_cons ?_; refine op1_mov rfl (by (conv => lhs; whnf) <;> rfl) ?_; refine wpO_nil ?_; refine seq_normal ?_; refine wp_false rfl ?_; refine wp_seq ?_; refine wp_region ?_; refine wpO_cons ?_; refine op1_eqlI rfl rfl rfl ?_; refine wpO_cons ?_; refine op1_mov rfl (by (conv => lhs; whnf) <;> rfl) ?_; refine wpO_nil ?_; refine seq_normal ?_; refine wp_false rfl ?_; refine wp_seq ?_; refine wp_region ?_; refine wpO_cons ?_; refine op1_eqlI rfl rfl rfl ?_; refine wpO_cons ?_; refine op1_mov rfl (by (conv => lhs; whnf) <;> rfl) ?_; refine wpO_nil ?_; refine seq_normal ?_; refine wp_false rfl ?_; refine wp_seq ?_; refine wp_region ?_; refine wpO_cons ?_; refine op1_eqlI rfl rfl rfl ?_; refine wpO_cons ?_; refine op1_mov rfl (by (conv => lhs; whnf) <;> rfl) ?_; refine wpO_nil ?_; refine seq_normal ?_; refine wp_false rfl ?_; refine wp_seq ?_; refine wp_region ?_; refine wpO_cons ?_; refine op1_eqlI rfl rfl rfl ?_; refine wpO_cons ?_; refine op1_mov rfl (by (conv => lhs; whnf) <;> rfl) ?_; refine wpO_nil ?_; refine seq_normal ?_; refine wp_false rfl ?_; refine wp_skip ?_; refine block_normal ?_; refine seq_normal ?_; refine wp_seq ?_; refine wp_region ?_; refine wpO_cons ?_; refine op1_mov rfl (by (conv => lhs; whnf) <;> rfl) ?_; refine wpO_cons ?_; refine op1_call1 rfl (by (conv => lhs; whnf) <;> rfl) ?_
    refine wpF_mono (L24 hP.a) ?_
    rintro v H3 ⟨rfl, O3, hR3, hE3⟩
    have hP3 := hP2.stepA hR3 hE3
    obtain ⟨hd3, hrA3, hrB3⟩ := hP3.rd hd0 hlo
    have hgb3 := (hE3.keep b0 hbn2 hb1).trans hgb2
    refine wpO_cons ?_; refine op1_mov rfl (by (conv => lhs; whnf) <;> rfl) ?_; refine wpO_cons ?_; refine op1_call1 rfl (by (conv => lhs; whnf) <;> rfl) ?_
    refine wpF_mono (L56 hP3.b) ?_
    rintro v H4 ⟨rfl, O4, hR4, hE4⟩
    have hP4 := hP3.stepB hR4 hE4
    refine wpO_cons ?_; refine op1_eqlI_s rfl rfl rfl ?_; refine wpO_cons ?_; refine op1_mov rfl (by (conv => lhs; whnf) <;> rfl) ?_; refine wpO_nil ?_; refine seq_normal ?_; refine wp_ret ?_; refine ret_of ?_; refine rk_tmp (by (conv => lhs; whnf) <;> rfl) ?_; refine rk_nil ?_
    exact ⟨rfl, ⟨hI.hangup.toInv.mono (by omega) (by omega), hI.hangup.sig⟩, O3, O4, hP4⟩
end Go.E.Pty

/- PtyPlays: what the terminals show, and the law. -/
namespace Go.E.Pty
open Go Go.E Go.Proofs.YtfgejkhhkacknaaDoor.base Go.Proofs.YtfgejkhhkacknaaDoor Go.Proofs
set_option linter.unusedVariables false
set_option linter.unusedSimpArgs false
set_option maxRecDepth 100000

theorem L32 {H0 H : AHeap} {p q : Nat} {s : PT} {O1 O2 : List Nat} (hP : Pair H0 H p q s s O1 O2) (hl : s.line.length ≤ 1000000) (hin : s.input.length ≤ 100000) (hrc : ∀ y ∈ s.input, y.1.length ≤ 10000000) :
    wpF C 32 [.pointer (some ⟨p, 0, none⟩), .pointer (some ⟨q, 0, none⟩)] H fun v H' => v = .bool true ∧ Pair H0 H' p q s s O1 O2 := by
  refine wpF_ofW o32 rfl rfl ?_
  refine wp_seq ?_; refine wp_region ?_; refine wpO_cons ?_; refine op1_mov rfl (by (conv => lhs; whnf) <;> rfl) ?_; refine wpO_nil ?_; refine seq_normal ?_; refine wp_seq ?_; refine wp_region ?_; refine wpO_cons ?_; refine op1_mov rfl (by (conv => lhs; whnf) <;> rfl) ?_; refine wpO_cons ?_; refine op1_call1 rfl (by (conv => lhs; whnf) <;> rfl) ?_
  refine wpF_mono (L16 hP.a hl) ?_
  rintro v1 H1 ⟨r1, hN1, hR1, hE1⟩
  have hP1 := hP.stepA hR1 hE1
  refine wpO_cons ?_; refine op1_mov rfl (by (conv => lhs; whnf) <;> rfl) ?_; refine wpO_cons ?_; refine op1_call1 rfl (by (conv => lhs; whnf) <;> rfl) ?_
  refine wpF_mono (L57 hP1.b hl) ?_
  rintro v2 H2 ⟨r2, hN2, hR2, hE2⟩
  have hP2 := hP1.stepB hR2 hE2
  have hS1 := hN1.sl.rd.frame fun b hb => hE2.keep b (hN1.fresh b hb).2.1 fun hm => absurd (hP.b.lt b hm) (by have := (hN1.fresh b hb).1; omega)
  refine wpO_cons ?_; refine op1_call2 rfl (by (conv => lhs; whnf) <;> rfl) (by (conv => lhs; whnf) <;> rfl) ?_
  refine wpF_mono (L14 hS1 hN2.sl.rd) ?_
  rintro _ _ ⟨rfl, rfl⟩
  refine wpO_cons ?_; refine op1_mov rfl (by (conv => lhs; whnf) <;> rfl) ?_; refine wpO_cons ?_; refine op1_mov rfl (by (conv => lhs; whnf) <;> rfl) ?_; refine wpO_cons ?_; refine op1_call1 rfl (by (conv => lhs; whnf) <;> rfl) ?_
  refine wpF_mono (L15 hP2.a hin hrc) ?_
  rintro v3 H3 ⟨rfl, hE3⟩
  have hP3 := hP2.step0 hE3
  refine wpO_cons ?_; refine op1_mov rfl (by (conv => lhs; whnf) <;> rfl) ?_; refine wpO_cons ?_; refine op1_call1 rfl (by (conv => lhs; whnf) <;> rfl) ?_
  refine wpF_mono (L58 hP3.b hin hrc) ?_
  rintro _ _ ⟨rfl, rfl⟩
  refine wpO_cons ?_; refine op1_eqlI_s rfl rfl rfl ?_; refine wpO_cons ?_; refine op1_pick_t rfl rfl (by (conv => lhs; whnf) <;> rfl) ?_; refine wpO_cons ?_; refine op1_mov rfl (by (conv => lhs; whnf) <;> rfl) ?_; refine wpO_cons ?_; refine op1_mov rfl (by (conv => lhs; whnf) <;> rfl) ?_; refine wpO_cons ?_; refine op1_call1 rfl (by (conv => lhs; whnf) <;> rfl) ?_
  refine wpF_mono (L17 hP3.a) ?_
  rintro _ _ ⟨rfl, rfl⟩
  refine wpO_cons ?_; refine op1_mov rfl (by (conv => lhs; whnf) <;> rfl) ?_; refine wpO_cons ?_; refine op1_call1 rfl (by (conv => lhs; whnf) <;> rfl) ?_
  refine wpF_mono (L59 hP3.b) ?_
  rintro _ _ ⟨rfl, rfl⟩
  refine wpO_cons ?_; refine op1_eqlB_s rfl rfl rfl rfl ?_; refine wpO_cons ?_; refine op1_pick_t rfl rfl (by (conv => lhs; whnf) <;> rfl) ?_; refine wpO_cons ?_; refine op1_mov rfl (by (conv => lhs; whnf) <;> rfl) ?_; refine wpO_cons ?_; refine op1_mov rfl (by (conv => lhs; whnf) <;> rfl) ?_; refine wpO_cons ?_; refine op1_call1 rfl (by (conv => lhs; whnf) <;> rfl) ?_
  refine wpF_mono (L25 hP3.a) ?_
  rintro _ _ ⟨rfl, rfl⟩
  refine wpO_cons ?_; refine op1_mov rfl (by (conv => lhs; whnf) <;> rfl) ?_; refine wpO_cons ?_; refine op1_call1 rfl (by (conv => lhs; whnf) <;> rfl) ?_
  refine wpF_mono (L60 hP3.b) ?_
  rintro _ _ ⟨rfl, rfl⟩
  refine wpO_cons ?_; refine op1_eqlI_s rfl rfl rfl ?_; refine wpO_cons ?_; refine op1_pick_t rfl rfl (by (conv => lhs; whnf) <;> rfl) ?_; refine wpO_cons ?_; refine op1_mov rfl (by (conv => lhs; whnf) <;> rfl) ?_; refine wpO_cons ?_; refine op1_mov rfl (by (conv => lhs; whnf) <;> rfl) ?_; refine wpO_cons ?_; refine op1_call1 rfl (by (conv => lhs; whnf) <;> rfl) ?_
  refine wpF_mono (L26 hP3.a) ?_
  rintro _ H4 ⟨rfl, hE4⟩
  have hP4 := hP3.step0 hE4
  refine wpO_cons ?_; refine op1_mov rfl (by (conv => lhs; whnf) <;> rfl) ?_; refine wpO_cons ?_; refine op1_call1 rfl (by (conv => lhs; whnf) <;> rfl) ?_
  refine wpF_mono (L61 hP4.b) ?_
  rintro _ H5 ⟨rfl, hE5⟩
  have hP5 := hP4.step0 hE5
  refine wpO_cons ?_
  refine op1_bin rfl rfl rfl eql2 ?_
  rw [decide_eq_true ⟨rfl, rfl⟩]
  refine wpO_cons ?_; refine op1_pick_t rfl rfl (by (conv => lhs; whnf) <;> rfl) ?_; refine wpO_cons ?_; refine op1_mov rfl (by (conv => lhs; whnf) <;> rfl) ?_; refine wpO_nil ?_; refine seq_normal ?_; refine wp_ret ?_; refine ret_of ?_; refine rk_tmp (by (conv => lhs; whnf) <;> rfl) ?_; refine rk_nil ?_
  exact ⟨rfl, hP5⟩

theorem L6 {H : AHeap} (hgl : Glob objs H) {m : Int} {ad : Option Addr} {xs : List ActM} {c : Nat} (h : Acts H ad xs) : wpF C 6 [.int .i64 m, .slice ad xs.length c] H fun v H' => v = .bool true := by
  refine wpF_ofW o6 rfl rfl ?_
  refine wp_seq ?_; refine wp_region ?_; refine wpO_cons ?_; refine op1_mov rfl (by (conv => lhs; whnf) <;> rfl) ?_; refine wpO_nil ?_; refine seq_normal ?_; refine wp_seq ?_; refine wp_region ?_; refine wpO_cons ?_; refine op1_mov rfl (by (conv => lhs; whnf) <;> rfl) ?_; refine wpO_cons ?_; refine op1_call1 rfl (by (conv => lhs; whnf) <;> rfl) ?_
  by_cases hm : 0 ≤ m ∧ m ≤ 63
  · refine wpF_mono (L9 hgl hm) ?_
    rintro v H1 ⟨p, O1, rfl, hR1, hE1⟩
    refine wpO_cons ?_; refine op1_mov rfl (by (conv => lhs; whnf) <;> rfl) ?_; refine wpO_cons ?_; refine op1_extract rfl rfl rfl ?_; refine wpO_cons ?_; refine op1_extract rfl rfl rfl ?_; refine wpO_cons ?_; refine op1_mov rfl (by (conv => lhs; whnf) <;> rfl) ?_; refine wpO_cons ?_; refine op1_mov rfl (by (conv => lhs; whnf) <;> rfl) ?_; refine wpO_nil ?_; refine seq_normal ?_; refine wp_seq ?_; refine wp_region ?_; refine wpO_cons ?_; refine op1_mov rfl (by (conv => lhs; whnf) <;> rfl) ?_; refine wpO_cons ?_; refine op1_call1 rfl (by (conv => lhs; whnf) <;> rfl) ?_
    refine wpF_mono (L29 hR1.glob hm) ?_
    rintro v H2 ⟨q, O2, rfl, hR2, hE2⟩
    have hgl2 := hR2.glob
    have hP : Pair H H2 p q (PT.new m) (PT.new m) O1 O2 := ⟨hR1.frame hR2.glob hE2.next fun b hb => hE2.keep b (hR1.lt b hb) (by simp), hR2, fun b hb hm => (hE2.own b hm).elim (fun h => by simp at h) fun h1 => absurd (hR1.lt b hb) (by omega),
      fun b hb => (hE1.own b hb).elim (fun h => by simp at h) fun h1 => h1.1, fun b hb => (hE2.own b hb).elim (fun h => by simp at h) fun h1 => Nat.le_trans hE1.next h1.1, fun b hb => (hE2.keep b (Nat.lt_of_lt_of_le hb hE1.next) (by simp)).trans (hE1.keep b hb (by simp)), Nat.le_trans hE1.next hE2.next⟩
    have h2 : Acts H2 ad xs := h.frame ⟨hP.next, fun b hb _ => hP.keep b hb, fun b hb => by simp at hb⟩
    refine wpO_cons ?_; refine op1_mov rfl (by (conv => lhs; whnf) <;> rfl) ?_; refine wpO_cons ?_; refine op1_extract rfl rfl rfl ?_; refine wpO_cons ?_; refine op1_extract rfl rfl rfl ?_; refine wpO_cons ?_; refine op1_mov rfl (by (conv => lhs; whnf) <;> rfl) ?_; refine wpO_cons ?_; refine op1_mov rfl (by (conv => lhs; whnf) <;> rfl) ?_; refine wpO_nil ?_; refine seq_normal ?_; refine wp_seq ?_; refine wp_seq ?_; refine wp_region ?_; refine wpO_cons ?_; refine op1_mov rfl (by (conv => lhs; whnf) <;> rfl) ?_; refine wpO_cons ?_; refine op1_call1 rfl (by (conv => lhs; whnf) <;> rfl) ?_
    refine wpF_mono (L30 h2) ?_
    rintro v H3 ⟨⟨few, rfl, hfew⟩, hE3⟩
    have hP3 := hP.step0 hE3
    have hgl3 := hP3.a.glob
    cases few with
    | false =>
      refine wpO_cons ?_; refine op1_not_f rfl rfl ?_; refine wpO_cons ?_; refine op1_mov rfl (by (conv => lhs; whnf) <;> rfl) ?_; refine wpO_cons ?_; refine op1_skip rfl ?_; refine wpO_cons ?_; refine op1_skip rfl ?_; refine wpO_cons ?_; refine op1_pick_t rfl rfl (by (conv => lhs; whnf) <;> rfl) ?_; refine wpO_cons ?_; refine op1_mov rfl (by (conv => lhs; whnf) <;> rfl) ?_; refine wpO_cons ?_; refine op1_skip rfl ?_; refine wpO_cons ?_; refine op1_skip rfl ?_; refine wpO_cons ?_; refine op1_skip rfl ?_; refine wpO_cons ?_; refine op1_pick_t rfl rfl (by (conv => lhs; whnf) <;> rfl) ?_; refine wpO_cons ?_; refine op1_mov rfl (by (conv => lhs; whnf) <;> rfl) ?_; refine wpO_cons ?_; refine op1_skip rfl ?_; refine wpO_cons ?_; refine op1_skip rfl ?_; refine wpO_cons ?_; refine op1_pick_t rfl rfl (by (conv => lhs; whnf) <;> rfl) ?_; refine wpO_nil ?_; refine seq_normal ?_; refine wp_true rfl ?_; refine wp_seq ?_; refine wp_region ?_; refine wpO_cons ?_; refine op1_call0 rfl  ?_; refine wpF_known rfl hgl3 ?_; refine wpO_cons ?_; refine op1_mov rfl (by (conv => lhs; whnf) <;> rfl) ?_; refine wpO_cons ?_; refine op1_mov rfl (by (conv => lhs; whnf) <;> rfl) ?_; refine wpO_cons ?_; refine op1_mov rfl (by (conv => lhs; whnf) <;> rfl) ?_; refine wpO_cons ?_; refine op1_eqlI_s rfl rfl rfl ?_; refine wpO_cons ?_; refine op1_pick_t rfl rfl (by (conv => lhs; whnf) <;> rfl) ?_; refine wpO_cons ?_; refine op1_mov rfl (by (conv => lhs; whnf) <;> rfl) ?_; refine wpO_cons ?_; refine op1_mov rfl (by (conv => lhs; whnf) <;> rfl) ?_; refine wpO_cons ?_; refine op1_eqlI_s rfl rfl rfl ?_; refine wpO_cons ?_; refine op1_mov rfl (by (conv => lhs; whnf) <;> rfl) ?_; refine wpO_cons ?_; refine op1_skip rfl ?_; refine wpO_cons ?_; refine op1_skip rfl ?_; refine wpO_cons ?_; refine op1_pick_t rfl rfl (by (conv => lhs; whnf) <;> rfl) ?_; refine wpO_cons ?_; refine op1_pick_t rfl rfl (by (conv => lhs; whnf) <;> rfl) ?_; refine wpO_cons ?_; refine op1_mov rfl (by (conv => lhs; whnf) <;> rfl) ?_; refine wpO_nil ?_; refine seq_normal ?_; refine wp_ret ?_; refine seq_ret ?_; refine ret_of ?_; refine rk_tmp (by (conv => lhs; whnf) <;> rfl) ?_; refine rk_nil ?_
      rfl
    | true =>
      obtain ⟨hlen, hdat⟩ := hfew rfl
      refine wpO_cons ?_; refine op1_not_t rfl rfl ?_; refine wpO_cons ?_; refine op1_mov rfl (by (conv => lhs; whnf) <;> rfl) ?_; refine wpO_cons ?_; refine op1_call0 rfl  ?_; refine wpF_known rfl hgl3 ?_; refine wpO_cons ?_; refine op1_not_t rfl rfl ?_; refine wpO_cons ?_; refine op1_pick_f rfl rfl (by (conv => lhs; whnf) <;> rfl) ?_; refine wpO_cons ?_; refine op1_mov rfl (by (conv => lhs; whnf) <;> rfl) ?_; refine wpO_cons ?_; refine op1_mov rfl (by (conv => lhs; whnf) <;> rfl) ?_; refine wpO_cons ?_; refine op1_mov rfl (by (conv => lhs; whnf) <;> rfl) ?_; refine wpO_cons ?_; refine op1_neqI_s rfl rfl rfl ?_; refine wpO_cons ?_; refine op1_pick_f rfl rfl (by (conv => lhs; whnf) <;> rfl) ?_; refine wpO_cons ?_; refine op1_mov rfl (by (conv => lhs; whnf) <;> rfl) ?_; refine wpO_cons ?_; refine op1_mov rfl (by (conv => lhs; whnf) <;> rfl) ?_; refine wpO_cons ?_; refine op1_neqI_s rfl rfl rfl ?_; refine wpO_cons ?_; refine op1_pick_f rfl rfl (by (conv => lhs; whnf) <;> rfl) ?_; refine wpO_nil ?_; refine seq_normal ?_; refine wp_false rfl ?_; refine wp_skip ?_; refine seq_normal ?_; refine wp_seq ?_; refine wp_seq ?_; refine wp_region ?_; refine wpO_cons ?_; refine op1_mov rfl (by (conv => lhs; whnf) <;> rfl) ?_; refine wpO_cons ?_; refine op1_len rfl rfl ?_; refine wpO_cons ?_; refine op1_mov rfl (by (conv => lhs; whnf) <;> rfl) ?_; refine wpO_nil ?_; refine seq_normal ?_; refine wp_block ?_
      refine wp_loop [53] (fun k vs H' => ∃ (i : Nat) (s : PT) (O1' O2' : List Nat), vs = [.int .i64 i] ∧ i + k = xs.length ∧ Inv2 (255 + 254 * i) (64 + i) s ∧ Pair H H' p q s s O1' O2')
        ⟨xs.length, 0, PT.new m, O1, O2, rfl, by omega, ⟨⟨by simp [PT.new], by simp [PT.new], by simp [PT.new], by simp [PT.new]⟩, by simp [PT.new]⟩, hP3⟩ ?_
      rintro k vs T' H' ⟨i, s, O1', O2', rfl, hk, hI, hP'⟩
      refine wp_seq ?_; refine wp_region ?_; refine wpO_cons ?_; refine op1_lss rfl rfl rfl ?_; refine wpO_nil ?_; refine seq_normal ?_; refine wp_seq ?_
      refine wp_dec rfl (fun hc => ?_) (fun hc => ?_)
      · have hi : i < xs.length := by omega
        obtain ⟨x, hx⟩ : ∃ x, xs[i]? = some x := ⟨xs[i], by simp [hi]⟩
        obtain ⟨b, cs, rfl, hg, hb, hle, hcut⟩ := h.at_ i x hx
        have hok := h.ok x (List.mem_of_getElem? hx)
        have hxl := hdat x (List.mem_of_getElem? hx)
        have hg' := (hP'.keep b hb).trans hg
        have hcut' : (cs.drop (0 + (i : Int).toNat * 4)).take 4 = _ := (by rw [Nat.zero_add, Int.toNat_natCast] : (cs.drop (0 + (i : Int).toNat * 4)).take 4 = (cs.drop (i * 4)).take 4).trans (hcut.trans (show x.cells = [.int .u8 x.kind, .int .i64 x.n, .int .i64 x.m, x.data] from rfl))
        have hone : x.data.oneCell' = true := by obtain ⟨ax, cx, hd⟩ := hok.d.b1; rw [hd]; rfl
        refine wp_skip ?_; refine seq_normal ?_; refine wp_seq ?_; refine wp_block ?_; refine wp_seq ?_; refine wp_region ?_; refine wpO_cons ?_; refine op1_iaddr rfl rfl rfl (by omega) (by omega) ?_; refine wpO_cons ?_
        refine op1_load_4 rfl rfl hg' (Nat.ble_eq_true_of_le (by simp only [Int.toNat_natCast]; omega)) hcut' ?_
        refine wpO_cons ?_; refine op1_alloc rfl ?_; refine wpO_cons ?_
        refine op1_storeN rfl rfl rfl rfl (show (_ && (_ && (_ && (x.data.oneCell' && true)))) = true by rw [hone]; rfl) AHeap.ga_same (by simp) ?_
        have hE4 : Ext [] H' [] ((H'.add (.cells [.int .u8 0, .int .i64 0, .int .i64 0, .slice none 0 0] 0 false)).set H'.next (.cells [.int .u8 x.kind, .int .i64 x.n, .int .i64 x.m, x.data] 0 false)) := ⟨by simp, fun b hb _ => by rw [AHeap.get_set, if_neg (by omega), AHeap.get_add, if_neg (by omega)], fun b hb => by simp at hb⟩
        have hP4 := hP'.step0 hE4
        refine wpO_nil ?_; refine seq_normal ?_; refine wp_seq ?_; refine wp_region ?_; refine wpO_cons ?_; refine op1_mov rfl (by (conv => lhs; whnf) <;> rfl) ?_; refine wpO_cons ?_; refine op1_mov rfl (by (conv => lhs; whnf) <;> rfl) ?_; refine wpO_cons ?_; refine op1_load_4 rfl rfl (by with_reducible exact AHeap.gs_same) rfl rfl ?_; refine wpO_cons ?_; refine op1_call3 rfl (by (conv => lhs; whnf) <;> rfl) (by (conv => lhs; whnf) <;> rfl) (by (conv => lhs; whnf) <;> rfl) ?_
        refine wpF_mono (L31 hP4 hI (by omega) (by omega) (by omega) (by omega) hok hxl) ?_
        rintro v H5 ⟨rfl, hI5, O5, O6, hP5⟩
        generalize s.step x = s5 at *
        refine wpO_cons ?_; refine op1_not_t rfl rfl ?_; refine wpO_cons ?_; refine op1_mov rfl (by (conv => lhs; whnf) <;> rfl) ?_; refine wpO_cons ?_; refine op1_mov rfl (by (conv => lhs; whnf) <;> rfl) ?_; refine wpO_cons ?_; refine op1_mov rfl (by (conv => lhs; whnf) <;> rfl) ?_; refine wpO_cons ?_; refine op1_call2 rfl (by (conv => lhs; whnf) <;> rfl) (by (conv => lhs; whnf) <;> rfl) ?_
        refine wpF_mono (L32 hP5 (by have := hI5.line; omega) (by have := hI5.inp; omega) (fun y hy => by have := hI5.recs y hy; omega)) ?_
        rintro v H6 ⟨rfl, hP6⟩
        refine wpO_cons ?_; refine op1_not_t rfl rfl ?_; refine wpO_cons ?_; refine op1_pick_f rfl rfl (by (conv => lhs; whnf) <;> rfl) ?_; refine wpO_nil ?_; refine seq_normal ?_; refine wp_false rfl ?_; refine wp_skip ?_; refine block_normal ?_; refine seq_normal ?_; refine wp_region ?_; refine wpO_cons ?_; refine op1_add rfl rfl rfl (by exact wrap_i64 (by omega) (by omega)) ?_; refine wpO_cons ?_; refine op1_mov rfl (by (conv => lhs; whnf) <;> rfl) ?_; refine wpO_nil ?_
        exact ⟨k - 1, by omega, i + 1, s5, O5, O6, rfl, by omega, ⟨hI5.toInv.mono (by omega) (by omega), hI5.sig⟩, hP6⟩
      · refine wp_exit ?_; refine seq_exit ?_; refine iter_exit ?_; refine block_exit ?_; refine seq_normal ?_; refine wp_seq ?_; refine wp_region ?_; refine wpO_cons ?_; refine op1_mov rfl (by (conv => lhs; whnf) <;> rfl) ?_; refine wpO_nil ?_; refine seq_normal ?_; refine wp_ret ?_; refine ret_of ?_; refine rk_tmp (by (conv => lhs; whnf) <;> rfl) ?_; refine rk_nil ?_
        rfl
  · have hm' : m < 0 ∨ 63 < m := by omega
    refine wpF_mono (L9e hm') ?_
    rintro v H1 ⟨rfl, rfl⟩
    refine wpO_cons ?_; refine op1_mov rfl (by (conv => lhs; whnf) <;> rfl) ?_; refine wpO_cons ?_; refine op1_extract rfl rfl rfl ?_; refine wpO_cons ?_; refine op1_extract rfl rfl rfl ?_; refine wpO_cons ?_; refine op1_mov rfl (by (conv => lhs; whnf) <;> rfl) ?_; refine wpO_cons ?_; refine op1_mov rfl (by (conv => lhs; whnf) <;> rfl) ?_; refine wpO_nil ?_; refine seq_normal ?_; refine wp_seq ?_; refine wp_region ?_; refine wpO_cons ?_; refine op1_mov rfl (by (conv => lhs; whnf) <;> rfl) ?_; refine wpO_cons ?_; refine op1_call1 rfl (by (conv => lhs; whnf) <;> rfl) ?_
    refine wpF_mono (L29e hm') ?_
    rintro v H1 ⟨rfl, rfl⟩
    refine wpO_cons ?_; refine op1_mov rfl (by (conv => lhs; whnf) <;> rfl) ?_; refine wpO_cons ?_; refine op1_extract rfl rfl rfl ?_; refine wpO_cons ?_; refine op1_extract rfl rfl rfl ?_; refine wpO_cons ?_; refine op1_mov rfl (by (conv => lhs; whnf) <;> rfl) ?_; refine wpO_cons ?_; refine op1_mov rfl (by (conv => lhs; whnf) <;> rfl) ?_; refine wpO_nil ?_; refine seq_normal ?_; refine wp_seq ?_; refine wp_seq ?_; refine wp_region ?_; refine wpO_cons ?_; refine op1_mov rfl (by (conv => lhs; whnf) <;> rfl) ?_; refine wpO_cons ?_; refine op1_call1 rfl (by (conv => lhs; whnf) <;> rfl) ?_
    refine wpF_mono (L30 h) ?_
    rintro v H3 ⟨⟨few, rfl, hfew⟩, hE3⟩
    have hgl3 := hgl.ext hE3 (by simp)
    cases few with
    | false =>
      refine wpO_cons ?_; refine op1_not_f rfl rfl ?_; refine wpO_cons ?_; refine op1_mov rfl (by (conv => lhs; whnf) <;> rfl) ?_; refine wpO_cons ?_; refine op1_skip rfl ?_; refine wpO_cons ?_; refine op1_skip rfl ?_; refine wpO_cons ?_; refine op1_pick_t rfl rfl (by (conv => lhs; whnf) <;> rfl) ?_; refine wpO_cons ?_; refine op1_mov rfl (by (conv => lhs; whnf) <;> rfl) ?_; refine wpO_cons ?_; refine op1_skip rfl ?_; refine wpO_cons ?_; refine op1_skip rfl ?_; refine wpO_cons ?_; refine op1_skip rfl ?_; refine wpO_cons ?_; refine op1_pick_t rfl rfl (by (conv => lhs; whnf) <;> rfl) ?_; refine wpO_cons ?_; refine op1_mov rfl (by (conv => lhs; whnf) <;> rfl) ?_; refine wpO_cons ?_; refine op1_skip rfl ?_; refine wpO_cons ?_; refine op1_skip rfl ?_; refine wpO_cons ?_; refine op1_pick_t rfl rfl (by (conv => lhs; whnf) <;> rfl) ?_; refine wpO_nil ?_; refine seq_normal ?_; refine wp_true rfl ?_; refine wp_seq ?_; refine wp_region ?_; refine wpO_cons ?_; refine op1_call0 rfl  ?_; refine wpF_known rfl hgl3 ?_; refine wpO_cons ?_; refine op1_mov rfl (by (conv => lhs; whnf) <;> rfl) ?_; refine wpO_cons ?_; refine op1_mov rfl (by (conv => lhs; whnf) <;> rfl) ?_; refine wpO_cons ?_; refine op1_mov rfl (by (conv => lhs; whnf) <;> rfl) ?_; refine wpO_cons ?_; refine op1_eqlI_s rfl rfl rfl ?_; refine wpO_cons ?_; refine op1_pick_t rfl rfl (by (conv => lhs; whnf) <;> rfl) ?_; refine wpO_cons ?_; refine op1_mov rfl (by (conv => lhs; whnf) <;> rfl) ?_; refine wpO_cons ?_; refine op1_mov rfl (by (conv => lhs; whnf) <;> rfl) ?_; refine wpO_cons ?_; refine op1_eqlI rfl rfl rfl ?_; refine wpO_cons ?_; refine op1_mov rfl (by (conv => lhs; whnf) <;> rfl) ?_; refine wpO_cons ?_; refine op1_mov rfl (by (conv => lhs; whnf) <;> rfl) ?_; refine wpO_cons ?_; refine op1_bin_true rfl (by (conv => lhs; whnf) <;> rfl) (by (conv => lhs; whnf) <;> rfl) rfl ?_; refine wpO_cons ?_; refine op1_pick_f rfl rfl (by (conv => lhs; whnf) <;> rfl) ?_; refine wpO_cons ?_; refine op1_pick_t rfl rfl (by (conv => lhs; whnf) <;> rfl) ?_; refine wpO_cons ?_; refine op1_mov rfl (by (conv => lhs; whnf) <;> rfl) ?_; refine wpO_nil ?_; refine seq_normal ?_; refine wp_ret ?_; refine seq_ret ?_; refine ret_of ?_; refine rk_tmp (by (conv => lhs; whnf) <;> rfl) ?_; refine rk_nil ?_
      rfl
    | true =>
      refine wpO_cons ?_; refine op1_not_t rfl rfl ?_; refine wpO_cons ?_; refine op1_mov rfl (by (conv => lhs; whnf) <;> rfl) ?_; refine wpO_cons ?_; refine op1_call0 rfl  ?_; refine wpF_known rfl hgl3 ?_; refine wpO_cons ?_; refine op1_not_t rfl rfl ?_; refine wpO_cons ?_; refine op1_pick_f rfl rfl (by (conv => lhs; whnf) <;> rfl) ?_; refine wpO_cons ?_; refine op1_mov rfl (by (conv => lhs; whnf) <;> rfl) ?_; refine wpO_cons ?_; refine op1_mov rfl (by (conv => lhs; whnf) <;> rfl) ?_; refine wpO_cons ?_; refine op1_mov rfl (by (conv => lhs; whnf) <;> rfl) ?_; refine wpO_cons ?_; refine op1_neqI_s rfl rfl rfl ?_; refine wpO_cons ?_; refine op1_pick_f rfl rfl (by (conv => lhs; whnf) <;> rfl) ?_; refine wpO_cons ?_; refine op1_mov rfl (by (conv => lhs; whnf) <;> rfl) ?_; refine wpO_cons ?_; refine op1_mov rfl (by (conv => lhs; whnf) <;> rfl) ?_; refine wpO_cons ?_; refine op1_neqI rfl rfl rfl ?_; refine wpO_cons ?_; refine op1_pick_f rfl rfl (by (conv => lhs; whnf) <;> rfl) ?_; refine wpO_nil ?_; refine seq_normal ?_; refine wp_true rfl ?_; refine wp_seq ?_; refine wp_region ?_; refine wpO_cons ?_; refine op1_call0 rfl  ?_; refine wpF_known rfl hgl3 ?_; refine wpO_cons ?_; refine op1_mov rfl (by (conv => lhs; whnf) <;> rfl) ?_; refine wpO_cons ?_; refine op1_mov rfl (by (conv => lhs; whnf) <;> rfl) ?_; refine wpO_cons ?_; refine op1_mov rfl (by (conv => lhs; whnf) <;> rfl) ?_; refine wpO_cons ?_; refine op1_eqlI_s rfl rfl rfl ?_; refine wpO_cons ?_; refine op1_pick_t rfl rfl (by (conv => lhs; whnf) <;> rfl) ?_; refine wpO_cons ?_; refine op1_mov rfl (by (conv => lhs; whnf) <;> rfl) ?_; refine wpO_cons ?_; refine op1_mov rfl (by (conv => lhs; whnf) <;> rfl) ?_; refine wpO_cons ?_; refine op1_eqlI rfl rfl rfl ?_; refine wpO_cons ?_; refine op1_mov rfl (by (conv => lhs; whnf) <;> rfl) ?_; refine wpO_cons ?_; refine op1_mov rfl (by (conv => lhs; whnf) <;> rfl) ?_; refine wpO_cons ?_; refine op1_bin_true rfl (by (conv => lhs; whnf) <;> rfl) (by (conv => lhs; whnf) <;> rfl) rfl ?_; refine wpO_cons ?_; refine op1_pick_f rfl rfl (by (conv => lhs; whnf) <;> rfl) ?_; refine wpO_cons ?_; refine op1_pick_t rfl rfl (by (conv => lhs; whnf) <;> rfl) ?_; refine wpO_cons ?_; refine op1_mov rfl (by (conv => lhs; whnf) <;> rfl) ?_; refine wpO_nil ?_; refine seq_normal ?_; refine wp_ret ?_; refine seq_ret ?_; refine ret_of ?_; refine rk_tmp (by (conv => lhs; whnf) <;> rfl) ?_; refine rk_nil ?_
      rfl
end Go.E.Pty
