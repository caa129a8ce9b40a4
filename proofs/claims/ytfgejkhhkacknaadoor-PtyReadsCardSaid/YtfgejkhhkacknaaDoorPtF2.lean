/- The pseudo terminal: is there room for a byte, and what a byte does. -/
import Derived.Test.YtfgejkhhkacknaaDoorPtF1
namespace Go.E.Pty
open Go Go.E Go.Proofs.YtfgejkhhkacknaaDoor.base Go.Proofs.YtfgejkhhkacknaaDoor Go.Proofs
set_option linter.unusedVariables false
set_option linter.unusedSimpArgs false
set_option maxRecDepth 100000

def sendOf (b : Int) : Option Int := if b = 3 then some 2 else if b = 26 then some 20 else if b = 28 then some 3 else none

theorem find_sends (b : Int) : ∃ r, Instr.findNow (.int .u8) (.int .u8 b) sendsT 0 = some r ∧ lookRes (.int .i64 0) true r = .tuple ⟨[.int .i64 ((sendOf b).getD 0), .bool (sendOf b).isSome]⟩ := by
  simp only [sendsT, Instr.findNow, Instr.sameNow, if_true, sendOf]
  by_cases h1 : b = 3
  · subst h1; exact ⟨_, rfl, rfl⟩
  by_cases h2 : b = 26
  · subst h2; exact ⟨_, rfl, rfl⟩
  by_cases h3 : b = 28
  · subst h3; exact ⟨_, rfl, rfl⟩
  have e1 : (b == 3) = false := by simpa using h1
  have e2 : (b == 26) = false := by simpa using h2
  have e3 : (b == 28) = false := by simpa using h3
  simp only [e1, e2, e3, if_neg h1, if_neg h2, if_neg h3]
  exact ⟨_, rfl, rfl⟩

section
variable {C : Nat → Callee} {T : FEnv} {H : AHeap} {K : KO} {d : Nat} {g : Option (Nat × Bool)}
theorem op1_sends {m x : NOpd} {b : Int} (hw : wantedF g T = true) (hx : x.evF T = .int .u8 b) (hm : m.evF T = .map (some 5)) (hg : Glob objs H) (k : K (upd T d (.tuple ⟨[.int .i64 ((sendOf b).getD 0), .bool (sendOf b).isSome]⟩)) H) : op1 C ⟨some d, .lookup (.int .u8) (.int .i64 0) m x true, g⟩ T H K := by
  obtain ⟨r, h1, h2⟩ := find_sends b
  refine op1_lookup (es := sendsT) hw hx hm rfl ?_ h1 (by rw [h2]; exact k)
  have := hg.get 5 (by decide)
  simp only [AHeap.mapOf, this]
  rfl
theorem op1_edits {m x : NOpd} {b : Int} {v : Value} (hw : wantedF g T = true) (hx : x.evF T = .int .u8 b) (hm : m.evF T = .map (some 6)) (hg : Glob objs H) (hv : (Instr.findNow (.int .u8) (.int .u8 b) editsT 0).map (lookRes .nilFunc false) = some v) (k : K (upd T d v) H) : op1 C ⟨some d, .lookup (.int .u8) .nilFunc m x false, g⟩ T H K := by
  simp only [Option.map_eq_some_iff] at hv
  obtain ⟨r, h1, h2⟩ := hv
  refine op1_lookup (es := editsT) hw hx hm rfl ?_ h1 (by rw [h2]; exact k)
  have := hg.get 6 (by decide)
  simp only [AHeap.mapOf, this]
  rfl
theorem edits_none {b : Int} (h1 : b ≠ 4) (h2 : b ≠ 10) (h3 : b ≠ 21) (h4 : b ≠ 127) : (Instr.findNow (.int .u8) (.int .u8 b) editsT 0).map (lookRes .nilFunc false) = some .nilFunc := by
  have e1 : (b == 4) = false := by simpa using h1
  have e2 : (b == 10) = false := by simpa using h2
  have e3 : (b == 21) = false := by simpa using h3
  have e4 : (b == 127) = false := by simpa using h4
  simp only [editsT, Instr.findNow, Instr.sameNow, if_true, e1, e2, e3, e4]
  rfl
end

theorem Glob.g0 {H : AHeap} (h : Glob objs H) : H.get 0 = .cells [.map (some 5)] 0 true := h.get 0 (by decide)
theorem Glob.g1 {H : AHeap} (h : Glob objs H) : H.get 1 = .cells [.map (some 6)] 0 true := h.get 1 (by decide)

/-- the last record, if it is a run -/
def lastRun (l : List (List Int × Bool)) : Option (List Int) :=
  match l.getLast? with
  | some (d, true) => some d
  | _ => none

def PT.room (s : PT) (b : Int) : Bool :=
  if (if b = 21 ∧ s.has 1 = true ∧ s.has 2 = true then (3331 : Int) else 4064) < (s.output.length : Int) then false
  else if (s.has 32 = true ∧ (b = 19 ∨ b = 17)) ∨ (s.has 4 = true ∧ (sendOf b).isSome = true) then true
  else if s.has 1 = true then decide (s.input.length < 64 ∨ (b ≠ 4 ∧ b ≠ 10))
  else match lastRun s.input with
    | some d => decide (d.length < 255)
    | none => decide (s.input.length < 64)

theorem L38 {H : AHeap} {p : Nat} {s : PT} {O : List Nat} (h : RepT false H p s O) (b : Int) (hlim : s.input.length ≤ 100000) : wpF C 38 [.pointer (some ⟨p, 0, none⟩), .int .u8 b] H fun v H' => v = .bool (s.room b) ∧ H = H' := by
  have hR := h
  obtain ⟨vl, vi, vo, vs, cells, ol, oi, orr, oo, os, h, rfl⟩ := h
  have hg := h.get
  have hg0 := Glob.g0 h.glob
  obtain ⟨ao, co, rfl⟩ := h.out.b1
  obtain ⟨ai, li, ci, rfl, hli⟩ := h.inp.shape
  obtain rfl : li = s.input.length := by have := h.recs.length; omega
  refine wpF_ofW o38 rfl rfl ?_
  refine wp_seq ?_; refine wp_region ?_; refine wpO_cons ?_; refine op1_mov rfl (by (conv => lhs; whnf) <;> rfl) ?_; refine wpO_nil ?_; refine seq_normal ?_; refine wp_seq ?_; refine wp_region ?_; refine wpO_cons ?_; refine op1_mov rfl (by (conv => lhs; whnf) <;> rfl) ?_; refine wpO_nil ?_; refine seq_normal ?_
  refine wp_cut [5] (fun vs H' => vs = [.int .i64 (if b = 21 ∧ s.has 1 = true ∧ s.has 2 = true then 3331 else 4064)] ∧ H = H') ?_ ?_
  · refine wp_seq ?_; refine wp_region ?_; refine wpO_cons ?_; refine op1_mov rfl (by (conv => lhs; whnf) <;> rfl) ?_; refine wpO_cons ?_; refine op1_eqlI rfl rfl rfl ?_; refine wpO_cons ?_; refine op1_mov rfl (by (conv => lhs; whnf) <;> rfl) ?_; refine wpO_cons ?_; refine op1_split rfl (fun hc0 => ?_) (fun hc0 => ?_); (focus (refine op1_mov rfl (by (conv => lhs; whnf) <;> rfl) ?_; refine wpO_cons ?_; refine op1_call2 rfl (by (conv => lhs; whnf) <;> rfl) (by (conv => lhs; whnf) <;> rfl) ?_; (refine wpF_mono (L37 hR _) ?_; rintro _ _ ⟨rfl, rfl⟩); refine wpO_cons ?_; refine op1_pick_t rfl rfl (by (conv => lhs; whnf) <;> rfl) ?_; refine wpO_cons ?_; refine op1_mov rfl (by (conv => lhs; whnf) <;> rfl) ?_; refine wpO_cons ?_; refine op1_split rfl (fun hc1 => ?_) (fun hc1 => ?_); (focus (refine op1_mov rfl (by (conv => lhs; whnf) <;> rfl) ?_; refine wpO_cons ?_; refine op1_call2 rfl (by (conv => lhs; whnf) <;> rfl) (by (conv => lhs; whnf) <;> rfl) ?_; (refine wpF_mono (L37 hR _) ?_; rintro _ _ ⟨rfl, rfl⟩); refine wpO_cons ?_; refine op1_pick_t rfl rfl (by (conv => lhs; whnf) <;> rfl) ?_; refine wpO_nil ?_; refine seq_normal ?_; refine wp_cond rfl (fun hc2 => ?_) (fun hc2 => ?_); (focus (refine wp_region ?_; refine wpO_cons ?_; refine op1_mov rfl (by (conv => lhs; whnf) <;> rfl) ?_; refine wpO_nil ?_; refine cut1 (by (conv => lhs; whnf) <;> rfl) ?_; (exact ⟨by simp_all, rfl⟩))); (focus (refine wp_skip ?_; refine cut1 (by (conv => lhs; whnf) <;> rfl) ?_; (exact ⟨by simp_all, rfl⟩))))); (focus (refine op1_skip rfl ?_; refine wpO_cons ?_; refine op1_skip rfl ?_; refine wpO_cons ?_; refine op1_pick_f rfl rfl (by (conv => lhs; whnf) <;> rfl) ?_; refine wpO_nil ?_; refine seq_normal ?_; refine wp_false rfl ?_; refine wp_skip ?_; refine cut1 (by (conv => lhs; whnf) <;> rfl) ?_; (exact ⟨by simp_all, rfl⟩))))); (focus (refine op1_skip rfl ?_; refine wpO_cons ?_; refine op1_skip rfl ?_; refine wpO_cons ?_; refine op1_pick_f rfl rfl (by (conv => lhs; whnf) <;> rfl) ?_; refine wpO_cons ?_; refine op1_mov rfl (by (conv => lhs; whnf) <;> rfl) ?_; refine wpO_cons ?_; refine op1_skip rfl ?_; refine wpO_cons ?_; refine op1_skip rfl ?_; refine wpO_cons ?_; refine op1_pick_f rfl rfl (by (conv => lhs; whnf) <;> rfl) ?_; refine wpO_nil ?_; refine seq_normal ?_; refine wp_false rfl ?_; refine wp_skip ?_; refine cut1 (by (conv => lhs; whnf) <;> rfl) ?_; (exact ⟨by simp_all, rfl⟩)))
  rintro vs' T1 H' ⟨rfl, rfl⟩
  generalize hmm : (if b = 21 ∧ s.has 1 = true ∧ s.has 2 = true then (3331 : Int) else 4064) = most
  refine wp_seq ?_; refine wp_seq ?_; refine wp_region ?_; refine wpO_cons ?_; refine op1_mov rfl (by (conv => lhs; whnf) <;> rfl) ?_; refine wpO_cons ?_; refine op1_nilchk rfl rfl ?_; refine wpO_cons ?_; refine op1_faddr0 rfl rfl ?_; refine wpO_cons ?_; refine op1_load rfl rfl (by with_reducible assumption) rfl ?_; refine wpO_cons ?_; refine op1_len rfl rfl ?_; refine wpO_cons ?_; refine op1_mov rfl (by (conv => lhs; whnf) <;> rfl) ?_; refine wpO_cons ?_; refine op1_gtr rfl rfl rfl ?_; refine wpO_nil ?_; refine seq_normal ?_
  unfold PT.room
  rw [hmm]
  refine wp_dec rfl (fun h1 => ?_) (fun h1 => ?_)
  · rw [if_pos h1]
    refine wp_seq ?_; refine wp_region ?_; refine wpO_cons ?_; refine op1_mov rfl (by (conv => lhs; whnf) <;> rfl) ?_; refine wpO_nil ?_; refine seq_normal ?_; refine wp_ret ?_; refine seq_ret ?_; refine ret_of ?_; refine rk_tmp (by (conv => lhs; whnf) <;> rfl) ?_; refine rk_nil ?_
    exact ⟨rfl, rfl⟩
  rw [if_neg h1]
  refine wp_skip ?_; refine seq_normal ?_; refine wp_seq ?_; refine wp_region ?_; refine wpO_cons ?_; refine op1_load rfl rfl (by with_reducible assumption) rfl ?_; refine wpO_cons ?_; refine op1_mov rfl (by (conv => lhs; whnf) <;> rfl) ?_; refine wpO_cons ?_
  refine op1_sends rfl rfl rfl h.glob ?_
  refine wpO_cons ?_; refine op1_mov rfl (by (conv => lhs; whnf) <;> rfl) ?_; refine wpO_cons ?_; refine op1_extract rfl rfl rfl ?_; refine wpO_cons ?_; refine op1_extract rfl rfl rfl ?_; refine wpO_cons ?_; refine op1_mov rfl (by (conv => lhs; whnf) <;> rfl) ?_; refine wpO_cons ?_; refine op1_mov rfl (by (conv => lhs; whnf) <;> rfl) ?_; refine wpO_nil ?_; refine seq_normal ?_; refine wp_seq ?_
  refine wp_cut [49] (fun vs H2 => vs = [.bool (decide ((s.has 32 = true ∧ (b = 19 ∨ b = 17)) ∨ (s.has 4 = true ∧ (sendOf b).isSome = true)))] ∧ H = H2) ?_ ?_
  · refine wp_region ?_; refine wpO_cons ?_; refine op1_mov rfl (by (conv => lhs; whnf) <;> rfl) ?_; refine wpO_cons ?_; refine op1_call2 rfl (by (conv => lhs; whnf) <;> rfl) (by (conv => lhs; whnf) <;> rfl) ?_; (refine wpF_mono (L37 hR _) ?_; rintro _ _ ⟨rfl, rfl⟩); refine wpO_cons ?_; refine op1_mov rfl (by (conv => lhs; whnf) <;> rfl) ?_; refine wpO_cons ?_; refine op1_split rfl (fun hc0 => ?_) (fun hc0 => ?_); (focus (refine op1_mov rfl (by (conv => lhs; whnf) <;> rfl) ?_; refine wpO_cons ?_; refine op1_eqlI rfl rfl rfl ?_; refine wpO_cons ?_; refine op1_mov rfl (by (conv => lhs; whnf) <;> rfl) ?_; refine wpO_cons ?_; refine op1_split rfl (fun hc1 => ?_) (fun hc1 => ?_); (focus (refine op1_skip rfl ?_; refine wpO_cons ?_; refine op1_skip rfl ?_; refine wpO_cons ?_; refine op1_pick_t rfl rfl (by (conv => lhs; whnf) <;> rfl) ?_; refine wpO_cons ?_; refine op1_pick_t rfl rfl (by (conv => lhs; whnf) <;> rfl) ?_; refine wpO_cons ?_; refine op1_mov rfl (by (conv => lhs; whnf) <;> rfl) ?_; refine wpO_cons ?_; refine op1_skip rfl ?_; refine wpO_cons ?_; refine op1_skip rfl ?_; refine wpO_cons ?_; refine op1_skip rfl ?_; refine wpO_cons ?_; refine op1_skip rfl ?_; refine wpO_cons ?_; refine op1_skip rfl ?_; refine wpO_cons ?_; refine op1_pick_t rfl rfl (by (conv => lhs; whnf) <;> rfl) ?_; refine wpO_nil ?_; refine cut1 (by (conv => lhs; whnf) <;> rfl) ?_; (exact ⟨by simp_all, rfl⟩))); (focus (refine op1_mov rfl (by (conv => lhs; whnf) <;> rfl) ?_; refine wpO_cons ?_; refine op1_eqlI rfl rfl rfl ?_; refine wpO_cons ?_; refine op1_pick_f rfl rfl (by (conv => lhs; whnf) <;> rfl) ?_; refine wpO_cons ?_; refine op1_pick_t rfl rfl (by (conv => lhs; whnf) <;> rfl) ?_; refine wpO_cons ?_; refine op1_mov rfl (by (conv => lhs; whnf) <;> rfl) ?_; refine wpO_cons ?_; refine op1_split rfl (fun hc2 => ?_) (fun hc2 => ?_); (focus (refine op1_skip rfl ?_; refine wpO_cons ?_; refine op1_skip rfl ?_; refine wpO_cons ?_; refine op1_skip rfl ?_; refine wpO_cons ?_; refine op1_skip rfl ?_; refine wpO_cons ?_; refine op1_skip rfl ?_; refine wpO_cons ?_; refine op1_pick_t rfl rfl (by (conv => lhs; whnf) <;> rfl) ?_; refine wpO_nil ?_; refine cut1 (by (conv => lhs; whnf) <;> rfl) ?_; (exact ⟨by simp_all, rfl⟩))); (focus (refine op1_mov rfl (by (conv => lhs; whnf) <;> rfl) ?_; refine wpO_cons ?_; refine op1_call2 rfl (by (conv => lhs; whnf) <;> rfl) (by (conv => lhs; whnf) <;> rfl) ?_; (refine wpF_mono (L37 hR _) ?_; rintro _ _ ⟨rfl, rfl⟩); refine wpO_cons ?_; refine op1_mov rfl (by (conv => lhs; whnf) <;> rfl) ?_; refine wpO_cons ?_; refine op1_split rfl (fun hc3 => ?_) (fun hc3 => ?_); (focus (refine op1_mov rfl (by (conv => lhs; whnf) <;> rfl) ?_; refine wpO_cons ?_; refine op1_pick_t rfl rfl (by (conv => lhs; whnf) <;> rfl) ?_; refine wpO_cons ?_; refine op1_pick_f rfl rfl (by (conv => lhs; whnf) <;> rfl) ?_; refine wpO_nil ?_; refine cut1 (by (conv => lhs; whnf) <;> rfl) ?_; (exact ⟨by simp_all, rfl⟩))); (focus (refine op1_skip rfl ?_; refine wpO_cons ?_; refine op1_pick_f rfl rfl (by (conv => lhs; whnf) <;> rfl) ?_; refine wpO_cons ?_; refine op1_pick_f rfl rfl (by (conv => lhs; whnf) <;> rfl) ?_; refine wpO_nil ?_; refine cut1 (by (conv => lhs; whnf) <;> rfl) ?_; (exact ⟨by simp_all, rfl⟩))))))))); (focus (refine op1_skip rfl ?_; refine wpO_cons ?_; refine op1_skip rfl ?_; refine wpO_cons ?_; refine op1_skip rfl ?_; refine wpO_cons ?_; refine op1_skip rfl ?_; refine wpO_cons ?_; refine op1_skip rfl ?_; refine wpO_cons ?_; refine op1_skip rfl ?_; refine wpO_cons ?_; refine op1_pick_f rfl rfl (by (conv => lhs; whnf) <;> rfl) ?_; refine wpO_cons ?_; refine op1_mov rfl (by (conv => lhs; whnf) <;> rfl) ?_; refine wpO_cons ?_; refine op1_mov rfl (by (conv => lhs; whnf) <;> rfl) ?_; refine wpO_cons ?_; refine op1_call2 rfl (by (conv => lhs; whnf) <;> rfl) (by (conv => lhs; whnf) <;> rfl) ?_; (refine wpF_mono (L37 hR _) ?_; rintro _ _ ⟨rfl, rfl⟩); refine wpO_cons ?_; refine op1_mov rfl (by (conv => lhs; whnf) <;> rfl) ?_; refine wpO_cons ?_; refine op1_split rfl (fun hc1 => ?_) (fun hc1 => ?_); (focus (refine op1_mov rfl (by (conv => lhs; whnf) <;> rfl) ?_; refine wpO_cons ?_; refine op1_pick_t rfl rfl (by (conv => lhs; whnf) <;> rfl) ?_; refine wpO_cons ?_; refine op1_pick_f rfl rfl (by (conv => lhs; whnf) <;> rfl) ?_; refine wpO_nil ?_; refine cut1 (by (conv => lhs; whnf) <;> rfl) ?_; (exact ⟨by simp_all, rfl⟩))); (focus (refine op1_skip rfl ?_; refine wpO_cons ?_; refine op1_pick_f rfl rfl (by (conv => lhs; whnf) <;> rfl) ?_; refine wpO_cons ?_; refine op1_pick_f rfl rfl (by (conv => lhs; whnf) <;> rfl) ?_; refine wpO_nil ?_; refine cut1 (by (conv => lhs; whnf) <;> rfl) ?_; (exact ⟨by simp_all, rfl⟩)))))
  rintro vs2 T2 H2 ⟨rfl, rfl⟩
  refine wp_dec rfl (fun h2 => ?_) (fun h2 => ?_)
  · rw [if_pos h2]
    refine wp_seq ?_; refine wp_region ?_; refine wpO_cons ?_; refine op1_mov rfl (by (conv => lhs; whnf) <;> rfl) ?_; refine wpO_nil ?_; refine seq_normal ?_; refine wp_ret ?_; refine seq_ret ?_; refine ret_of ?_; refine rk_tmp (by (conv => lhs; whnf) <;> rfl) ?_; refine rk_nil ?_
    exact ⟨rfl, rfl⟩
  rw [if_neg h2]
  refine wp_skip ?_; refine seq_normal ?_; refine wp_seq ?_; refine wp_region ?_; refine wpO_cons ?_; refine op1_mov rfl (by (conv => lhs; whnf) <;> rfl) ?_; refine wpO_cons ?_; refine op1_nilchk rfl rfl ?_; refine wpO_cons ?_; refine op1_faddr0 rfl rfl ?_; refine wpO_cons ?_; refine op1_faddr rfl rfl ?_; refine wpO_cons ?_; refine op1_load rfl rfl (by with_reducible assumption) rfl ?_; refine wpO_cons ?_; refine op1_len rfl rfl ?_; refine wpO_cons ?_; refine op1_geq rfl rfl rfl ?_; refine wpO_cons ?_; refine op1_mov rfl (by (conv => lhs; whnf) <;> rfl) ?_; refine wpO_nil ?_; refine seq_normal ?_; refine wp_seq ?_; refine wp_seq ?_; refine wp_region ?_; refine wpO_cons ?_; refine op1_mov rfl (by (conv => lhs; whnf) <;> rfl) ?_; refine wpO_cons ?_; refine op1_call2 rfl (by (conv => lhs; whnf) <;> rfl) (by (conv => lhs; whnf) <;> rfl) ?_; (refine wpF_mono (L37 hR _) ?_; rintro _ _ ⟨rfl, rfl⟩); refine wpO_nil ?_; refine seq_normal ?_
  refine wp_cond rfl (fun h3 => ?_) (fun h3 => ?_)
  · rw [if_pos h3]
    refine wp_seq ?_; refine wp_region ?_; refine wpO_cons ?_; refine op1_mov rfl (by (conv => lhs; whnf) <;> rfl) ?_; refine wpO_cons ?_; refine op1_not rfl rfl ?_; refine wpO_cons ?_; refine op1_mov rfl (by (conv => lhs; whnf) <;> rfl) ?_; refine wpO_cons ?_; refine op1_split rfl (fun hc0 => ?_) (fun hc0 => ?_); (focus (refine op1_skip rfl ?_; refine wpO_cons ?_; refine op1_skip rfl ?_; refine wpO_cons ?_; refine op1_skip rfl ?_; refine wpO_cons ?_; refine op1_skip rfl ?_; refine wpO_cons ?_; refine op1_skip rfl ?_; refine wpO_cons ?_; refine op1_skip rfl ?_; refine wpO_cons ?_; refine op1_pick_t rfl rfl (by (conv => lhs; whnf) <;> rfl) ?_; refine wpO_cons ?_; refine op1_mov rfl (by (conv => lhs; whnf) <;> rfl) ?_; refine wpO_nil ?_; refine seq_normal ?_; refine wp_ret ?_; refine seq_ret ?_; refine ret_of ?_; refine rk_tmp (by (conv => lhs; whnf) <;> rfl) ?_; refine rk_nil ?_; (exact ⟨by simp only [resultV, Value.bool.injEq]; grind, rfl⟩))); (focus (refine op1_mov rfl (by (conv => lhs; whnf) <;> rfl) ?_; refine wpO_cons ?_; refine op1_neqI rfl rfl rfl ?_; refine wpO_cons ?_; refine op1_mov rfl (by (conv => lhs; whnf) <;> rfl) ?_; refine wpO_cons ?_; refine op1_split rfl (fun hc1 => ?_) (fun hc1 => ?_); (focus (refine op1_mov rfl (by (conv => lhs; whnf) <;> rfl) ?_; refine wpO_cons ?_; refine op1_neqI rfl rfl rfl ?_; refine wpO_cons ?_; refine op1_pick_t rfl rfl (by (conv => lhs; whnf) <;> rfl) ?_; refine wpO_cons ?_; refine op1_pick_f rfl rfl (by (conv => lhs; whnf) <;> rfl) ?_; refine wpO_cons ?_; refine op1_mov rfl (by (conv => lhs; whnf) <;> rfl) ?_; refine wpO_nil ?_; refine seq_normal ?_; refine wp_ret ?_; refine seq_ret ?_; refine ret_of ?_; refine rk_tmp (by (conv => lhs; whnf) <;> rfl) ?_; refine rk_nil ?_; (exact ⟨by simp only [resultV, Value.bool.injEq]; grind, rfl⟩))); (focus (refine op1_skip rfl ?_; refine wpO_cons ?_; refine op1_skip rfl ?_; refine wpO_cons ?_; refine op1_pick_f rfl rfl (by (conv => lhs; whnf) <;> rfl) ?_; refine wpO_cons ?_; refine op1_pick_f rfl rfl (by (conv => lhs; whnf) <;> rfl) ?_; refine wpO_cons ?_; refine op1_mov rfl (by (conv => lhs; whnf) <;> rfl) ?_; refine wpO_nil ?_; refine seq_normal ?_; refine wp_ret ?_; refine seq_ret ?_; refine ret_of ?_; refine rk_tmp (by (conv => lhs; whnf) <;> rfl) ?_; refine rk_nil ?_; (exact ⟨by simp only [resultV, Value.bool.injEq]; grind, rfl⟩)))))
  rw [if_neg (by rw [h3]; simp)]
  rcases s.input.eq_nil_or_concat with hnil | ⟨rs, ⟨d, r⟩, hin⟩
  · have e : lastRun s.input = none := by rw [hnil]; rfl
    rw [e]
    rw [hnil] at hg
    refine wp_skip ?_; refine seq_normal ?_; refine wp_seq ?_; refine wp_seq ?_; refine wp_region ?_; refine wpO_cons ?_; refine op1_mov rfl (by (conv => lhs; whnf) <;> rfl) ?_; refine wpO_cons ?_; refine op1_nilchk rfl rfl ?_; refine wpO_cons ?_; refine op1_faddr0 rfl rfl ?_; refine wpO_cons ?_; refine op1_call1 rfl (by (conv => lhs; whnf) <;> rfl) ?_
    refine wpF_mono (L42n hg) ?_
    rintro v H2 ⟨rfl, rfl⟩
    refine wpO_cons ?_; refine op1_mov rfl (by (conv => lhs; whnf) <;> rfl) ?_; refine wpO_nil ?_; refine seq_normal ?_; refine wp_seq ?_; refine wp_region ?_; refine wpO_cons ?_; refine op1_mov rfl (by (conv => lhs; whnf) <;> rfl) ?_; refine wpO_cons ?_; refine op1_bin_false rfl (by (conv => lhs; whnf) <;> rfl) (by (conv => lhs; whnf) <;> rfl) rfl ?_; refine wpO_cons ?_; refine op1_mov rfl (by (conv => lhs; whnf) <;> rfl) ?_; refine wpO_cons ?_; refine op1_skip rfl ?_; refine wpO_cons ?_; refine op1_skip rfl ?_; refine wpO_cons ?_; refine op1_skip rfl ?_; refine wpO_cons ?_; refine op1_skip rfl ?_; refine wpO_cons ?_; refine op1_pick_f rfl rfl (by (conv => lhs; whnf) <;> rfl) ?_; refine wpO_nil ?_; refine seq_normal ?_; refine wp_false rfl ?_; refine wp_skip ?_; refine seq_normal ?_; refine wp_seq ?_; refine wp_region ?_; refine wpO_cons ?_; refine op1_mov rfl (by (conv => lhs; whnf) <;> rfl) ?_; refine wpO_cons ?_; refine op1_not rfl rfl ?_; refine wpO_cons ?_; refine op1_mov rfl (by (conv => lhs; whnf) <;> rfl) ?_; refine wpO_nil ?_; refine seq_normal ?_; refine wp_ret ?_; refine ret_of ?_; refine rk_tmp (by (conv => lhs; whnf) <;> rfl) ?_; refine rk_nil ?_
    exact ⟨by rw [hnil]; rfl, rfl⟩
  · rw [List.concat_eq_append] at hin
    have hrecs := h.recs
    rw [hin] at hrecs
    obtain ⟨cs0, vr, o1, o2, rfl, rfl, hr1, hr2⟩ := hrecs.last
    have hl1 := hr1.length
    obtain ⟨ar, cr, rfl⟩ := hr2.b1
    have hlen : s.input.length = rs.length + 1 := by rw [hin]; simp
    obtain ⟨bi, offi, csi, ei, roi, rfl, hoi, hgi, hle, hat⟩ := h.inp.rd.at (i := rs.length) (by omega)
    have ha0 := hat 0 (by omega)
    have ha1 := hat 1 (by omega)
    simp only [recC, Nat.add_zero, Bool.false_eq_true, if_false] at ha0 ha1
    rw [List.getElem?_append_right (by omega), show rs.length * 2 - cs0.length = 0 by omega] at ha0
    rw [List.getElem?_append_right (by omega), show rs.length * 2 + 1 - cs0.length = 1 by omega] at ha1
    simp only [List.getElem?_cons_zero, List.getElem?_cons_succ] at ha0 ha1
    have e1 : s.input.length - 1 = rs.length := by omega
    refine wp_skip ?_; refine seq_normal ?_; refine wp_seq ?_; refine wp_seq ?_; refine wp_region ?_; refine wpO_cons ?_; refine op1_mov rfl (by (conv => lhs; whnf) <;> rfl) ?_; refine wpO_cons ?_; refine op1_nilchk rfl rfl ?_; refine wpO_cons ?_; refine op1_faddr0 rfl rfl ?_; refine wpO_cons ?_; refine op1_call1 rfl (by (conv => lhs; whnf) <;> rfl) ?_
    refine wpF_mono (L42 hg (by omega) (by omega)) ?_
    rintro v H2 ⟨rfl, rfl⟩
    rw [e1]
    refine wpO_cons ?_; refine op1_mov rfl (by (conv => lhs; whnf) <;> rfl) ?_; refine wpO_nil ?_; refine seq_normal ?_; refine wp_seq ?_; refine wp_region ?_; refine wpO_cons ?_; refine op1_mov rfl (by (conv => lhs; whnf) <;> rfl) ?_; refine wpO_cons ?_; refine op1_bin_true rfl (by (conv => lhs; whnf) <;> rfl) (by (conv => lhs; whnf) <;> rfl) rfl ?_; refine wpO_cons ?_; refine op1_mov rfl (by (conv => lhs; whnf) <;> rfl) ?_; refine wpO_cons ?_; refine op1_mov rfl (by (conv => lhs; whnf) <;> rfl) ?_; refine wpO_cons ?_; refine op1_nilchk rfl rfl ?_; refine wpO_cons ?_; refine op1_faddr rfl rfl ?_; refine wpO_cons ?_
    refine op1_load rfl rfl hgi ha1 ?_
    refine wpO_cons ?_; refine op1_pick_t rfl rfl (by (conv => lhs; whnf) <;> rfl) ?_; refine wpO_nil ?_; refine seq_normal ?_
    refine wp_cond rfl (fun h4 => ?_) (fun h4 => ?_)
    · subst h4
      have e : lastRun s.input = some d := by rw [hin]; unfold lastRun; simp
      rw [e]
      refine wp_seq ?_; refine wp_region ?_; refine wpO_cons ?_; refine op1_mov rfl (by (conv => lhs; whnf) <;> rfl) ?_; refine wpO_cons ?_; refine op1_nilchk rfl rfl ?_; refine wpO_cons ?_; refine op1_faddr rfl rfl ?_; refine wpO_cons ?_
      refine op1_load rfl rfl hgi ha0 ?_
      refine wpO_cons ?_; refine op1_len rfl rfl ?_; refine wpO_cons ?_; refine op1_lss rfl rfl rfl ?_; refine wpO_cons ?_; refine op1_mov rfl (by (conv => lhs; whnf) <;> rfl) ?_; refine wpO_nil ?_; refine seq_normal ?_; refine wp_ret ?_; refine seq_ret ?_; refine ret_of ?_; refine rk_tmp (by (conv => lhs; whnf) <;> rfl) ?_; refine rk_nil ?_
      exact ⟨by simp only [resultV, Value.bool.injEq]; grind, rfl⟩
    · subst h4
      have e : lastRun s.input = none := by rw [hin]; unfold lastRun; simp
      rw [e]
      refine wp_skip ?_; refine seq_normal ?_; refine wp_seq ?_; refine wp_region ?_; refine wpO_cons ?_; refine op1_mov rfl (by (conv => lhs; whnf) <;> rfl) ?_; refine wpO_cons ?_; refine op1_not rfl rfl ?_; refine wpO_cons ?_; refine op1_mov rfl (by (conv => lhs; whnf) <;> rfl) ?_; refine wpO_nil ?_; refine seq_normal ?_; refine wp_ret ?_; refine ret_of ?_; refine rk_tmp (by (conv => lhs; whnf) <;> rfl) ?_; refine rk_nil ?_
      exact ⟨by simp only [resultV, Value.bool.injEq]; grind, rfl⟩

def PT.process (s : PT) (b : Int) : PT :=
  if s.has 32 = true ∧ (b = 19 ∨ b = 17) then { s with stopped := decide (b = 19) }
  else if s.has 4 = true ∧ (sendOf b).isSome = true then ({ s.send ((sendOf b).getD 0) with line := [], input := [] } : PT).echo [94, b + 64, 10]
  else if s.has 1 = false then (match lastRun s.input with
    | some d => ({ s with input := s.input.dropLast ++ [(d ++ [b], true)] } : PT)
    | none => ({ s with input := s.input ++ [([b], true)] } : PT)).echo [b]
  else if b = 4 then s.endL
  else if b = 10 then s.next b
  else if b = 21 then s.kill
  else if b = 127 then s.erase
  else if 254 ≤ s.line.length then s.outs [7]
  else ({ s with line := s.line ++ [b] } : PT).echo [b]

theorem L39 {H : AHeap} {p : Nat} {s : PT} {O : List Nat} (h : RepT false H p s O) (b : Int) (hlim : s.input.length ≤ 100000) (h1 : s.line.length ≤ 1000) (h2 : s.output.length ≤ 800000) (h3 : ∀ x ∈ s.input, x.1.length ≤ 10000000) : wpF C 39 [.pointer (some ⟨p, 0, none⟩), .int .u8 b] H fun v H' => ∃ O', RepT false H' p (s.process b) O' ∧ Ext O H O' H' := by
  have hR := h
  have hlt := h.lt
  obtain ⟨vl, vi, vo, vs, cells, ol, oi, orr, oo, os, h, rfl⟩ := h
  have hg := h.get
  have hg0 := Glob.g0 h.glob
  have hg1 := Glob.g1 h.glob
  refine wpF_ofW o39 rfl rfl ?_
  refine wp_seq ?_; refine wp_region ?_; refine wpO_cons ?_; refine op1_load rfl rfl (by with_reducible assumption) rfl ?_; refine wpO_cons ?_; refine op1_mov rfl (by (conv => lhs; whnf) <;> rfl) ?_; refine wpO_cons ?_
  refine op1_sends rfl rfl rfl h.glob ?_
  refine wpO_cons ?_; refine op1_mov rfl (by (conv => lhs; whnf) <;> rfl) ?_; refine wpO_cons ?_; refine op1_extract rfl rfl rfl ?_; refine wpO_cons ?_; refine op1_extract rfl rfl rfl ?_; refine wpO_cons ?_; refine op1_mov rfl (by (conv => lhs; whnf) <;> rfl) ?_; refine wpO_cons ?_; refine op1_mov rfl (by (conv => lhs; whnf) <;> rfl) ?_; refine wpO_nil ?_; refine seq_normal ?_; refine wp_block ?_
  refine wp_cut [27] (fun vs H2 => vs = [.bool (decide (s.has 32 = true ∧ (b = 19 ∨ b = 17)))] ∧ H = H2) ?_ ?_
  · refine wp_region ?_; refine wpO_cons ?_; refine op1_mov rfl (by (conv => lhs; whnf) <;> rfl) ?_; refine wpO_cons ?_; refine op1_call2 rfl (by (conv => lhs; whnf) <;> rfl) (by (conv => lhs; whnf) <;> rfl) ?_; (refine wpF_mono (L37 hR _) ?_; rintro _ _ ⟨rfl, rfl⟩); refine wpO_cons ?_; refine op1_mov rfl (by (conv => lhs; whnf) <;> rfl) ?_; refine wpO_cons ?_; refine op1_split rfl (fun hc0 => ?_) (fun hc0 => ?_); (focus (refine op1_mov rfl (by (conv => lhs; whnf) <;> rfl) ?_; refine wpO_cons ?_; refine op1_eqlI rfl rfl rfl ?_; refine wpO_cons ?_; refine op1_mov rfl (by (conv => lhs; whnf) <;> rfl) ?_; refine wpO_cons ?_; refine op1_split rfl (fun hc1 => ?_) (fun hc1 => ?_); (focus (refine op1_skip rfl ?_; refine wpO_cons ?_; refine op1_skip rfl ?_; refine wpO_cons ?_; refine op1_pick_t rfl rfl (by (conv => lhs; whnf) <;> rfl) ?_; refine wpO_cons ?_; refine op1_pick_t rfl rfl (by (conv => lhs; whnf) <;> rfl) ?_; refine wpO_cons ?_; refine op1_mov rfl (by (conv => lhs; whnf) <;> rfl) ?_; refine wpO_nil ?_; refine cut1 (by (conv => lhs; whnf) <;> rfl) ?_; (exact ⟨by simp_all, rfl⟩))); (focus (refine op1_mov rfl (by (conv => lhs; whnf) <;> rfl) ?_; refine wpO_cons ?_; refine op1_eqlI rfl rfl rfl ?_; refine wpO_cons ?_; refine op1_pick_f rfl rfl (by (conv => lhs; whnf) <;> rfl) ?_; refine wpO_cons ?_; refine op1_pick_t rfl rfl (by (conv => lhs; whnf) <;> rfl) ?_; refine wpO_cons ?_; refine op1_mov rfl (by (conv => lhs; whnf) <;> rfl) ?_; refine wpO_nil ?_; refine cut1 (by (conv => lhs; whnf) <;> rfl) ?_; (exact ⟨by simp_all, rfl⟩))))); (focus (refine op1_skip rfl ?_; refine wpO_cons ?_; refine op1_skip rfl ?_; refine wpO_cons ?_; refine op1_skip rfl ?_; refine wpO_cons ?_; refine op1_skip rfl ?_; refine wpO_cons ?_; refine op1_skip rfl ?_; refine wpO_cons ?_; refine op1_skip rfl ?_; refine wpO_cons ?_; refine op1_pick_f rfl rfl (by (conv => lhs; whnf) <;> rfl) ?_; refine wpO_cons ?_; refine op1_mov rfl (by (conv => lhs; whnf) <;> rfl) ?_; refine wpO_nil ?_; refine cut1 (by (conv => lhs; whnf) <;> rfl) ?_; (exact ⟨by simp_all, rfl⟩)))
  rintro vs2 T2 H2 ⟨rfl, rfl⟩
  unfold PT.process
  refine wp_dec rfl (fun hc1 => ?_) (fun hc1 => ?_)
  · rw [if_pos hc1]
    refine wp_region ?_; refine wpO_cons ?_; refine op1_mov rfl (by (conv => lhs; whnf) <;> rfl) ?_; refine wpO_cons ?_; refine op1_mov rfl (by (conv => lhs; whnf) <;> rfl) ?_; refine wpO_cons ?_; refine op1_eqlI rfl rfl rfl ?_; refine wpO_cons ?_; refine op1_nilchk rfl rfl ?_; refine wpO_cons ?_; refine op1_faddr0 rfl rfl ?_; refine wpO_cons ?_; refine op1_store1 rfl rfl (by (conv => lhs; whnf) <;> rfl) rfl rfl (by with_reducible assumption) rfl ?_; refine wpO_nil ?_; refine block_normal ?_; refine nrm_of ?_; refine rk_nil ?_
    obtain ⟨q1, q2⟩ := h.setFl s.modes s.rows s.cols (decide (b = 19)) s.hung
    exact ⟨_, ⟨_, _, _, _, _, _, _, _, _, _, q1, rfl⟩, q2⟩
  rw [if_neg hc1]
  skip
  refine wp_cut [43] (fun vs H2 => vs = [.bool (decide (s.has 4 = true ∧ (sendOf b).isSome = true))] ∧ H = H2) ?_ ?_
  · refine wp_region ?_; refine wpO_cons ?_; refine op1_mov rfl (by (conv => lhs; whnf) <;> rfl) ?_; refine wpO_cons ?_; refine op1_call2 rfl (by (conv => lhs; whnf) <;> rfl) (by (conv => lhs; whnf) <;> rfl) ?_; (refine wpF_mono (L37 hR _) ?_; rintro _ _ ⟨rfl, rfl⟩); refine wpO_cons ?_; refine op1_mov rfl (by (conv => lhs; whnf) <;> rfl) ?_; refine wpO_cons ?_; refine op1_split rfl (fun hc0 => ?_) (fun hc0 => ?_); (focus (refine op1_mov rfl (by (conv => lhs; whnf) <;> rfl) ?_; refine wpO_cons ?_; refine op1_pick_t rfl rfl (by (conv => lhs; whnf) <;> rfl) ?_; refine wpO_cons ?_; refine op1_mov rfl (by (conv => lhs; whnf) <;> rfl) ?_; refine wpO_nil ?_; refine cut1 (by (conv => lhs; whnf) <;> rfl) ?_; (exact ⟨by simp_all, rfl⟩))); (focus (refine op1_skip rfl ?_; refine wpO_cons ?_; refine op1_pick_f rfl rfl (by (conv => lhs; whnf) <;> rfl) ?_; refine wpO_cons ?_; refine op1_mov rfl (by (conv => lhs; whnf) <;> rfl) ?_; refine wpO_nil ?_; refine cut1 (by (conv => lhs; whnf) <;> rfl) ?_; (exact ⟨by simp_all, rfl⟩)))
  rintro vs3 T3 H3 ⟨rfl, rfl⟩
  refine wp_dec rfl (fun hc2 => ?_) (fun hc2 => ?_)
  · rw [if_pos hc2]
    refine wp_seq ?_; refine wp_region ?_; refine wpO_cons ?_; refine op1_mov rfl (by (conv => lhs; whnf) <;> rfl) ?_; refine wpO_cons ?_; refine op1_mov rfl (by (conv => lhs; whnf) <;> rfl) ?_; refine wpO_cons ?_; refine op1_call2 rfl (by (conv => lhs; whnf) <;> rfl) (by (conv => lhs; whnf) <;> rfl) ?_
    refine wpF_mono (L44 hR _) ?_
    rintro v H2 ⟨O2, hR2, hE2⟩
    obtain ⟨vl2, vi2, vo2, vs2, cells2, ol2, oi2, orr2, oo2, os2, h2', rfl⟩ := hR2
    have hg2 := h2'.get
    have hb : b = 3 ∨ b = 26 ∨ b = 28 := by
      have := hc2.2
      unfold sendOf at this
      grind
    have hq := h2'.reset (A := .cells [.int .i64 (s.send ((sendOf b).getD 0)).modes, .int .i64 (s.send ((sendOf b).getD 0)).rows, .int .i64 (s.send ((sendOf b).getD 0)).cols, .slice none 0 0, vi2, vo2, .bool (s.send ((sendOf b).getD 0)).stopped, vs2, .bool (s.send ((sendOf b).getD 0)).hung] 0 false)
    refine wpO_nil ?_; refine seq_normal ?_; refine wp_seq ?_; refine wp_region ?_; refine wpO_cons ?_; refine op1_mov rfl (by (conv => lhs; whnf) <;> rfl) ?_; refine wpO_cons ?_; refine op1_mov rfl (by (conv => lhs; whnf) <;> rfl) ?_; refine wpO_cons ?_; refine op1_nilchk rfl rfl ?_; refine wpO_cons ?_; refine op1_faddr0 rfl rfl ?_; refine wpO_cons ?_; refine op1_store1 rfl rfl (by (conv => lhs; whnf) <;> rfl) rfl rfl (by with_reducible assumption) rfl ?_; refine wpO_cons ?_; refine op1_nilchk rfl rfl ?_; refine wpO_cons ?_; refine op1_faddr0 rfl rfl ?_; refine wpO_cons ?_; refine op1_faddr rfl rfl ?_; refine wpO_cons ?_; refine op1_store1 rfl rfl (by (conv => lhs; whnf) <;> rfl) rfl rfl (by with_reducible exact AHeap.gs_same) rfl ?_; refine wpO_nil ?_; refine seq_normal ?_; refine wp_region ?_; refine wpO_cons ?_; refine op1_mov rfl (by (conv => lhs; whnf) <;> rfl) ?_; refine wpO_cons ?_; refine op1_mov rfl (by (conv => lhs; whnf) <;> rfl) ?_; refine wpO_cons ?_; refine op1_add rfl rfl rfl (by exact wrap_u8 (by omega) (by omega)) ?_; refine wpO_cons ?_; refine op1_bslice rfl ?_; refine bk_one (by (conv => lhs; whnf) <;> rfl) rfl rfl rfl ?_; refine bk_one (by (conv => lhs; whnf) <;> rfl) rfl rfl rfl ?_; refine bk_one (by (conv => lhs; whnf) <;> rfl) rfl rfl rfl ?_; refine bk_nil ?_; refine wpO_cons ?_; refine op1_call2 rfl (by (conv => lhs; whnf) <;> rfl) (by (conv => lhs; whnf) <;> rfl) ?_
    obtain ⟨O3, hR3, hE3⟩ := hq
    have hso : (s.send ((sendOf b).getD 0)).output = s.output := by unfold PT.send; split <;> rfl
    refine wpF_mono (L71new hR3 [94, b + 64, 10] (by show (s.send ((sendOf b).getD 0)).output.length + 2 * 3 ≤ 1000000; rw [hso]; omega)) ?_
    rintro v H4 ⟨O4, hR4, hE4⟩
    refine wpO_nil ?_; refine block_normal ?_; refine nrm_of ?_; refine rk_nil ?_
    exact ⟨O4, hR4, (hE2.trans hE3 hlt).trans hE4 hlt⟩
  rw [if_neg hc2]
  refine wp_seq ?_; refine wp_region ?_; refine wpO_cons ?_; refine op1_mov rfl (by (conv => lhs; whnf) <;> rfl) ?_; refine wpO_cons ?_; refine op1_call2 rfl (by (conv => lhs; whnf) <;> rfl) (by (conv => lhs; whnf) <;> rfl) ?_; (refine wpF_mono (L37 hR _) ?_; rintro _ _ ⟨rfl, rfl⟩); refine wpO_cons ?_; refine op1_not rfl rfl ?_; refine wpO_cons ?_; refine op1_mov rfl (by (conv => lhs; whnf) <;> rfl) ?_; refine wpO_nil ?_; refine seq_normal ?_
  refine wp_cond rfl (fun hc3 => ?_) (fun hc3 => ?_)
  · have hc3 : s.has 1 = false := by simpa using hc3
    rw [if_pos hc3]
    obtain ⟨ai, li, ci, rfl, hli⟩ := h.inp.shape
    obtain rfl : li = s.input.length := by have := h.recs.length; omega
    skip
    refine wp_cut [] (fun _ H2 => ∃ O2, RepT false H2 p (match lastRun s.input with
      | some d => ({ s with input := s.input.dropLast ++ [(d ++ [b], true)] } : PT)
      | none => ({ s with input := s.input ++ [([b], true)] } : PT)) O2 ∧ Ext (p :: (ol ++ (oi ++ (orr ++ (oo ++ os))))) H O2 H2) ?_ ?_
    · rcases s.input.eq_nil_or_concat with hnil | ⟨rs, ⟨d, r⟩, hin⟩
      · have e : lastRun s.input = none := by rw [hnil]; rfl
        rw [e]
        refine wp_seq ?_; refine wp_region ?_; refine wpO_cons ?_; refine op1_mov rfl (by (conv => lhs; whnf) <;> rfl) ?_; refine wpO_cons ?_; refine op1_nilchk rfl rfl ?_; refine wpO_cons ?_; refine op1_faddr0 rfl rfl ?_; refine wpO_cons ?_; refine op1_call1 rfl (by (conv => lhs; whnf) <;> rfl) ?_
        refine wpF_mono (L42n (by rw [hnil] at hg; exact hg)) ?_
        rintro v H2 ⟨rfl, rfl⟩
        refine wpO_cons ?_; refine op1_mov rfl (by (conv => lhs; whnf) <;> rfl) ?_; refine wpO_nil ?_; refine seq_normal ?_; refine wp_seq ?_; refine wp_region ?_; refine wpO_cons ?_; refine op1_mov rfl (by (conv => lhs; whnf) <;> rfl) ?_; refine wpO_cons ?_; refine op1_bin_false rfl (by (conv => lhs; whnf) <;> rfl) (by (conv => lhs; whnf) <;> rfl) rfl ?_; refine wpO_cons ?_; refine op1_mov rfl (by (conv => lhs; whnf) <;> rfl) ?_; refine wpO_cons ?_; refine op1_skip rfl ?_; refine wpO_cons ?_; refine op1_skip rfl ?_; refine wpO_cons ?_; refine op1_skip rfl ?_; refine wpO_cons ?_; refine op1_skip rfl ?_; refine wpO_cons ?_; refine op1_pick_f rfl rfl (by (conv => lhs; whnf) <;> rfl) ?_; refine wpO_nil ?_; refine seq_normal ?_; refine wp_false rfl ?_; refine wp_region ?_; refine wpO_cons ?_; refine op1_mov rfl (by (conv => lhs; whnf) <;> rfl) ?_; refine wpO_cons ?_; refine op1_nilchk rfl rfl ?_; refine wpO_cons ?_; refine op1_faddr0 rfl rfl ?_; refine wpO_cons ?_; refine op1_mov rfl (by (conv => lhs; whnf) <;> rfl) ?_; refine wpO_cons ?_; refine op1_bslice rfl ?_; refine bk_one (by (conv => lhs; whnf) <;> rfl) rfl rfl rfl ?_; refine bk_nil ?_; refine wpO_cons ?_; refine op1_build rfl ?_; refine bk_one (by (conv => lhs; whnf) <;> rfl) rfl rfl rfl ?_; refine bk_one (by (conv => lhs; whnf) <;> rfl) rfl rfl rfl ?_; refine bk_nil ?_; refine wpO_cons ?_; refine op1_call2 rfl (by (conv => lhs; whnf) <;> rfl) (by (conv => lhs; whnf) <;> rfl) ?_
        have hgz := AHeap.ga_lt (o := .cells [.int .u8 b] 1 false) h.lt.1 hg
        have hiz := h.inp.add h.lt.2.2.1 (.cells [.int .u8 b] 1 false)
        refine wpF_mono (L43 hgz hiz h.pn.2.1 (by have := h.lt.1; simp only [AHeap.next_add]; omega) (fun b hb => by have := h.lt.2.2.1 b hb; simp only [AHeap.next_add]; omega) (by omega)) ?_
        rintro v H2 ⟨H1, vi', oi', rfl, hi', hE⟩
        have hv : SlO (H.add (.cells (bts [b]) 1 false)) 1 (.slice (some ⟨H.next, 0, none⟩) 1 1) (bts [b]) [H.next] := SlO.new rfl
        obtain ⟨O3, q1, q2⟩ := h.addRec (d := [b]) (r := true) hv hi' hE
        refine wpO_nil ?_; refine cut0  ?_
        exact ⟨O3, q1, q2⟩
      · rw [List.concat_eq_append] at hin
        have hrecs := h.recs
        rw [hin] at hrecs
        obtain ⟨cs0, vr, o1, o2, rfl, rfl, hr1, hr2⟩ := hrecs.last
        have hl1 := hr1.length
        obtain ⟨ar, cr, rfl⟩ := hr2.b1
        have hlen : s.input.length = rs.length + 1 := by rw [hin]; simp
        obtain ⟨bi, offi, csi, rfl, rfl, hgi, hle, hat⟩ := h.inp.at (i := rs.length) (by omega)
        have ha0 := hat 0 (by omega)
        have ha1 := hat 1 (by omega)
        simp only [recC, Nat.add_zero, Bool.false_eq_true, if_false] at ha0 ha1
        rw [List.getElem?_append_right (by omega), show rs.length * 2 - cs0.length = 0 by omega] at ha0
        rw [List.getElem?_append_right (by omega), show rs.length * 2 + 1 - cs0.length = 1 by omega] at ha1
        simp only [List.getElem?_cons_zero, List.getElem?_cons_succ] at ha0 ha1
        have e1 : s.input.length - 1 = rs.length := by omega
        have hdl := h3 (d, r) (by rw [hin]; simp)
        refine wp_seq ?_; refine wp_region ?_; refine wpO_cons ?_; refine op1_mov rfl (by (conv => lhs; whnf) <;> rfl) ?_; refine wpO_cons ?_; refine op1_nilchk rfl rfl ?_; refine wpO_cons ?_; refine op1_faddr0 rfl rfl ?_; refine wpO_cons ?_; refine op1_call1 rfl (by (conv => lhs; whnf) <;> rfl) ?_
        refine wpF_mono (L42 hg (by omega) (by omega)) ?_
        rintro v H2 ⟨rfl, rfl⟩
        rw [e1]
        refine wpO_cons ?_; refine op1_mov rfl (by (conv => lhs; whnf) <;> rfl) ?_; refine wpO_nil ?_; refine seq_normal ?_; refine wp_seq ?_; refine wp_region ?_; refine wpO_cons ?_; refine op1_mov rfl (by (conv => lhs; whnf) <;> rfl) ?_; refine wpO_cons ?_; refine op1_bin_true rfl (by (conv => lhs; whnf) <;> rfl) (by (conv => lhs; whnf) <;> rfl) rfl ?_; refine wpO_cons ?_; refine op1_mov rfl (by (conv => lhs; whnf) <;> rfl) ?_; refine wpO_cons ?_; refine op1_mov rfl (by (conv => lhs; whnf) <;> rfl) ?_; refine wpO_cons ?_; refine op1_nilchk rfl rfl ?_; refine wpO_cons ?_; refine op1_faddr rfl rfl ?_; refine wpO_cons ?_
        refine op1_load rfl rfl hgi ha1 ?_
        refine wpO_cons ?_; refine op1_pick_t rfl rfl (by (conv => lhs; whnf) <;> rfl) ?_; refine wpO_nil ?_; refine seq_normal ?_
        refine wp_cond rfl (fun h4 => ?_) (fun h4 => ?_)
        · subst h4
          have e : lastRun s.input = some d := by rw [hin]; unfold lastRun; simp
          rw [e]
          refine wp_region ?_; refine wpO_cons ?_; refine op1_mov rfl (by (conv => lhs; whnf) <;> rfl) ?_; refine wpO_cons ?_; refine op1_mov rfl (by (conv => lhs; whnf) <;> rfl) ?_; refine wpO_cons ?_; refine op1_nilchk rfl rfl ?_; refine wpO_cons ?_; refine op1_faddr rfl rfl ?_; refine wpO_cons ?_
          refine op1_load rfl rfl hgi ha0 ?_
          refine wpO_cons ?_; refine op1_mov rfl (by (conv => lhs; whnf) <;> rfl) ?_; refine wpO_cons ?_; refine op1_bslice rfl ?_; refine bk_one (by (conv => lhs; whnf) <;> rfl) rfl rfl rfl ?_; refine bk_nil ?_; refine wpO_cons ?_
          have hlo2 : ∀ b ∈ o2, b < H.next := fun b hb => h.lt.2.2.2.1 b (by simp [hb])
          refine op1_appendN rfl rfl rfl rfl AHeap.ga_same rfl rfl (hr2.add hlo2 _) (by simp only at hdl; omega) (fun b hb => by have := hlo2 b hb; simp only [AHeap.next_add]; omega) ?_
          intro a' c' o' H3 hO3 hE3
          have hbi := h.lt.2.2.1 bi (by simp)
          have hbo : bi ∉ o2 := by have := h.nd; simp only [List.nodup_cons, List.nodup_append, List.mem_append, List.mem_cons] at this; grind
          have hg3 : H3.get bi = .cells csi 2 false := (hE3.keep bi (by simp only [AHeap.next_add]; omega) hbo).trans (AHeap.ga_lt hbi hgi)
          refine wpO_cons ?_; refine op1_nilchk rfl rfl ?_; refine wpO_cons ?_; refine op1_faddr rfl rfl ?_; refine wpO_cons ?_
          refine op1_store1 rfl rfl (by (conv => lhs; whnf) <;> rfl) rfl rfl hg3 (Nat.ble_eq_true_of_le (by omega)) ?_
          refine wpO_nil ?_; refine cut0  ?_
          have hE4 := (Ext.add o2 H (.cells [.int .u8 b] 1 false)).trans hE3 hlo2
          obtain ⟨O4, q1, q2⟩ := h.setRun (d' := d ++ [b]) hr1 hgi (by rw [bts_append]; exact hO3) hE4
          have e5 : s.input.dropLast = rs := by rw [hin]; simp
          rw [e5]
          exact ⟨O4, q1, q2⟩
        · subst h4
          have e : lastRun s.input = none := by rw [hin]; unfold lastRun; simp
          rw [e]
          refine wp_region ?_; refine wpO_cons ?_; refine op1_mov rfl (by (conv => lhs; whnf) <;> rfl) ?_; refine wpO_cons ?_; refine op1_nilchk rfl rfl ?_; refine wpO_cons ?_; refine op1_faddr0 rfl rfl ?_; refine wpO_cons ?_; refine op1_mov rfl (by (conv => lhs; whnf) <;> rfl) ?_; refine wpO_cons ?_; refine op1_bslice rfl ?_; refine bk_one (by (conv => lhs; whnf) <;> rfl) rfl rfl rfl ?_; refine bk_nil ?_; refine wpO_cons ?_; refine op1_build rfl ?_; refine bk_one (by (conv => lhs; whnf) <;> rfl) rfl rfl rfl ?_; refine bk_one (by (conv => lhs; whnf) <;> rfl) rfl rfl rfl ?_; refine bk_nil ?_; refine wpO_cons ?_; refine op1_call2 rfl (by (conv => lhs; whnf) <;> rfl) (by (conv => lhs; whnf) <;> rfl) ?_
          have hgz := AHeap.ga_lt (o := .cells [.int .u8 b] 1 false) h.lt.1 hg
          have hiz := h.inp.add h.lt.2.2.1 (.cells [.int .u8 b] 1 false)
          refine wpF_mono (L43 hgz hiz h.pn.2.1 (by have := h.lt.1; simp only [AHeap.next_add]; omega) (fun b hb => by have := h.lt.2.2.1 b hb; simp only [AHeap.next_add]; omega) (by omega)) ?_
          rintro v H2 ⟨H1, vi', oi', rfl, hi', hE⟩
          have hv : SlO (H.add (.cells (bts [b]) 1 false)) 1 (.slice (some ⟨H.next, 0, none⟩) 1 1) (bts [b]) [H.next] := SlO.new rfl
          obtain ⟨O3, q1, q2⟩ := h.addRec (d := [b]) (r := true) hv hi' hE
          refine wpO_nil ?_; refine cut0  ?_
          exact ⟨O3, q1, q2⟩
    rintro vs4 T4 H2 ⟨O2, hR2, hE2⟩
    refine wp_region ?_; refine wpO_cons ?_; refine op1_mov rfl (by (conv => lhs; whnf) <;> rfl) ?_; refine wpO_cons ?_; refine op1_mov rfl (by (conv => lhs; whnf) <;> rfl) ?_; refine wpO_cons ?_; refine op1_bslice rfl ?_; refine bk_one (by (conv => lhs; whnf) <;> rfl) rfl rfl rfl ?_; refine bk_nil ?_; refine wpO_cons ?_; refine op1_call2 rfl (by (conv => lhs; whnf) <;> rfl) (by (conv => lhs; whnf) <;> rfl) ?_
    refine wpF_mono (L71new hR2 [b] (by split <;> (show s.output.length + 2 * 1 ≤ 1000000; omega))) ?_
    rintro v H4 ⟨O4, hR4, hE4⟩
    refine wpO_nil ?_; refine block_normal ?_; refine nrm_of ?_; refine rk_nil ?_
    exact ⟨O4, hR4, hE2.trans hE4 hlt⟩
  have hc3 : s.has 1 = true := by simpa using hc3
  rw [if_neg (by rw [hc3]; simp)]
  by_cases h4 : b = 4
  · subst h4
    rw [if_pos rfl]
    refine wp_seq ?_; refine wp_region ?_; refine wpO_cons ?_; refine op1_load rfl rfl (by with_reducible assumption) rfl ?_; refine wpO_cons ?_; refine op1_mov rfl (by (conv => lhs; whnf) <;> rfl) ?_; refine wpO_cons ?_
    refine op1_edits rfl rfl rfl h.glob rfl ?_
    refine wpO_cons ?_; refine op1_bin_true rfl (by (conv => lhs; whnf) <;> rfl) (by (conv => lhs; whnf) <;> rfl) rfl ?_; refine wpO_cons ?_; refine op1_mov rfl (by (conv => lhs; whnf) <;> rfl) ?_; refine wpO_nil ?_; refine seq_normal ?_; refine wp_true rfl ?_; refine wp_region ?_; refine wpO_cons ?_; refine op1_load rfl rfl (by with_reducible assumption) rfl ?_; refine wpO_cons ?_; refine op1_mov rfl (by (conv => lhs; whnf) <;> rfl) ?_; refine wpO_cons ?_
    refine op1_edits rfl rfl rfl h.glob rfl ?_
    refine wpO_cons ?_; refine op1_mov rfl (by (conv => lhs; whnf) <;> rfl) ?_; refine wpO_cons ?_; refine op1_mov rfl (by (conv => lhs; whnf) <;> rfl) ?_; refine wpO_cons ?_; refine op1_dyn2 rfl rfl (by (conv => lhs; whnf) <;> rfl) (by (conv => lhs; whnf) <;> rfl) ?_
    refine wpF_mono (L115 hR 4 hlim) ?_
    rintro v H2 ⟨O2, hR2, hE2⟩
    refine wpO_nil ?_; refine block_normal ?_; refine nrm_of ?_; refine rk_nil ?_
    exact ⟨O2, hR2, hE2⟩
  by_cases h10 : b = 10
  · subst h10
    rw [if_neg (by decide), if_pos rfl]
    refine wp_seq ?_; refine wp_region ?_; refine wpO_cons ?_; refine op1_load rfl rfl (by with_reducible assumption) rfl ?_; refine wpO_cons ?_; refine op1_mov rfl (by (conv => lhs; whnf) <;> rfl) ?_; refine wpO_cons ?_
    refine op1_edits rfl rfl rfl h.glob rfl ?_
    refine wpO_cons ?_; refine op1_bin_true rfl (by (conv => lhs; whnf) <;> rfl) (by (conv => lhs; whnf) <;> rfl) rfl ?_; refine wpO_cons ?_; refine op1_mov rfl (by (conv => lhs; whnf) <;> rfl) ?_; refine wpO_nil ?_; refine seq_normal ?_; refine wp_true rfl ?_; refine wp_region ?_; refine wpO_cons ?_; refine op1_load rfl rfl (by with_reducible assumption) rfl ?_; refine wpO_cons ?_; refine op1_mov rfl (by (conv => lhs; whnf) <;> rfl) ?_; refine wpO_cons ?_
    refine op1_edits rfl rfl rfl h.glob rfl ?_
    refine wpO_cons ?_; refine op1_mov rfl (by (conv => lhs; whnf) <;> rfl) ?_; refine wpO_cons ?_; refine op1_mov rfl (by (conv => lhs; whnf) <;> rfl) ?_; refine wpO_cons ?_; refine op1_dyn2 rfl rfl (by (conv => lhs; whnf) <;> rfl) (by (conv => lhs; whnf) <;> rfl) ?_
    refine wpF_mono (L116 hR 10 hlim (by omega) (by omega)) ?_
    rintro v H2 ⟨O2, hR2, hE2⟩
    refine wpO_nil ?_; refine block_normal ?_; refine nrm_of ?_; refine rk_nil ?_
    exact ⟨O2, hR2, hE2⟩
  by_cases h21 : b = 21
  · subst h21
    rw [if_neg (by decide), if_neg (by decide), if_pos rfl]
    refine wp_seq ?_; refine wp_region ?_; refine wpO_cons ?_; refine op1_load rfl rfl (by with_reducible assumption) rfl ?_; refine wpO_cons ?_; refine op1_mov rfl (by (conv => lhs; whnf) <;> rfl) ?_; refine wpO_cons ?_
    refine op1_edits rfl rfl rfl h.glob rfl ?_
    refine wpO_cons ?_; refine op1_bin_true rfl (by (conv => lhs; whnf) <;> rfl) (by (conv => lhs; whnf) <;> rfl) rfl ?_; refine wpO_cons ?_; refine op1_mov rfl (by (conv => lhs; whnf) <;> rfl) ?_; refine wpO_nil ?_; refine seq_normal ?_; refine wp_true rfl ?_; refine wp_region ?_; refine wpO_cons ?_; refine op1_load rfl rfl (by with_reducible assumption) rfl ?_; refine wpO_cons ?_; refine op1_mov rfl (by (conv => lhs; whnf) <;> rfl) ?_; refine wpO_cons ?_
    refine op1_edits rfl rfl rfl h.glob rfl ?_
    refine wpO_cons ?_; refine op1_mov rfl (by (conv => lhs; whnf) <;> rfl) ?_; refine wpO_cons ?_; refine op1_mov rfl (by (conv => lhs; whnf) <;> rfl) ?_; refine wpO_cons ?_; refine op1_dyn2 rfl rfl (by (conv => lhs; whnf) <;> rfl) (by (conv => lhs; whnf) <;> rfl) ?_
    refine wpF_mono (L114 hR 21 h1 h2) ?_
    rintro v H2 ⟨O2, hR2, hE2⟩
    refine wpO_nil ?_; refine block_normal ?_; refine nrm_of ?_; refine rk_nil ?_
    exact ⟨O2, hR2, hE2⟩
  by_cases h127 : b = 127
  · subst h127
    rw [if_neg (by decide), if_neg (by decide), if_neg (by decide), if_pos rfl]
    refine wp_seq ?_; refine wp_region ?_; refine wpO_cons ?_; refine op1_load rfl rfl (by with_reducible assumption) rfl ?_; refine wpO_cons ?_; refine op1_mov rfl (by (conv => lhs; whnf) <;> rfl) ?_; refine wpO_cons ?_
    refine op1_edits rfl rfl rfl h.glob rfl ?_
    refine wpO_cons ?_; refine op1_bin_true rfl (by (conv => lhs; whnf) <;> rfl) (by (conv => lhs; whnf) <;> rfl) rfl ?_; refine wpO_cons ?_; refine op1_mov rfl (by (conv => lhs; whnf) <;> rfl) ?_; refine wpO_nil ?_; refine seq_normal ?_; refine wp_true rfl ?_; refine wp_region ?_; refine wpO_cons ?_; refine op1_load rfl rfl (by with_reducible assumption) rfl ?_; refine wpO_cons ?_; refine op1_mov rfl (by (conv => lhs; whnf) <;> rfl) ?_; refine wpO_cons ?_
    refine op1_edits rfl rfl rfl h.glob rfl ?_
    refine wpO_cons ?_; refine op1_mov rfl (by (conv => lhs; whnf) <;> rfl) ?_; refine wpO_cons ?_; refine op1_mov rfl (by (conv => lhs; whnf) <;> rfl) ?_; refine wpO_cons ?_; refine op1_dyn2 rfl rfl (by (conv => lhs; whnf) <;> rfl) (by (conv => lhs; whnf) <;> rfl) ?_
    refine wpF_mono (L113 hR 127 (by omega) (by omega)) ?_
    rintro v H2 ⟨O2, hR2, hE2⟩
    refine wpO_nil ?_; refine block_normal ?_; refine nrm_of ?_; refine rk_nil ?_
    exact ⟨O2, hR2, hE2⟩
  rw [if_neg h4, if_neg h10, if_neg h21, if_neg h127]
  obtain ⟨al, cl, rfl⟩ := h.line.b1
  refine wp_seq ?_; refine wp_region ?_; refine wpO_cons ?_; refine op1_load rfl rfl (by with_reducible assumption) rfl ?_; refine wpO_cons ?_; refine op1_mov rfl (by (conv => lhs; whnf) <;> rfl) ?_; refine wpO_cons ?_
  refine op1_edits rfl rfl rfl h.glob (edits_none h4 h10 h21 h127) ?_
  refine wpO_cons ?_; refine op1_bin_false rfl (by (conv => lhs; whnf) <;> rfl) (by (conv => lhs; whnf) <;> rfl) rfl ?_; refine wpO_cons ?_; refine op1_mov rfl (by (conv => lhs; whnf) <;> rfl) ?_; refine wpO_nil ?_; refine seq_normal ?_; refine wp_false rfl ?_; refine wp_seq ?_; refine wp_region ?_; refine wpO_cons ?_; refine op1_mov rfl (by (conv => lhs; whnf) <;> rfl) ?_; refine wpO_cons ?_; refine op1_nilchk rfl rfl ?_; refine wpO_cons ?_; refine op1_faddr0 rfl rfl ?_; refine wpO_cons ?_; refine op1_load rfl rfl (by with_reducible assumption) rfl ?_; refine wpO_cons ?_; refine op1_len rfl rfl ?_; refine wpO_cons ?_; refine op1_geq rfl rfl rfl ?_; refine wpO_cons ?_; refine op1_mov rfl (by (conv => lhs; whnf) <;> rfl) ?_; refine wpO_nil ?_; refine seq_normal ?_
  refine wp_dec rfl (fun hc4 => ?_) (fun hc4 => ?_)
  · rw [if_pos (by omega)]
    refine wp_region ?_; refine wpO_cons ?_; refine op1_mov rfl (by (conv => lhs; whnf) <;> rfl) ?_; refine wpO_cons ?_; refine op1_bslice rfl ?_; refine bk_one (by (conv => lhs; whnf) <;> rfl) rfl rfl rfl ?_; refine bk_nil ?_; refine wpO_cons ?_; refine op1_call2 rfl (by (conv => lhs; whnf) <;> rfl) (by (conv => lhs; whnf) <;> rfl) ?_
    refine wpF_mono (L41new hR [7] (by show s.output.length + 2 * 1 ≤ 1000000; omega)) ?_
    rintro v H4 ⟨O4, hR4, hE4⟩
    refine wpO_nil ?_; refine block_normal ?_; refine nrm_of ?_; refine rk_nil ?_
    exact ⟨O4, hR4, hE4⟩
  · rw [if_neg (by omega)]
    have hol := h.lt.2.1
    refine wp_seq ?_; refine wp_region ?_; refine wpO_cons ?_; refine op1_mov rfl (by (conv => lhs; whnf) <;> rfl) ?_; refine wpO_cons ?_; refine op1_mov rfl (by (conv => lhs; whnf) <;> rfl) ?_; refine wpO_cons ?_; refine op1_nilchk rfl rfl ?_; refine wpO_cons ?_; refine op1_faddr0 rfl rfl ?_; refine wpO_cons ?_; refine op1_load rfl rfl (by with_reducible assumption) rfl ?_; refine wpO_cons ?_; refine op1_mov rfl (by (conv => lhs; whnf) <;> rfl) ?_; refine wpO_cons ?_; refine op1_bslice rfl ?_; refine bk_one (by (conv => lhs; whnf) <;> rfl) rfl rfl rfl ?_; refine bk_nil ?_; refine wpO_cons ?_
    refine op1_appendN rfl rfl rfl rfl AHeap.ga_same rfl rfl (h.line.add hol _) (by omega) (fun b hb => by have := hol b hb; simp only [AHeap.next_add]; omega) ?_
    intro a' c' o' H3 hO3 hE3
    have hg3 := h.get3 hE3 h.pn.1
    have hE4 := (Ext.add ol H (.cells [.int .u8 b] 1 false)).trans hE3 hol
    obtain ⟨O1, hR1, hE1⟩ := h.setLine (line' := s.line ++ [b]) (by rw [bts_append]; exact hO3) hE4
    refine wpO_cons ?_; refine op1_nilchk rfl rfl ?_; refine wpO_cons ?_; refine op1_faddr0 rfl rfl ?_; refine wpO_cons ?_; refine op1_store1 rfl rfl (by (conv => lhs; whnf) <;> rfl) rfl rfl (by with_reducible assumption) rfl ?_; refine wpO_nil ?_; refine seq_normal ?_; refine wp_region ?_; refine wpO_cons ?_; refine op1_mov rfl (by (conv => lhs; whnf) <;> rfl) ?_; refine wpO_cons ?_; refine op1_mov rfl (by (conv => lhs; whnf) <;> rfl) ?_; refine wpO_cons ?_; refine op1_bslice rfl ?_; refine bk_one (by (conv => lhs; whnf) <;> rfl) rfl rfl rfl ?_; refine bk_nil ?_; refine wpO_cons ?_; refine op1_call2 rfl (by (conv => lhs; whnf) <;> rfl) (by (conv => lhs; whnf) <;> rfl) ?_
    refine wpF_mono (L71new hR1 [b] (by show s.output.length + 2 * 1 ≤ 1000000; omega)) ?_
    rintro v H4 ⟨O4, hR4, hE5⟩
    refine wpO_nil ?_; refine block_normal ?_; refine nrm_of ?_; refine rk_nil ?_
    exact ⟨O4, hR4, hE1.trans hE5 hlt⟩
end Go.E.Pty
