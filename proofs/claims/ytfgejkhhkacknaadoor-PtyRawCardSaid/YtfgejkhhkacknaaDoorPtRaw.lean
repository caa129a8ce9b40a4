/- PtyRaw, as the evaluator runs it: true, whatever is typed. -/
import Derived.Test.YtfgejkhhkacknaaDoorPtF5
namespace Go.E.Pty
open Go Go.E Go.Proofs.YtfgejkhhkacknaaDoor.base Go.Proofs.YtfgejkhhkacknaaDoor Go.Proofs
set_option linter.unusedVariables false
set_option linter.unusedSimpArgs false
set_option maxRecDepth 100000

def rawS (e : Bool) (acc : List Int) : PT := ⟨if e then 2 else 0, 24, 80, [], if acc = [] then [] else [(acc, true)], if e then acc else [], false, [], false⟩
theorem rawS_has (e : Bool) (acc : List Int) : (rawS e acc).has 1 = false ∧ (rawS e acc).has 2 = e ∧ (rawS e acc).has 4 = false ∧ (rawS e acc).has 8 = false ∧ (rawS e acc).has 16 = false ∧ (rawS e acc).has 32 = false := by
  cases e
  · exact ⟨show (!decide (bitAnd .i64 0 1 = 0)) = false by decide +kernel, show (!decide (bitAnd .i64 0 2 = 0)) = false by decide +kernel, show (!decide (bitAnd .i64 0 4 = 0)) = false by decide +kernel, show (!decide (bitAnd .i64 0 8 = 0)) = false by decide +kernel, show (!decide (bitAnd .i64 0 16 = 0)) = false by decide +kernel, show (!decide (bitAnd .i64 0 32 = 0)) = false by decide +kernel⟩
  · exact ⟨show (!decide (bitAnd .i64 2 1 = 0)) = false by decide +kernel, show (!decide (bitAnd .i64 2 2 = 0)) = true by decide +kernel, show (!decide (bitAnd .i64 2 4 = 0)) = false by decide +kernel, show (!decide (bitAnd .i64 2 8 = 0)) = false by decide +kernel, show (!decide (bitAnd .i64 2 16 = 0)) = false by decide +kernel, show (!decide (bitAnd .i64 2 32 = 0)) = false by decide +kernel⟩
theorem rawS_run (e : Bool) (acc : List Int) : lastRun (rawS e acc).input = if acc = [] then none else some acc := by
  unfold rawS lastRun
  by_cases h : acc = []
  · simp [h]
  · simp [h]
theorem rawS_step (e : Bool) (acc : List Int) (b : Int) (h : acc.length < 255) : (rawS e acc).room b = true ∧ (rawS e acc).process b = rawS e (acc ++ [b]) := by
  obtain ⟨h1, h2, h4, h8, h16, h32⟩ := rawS_has e acc
  have hr := rawS_run e acc
  have ho : (rawS e acc).output.length ≤ acc.length := by unfold rawS; cases e <;> simp
  constructor
  · unfold PT.room
    rw [h1, h4, h32, hr, if_neg (by split <;> omega), if_neg (by simp), if_neg (by simp)]
    by_cases ha : acc = []
    · simp [ha, rawS]
    · simp [ha, h]
  · unfold PT.process
    rw [h1, h4, h32, hr, if_neg (by simp), if_neg (by simp), if_pos rfl]
    have key : ∀ (inp : List (List Int × Bool)), ({ rawS e acc with input := inp } : PT).echo [b] = { rawS e acc with input := inp, output := (rawS e acc).output ++ (if e then [b] else []) } := by
      intro inp
      have k2 : ({ rawS e acc with input := inp } : PT).has 2 = e := h2
      have k16 : ({ rawS e acc with input := inp } : PT).has 16 = false := h16
      unfold PT.echo
      rw [k2]
      cases e
      · simp
      · simp only [if_true, PT.outs, List.foldl_cons, List.foldl_nil, PT.out1, k16]
        simp
    by_cases ha : acc = []
    · rw [if_pos ha]
      subst ha
      rw [key]
      cases e <;> simp [rawS]
    · rw [if_neg ha]
      simp only
      rw [key]
      cases e <;> simp [rawS, ha]

theorem rawS_go (e : Bool) : ∀ (l acc : List Int), acc.length + l.length ≤ 200 → typeGo (rawS e acc) l = (l.length, rawS e (acc ++ l))
  | [], acc, _ => by simp [typeGo]
  | b :: l, acc, h => by
    simp only [List.length_cons] at h
    obtain ⟨h1, h2⟩ := rawS_step e acc b (by omega)
    have hm : (rawS e acc).map b = b := by unfold PT.map; rw [(rawS_has e acc).2.2.2.1]; simp
    simp only [typeGo, hm]
    rw [if_pos h1, h2, rawS_go e l (acc ++ [b]) (by simp; omega)]
    simp

theorem L3 {H : AHeap} (hgl : Glob objs H) (e : Bool) {vd : Value} {l : List Int} {r : List Nat} (hd : RdS H 1 vd (bts l) r) (hr : ∀ b ∈ r, b < H.next) : wpF C 3 [.bool e, vd] H fun v H' => v = .bool true := by
  obtain ⟨a, c, rfl⟩ := hd.b1
  refine wpF_ofW o3 rfl rfl ?_
  refine wp_seq ?_; refine wp_region ?_; refine wpO_cons ?_; refine op1_mov rfl (by (conv => lhs; whnf) <;> rfl) ?_; refine wpO_nil ?_; refine seq_normal ?_; refine wp_seq ?_; refine wp_region ?_; refine wpO_cons ?_; refine op1_mov rfl (by (conv => lhs; whnf) <;> rfl) ?_; refine wpO_nil ?_; refine seq_normal ?_
  refine wp_cut [5] (fun vs H2 => vs = [.int .i64 (if e then 2 else 0)] ∧ H = H2) ?_ ?_
  · refine wp_seq ?_; refine wp_region ?_; refine wpO_cons ?_; refine op1_mov rfl (by (conv => lhs; whnf) <;> rfl) ?_; refine wpO_nil ?_; refine seq_normal ?_; refine wp_cond rfl (fun hc0 => ?_) (fun hc0 => ?_); (focus (refine wp_region ?_; refine wpO_cons ?_; refine op1_mov rfl (by (conv => lhs; whnf) <;> rfl) ?_; refine wpO_nil ?_; refine cut1 (by (conv => lhs; whnf) <;> rfl) ?_; (exact ⟨by simp_all, rfl⟩))); (focus (refine wp_skip ?_; refine cut1 (by (conv => lhs; whnf) <;> rfl) ?_; (exact ⟨by simp_all, rfl⟩)))
  rintro vs' T1 H2 ⟨rfl, rfl⟩
  refine wp_seq ?_; refine wp_region ?_; refine wpO_cons ?_; refine op1_mov rfl (by (conv => lhs; whnf) <;> rfl) ?_; refine wpO_cons ?_; refine op1_call1 rfl (by (conv => lhs; whnf) <;> rfl) ?_
  refine wpF_mono (L9 hgl (by cases e <;> simp)) ?_
  rintro v H1 ⟨p, O, rfl, hR, hE⟩
  have hgl1 := hR.glob
  refine wpO_cons ?_; refine op1_mov rfl (by (conv => lhs; whnf) <;> rfl) ?_; refine wpO_cons ?_; refine op1_extract rfl rfl rfl ?_; refine wpO_cons ?_; refine op1_extract rfl rfl rfl ?_; refine wpO_cons ?_; refine op1_mov rfl (by (conv => lhs; whnf) <;> rfl) ?_; refine wpO_cons ?_; refine op1_mov rfl (by (conv => lhs; whnf) <;> rfl) ?_; refine wpO_nil ?_; refine seq_normal ?_; refine wp_seq ?_; refine wp_seq ?_; refine wp_region ?_; refine wpO_cons ?_; refine op1_mov rfl (by (conv => lhs; whnf) <;> rfl) ?_; refine wpO_cons ?_; refine op1_len rfl rfl ?_; refine wpO_cons ?_; refine op1_gtr rfl rfl rfl ?_; refine wpO_cons ?_; refine op1_mov rfl (by (conv => lhs; whnf) <;> rfl) ?_; refine wpO_cons ?_
  refine op1_dec rfl (fun hc => ?_) (fun hc => ?_)
  · refine op1_skip rfl ?_; refine wpO_cons ?_; refine op1_skip rfl ?_; refine wpO_cons ?_; refine op1_pick_t rfl rfl (by (conv => lhs; whnf) <;> rfl) ?_; refine wpO_cons ?_; refine op1_mov rfl (by (conv => lhs; whnf) <;> rfl) ?_; refine wpO_cons ?_; refine op1_skip rfl ?_; refine wpO_cons ?_; refine op1_skip rfl ?_; refine wpO_cons ?_; refine op1_pick_t rfl rfl (by (conv => lhs; whnf) <;> rfl) ?_; refine wpO_nil ?_; refine seq_normal ?_; refine wp_true rfl ?_; refine wp_seq ?_; refine wp_region ?_; refine wpO_cons ?_; refine op1_call0 rfl  ?_; refine wpF_known rfl hgl1 ?_; refine wpO_cons ?_; refine op1_mov rfl (by (conv => lhs; whnf) <;> rfl) ?_; refine wpO_cons ?_; refine op1_mov rfl (by (conv => lhs; whnf) <;> rfl) ?_; refine wpO_cons ?_; refine op1_eqlI rfl rfl rfl ?_; refine wpO_cons ?_; refine op1_pick_t rfl rfl (by (conv => lhs; whnf) <;> rfl) ?_; refine wpO_cons ?_; refine op1_mov rfl (by (conv => lhs; whnf) <;> rfl) ?_; refine wpO_nil ?_; refine seq_normal ?_; refine wp_ret ?_; refine seq_ret ?_; refine ret_of ?_; refine rk_tmp (by (conv => lhs; whnf) <;> rfl) ?_; refine rk_nil ?_
    rfl
  refine op1_call0 rfl  ?_; refine wpF_known rfl hgl1 ?_; refine wpO_cons ?_; refine op1_not_t rfl rfl ?_; refine wpO_cons ?_; refine op1_pick_f rfl rfl (by (conv => lhs; whnf) <;> rfl) ?_; refine wpO_cons ?_; refine op1_mov rfl (by (conv => lhs; whnf) <;> rfl) ?_; refine wpO_cons ?_; refine op1_mov rfl (by (conv => lhs; whnf) <;> rfl) ?_; refine wpO_cons ?_; refine op1_neqI rfl rfl rfl ?_; refine wpO_cons ?_; refine op1_pick_f rfl rfl (by (conv => lhs; whnf) <;> rfl) ?_; refine wpO_nil ?_; refine seq_normal ?_; refine wp_false rfl ?_; refine wp_skip ?_; refine seq_normal ?_; refine wp_seq ?_; refine wp_region ?_; refine wpO_cons ?_; refine op1_mov rfl (by (conv => lhs; whnf) <;> rfl) ?_; refine wpO_cons ?_; refine op1_mov rfl (by (conv => lhs; whnf) <;> rfl) ?_; refine wpO_cons ?_; refine op1_call2 rfl (by (conv => lhs; whnf) <;> rfl) (by (conv => lhs; whnf) <;> rfl) ?_
  have hlen : l.length ≤ 200 := by omega
  have hnew : PT.new (if e = true then 2 else 0) = rawS e [] := by cases e <;> rfl
  rw [hnew] at hR
  have hgo := rawS_go e l [] (by simpa using hlen)
  rw [List.nil_append] at hgo
  have hty : (rawS e []).type l = ((l.length : Int), 0, rawS e l) := by
    unfold PT.type
    rw [if_neg (by omega), if_neg (by cases e <;> simp [rawS]), hgo, if_pos rfl]
  have hIn : Inv 255 64 (rawS e []) := ⟨by cases e <;> simp [rawS], by cases e <;> simp [rawS], by cases e <;> simp [rawS], by cases e <;> simp [rawS]⟩
  have hfr : ∀ b ∈ r, b < H1.next ∧ b ∉ O := fun b hb => ⟨Nat.lt_of_lt_of_le (hr b hb) hE.next, fun hm => (hE.own b hm).elim (fun h => by simp at h) (fun h => absurd (hr b hb) (by omega))⟩
  have hd1 : RdS H1 1 (.slice a l.length c) (bts l) r := hd.frame fun b hb => hE.keep b (hr b hb) (by simp)
  refine wpF_mono (L11 hR hIn (Nat.le_refl _) (by omega) (Nat.le_refl _) (by omega) hd1 hfr) ?_
  rw [hty]
  rintro v H2 ⟨rfl, hI2, O2, hR2, hE2⟩
  have hd2 : RdS H2 1 (.slice a l.length c) (bts l) r := hd1.frame fun b hb => hE2.keep b (hfr b hb).1 (hfr b hb).2
  refine wpO_cons ?_; refine op1_mov rfl (by (conv => lhs; whnf) <;> rfl) ?_; refine wpO_cons ?_; refine op1_extract rfl rfl rfl ?_; refine wpO_cons ?_; refine op1_extract rfl rfl rfl ?_; refine wpO_cons ?_; refine op1_mov rfl (by (conv => lhs; whnf) <;> rfl) ?_; refine wpO_cons ?_; refine op1_mov rfl (by (conv => lhs; whnf) <;> rfl) ?_; refine wpO_nil ?_; refine seq_normal ?_; refine wp_seq ?_; refine wp_region ?_; refine wpO_cons ?_; refine op1_mov rfl (by (conv => lhs; whnf) <;> rfl) ?_; refine wpO_cons ?_; refine op1_call2 rfl (by (conv => lhs; whnf) <;> rfl) (by (conv => lhs; whnf) <;> rfl) ?_
  refine wpF_mono (L12 hR2 5000 (by have := hI2.inp; omega) (fun x hx => by have := hI2.recs x hx; omega)) ?_
  obtain ⟨s3, hs3, hs3o, hs3s⟩ : ∃ s3, (rawS e l).read 5000 = (l, false, (if l = [] then 2 else 0), s3) ∧ s3.output = (rawS e l).output ∧ s3.stopped = false := by
    by_cases hl0 : l = []
    · subst hl0
      exact ⟨rawS e [], by cases e <;> simp [PT.read, rawS], rfl, rfl⟩
    · refine ⟨{ rawS e l with input := [] }, ?_, rfl, rfl⟩
      have hm : (min 5000 (l.length : Int)).toNat = l.length := by omega
      unfold PT.read
      rw [if_neg (by decide), if_neg (by decide)]
      simp only [rawS, hl0, if_false, hm, List.take_length, List.drop_length, if_true, decide_false]
  rw [hs3]
  rintro v H3 ⟨O3, v3, r3, rfl, hN3, hR3, hE3⟩
  have ho2 : ∀ b ∈ r, b < H2.next ∧ b ∉ O2 := fun b hb => ⟨Nat.lt_of_lt_of_le (hfr b hb).1 hE2.next, fun hm => (hE2.own b hm).elim (hfr b hb).2 (fun h => absurd (hfr b hb).1 (by omega))⟩
  have hd3 : RdS H3 1 (.slice a l.length c) (bts l) r := hd2.frame fun b hb => hE3.keep b (ho2 b hb).1 (ho2 b hb).2
  have ho3 : ∀ b ∈ r, b < H3.next ∧ b ∉ O3 := fun b hb => ⟨Nat.lt_of_lt_of_le (ho2 b hb).1 hE3.next, fun hm => (hE3.own b hm).elim (ho2 b hb).2 (fun h => absurd (ho2 b hb).1 (by omega))⟩
  refine wpO_cons ?_; refine op1_mov rfl (by (conv => lhs; whnf) <;> rfl) ?_; refine wpO_cons ?_; refine op1_extract rfl rfl rfl ?_; refine wpO_cons ?_; refine op1_extract rfl rfl rfl ?_; refine wpO_cons ?_; refine op1_extract rfl rfl rfl ?_; refine wpO_cons ?_; refine op1_mov rfl (by (conv => lhs; whnf) <;> rfl) ?_; refine wpO_cons ?_; refine op1_mov rfl (by (conv => lhs; whnf) <;> rfl) ?_; refine wpO_cons ?_; refine op1_mov rfl (by (conv => lhs; whnf) <;> rfl) ?_; refine wpO_nil ?_; refine seq_normal ?_; refine wp_seq ?_; refine wp_region ?_; refine wpO_cons ?_; refine op1_mov rfl (by (conv => lhs; whnf) <;> rfl) ?_; refine wpO_cons ?_; refine op1_call2 rfl (by (conv => lhs; whnf) <;> rfl) (by (conv => lhs; whnf) <;> rfl) ?_
  have hol : s3.output.length ≤ 1000000 := by rw [hs3o]; cases e <;> simp [rawS] <;> omega
  refine wpF_mono (L13 hR3 5000 hol) ?_
  have hout : s3.outp 5000 = ((if e then l else []), 0, { s3 with output := [] }) := by
    have hso : s3.output = if e then l else [] := hs3o
    have hm : (min 5000 (s3.output.length : Int)).toNat = s3.output.length := by rw [hso]; cases e <;> simp <;> omega
    unfold PT.outp
    rw [if_neg (by decide), if_neg (by rw [hs3s]; simp), hm, List.take_length, List.drop_length, hso]
  rw [hout]
  rintro v H4 ⟨O4, v4, r4, rfl, hN4, hR4, hE4⟩
  dsimp only at hR3 hN3 hN4 hR4 hR2
  have hd4 : RdS H4 1 (.slice a l.length c) (bts l) r := hd3.frame fun b hb => hE4.keep b (ho3 b hb).1 (ho3 b hb).2
  have hN3' : RdS H4 1 v3 (bts l) r3 := hN3.sl.rd.frame fun b hb => hE4.keep b (hN3.fresh b hb).2.1 (hN3.fresh b hb).2.2
  have hN4' := hN4.sl.rd
  obtain ⟨a3, c3, rfl⟩ := hN3'.b1
  obtain ⟨a4, c4, rfl⟩ := hN4'.b1
  refine wpO_cons ?_; refine op1_mov rfl (by (conv => lhs; whnf) <;> rfl) ?_; refine wpO_cons ?_; refine op1_extract rfl rfl rfl ?_; refine wpO_cons ?_; refine op1_extract rfl rfl rfl ?_; refine wpO_cons ?_; refine op1_mov rfl (by (conv => lhs; whnf) <;> rfl) ?_; refine wpO_cons ?_; refine op1_mov rfl (by (conv => lhs; whnf) <;> rfl) ?_; refine wpO_nil ?_; refine seq_normal ?_; refine wp_seq ?_; refine wp_seq ?_; refine wp_region ?_; refine wpO_cons ?_; refine op1_mov rfl (by (conv => lhs; whnf) <;> rfl) ?_; refine wpO_cons ?_; refine op1_len rfl rfl ?_; refine wpO_cons ?_; refine op1_eqlI rfl rfl rfl ?_; refine wpO_nil ?_; refine seq_normal ?_
  refine wp_dec rfl (fun hz => ?_) (fun hz => ?_)
  · have hl0 : l = [] := List.eq_nil_of_length_eq_zero (by omega)
    subst hl0
    cases e
    · refine wp_seq ?_; refine wp_region ?_; refine wpO_cons ?_; refine op1_mov rfl (by (conv => lhs; whnf) <;> rfl) ?_; refine wpO_cons ?_; refine op1_eqlI rfl rfl rfl ?_; refine wpO_cons ?_; refine op1_mov rfl (by (conv => lhs; whnf) <;> rfl) ?_; refine wpO_cons ?_; refine op1_mov rfl (by (conv => lhs; whnf) <;> rfl) ?_; refine wpO_cons ?_; refine op1_eqlI rfl rfl rfl ?_; refine wpO_cons ?_; refine op1_pick_t rfl rfl (by (conv => lhs; whnf) <;> rfl) ?_; refine wpO_cons ?_; refine op1_mov rfl (by (conv => lhs; whnf) <;> rfl) ?_; refine wpO_cons ?_; refine op1_mov rfl (by (conv => lhs; whnf) <;> rfl) ?_; refine wpO_cons ?_; refine op1_eqlI rfl rfl rfl ?_; refine wpO_cons ?_; refine op1_pick_t rfl rfl (by (conv => lhs; whnf) <;> rfl) ?_; refine wpO_cons ?_; refine op1_mov rfl (by (conv => lhs; whnf) <;> rfl) ?_; refine wpO_cons ?_; refine op1_mov rfl (by (conv => lhs; whnf) <;> rfl) ?_; refine wpO_cons ?_; refine op1_len rfl rfl ?_; refine wpO_cons ?_; refine op1_eqlI rfl rfl rfl ?_; refine wpO_cons ?_; refine op1_pick_t rfl rfl (by (conv => lhs; whnf) <;> rfl) ?_; refine wpO_cons ?_; refine op1_mov rfl (by (conv => lhs; whnf) <;> rfl) ?_; refine wpO_cons ?_; refine op1_mov rfl (by (conv => lhs; whnf) <;> rfl) ?_; refine wpO_cons ?_; refine op1_eqlI rfl rfl rfl ?_; refine wpO_cons ?_; refine op1_pick_t rfl rfl (by (conv => lhs; whnf) <;> rfl) ?_; refine wpO_cons ?_; refine op1_mov rfl (by (conv => lhs; whnf) <;> rfl) ?_; refine wpO_nil ?_; refine seq_normal ?_; refine wp_ret ?_; refine seq_ret ?_; refine ret_of ?_; refine rk_tmp (by (conv => lhs; whnf) <;> rfl) ?_; refine rk_nil ?_
      rfl
    · refine wp_seq ?_; refine wp_region ?_; refine wpO_cons ?_; refine op1_mov rfl (by (conv => lhs; whnf) <;> rfl) ?_; refine wpO_cons ?_; refine op1_eqlI rfl rfl rfl ?_; refine wpO_cons ?_; refine op1_mov rfl (by (conv => lhs; whnf) <;> rfl) ?_; refine wpO_cons ?_; refine op1_mov rfl (by (conv => lhs; whnf) <;> rfl) ?_; refine wpO_cons ?_; refine op1_eqlI rfl rfl rfl ?_; refine wpO_cons ?_; refine op1_pick_t rfl rfl (by (conv => lhs; whnf) <;> rfl) ?_; refine wpO_cons ?_; refine op1_mov rfl (by (conv => lhs; whnf) <;> rfl) ?_; refine wpO_cons ?_; refine op1_mov rfl (by (conv => lhs; whnf) <;> rfl) ?_; refine wpO_cons ?_; refine op1_eqlI rfl rfl rfl ?_; refine wpO_cons ?_; refine op1_pick_t rfl rfl (by (conv => lhs; whnf) <;> rfl) ?_; refine wpO_cons ?_; refine op1_mov rfl (by (conv => lhs; whnf) <;> rfl) ?_; refine wpO_cons ?_; refine op1_mov rfl (by (conv => lhs; whnf) <;> rfl) ?_; refine wpO_cons ?_; refine op1_len rfl rfl ?_; refine wpO_cons ?_; refine op1_eqlI rfl rfl rfl ?_; refine wpO_cons ?_; refine op1_pick_t rfl rfl (by (conv => lhs; whnf) <;> rfl) ?_; refine wpO_cons ?_; refine op1_mov rfl (by (conv => lhs; whnf) <;> rfl) ?_; refine wpO_cons ?_; refine op1_mov rfl (by (conv => lhs; whnf) <;> rfl) ?_; refine wpO_cons ?_; refine op1_eqlI rfl rfl rfl ?_; refine wpO_cons ?_; refine op1_pick_t rfl rfl (by (conv => lhs; whnf) <;> rfl) ?_; refine wpO_cons ?_; refine op1_mov rfl (by (conv => lhs; whnf) <;> rfl) ?_; refine wpO_nil ?_; refine seq_normal ?_; refine wp_ret ?_; refine seq_ret ?_; refine ret_of ?_; refine rk_tmp (by (conv => lhs; whnf) <;> rfl) ?_; refine rk_nil ?_
      rfl
  have hl0 : l ≠ [] := by intro h; subst h; simp at hz
  rw [if_neg hl0]
  cases e
  · refine wp_skip ?_; refine seq_normal ?_; refine wp_seq ?_; refine wp_seq ?_; refine wp_region ?_; refine wpO_cons ?_; refine op1_mov rfl (by (conv => lhs; whnf) <;> rfl) ?_; refine wpO_cons ?_; refine op1_not_f rfl rfl ?_; refine wpO_nil ?_; refine seq_normal ?_; refine wp_true rfl ?_; refine wp_seq ?_; refine wp_region ?_; refine wpO_cons ?_; refine op1_mov rfl (by (conv => lhs; whnf) <;> rfl) ?_; refine wpO_cons ?_; refine op1_mov rfl (by (conv => lhs; whnf) <;> rfl) ?_; refine wpO_cons ?_; refine op1_len rfl rfl ?_; refine wpO_cons ?_; refine op1_eqlI rfl rfl rfl ?_; refine wpO_cons ?_; refine op1_mov rfl (by (conv => lhs; whnf) <;> rfl) ?_; refine wpO_cons ?_; refine op1_split rfl (fun hc0 => ?_) (fun hc0 => ?_); (focus (refine op1_mov rfl (by (conv => lhs; whnf) <;> rfl) ?_; refine wpO_cons ?_; refine op1_eqlI rfl rfl rfl ?_; refine wpO_cons ?_; refine op1_pick_t rfl rfl (by (conv => lhs; whnf) <;> rfl) ?_; refine wpO_cons ?_; refine op1_mov rfl (by (conv => lhs; whnf) <;> rfl) ?_; refine wpO_cons ?_; refine op1_mov rfl (by (conv => lhs; whnf) <;> rfl) ?_; refine wpO_cons ?_; refine op1_mov rfl (by (conv => lhs; whnf) <;> rfl) ?_; refine wpO_cons ?_; refine op1_call2 rfl (by (conv => lhs; whnf) <;> rfl) (by (conv => lhs; whnf) <;> rfl) ?_; (refine wpF_mono (L14 hN3' hd4) ?_; rintro _ _ ⟨rfl, rfl⟩); refine wpO_cons ?_; refine op1_pick_t rfl rfl (by (conv => lhs; whnf) <;> rfl) ?_; refine wpO_cons ?_; refine op1_mov rfl (by (conv => lhs; whnf) <;> rfl) ?_; refine wpO_cons ?_; refine op1_mov rfl (by (conv => lhs; whnf) <;> rfl) ?_; refine wpO_cons ?_; refine op1_eqlI rfl rfl rfl ?_; refine wpO_cons ?_; refine op1_pick_t rfl rfl (by (conv => lhs; whnf) <;> rfl) ?_; refine wpO_cons ?_; refine op1_mov rfl (by (conv => lhs; whnf) <;> rfl) ?_; refine wpO_cons ?_; refine op1_mov rfl (by (conv => lhs; whnf) <;> rfl) ?_; refine wpO_cons ?_; refine op1_len rfl rfl ?_; refine wpO_cons ?_; refine op1_eqlI rfl rfl rfl ?_; refine wpO_cons ?_; refine op1_pick_t rfl rfl (by (conv => lhs; whnf) <;> rfl) ?_; refine wpO_cons ?_; refine op1_mov rfl (by (conv => lhs; whnf) <;> rfl) ?_; refine wpO_cons ?_; refine op1_mov rfl (by (conv => lhs; whnf) <;> rfl) ?_; refine wpO_cons ?_; refine op1_eqlI rfl rfl rfl ?_; refine wpO_cons ?_; refine op1_pick_t rfl rfl (by (conv => lhs; whnf) <;> rfl) ?_; refine wpO_cons ?_; refine op1_mov rfl (by (conv => lhs; whnf) <;> rfl) ?_; refine wpO_nil ?_; refine seq_normal ?_; refine wp_ret ?_; refine seq_ret ?_; refine ret_of ?_; refine rk_tmp (by (conv => lhs; whnf) <;> rfl) ?_; refine rk_nil ?_; (first | rfl | (exfalso; simp_all; done)))); (focus (refine op1_skip rfl ?_; refine wpO_cons ?_; refine op1_skip rfl ?_; refine wpO_cons ?_; refine op1_pick_f rfl rfl (by (conv => lhs; whnf) <;> rfl) ?_; refine wpO_cons ?_; refine op1_mov rfl (by (conv => lhs; whnf) <;> rfl) ?_; refine wpO_cons ?_; refine op1_skip rfl ?_; refine wpO_cons ?_; refine op1_skip rfl ?_; refine wpO_cons ?_; refine op1_skip rfl ?_; refine wpO_cons ?_; refine op1_pick_f rfl rfl (by (conv => lhs; whnf) <;> rfl) ?_; refine wpO_cons ?_; refine op1_mov rfl (by (conv => lhs; whnf) <;> rfl) ?_; refine wpO_cons ?_; refine op1_skip rfl ?_; refine wpO_cons ?_; refine op1_skip rfl ?_; refine wpO_cons ?_; refine op1_pick_f rfl rfl (by (conv => lhs; whnf) <;> rfl) ?_; refine wpO_cons ?_; refine op1_mov rfl (by (conv => lhs; whnf) <;> rfl) ?_; refine wpO_cons ?_; refine op1_skip rfl ?_; refine wpO_cons ?_; refine op1_skip rfl ?_; refine wpO_cons ?_; refine op1_skip rfl ?_; refine wpO_cons ?_; refine op1_pick_f rfl rfl (by (conv => lhs; whnf) <;> rfl) ?_; refine wpO_cons ?_; refine op1_mov rfl (by (conv => lhs; whnf) <;> rfl) ?_; refine wpO_cons ?_; refine op1_skip rfl ?_; refine wpO_cons ?_; refine op1_skip rfl ?_; refine wpO_cons ?_; refine op1_pick_f rfl rfl (by (conv => lhs; whnf) <;> rfl) ?_; refine wpO_cons ?_; refine op1_mov rfl (by (conv => lhs; whnf) <;> rfl) ?_; refine wpO_nil ?_; refine seq_normal ?_; refine wp_ret ?_; refine seq_ret ?_; refine ret_of ?_; refine rk_tmp (by (conv => lhs; whnf) <;> rfl) ?_; refine rk_nil ?_; (first | rfl | (exfalso; simp_all; done))))
  · refine wp_skip ?_; refine seq_normal ?_; refine wp_seq ?_; refine wp_seq ?_; refine wp_region ?_; refine wpO_cons ?_; refine op1_mov rfl (by (conv => lhs; whnf) <;> rfl) ?_; refine wpO_cons ?_; refine op1_not_t rfl rfl ?_; refine wpO_nil ?_; refine seq_normal ?_; refine wp_false rfl ?_; refine wp_skip ?_; refine seq_normal ?_; refine wp_seq ?_; refine wp_region ?_; refine wpO_cons ?_; refine op1_mov rfl (by (conv => lhs; whnf) <;> rfl) ?_; refine wpO_cons ?_; refine op1_mov rfl (by (conv => lhs; whnf) <;> rfl) ?_; refine wpO_cons ?_; refine op1_len rfl rfl ?_; refine wpO_cons ?_; refine op1_eqlI rfl rfl rfl ?_; refine wpO_cons ?_; refine op1_mov rfl (by (conv => lhs; whnf) <;> rfl) ?_; refine wpO_cons ?_; refine op1_split rfl (fun hc0 => ?_) (fun hc0 => ?_); (focus (refine op1_mov rfl (by (conv => lhs; whnf) <;> rfl) ?_; refine wpO_cons ?_; refine op1_mov rfl (by (conv => lhs; whnf) <;> rfl) ?_; refine wpO_cons ?_; refine op1_call2 rfl (by (conv => lhs; whnf) <;> rfl) (by (conv => lhs; whnf) <;> rfl) ?_; (refine wpF_mono (L14 hN3' hd4) ?_; rintro _ _ ⟨rfl, rfl⟩); refine wpO_cons ?_; refine op1_pick_t rfl rfl (by (conv => lhs; whnf) <;> rfl) ?_; refine wpO_cons ?_; refine op1_mov rfl (by (conv => lhs; whnf) <;> rfl) ?_; refine wpO_cons ?_; refine op1_mov rfl (by (conv => lhs; whnf) <;> rfl) ?_; refine wpO_cons ?_; refine op1_mov rfl (by (conv => lhs; whnf) <;> rfl) ?_; refine wpO_cons ?_; refine op1_call2 rfl (by (conv => lhs; whnf) <;> rfl) (by (conv => lhs; whnf) <;> rfl) ?_; (refine wpF_mono (L14 hN4' hd4) ?_; rintro _ _ ⟨rfl, rfl⟩); refine wpO_cons ?_; refine op1_pick_t rfl rfl (by (conv => lhs; whnf) <;> rfl) ?_; refine wpO_cons ?_; refine op1_mov rfl (by (conv => lhs; whnf) <;> rfl) ?_; refine wpO_nil ?_; refine seq_normal ?_; refine wp_ret ?_; refine ret_of ?_; refine rk_tmp (by (conv => lhs; whnf) <;> rfl) ?_; refine rk_nil ?_; (first | rfl | (exfalso; simp_all; done)))); (focus (refine op1_skip rfl ?_; refine wpO_cons ?_; refine op1_skip rfl ?_; refine wpO_cons ?_; refine op1_skip rfl ?_; refine wpO_cons ?_; refine op1_pick_f rfl rfl (by (conv => lhs; whnf) <;> rfl) ?_; refine wpO_cons ?_; refine op1_mov rfl (by (conv => lhs; whnf) <;> rfl) ?_; refine wpO_cons ?_; refine op1_skip rfl ?_; refine wpO_cons ?_; refine op1_skip rfl ?_; refine wpO_cons ?_; refine op1_skip rfl ?_; refine wpO_cons ?_; refine op1_pick_f rfl rfl (by (conv => lhs; whnf) <;> rfl) ?_; refine wpO_cons ?_; refine op1_mov rfl (by (conv => lhs; whnf) <;> rfl) ?_; refine wpO_nil ?_; refine seq_normal ?_; refine wp_ret ?_; refine ret_of ?_; refine rk_tmp (by (conv => lhs; whnf) <;> rfl) ?_; refine rk_nil ?_; (first | rfl | (exfalso; simp_all; done))))
end Go.E.Pty
