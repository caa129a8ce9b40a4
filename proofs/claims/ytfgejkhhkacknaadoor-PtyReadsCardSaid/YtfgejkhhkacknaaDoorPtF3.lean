/- The pseudo terminal: Type, Output, Read, New. -/
import Derived.Test.YtfgejkhhkacknaaDoorPtF2
namespace Go.E.Pty
open Go Go.E Go.Proofs.YtfgejkhhkacknaaDoor.base Go.Proofs.YtfgejkhhkacknaaDoor Go.Proofs
set_option linter.unusedVariables false
set_option linter.unusedSimpArgs false
set_option maxRecDepth 100000

structure Inv (M N : Nat) (s : PT) : Prop where
  out : s.output.length ≤ 10000
  line : s.line.length ≤ 254
  inp : s.input.length ≤ N
  recs : ∀ x ∈ s.input, x.1.length ≤ M

theorem outs_same (s : PT) (l : List Int) : (s.outs l).line = s.line ∧ (s.outs l).input = s.input := by
  induction l generalizing s with
  | nil => exact ⟨rfl, rfl⟩
  | cons b l ih => exact ih (s.out1 b)
theorem Inv.echo {M N : Nat} {s : PT} (l : List Int) (h1 : s.output.length + 2 * l.length ≤ 10000) (h2 : s.line.length ≤ 254) (h3 : s.input.length ≤ N) (h4 : ∀ x ∈ s.input, x.1.length ≤ M) : Inv M N (s.echo l) := by
  have h5 := echo_len s l
  obtain ⟨h6, h7⟩ := echo_line s l
  exact ⟨by omega, by rw [h6]; exact h2, by rw [h7]; exact h3, by rw [h7]; exact h4⟩
theorem kill_same (s : PT) : ∀ n, (iter PT.erase n s).input = s.input
  | 0 => rfl
  | n + 1 => by simp only [iter]; rw [(erase_line _).2.1]; exact kill_same s n

theorem Inv.process {M N : Nat} {s : PT} {b : Int} (h : Inv M N s) (hM : 255 ≤ M) (hN : 64 ≤ N) (hr : s.room b = true) : Inv M N (s.process b) := by
  obtain ⟨ho, hl, hi, hrec⟩ := h
  unfold PT.room at hr
  obtain ⟨m, hm, hm2⟩ : ∃ m : Int, (if b = 21 ∧ s.has 1 = true ∧ s.has 2 = true then (3331 : Int) else 4064) = m ∧ m ≤ 4064 := ⟨_, rfl, by split <;> omega⟩
  rw [hm] at hr
  by_cases hlen' : m < (s.output.length : Int)
  · rw [if_pos hlen'] at hr; cases hr
  rw [if_neg hlen'] at hr
  have hlen : s.output.length ≤ 4064 := by omega
  unfold PT.process
  by_cases c1 : s.has 32 = true ∧ (b = 19 ∨ b = 17)
  · rw [if_pos c1]; exact ⟨ho, hl, hi, hrec⟩
  rw [if_neg c1]
  by_cases c2 : s.has 4 = true ∧ (sendOf b).isSome = true
  · rw [if_pos c2]
    have hso : (s.send ((sendOf b).getD 0)).output = s.output := by unfold PT.send; split <;> rfl
    exact Inv.echo _ (by show (s.send ((sendOf b).getD 0)).output.length + 2 * 3 ≤ 10000; rw [hso]; omega) (by simp) (by simp) (by simp)
  rw [if_neg c2]
  rw [if_neg (fun hx => hx.elim c1 c2)] at hr
  by_cases c3 : s.has 1 = false
  · rw [if_pos c3]
    rw [if_neg (by rw [c3]; simp)] at hr
    cases hlr : lastRun s.input with
    | none =>
      rw [hlr] at hr
      simp only [decide_eq_true_eq] at hr
      refine Inv.echo _ (by show s.output.length + 2 * 1 ≤ 10000; omega) hl (by show (s.input ++ [([b], true)]).length ≤ N; simp; omega) ?_
      intro x hx
      simp only [List.mem_append, List.mem_singleton] at hx
      rcases hx with hx | rfl
      · exact hrec x hx
      · show 1 ≤ M; omega
    | some d =>
      rw [hlr] at hr
      simp only [decide_eq_true_eq] at hr
      have hne : s.input ≠ [] := by intro e; rw [e] at hlr; simp [lastRun] at hlr
      have hpos : 0 < s.input.length := List.length_pos_iff.2 hne
      refine Inv.echo _ (by show s.output.length + 2 * 1 ≤ 10000; omega) hl (by show (s.input.dropLast ++ [(d ++ [b], true)]).length ≤ N; simp; omega) ?_
      intro x hx
      simp only [List.mem_append, List.mem_singleton] at hx
      rcases hx with hx | rfl
      · exact hrec x (List.dropLast_subset _ hx)
      · show (d ++ [b]).length ≤ M; simp; omega
  rw [if_neg c3]
  have c3' : s.has 1 = true := by simpa using c3
  rw [if_pos c3'] at hr
  simp only [decide_eq_true_eq] at hr
  by_cases c4 : b = 4
  · rw [if_pos c4]
    refine ⟨ho, by simp [PT.endL], by simp only [PT.endL, List.length_append, List.length_cons, List.length_nil]; omega, ?_⟩
    intro x hx
    simp only [PT.endL, List.mem_append, List.mem_singleton] at hx
    rcases hx with hx | rfl
    · exact hrec x hx
    · show s.line.length ≤ M; omega
  rw [if_neg c4]
  by_cases c5 : b = 10
  · rw [if_pos c5]
    refine Inv.echo _ (by show s.output.length + 2 * 1 ≤ 10000; omega) (by simp [PT.endL]) (by simp only [PT.endL, List.length_append, List.length_cons, List.length_nil]; omega) ?_
    intro x hx
    simp only [PT.endL, List.mem_append, List.mem_singleton] at hx
    rcases hx with hx | rfl
    · exact hrec x hx
    · show (s.line ++ [b]).length ≤ M; simp; omega
  rw [if_neg c5]
  by_cases c6 : b = 21
  · rw [if_pos c6]
    obtain ⟨k1, k2⟩ := iter_erase s s.line.length (Nat.le_refl _)
    have k3 := kill_same s s.line.length
    exact ⟨by unfold PT.kill; omega, by unfold PT.kill; omega, by unfold PT.kill; rw [k3]; exact hi, by unfold PT.kill; rw [k3]; exact hrec⟩
  rw [if_neg c6]
  by_cases c7 : b = 127
  · rw [if_pos c7]
    obtain ⟨k1, k2, k3⟩ := erase_line s
    exact ⟨by omega, by rw [k1, List.length_take]; omega, by rw [k2]; exact hi, by rw [k2]; exact hrec⟩
  rw [if_neg c7]
  by_cases c8 : 254 ≤ s.line.length
  · rw [if_pos c8]
    have k1 := outs_len s [7]
    obtain ⟨k2, k3⟩ := outs_same s [7]
    exact ⟨by simp at k1; omega, by rw [k2]; exact hl, by rw [k3]; exact hi, by rw [k3]; exact hrec⟩
  · rw [if_neg c8]
    exact Inv.echo _ (by show s.output.length + 2 * 1 ≤ 10000; omega) (by show (s.line ++ [b]).length ≤ 254; simp; omega) hi hrec

/-- the byte that is processed for one that is typed -/
def PT.map (s : PT) (b : Int) : Int := if b = 13 ∧ s.has 8 = true then 10 else b
def typeGo (s : PT) : List Int → Nat × PT
  | [] => (0, s)
  | b :: l => if s.room (s.map b) = true then ((typeGo (s.process (s.map b)) l).1 + 1, (typeGo (s.process (s.map b)) l).2) else (0, s)
/-- Type: number, error, terminal -/
def PT.type (s : PT) (l : List Int) : Int × Int × PT :=
  if 4096 < l.length then (0, 20, s) else if s.hung = true then (0, 35, s) else
    if (typeGo s l).1 = l.length then (l.length, 0, (typeGo s l).2) else if (typeGo s l).1 = 0 then (0, 2, (typeGo s l).2) else ((typeGo s l).1, 0, (typeGo s l).2)

theorem typeGo_le (s : PT) (l : List Int) : (typeGo s l).1 ≤ l.length := by
  induction l generalizing s with
  | nil => simp [typeGo]
  | cons b l ih => simp only [typeGo]; split <;> simp; exact ih _

theorem L11 {H : AHeap} {p : Nat} {s : PT} {O : List Nat} (h : RepT false H p s O) {M N : Nat} (hI : Inv M N s) (hM : 255 ≤ M) (hM2 : M ≤ 1000000) (hN : 64 ≤ N) (hN2 : N ≤ 1000) {vd : Value} {l : List Int} {r : List Nat} (hd : RdS H 1 vd (bts l) r) (hr : ∀ b ∈ r, b < H.next ∧ b ∉ O) :
    wpF C 11 [.pointer (some ⟨p, 0, none⟩), vd] H fun v H' => v = .tuple ⟨[.int .i64 (s.type l).1, .int .i64 (s.type l).2.1]⟩ ∧ Inv M N (s.type l).2.2 ∧ ∃ O', RepT false H' p (s.type l).2.2 O' ∧ Ext O H O' H' := by
  obtain ⟨a, c, rfl⟩ := hd.b1
  have hR := h
  have hlt := h.lt
  obtain ⟨vl, vi, vo, vs, cells, ol, oi, orr, oo, os, h, rfl⟩ := h
  have hg := h.get
  refine wpF_ofW o11 rfl rfl ?_
  refine wp_seq ?_; refine wp_region ?_; refine wpO_cons ?_; refine op1_mov rfl (by (conv => lhs; whnf) <;> rfl) ?_; refine wpO_cons ?_; refine op1_mov rfl (by (conv => lhs; whnf) <;> rfl) ?_; refine wpO_nil ?_; refine seq_normal ?_; refine wp_seq ?_; refine wp_block ?_; refine wp_seq ?_; refine wp_region ?_; refine wpO_cons ?_; refine op1_mov rfl (by (conv => lhs; whnf) <;> rfl) ?_; refine wpO_cons ?_; refine op1_bin_false rfl (by (conv => lhs; whnf) <;> rfl) (by (conv => lhs; whnf) <;> rfl) rfl ?_; refine wpO_cons ?_; refine op1_mov rfl (by (conv => lhs; whnf) <;> rfl) ?_; refine wpO_nil ?_; refine seq_normal ?_; refine wp_false rfl ?_; refine wp_seq ?_; refine wp_region ?_; refine wpO_cons ?_; refine op1_mov rfl (by (conv => lhs; whnf) <;> rfl) ?_; refine wpO_cons ?_; refine op1_len rfl rfl ?_; refine wpO_cons ?_; refine op1_gtr rfl rfl rfl ?_; refine wpO_cons ?_; refine op1_mov rfl (by (conv => lhs; whnf) <;> rfl) ?_; refine wpO_nil ?_; refine seq_normal ?_
  unfold PT.type
  refine wp_dec rfl (fun hc => ?_) (fun hc => ?_)
  · rw [if_pos (by omega)]
    refine wp_seq ?_; refine wp_region ?_; refine wpO_cons ?_; refine op1_mov rfl (by (conv => lhs; whnf) <;> rfl) ?_; refine wpO_cons ?_; refine op1_mov rfl (by (conv => lhs; whnf) <;> rfl) ?_; refine wpO_nil ?_; refine seq_normal ?_; refine wp_ret ?_; refine block_ret ?_; refine seq_ret ?_; refine ret_of ?_; refine rk_tmp (by (conv => lhs; whnf) <;> rfl) ?_; refine rk_tmp (by (conv => lhs; whnf) <;> rfl) ?_; refine rk_nil ?_
    exact ⟨rfl, hI, _, hR, Ext.refl _ _⟩
  rw [if_neg (by omega)]
  refine wp_seq ?_; refine wp_region ?_; refine wpO_cons ?_; refine op1_mov rfl (by (conv => lhs; whnf) <;> rfl) ?_; refine wpO_cons ?_; refine op1_nilchk rfl rfl ?_; refine wpO_cons ?_; refine op1_faddr0 rfl rfl ?_; refine wpO_cons ?_; refine op1_load rfl rfl (by with_reducible assumption) rfl ?_; refine wpO_cons ?_; refine op1_mov rfl (by (conv => lhs; whnf) <;> rfl) ?_; refine wpO_nil ?_; refine seq_normal ?_
  refine wp_cond rfl (fun hh => ?_) (fun hh => ?_)
  · rw [if_pos hh]
    refine wp_seq ?_; refine wp_region ?_; refine wpO_cons ?_; refine op1_mov rfl (by (conv => lhs; whnf) <;> rfl) ?_; refine wpO_cons ?_; refine op1_mov rfl (by (conv => lhs; whnf) <;> rfl) ?_; refine wpO_nil ?_; refine seq_normal ?_; refine wp_ret ?_; refine block_ret ?_; refine seq_ret ?_; refine ret_of ?_; refine rk_tmp (by (conv => lhs; whnf) <;> rfl) ?_; refine rk_tmp (by (conv => lhs; whnf) <;> rfl) ?_; refine rk_nil ?_
    exact ⟨rfl, hI, _, hR, Ext.refl _ _⟩
  rw [if_neg (by rw [hh]; simp)]
  refine wp_skip ?_; refine block_normal ?_; refine seq_normal ?_; refine wp_seq ?_; refine wp_seq ?_; refine wp_region ?_; refine wpO_cons ?_; refine op1_mov rfl (by (conv => lhs; whnf) <;> rfl) ?_; refine wpO_cons ?_; refine op1_len rfl rfl ?_; refine wpO_cons ?_; refine op1_mov rfl (by (conv => lhs; whnf) <;> rfl) ?_; refine wpO_nil ?_; refine seq_normal ?_; refine wp_block ?_
  refine wp_loop [22] (fun k vs H' => ∃ (i : Nat) (si : PT), vs = [.int .i64 i] ∧ i + k = l.length ∧ Inv M N si ∧ typeGo s l = (i + (typeGo si (l.drop i)).1, (typeGo si (l.drop i)).2) ∧
    ∃ O', RepT false H' p si O' ∧ Ext (p :: (ol ++ (oi ++ (orr ++ (oo ++ os))))) H O' H') ⟨l.length, 0, s, rfl, by omega, hI, by simp, _, hR, Ext.refl _ _⟩ ?_
  rintro k vs' T' H' ⟨i, si, rfl, hk, hIi, hgo, O', hRi, hE⟩
  refine wp_seq ?_; refine wp_region ?_; refine wpO_cons ?_; refine op1_lss rfl rfl rfl ?_; refine wpO_nil ?_; refine seq_normal ?_; refine wp_seq ?_
  refine wp_dec rfl (fun hlt' => ?_) (fun hlt' => ?_)
  · have hi : i < l.length := by omega
    obtain ⟨b, off, cs, e, ro, v, rfl, rfl, hgb, hv, hx⟩ := hd.at1 hi
    have hgb' : H'.get b = .cells cs e ro := (hE.keep b (hr b (by simp)).1 (hr b (by simp)).2).trans hgb
    obtain ⟨x, hx', rfl⟩ : ∃ x, l[i]? = some x ∧ v = .int .u8 x := by
      simp only [bts, List.getElem?_map, Option.map_eq_some_iff] at hx
      obtain ⟨x, h1, h2⟩ := hx
      exact ⟨x, h1, h2.symm⟩
    have hdrop : l.drop i = x :: l.drop (i + 1) := by
      obtain ⟨_, hx2⟩ := List.getElem?_eq_some_iff.1 hx'
      rw [List.drop_eq_getElem_cons hi, hx2]
    rw [hdrop] at hgo
    refine wp_skip ?_; refine seq_normal ?_; refine wp_seq ?_; refine wp_block ?_; refine wp_seq ?_; refine wp_region ?_; refine wpO_cons ?_; refine op1_mov rfl (by (conv => lhs; whnf) <;> rfl) ?_; refine wpO_cons ?_; refine op1_iaddr rfl rfl rfl (by omega) (by omega) ?_; refine wpO_cons ?_
    refine op1_load rfl rfl hgb' hv ?_
    refine wpO_cons ?_; refine op1_mov rfl (by (conv => lhs; whnf) <;> rfl) ?_; refine wpO_cons ?_; refine op1_mov rfl (by (conv => lhs; whnf) <;> rfl) ?_; refine wpO_nil ?_; refine seq_normal ?_
    refine wp_cut [7] (fun vs H2 => vs = [.int .u8 (si.map x)] ∧ H' = H2) ?_ ?_
    · refine wp_seq ?_; refine wp_region ?_; refine wpO_cons ?_; refine op1_mov rfl (by (conv => lhs; whnf) <;> rfl) ?_; refine wpO_cons ?_; refine op1_eqlI rfl rfl rfl ?_; refine wpO_cons ?_; refine op1_mov rfl (by (conv => lhs; whnf) <;> rfl) ?_; refine wpO_cons ?_; refine op1_split rfl (fun hc0 => ?_) (fun hc0 => ?_); (focus (refine op1_mov rfl (by (conv => lhs; whnf) <;> rfl) ?_; refine wpO_cons ?_; refine op1_call2 rfl (by (conv => lhs; whnf) <;> rfl) (by (conv => lhs; whnf) <;> rfl) ?_; (refine wpF_mono (L37 hRi _) ?_; rintro _ _ ⟨rfl, rfl⟩); refine wpO_cons ?_; refine op1_pick_t rfl rfl (by (conv => lhs; whnf) <;> rfl) ?_; refine wpO_nil ?_; refine seq_normal ?_; refine wp_cond rfl (fun hc1 => ?_) (fun hc1 => ?_); (focus (refine wp_region ?_; refine wpO_cons ?_; refine op1_mov rfl (by (conv => lhs; whnf) <;> rfl) ?_; refine wpO_nil ?_; refine cut1 (by (conv => lhs; whnf) <;> rfl) ?_; (exact ⟨by unfold PT.map; simp_all, rfl⟩))); (focus (refine wp_skip ?_; refine cut1 (by (conv => lhs; whnf) <;> rfl) ?_; (exact ⟨by unfold PT.map; simp_all, rfl⟩))))); (focus (refine op1_skip rfl ?_; refine wpO_cons ?_; refine op1_skip rfl ?_; refine wpO_cons ?_; refine op1_pick_f rfl rfl (by (conv => lhs; whnf) <;> rfl) ?_; refine wpO_nil ?_; refine seq_normal ?_; refine wp_false rfl ?_; refine wp_skip ?_; refine cut1 (by (conv => lhs; whnf) <;> rfl) ?_; (exact ⟨by unfold PT.map; simp_all, rfl⟩)))
    rintro vs2 T2 H2 ⟨rfl, rfl⟩
    refine wp_seq ?_; refine wp_seq ?_; refine wp_region ?_; refine wpO_cons ?_; refine op1_mov rfl (by (conv => lhs; whnf) <;> rfl) ?_; refine wpO_cons ?_; refine op1_mov rfl (by (conv => lhs; whnf) <;> rfl) ?_; refine wpO_cons ?_; refine op1_call2 rfl (by (conv => lhs; whnf) <;> rfl) (by (conv => lhs; whnf) <;> rfl) ?_
    refine wpF_mono (L38 hRi (si.map x) (by have := hIi.inp; omega)) ?_
    rintro v H2 ⟨rfl, rfl⟩
    refine wpO_cons ?_; refine op1_not rfl rfl ?_; refine wpO_nil ?_; refine seq_normal ?_
    refine wp_cond rfl (fun hroom => ?_) (fun hroom => ?_)
    · have hroom : si.room (si.map x) = false := by simpa using hroom
      have e : typeGo si (x :: l.drop (i + 1)) = (0, si) := by simp only [typeGo]; rw [if_neg (by rw [hroom]; simp)]
      rw [e] at hgo
      simp only [Nat.add_zero] at hgo
      simp only [hgo]
      rw [if_neg (by omega)]
      refine wp_seq ?_; refine wp_seq ?_; refine wp_region ?_; refine wpO_cons ?_; refine op1_mov rfl (by (conv => lhs; whnf) <;> rfl) ?_; refine wpO_cons ?_; refine op1_eqlI rfl rfl rfl ?_; refine wpO_nil ?_; refine seq_normal ?_
      refine wp_dec rfl (fun h0 => ?_) (fun h0 => ?_)
      · rw [if_pos (by omega)]
        refine wp_seq ?_; refine wp_region ?_; refine wpO_cons ?_; refine op1_mov rfl (by (conv => lhs; whnf) <;> rfl) ?_; refine wpO_cons ?_; refine op1_mov rfl (by (conv => lhs; whnf) <;> rfl) ?_; refine wpO_nil ?_; refine seq_normal ?_; refine wp_ret ?_; refine seq_ret ?_; refine seq_ret ?_; refine block_ret ?_; refine seq_ret ?_; refine iter_ret ?_; refine block_ret ?_; refine seq_ret ?_; refine ret_of ?_; refine rk_tmp (by (conv => lhs; whnf) <;> rfl) ?_; refine rk_tmp (by (conv => lhs; whnf) <;> rfl) ?_; refine rk_nil ?_
        exact ⟨rfl, hIi, O', hRi, hE⟩
      · rw [if_neg (by omega)]
        refine wp_skip ?_; refine seq_normal ?_; refine wp_seq ?_; refine wp_region ?_; refine wpO_cons ?_; refine op1_mov rfl (by (conv => lhs; whnf) <;> rfl) ?_; refine wpO_cons ?_; refine op1_mov rfl (by (conv => lhs; whnf) <;> rfl) ?_; refine wpO_cons ?_; refine op1_mov rfl (by (conv => lhs; whnf) <;> rfl) ?_; refine wpO_nil ?_; refine seq_normal ?_; refine wp_ret ?_; refine seq_ret ?_; refine block_ret ?_; refine seq_ret ?_; refine iter_ret ?_; refine block_ret ?_; refine seq_ret ?_; refine ret_of ?_; refine rk_tmp (by (conv => lhs; whnf) <;> rfl) ?_; refine rk_tmp (by (conv => lhs; whnf) <;> rfl) ?_; refine rk_nil ?_
        exact ⟨rfl, hIi, O', hRi, hE⟩
    · have hroom : si.room (si.map x) = true := by simpa using hroom
      simp only [typeGo] at hgo
      rw [if_pos hroom] at hgo
      refine wp_skip ?_; refine seq_normal ?_; refine wp_region ?_; refine wpO_cons ?_; refine op1_mov rfl (by (conv => lhs; whnf) <;> rfl) ?_; refine wpO_cons ?_; refine op1_mov rfl (by (conv => lhs; whnf) <;> rfl) ?_; refine wpO_cons ?_; refine op1_call2 rfl (by (conv => lhs; whnf) <;> rfl) (by (conv => lhs; whnf) <;> rfl) ?_
      refine wpF_mono (L39 hRi (si.map x) (by have := hIi.inp; omega) (by have := hIi.line; omega) (by have := hIi.out; omega) (fun y hy => by have := hIi.recs y hy; omega)) ?_
      rintro v H3 ⟨O3, hR3, hE3⟩
      refine wpO_nil ?_; refine block_normal ?_; refine seq_normal ?_; refine wp_region ?_; refine wpO_cons ?_; refine op1_add rfl rfl rfl (by exact wrap_i64 (by omega) (by omega)) ?_; refine wpO_cons ?_; refine op1_mov rfl (by (conv => lhs; whnf) <;> rfl) ?_; refine wpO_nil ?_
      exact ⟨k - 1, by omega, i + 1, _, rfl, by omega, hIi.process hM hN hroom, by rw [hgo]; simp only [Prod.mk.injEq, and_true]; omega, O3, hR3, hE.trans hE3 hlt⟩
  · have hi : i = l.length := by omega
    subst hi
    rw [List.drop_length] at hgo
    simp only [typeGo, Nat.add_zero] at hgo
    simp only [hgo, if_true]
    refine wp_exit ?_; refine seq_exit ?_; refine iter_exit ?_; refine block_exit ?_; refine seq_normal ?_; refine wp_seq ?_; refine wp_region ?_; refine wpO_cons ?_; refine op1_mov rfl (by (conv => lhs; whnf) <;> rfl) ?_; refine wpO_cons ?_; refine op1_len rfl rfl ?_; refine wpO_cons ?_; refine op1_mov rfl (by (conv => lhs; whnf) <;> rfl) ?_; refine wpO_cons ?_; refine op1_mov rfl (by (conv => lhs; whnf) <;> rfl) ?_; refine wpO_nil ?_; refine seq_normal ?_; refine wp_ret ?_; refine ret_of ?_; refine rk_tmp (by (conv => lhs; whnf) <;> rfl) ?_; refine rk_tmp (by (conv => lhs; whnf) <;> rfl) ?_; refine rk_nil ?_
    exact ⟨rfl, hIi, O', hRi, hE⟩
end Go.E.Pty
