/- PtyPieces, as the evaluator runs it: true, whatever is typed and wherever it is cut. -/
import Derived.Test.YtfgejkhhkacknaaDoorPtF6
import Derived.Test.YtfgejkhhkacknaaDoorEngZc
namespace Go.E.Pty
open Go Go.E Go.Proofs.YtfgejkhhkacknaaDoor.base Go.Proofs.YtfgejkhhkacknaaDoor Go.Proofs
set_option linter.unusedVariables false
set_option linter.unusedSimpArgs false
set_option maxRecDepth 100000

/-- two terminals that share nothing -/
structure Two (H : AHeap) (p1 : Nat) (s1 : PT) (O1 : List Nat) (p2 : Nat) (s2 : PT) (O2 : List Nat) : Prop where
  a : RepT false H p1 s1 O1
  b : RepT false H p2 s2 O2
  dis : ∀ b ∈ O1, b ∉ O2
def Keep (H : AHeap) (r O1 O2 : List Nat) : Prop := ∀ b ∈ r, b < H.next ∧ b ∉ O1 ∧ b ∉ O2

theorem Two.stepA {H H' : AHeap} {p1 p2 : Nat} {s1 s2 s1' : PT} {O1 O2 O1' : List Nat} (h : Two H p1 s1 O1 p2 s2 O2) (hR : RepT false H' p1 s1' O1') (hE : Ext O1 H O1' H') : Two H' p1 s1' O1' p2 s2 O2 where
  a := hR
  b := h.b.frame hR.glob hE.next fun b hb => hE.keep b (h.b.lt b hb) fun hm => h.dis b hm hb
  dis b hb hm := (hE.own b hb).elim (fun h1 => h.dis b h1 hm) fun h1 => absurd (h.b.lt b hm) (by omega)
theorem Two.stepB {H H' : AHeap} {p1 p2 : Nat} {s1 s2 s2' : PT} {O1 O2 O2' : List Nat} (h : Two H p1 s1 O1 p2 s2 O2) (hR : RepT false H' p2 s2' O2') (hE : Ext O2 H O2' H') : Two H' p1 s1 O1 p2 s2' O2' where
  a := h.a.frame hR.glob hE.next fun b hb => hE.keep b (h.a.lt b hb) fun hm => h.dis b hb hm
  b := hR
  dis b hb hm := (hE.own b hm).elim (fun h1 => h.dis b hb h1) fun h1 => absurd (h.a.lt b hb) (by omega)
theorem Two.step0 {H H' : AHeap} {p1 p2 : Nat} {s1 s2 : PT} {O1 O2 : List Nat} (h : Two H p1 s1 O1 p2 s2 O2) (hE : Ext [] H [] H') : Two H' p1 s1 O1 p2 s2 O2 where
  a := h.a.frame (h.a.glob.ext hE (by simp)) hE.next fun b hb => hE.keep b (h.a.lt b hb) (by simp)
  b := h.b.frame (h.a.glob.ext hE (by simp)) hE.next fun b hb => hE.keep b (h.b.lt b hb) (by simp)
  dis := h.dis
theorem Keep.stepA {H H' : AHeap} {r O1 O2 O1' : List Nat} (h : Keep H r O1 O2) (hE : Ext O1 H O1' H') : Keep H' r O1' O2 ∧ ∀ b ∈ r, H'.get b = H.get b :=
  ⟨fun b hb => ⟨Nat.lt_of_lt_of_le (h b hb).1 hE.next, fun hm => (hE.own b hm).elim (h b hb).2.1 fun h1 => absurd (h b hb).1 (by omega), (h b hb).2.2⟩, fun b hb => hE.keep b (h b hb).1 (h b hb).2.1⟩
theorem Keep.stepB {H H' : AHeap} {r O1 O2 O2' : List Nat} (h : Keep H r O1 O2) (hE : Ext O2 H O2' H') : Keep H' r O1 O2' ∧ ∀ b ∈ r, H'.get b = H.get b :=
  ⟨fun b hb => ⟨Nat.lt_of_lt_of_le (h b hb).1 hE.next, (h b hb).2.1, fun hm => (hE.own b hm).elim (h b hb).2.2 fun h1 => absurd (h b hb).1 (by omega)⟩, fun b hb => hE.keep b (h b hb).1 (h b hb).2.2⟩
theorem Keep.step0 {H H' : AHeap} {r O1 O2 : List Nat} (h : Keep H r O1 O2) (hE : Ext [] H [] H') : Keep H' r O1 O2 ∧ ∀ b ∈ r, H'.get b = H.get b :=
  ⟨fun b hb => ⟨Nat.lt_of_lt_of_le (h b hb).1 hE.next, (h b hb).2⟩, fun b hb => hE.keep b (h b hb).1 (by simp)⟩

theorem typeGo_append (s : PT) (l1 l2 : List Int) : typeGo s (l1 ++ l2) = if (typeGo s l1).1 = l1.length then (l1.length + (typeGo (typeGo s l1).2 l2).1, (typeGo (typeGo s l1).2 l2).2) else typeGo s l1 := by
  induction l1 generalizing s with
  | nil => simp [typeGo]
  | cons b l ih =>
    simp only [List.cons_append, typeGo]
    by_cases h : s.room (s.map b) = true
    · simp only [if_pos h, ih, List.length_cons, Nat.add_right_cancel_iff]
      split
      · simp only [Prod.mk.injEq, and_true]; omega
      · rfl
    · simp only [if_neg h, List.length_cons]
      rw [if_neg (by omega)]

theorem send_hung (s : PT) (n : Int) : (s.send n).hung = s.hung := by unfold PT.send; split <;> rfl
theorem outs_hung (s : PT) (l : List Int) : (s.outs l).hung = s.hung := by
  induction l generalizing s with
  | nil => rfl
  | cons b l ih => exact ih (s.out1 b)
theorem echo_hung (s : PT) (l : List Int) : (s.echo l).hung = s.hung := by unfold PT.echo; split; exact outs_hung s l; rfl
theorem erase_hung (s : PT) : s.erase.hung = s.hung := by unfold PT.erase; split; exact echo_hung _ _; rfl
theorem kill_hung (s : PT) : ∀ n, (iter PT.erase n s).hung = s.hung
  | 0 => rfl
  | n + 1 => by simp only [iter]; rw [erase_hung]; exact kill_hung s n
theorem process_hung (s : PT) (b : Int) : (s.process b).hung = s.hung := by
  unfold PT.process
  split
  · rfl
  split
  · rw [echo_hung]; exact send_hung _ _
  split
  · rw [echo_hung]; split <;> rfl
  split
  · rfl
  split
  · unfold PT.next; rw [echo_hung]; rfl
  split
  · exact kill_hung s _
  split
  · exact erase_hung s
  split
  · exact outs_hung _ _
  · rw [echo_hung]
theorem typeGo_hung (s : PT) (l : List Int) : (typeGo s l).2.hung = s.hung := by
  induction l generalizing s with
  | nil => rfl
  | cons b l ih =>
    simp only [typeGo]
    split
    · rw [ih, process_hung]
    · rfl

theorem outs_sig (s : PT) (l : List Int) : (s.outs l).signals = s.signals := by
  induction l generalizing s with
  | nil => rfl
  | cons b l ih => exact ih (s.out1 b)
theorem echo_sig (s : PT) (l : List Int) : (s.echo l).signals = s.signals := by unfold PT.echo; split; exact outs_sig s l; rfl
theorem erase_sig (s : PT) : s.erase.signals = s.signals := by unfold PT.erase; split; exact echo_sig _ _; rfl
theorem kill_sig (s : PT) : ∀ n, (iter PT.erase n s).signals = s.signals
  | 0 => rfl
  | n + 1 => by simp only [iter]; rw [erase_sig]; exact kill_sig s n
theorem process_sig (s : PT) (b : Int) (h : s.signals.length ≤ 64) : (s.process b).signals.length ≤ 64 := by
  unfold PT.process
  split
  · exact h
  split
  · rw [echo_sig]
    show (s.send _).signals.length ≤ 64
    unfold PT.send
    split
    · simp only [List.length_append, List.length_cons, List.length_nil]; omega
    · exact h
  split
  · rw [echo_sig]; split <;> exact h
  split
  · exact h
  split
  · unfold PT.next; rw [echo_sig]; exact h
  split
  · unfold PT.kill; rw [kill_sig]; exact h
  split
  · rw [erase_sig]; exact h
  split
  · rw [outs_sig]; exact h
  · rw [echo_sig]; exact h
theorem typeGo_sig (s : PT) (l : List Int) (h : s.signals.length ≤ 64) : (typeGo s l).2.signals.length ≤ 64 := by
  induction l generalizing s with
  | nil => exact h
  | cons b l ih =>
    simp only [typeGo]
    split
    · exact ih _ (process_sig s _ h)
    · exact h

theorem type_eq {s : PT} (hh : s.hung = false) {l : List Int} (hl : l.length ≤ 4096) : s.type l = (((typeGo s l).1 : Int), (if (typeGo s l).1 = l.length then 0 else if (typeGo s l).1 = 0 then 2 else 0), (typeGo s l).2) := by
  unfold PT.type
  rw [if_neg (by omega), if_neg (by rw [hh]; simp)]
  have := typeGo_le s l
  split
  · rename_i h; rw [h]
  · split
    · rename_i h; rw [h]; rfl
    · rfl

theorem pieces {s : PT} (hh : s.hung = false) {l : List Int} (hl : l.length ≤ 4096) {k : Nat} (hk : k ≤ l.length) :
    (if (s.type (l.take k)).1 = k then ((s.type (l.take k)).2.2.type (l.drop k)).2.2 = (s.type l).2.2 ∧ (k : Int) + ((s.type (l.take k)).2.2.type (l.drop k)).1 = (s.type l).1
      else (s.type (l.take k)).2.2 = (s.type l).2.2 ∧ (s.type (l.take k)).1 = (s.type l).1) ∧ (0 < l.length → 0 < k → (s.type l).2.1 = (s.type (l.take k)).2.1) := by
  have hlk : (l.take k).length = k := by simp only [List.length_take]; omega
  have hdk : (l.drop k).length ≤ 4096 := by simp only [List.length_drop]; omega
  have happ := typeGo_append s (l.take k) (l.drop k)
  rw [List.take_append_drop, hlk] at happ
  have hle := typeGo_le s (l.take k)
  rw [hlk] at hle
  rw [type_eq hh hl, type_eq hh (l := l.take k) (by omega), hlk]
  simp only
  by_cases hc : (typeGo s (l.take k)).1 = k
  · rw [if_pos hc] at happ
    have hh2 : (typeGo s (l.take k)).2.hung = false := by rw [typeGo_hung]; exact hh
    rw [if_pos (by omega), type_eq hh2 hdk, happ]
    simp only
    have hle2 := typeGo_le (typeGo s (l.take k)).2 (l.drop k)
    refine ⟨⟨by first | rfl | trivial, by omega⟩, fun _ h0 => ?_⟩
    rw [if_pos hc]
    split
    · rfl
    · rw [if_neg (by omega)]
  · rw [if_neg hc] at happ
    rw [if_neg (by omega), happ]
    refine ⟨by first | exact ⟨rfl, rfl⟩ | trivial, fun h1 h0 => ?_⟩
    rw [if_neg hc, if_neg (by omega)]

theorem Inv.small {M N : Nat} {s : PT} (h : Inv M N s) (hM : M ≤ 1000000) (hN : N ≤ 1000) : Small s := ⟨by have := h.inp; omega, fun x hx => by have := h.recs x hx; omega⟩

theorem _root_.Go.E.RdS.len_le {H : AHeap} {es : Nat} {a : Option Addr} {l c : Nat} {xs : List Value} {r : List Nat} (h : RdS H es (.slice a l c) xs r) : l ≤ c := by
  cases h with
  | nil => omega
  | empty => omega
  | blk hg hc he hl => exact hl
theorem L4 {H : AHeap} (hgl : Glob objs H) {m cut : Int} (hm : 0 ≤ m ∧ m ≤ 255) {vd : Value} {l : List Int} {r : List Nat} (hd : RdS H 1 vd (bts l) r) (hr : ∀ b ∈ r, b < H.next) : wpF C 4 [.int .u8 m, vd, .int .i64 cut] H fun v H' => v = .bool true := by
  obtain ⟨a, c, rfl⟩ := hd.b1
  have hm64 : 0 ≤ m.tmod 64 ∧ m.tmod 64 ≤ 63 := by
    rw [Int.tmod_eq_emod_of_nonneg hm.1]
    omega
  refine wpF_ofW o4 rfl rfl ?_
  refine wp_seq ?_; refine wp_region ?_; refine wpO_cons ?_; refine op1_mov rfl (by (conv => lhs; whnf) <;> rfl) ?_; refine wpO_nil ?_; refine seq_normal ?_; refine wp_seq ?_; refine wp_region ?_; refine wpO_cons ?_; refine op1_mov rfl (by (conv => lhs; whnf) <;> rfl) ?_; refine wpO_cons ?_; refine op1_rem rfl rfl rfl (by omega) ?_; refine wpO_cons ?_; refine op1_convInt rfl rfl (by exact wrap_i64 (by omega) (by omega)) ?_; refine wpO_cons ?_; refine op1_call1 rfl (by (conv => lhs; whnf) <;> rfl) ?_
  refine wpF_mono (L9 hgl hm64) ?_
  rintro v H1 ⟨p1, O1, rfl, hR1, hE1⟩
  refine wpO_cons ?_; refine op1_mov rfl (by (conv => lhs; whnf) <;> rfl) ?_; refine wpO_cons ?_; refine op1_extract rfl rfl rfl ?_; refine wpO_cons ?_; refine op1_extract rfl rfl rfl ?_; refine wpO_cons ?_; refine op1_mov rfl (by (conv => lhs; whnf) <;> rfl) ?_; refine wpO_cons ?_; refine op1_mov rfl (by (conv => lhs; whnf) <;> rfl) ?_; refine wpO_nil ?_; refine seq_normal ?_; refine wp_seq ?_; refine wp_region ?_; refine wpO_cons ?_; refine op1_mov rfl (by (conv => lhs; whnf) <;> rfl) ?_; refine wpO_cons ?_; refine op1_rem rfl rfl rfl (by omega) ?_; refine wpO_cons ?_; refine op1_convInt rfl rfl (by exact wrap_i64 (by omega) (by omega)) ?_; refine wpO_cons ?_; refine op1_call1 rfl (by (conv => lhs; whnf) <;> rfl) ?_
  refine wpF_mono (L9 hR1.glob hm64) ?_
  rintro v H2 ⟨p2, O2, rfl, hR2, hE2⟩
  generalize hS : PT.new (m.tmod 64) = S at *
  have hSh : S.hung = false := by rw [← hS]; rfl
  have hIn : Inv 255 64 S := by rw [← hS]; exact ⟨by simp [PT.new], by simp [PT.new], by simp [PT.new], by simp [PT.new]⟩
  have hT : Two H2 p1 S O1 p2 S O2 := ⟨hR1.frame hR2.glob hE2.next fun b hb => hE2.keep b (hR1.lt b hb) (by simp), hR2, fun b hb hm => (hE2.own b hm).elim (fun h => by simp at h) fun h1 => absurd (hR1.lt b hb) (by omega)⟩
  have hK : Keep H2 r O1 O2 := fun b hb => ⟨Nat.lt_of_lt_of_le (hr b hb) (Nat.le_trans hE1.next hE2.next), fun hm => (hE1.own b hm).elim (fun h => by simp at h) fun h1 => absurd (hr b hb) (by omega), fun hm => (hE2.own b hm).elim (fun h => by simp at h) fun h1 => absurd (Nat.lt_of_lt_of_le (hr b hb) hE1.next) (by omega)⟩
  have hd2 : RdS H2 1 (.slice a l.length c) (bts l) r := (hd.frame fun b hb => hE1.keep b (hr b hb) (by simp)).frame fun b hb => hE2.keep b (Nat.lt_of_lt_of_le (hr b hb) hE1.next) (by simp)
  have hgl2 := hR2.glob
  refine wpO_cons ?_; refine op1_mov rfl (by (conv => lhs; whnf) <;> rfl) ?_; refine wpO_cons ?_; refine op1_extract rfl rfl rfl ?_; refine wpO_cons ?_; refine op1_extract rfl rfl rfl ?_; refine wpO_cons ?_; refine op1_mov rfl (by (conv => lhs; whnf) <;> rfl) ?_; refine wpO_cons ?_; refine op1_mov rfl (by (conv => lhs; whnf) <;> rfl) ?_; refine wpO_nil ?_; refine seq_normal ?_; refine wp_seq ?_; refine wp_seq ?_; refine wp_region ?_; refine wpO_cons ?_; refine op1_mov rfl (by (conv => lhs; whnf) <;> rfl) ?_; refine wpO_cons ?_; refine op1_len rfl rfl ?_; refine wpO_cons ?_; refine op1_gtr rfl rfl rfl ?_; refine wpO_cons ?_; refine op1_mov rfl (by (conv => lhs; whnf) <;> rfl) ?_; refine wpO_cons ?_
  refine op1_dec rfl (fun hc => ?_) (fun hc => ?_)
  · refine op1_skip rfl ?_; refine wpO_cons ?_; refine op1_skip rfl ?_; refine wpO_cons ?_; refine op1_pick_t rfl rfl (by (conv => lhs; whnf) <;> rfl) ?_; refine wpO_cons ?_; refine op1_mov rfl (by (conv => lhs; whnf) <;> rfl) ?_; refine wpO_cons ?_; refine op1_skip rfl ?_; refine wpO_cons ?_; refine op1_skip rfl ?_; refine wpO_cons ?_; refine op1_pick_t rfl rfl (by (conv => lhs; whnf) <;> rfl) ?_; refine wpO_cons ?_; refine op1_mov rfl (by (conv => lhs; whnf) <;> rfl) ?_; refine wpO_cons ?_; refine op1_skip rfl ?_; refine wpO_cons ?_; refine op1_skip rfl ?_; refine wpO_cons ?_; refine op1_pick_t rfl rfl (by (conv => lhs; whnf) <;> rfl) ?_; refine wpO_nil ?_; refine seq_normal ?_; refine wp_true rfl ?_; refine wp_seq ?_; refine wp_region ?_; refine wpO_cons ?_; refine op1_call0 rfl  ?_; refine wpF_known rfl hgl2 ?_; refine wpO_cons ?_; refine op1_mov rfl (by (conv => lhs; whnf) <;> rfl) ?_; refine wpO_cons ?_; refine op1_mov rfl (by (conv => lhs; whnf) <;> rfl) ?_; refine wpO_cons ?_; refine op1_eqlI_s rfl rfl rfl ?_; refine wpO_cons ?_; refine op1_pick_t rfl rfl (by (conv => lhs; whnf) <;> rfl) ?_; refine wpO_cons ?_; refine op1_mov rfl (by (conv => lhs; whnf) <;> rfl) ?_; refine wpO_cons ?_; refine op1_mov rfl (by (conv => lhs; whnf) <;> rfl) ?_; refine wpO_cons ?_; refine op1_eqlI_s rfl rfl rfl ?_; refine wpO_cons ?_; refine op1_pick_t rfl rfl (by (conv => lhs; whnf) <;> rfl) ?_; refine wpO_cons ?_; refine op1_mov rfl (by (conv => lhs; whnf) <;> rfl) ?_; refine wpO_nil ?_; refine seq_normal ?_; refine wp_ret ?_; refine seq_ret ?_; refine ret_of ?_; refine rk_tmp (by (conv => lhs; whnf) <;> rfl) ?_; refine rk_nil ?_
    rfl
  have hlen : l.length ≤ 200 := by omega
  refine op1_call0 rfl  ?_; refine wpF_known rfl hgl2 ?_; refine wpO_cons ?_; refine op1_not_t rfl rfl ?_; refine wpO_cons ?_; refine op1_pick_f rfl rfl (by (conv => lhs; whnf) <;> rfl) ?_; refine wpO_cons ?_; refine op1_mov rfl (by (conv => lhs; whnf) <;> rfl) ?_; refine wpO_cons ?_; refine op1_mov rfl (by (conv => lhs; whnf) <;> rfl) ?_; refine wpO_cons ?_; refine op1_neqI_s rfl rfl rfl ?_; refine wpO_cons ?_; refine op1_pick_f rfl rfl (by (conv => lhs; whnf) <;> rfl) ?_; refine wpO_cons ?_; refine op1_mov rfl (by (conv => lhs; whnf) <;> rfl) ?_; refine wpO_cons ?_; refine op1_mov rfl (by (conv => lhs; whnf) <;> rfl) ?_; refine wpO_cons ?_; refine op1_neqI_s rfl rfl rfl ?_; refine wpO_cons ?_; refine op1_pick_f rfl rfl (by (conv => lhs; whnf) <;> rfl) ?_; refine wpO_nil ?_; refine seq_normal ?_; refine wp_false rfl ?_; refine wp_skip ?_; refine seq_normal ?_; refine wp_seq ?_; refine wp_region ?_; refine wpO_cons ?_; refine op1_mov rfl (by (conv => lhs; whnf) <;> rfl) ?_; refine wpO_cons ?_
  refine op1_convIntW rfl rfl ?_
  have hw : 0 ≤ IntKind.u64.wrap cut := by
    unfold IntKind.wrap; simp [IntKind.bits, IntKind.signed]; omega
  obtain ⟨k, hk, hkl⟩ : ∃ k : Nat, (IntKind.u64.wrap cut).tmod ((l.length : Int) + 1) = k ∧ k ≤ l.length := by
    rw [Int.tmod_eq_emod_of_nonneg hw]
    have h1 := Int.emod_nonneg (IntKind.u64.wrap cut) (show ((l.length : Int) + 1) ≠ 0 by omega)
    have h2 := Int.emod_lt_of_pos (IntKind.u64.wrap cut) (show (0 : Int) < (l.length : Int) + 1 by omega)
    exact ⟨((IntKind.u64.wrap cut) % ((l.length : Int) + 1)).toNat, by omega, by omega⟩
  generalize IntKind.u64.wrap cut = cw at *
  refine wpO_cons ?_; refine op1_mov rfl (by (conv => lhs; whnf) <;> rfl) ?_; refine wpO_cons ?_; refine op1_len rfl rfl ?_; refine wpO_cons ?_; refine op1_add rfl rfl rfl (by exact wrap_i64 (by omega) (by omega)) ?_; refine wpO_cons ?_; refine op1_convInt rfl rfl (by exact wrap_u64 (by omega) (by omega)) ?_; refine wpO_cons ?_; refine op1_rem rfl rfl rfl (by omega) ?_; refine wpO_cons ?_; refine op1_convInt rfl rfl (by exact wrap_i64 (by omega) (by omega)) ?_; refine wpO_cons ?_; refine op1_mov rfl (by (conv => lhs; whnf) <;> rfl) ?_; refine wpO_nil ?_; refine seq_normal ?_; refine wp_seq ?_; refine wp_region ?_; refine wpO_cons ?_; refine op1_mov rfl (by (conv => lhs; whnf) <;> rfl) ?_; refine wpO_cons ?_; refine op1_mov rfl (by (conv => lhs; whnf) <;> rfl) ?_; refine wpO_cons ?_; refine op1_call2 rfl (by (conv => lhs; whnf) <;> rfl) (by (conv => lhs; whnf) <;> rfl) ?_
  rw [hk]
  skip
  have hlc : l.length ≤ c := hd2.len_le
  have hnb : 0 ≤ (S.type l).1 ∧ (S.type l).1 ≤ 200 := by
    rw [type_eq hSh (by omega)]
    have := typeGo_le S l
    simp only
    omega
  refine wpF_mono (L11 hT.a hIn (Nat.le_refl _) (by omega) (Nat.le_refl _) (by omega) hd2 fun b hb => ⟨(hK b hb).1, (hK b hb).2.1⟩) ?_
  rintro v H3 ⟨rfl, hI3, O3, hR3, hE3⟩
  have hT3 := hT.stepA hR3 hE3
  obtain ⟨hK3, hk3⟩ := hK.stepA hE3
  have hd3 := hd2.frame hk3
  refine wpO_cons ?_; refine op1_mov rfl (by (conv => lhs; whnf) <;> rfl) ?_; refine wpO_cons ?_; refine op1_extract rfl rfl rfl ?_; refine wpO_cons ?_; refine op1_extract rfl rfl rfl ?_; refine wpO_cons ?_; refine op1_mov rfl (by (conv => lhs; whnf) <;> rfl) ?_; refine wpO_cons ?_; refine op1_mov rfl (by (conv => lhs; whnf) <;> rfl) ?_; refine wpO_nil ?_; refine seq_normal ?_; refine wp_seq ?_; refine wp_region ?_; refine wpO_cons ?_; refine op1_mov rfl (by (conv => lhs; whnf) <;> rfl) ?_; refine wpO_cons ?_; refine op1_mov rfl (by (conv => lhs; whnf) <;> rfl) ?_; refine wpO_cons ?_; refine op1_mov rfl (by (conv => lhs; whnf) <;> rfl) ?_; refine wpO_cons ?_
  refine op1_sliceR rfl rfl hd3 (bnds_hi (by omega) (by omega)) (by omega) (by simp only [Int.toNat_natCast]; omega) ?_
  simp only [Int.toNat_natCast, Nat.zero_mul, List.drop_zero, Nat.sub_zero, Nat.mul_one]
  intro a4 c4 hd4
  rw [bts_take] at hd4
  refine wpO_cons ?_; refine op1_call2 rfl (by (conv => lhs; whnf) <;> rfl) (by (conv => lhs; whnf) <;> rfl) ?_
  refine wpF_mono (L11 hT3.b hIn (Nat.le_refl _) (by omega) (Nat.le_refl _) (by omega) hd4 fun b hb => ⟨(hK3 b hb).1, (hK3 b hb).2.2⟩) ?_
  rintro v H4 ⟨rfl, hI4, O4, hR4, hE4⟩
  have hT4 := hT3.stepB hR4 hE4
  obtain ⟨hK4, hk4⟩ := hK3.stepB hE4
  have hd5 := hd3.frame hk4
  obtain ⟨hpc, herr⟩ := pieces hSh (l := l) (by omega) hkl
  -- behind both pieces the two terminals are alike
  refine wpO_cons ?_; refine op1_mov rfl (by (conv => lhs; whnf) <;> rfl) ?_; refine wpO_cons ?_; refine op1_extract rfl rfl rfl ?_; refine wpO_cons ?_; refine op1_extract rfl rfl rfl ?_; refine wpO_cons ?_; refine op1_mov rfl (by (conv => lhs; whnf) <;> rfl) ?_; refine wpO_cons ?_; refine op1_mov rfl (by (conv => lhs; whnf) <;> rfl) ?_; refine wpO_nil ?_; refine seq_normal ?_
  refine wp_cut [14] (fun vs H' => vs = [.int .i64 (S.type l).1] ∧ ∃ O5, Two H' p1 (S.type l).2.2 O3 p2 (S.type l).2.2 O5) ?_ ?_
  · refine wp_seq ?_; refine wp_region ?_; refine wpO_cons ?_; refine op1_mov rfl (by (conv => lhs; whnf) <;> rfl) ?_; refine wpO_cons ?_; refine op1_mov rfl (by (conv => lhs; whnf) <;> rfl) ?_; refine wpO_cons ?_; refine op1_eqlI rfl rfl rfl ?_; refine wpO_nil ?_; refine seq_normal ?_
    refine wp_dec rfl (fun hx => ?_) (fun hx => ?_)
    · rw [if_pos hx] at hpc
      refine wp_seq ?_; refine wp_region ?_; refine wpO_cons ?_; refine op1_mov rfl (by (conv => lhs; whnf) <;> rfl) ?_; refine wpO_cons ?_; refine op1_mov rfl (by (conv => lhs; whnf) <;> rfl) ?_; refine wpO_cons ?_; refine op1_mov rfl (by (conv => lhs; whnf) <;> rfl) ?_; refine wpO_cons ?_
      refine op1_sliceR rfl rfl hd5 (bnds_lo (by omega) (by omega) hlc) (by simp only [Int.toNat_natCast]; omega) (Nat.le_refl _) ?_
      simp only [Int.toNat_natCast, Nat.mul_one]
      intro a6 c6 hd6
      rw [List.take_of_length_le (by simp [bts]), bts_drop] at hd6
      have hd6' : RdS H4 1 (.slice a6 (l.length - k) c6) (bts (l.drop k)) r := hd6
      refine wpO_cons ?_; refine op1_call2 rfl (by (conv => lhs; whnf) <;> rfl) (by (conv => lhs; whnf) <;> rfl) ?_
      refine wpF_mono (L11 hT4.b hI4 (Nat.le_refl _) (by omega) (Nat.le_refl _) (by omega) hd6' fun b hb => ⟨(hK4 b hb).1, (hK4 b hb).2.2⟩) ?_
      rintro v H6 ⟨rfl, hI6, O6, hR6, hE6⟩
      have hT6 := hT4.stepB hR6 hE6
      rw [hpc.1] at hT6
      refine wpO_cons ?_; refine op1_mov rfl (by (conv => lhs; whnf) <;> rfl) ?_; refine wpO_cons ?_; refine op1_extract rfl rfl rfl ?_; refine wpO_cons ?_; refine op1_extract rfl rfl rfl ?_; refine wpO_cons ?_; refine op1_mov rfl (by (conv => lhs; whnf) <;> rfl) ?_; refine wpO_cons ?_; refine op1_mov rfl (by (conv => lhs; whnf) <;> rfl) ?_; refine wpO_nil ?_; refine seq_normal ?_; refine wp_region ?_; refine wpO_cons ?_; refine op1_mov rfl (by (conv => lhs; whnf) <;> rfl) ?_; refine wpO_cons ?_; refine op1_mov rfl (by (conv => lhs; whnf) <;> rfl) ?_; refine wpO_cons ?_; refine op1_add rfl rfl rfl (by exact wrap_i64 (by omega) (by omega)) ?_; refine wpO_cons ?_; refine op1_mov rfl (by (conv => lhs; whnf) <;> rfl) ?_; refine wpO_nil ?_; refine cut1 (by (conv => lhs; whnf) <;> rfl) ?_
      rw [hx] at *
      exact ⟨by rw [hpc.2], O6, hT6⟩
    · rw [if_neg hx] at hpc
      rw [hpc.1] at hT4
      refine wp_skip ?_; refine cut1 (by (conv => lhs; whnf) <;> rfl) ?_
      exact ⟨by rw [hpc.2], O4, hT4⟩
  rintro vs' T5 H5 ⟨rfl, O5, hT5⟩
  have hsg : (S.type l).2.2.signals.length ≤ 64 := by
    rw [type_eq hSh (by omega)]
    exact typeGo_sig S l (by rw [← hS]; simp [PT.new])
  generalize hsA : (S.type l).2.2 = sA at *
  have hsm := hI3.small (by omega) (by omega)
  refine wp_seq ?_
  refine wp_seq ?_
  refine wp_region ?_
  refine wo_cut 17 [108] (fun vs H' => vs = [.bool false] ∧ H5 = H') ?_ ?_
  · refine wpO_cons ?_; refine op1_mov rfl (by (conv => lhs; whnf) <;> rfl) ?_; refine wpO_cons ?_; refine op1_mov rfl (by (conv => lhs; whnf) <;> rfl) ?_; refine wpO_cons ?_; refine op1_neqI_s rfl rfl rfl ?_; refine wpO_cons ?_; refine op1_mov rfl (by (conv => lhs; whnf) <;> rfl) ?_; refine wpO_cons ?_; refine op1_mov rfl (by (conv => lhs; whnf) <;> rfl) ?_; refine wpO_cons ?_; refine op1_mov rfl (by (conv => lhs; whnf) <;> rfl) ?_; refine wpO_cons ?_; refine op1_neqI rfl rfl rfl ?_; refine wpO_cons ?_; refine op1_mov rfl (by (conv => lhs; whnf) <;> rfl) ?_; refine wpO_cons ?_; refine op1_split rfl (fun hc0 => ?_) (fun hc0 => ?_); (focus (refine op1_mov rfl (by (conv => lhs; whnf) <;> rfl) ?_; refine wpO_cons ?_; refine op1_len rfl rfl ?_; refine wpO_cons ?_; refine op1_gtr rfl rfl rfl ?_; refine wpO_cons ?_; refine op1_pick_t rfl rfl (by (conv => lhs; whnf) <;> rfl) ?_; refine wpO_cons ?_; refine op1_mov rfl (by (conv => lhs; whnf) <;> rfl) ?_; refine wpO_cons ?_; refine op1_split rfl (fun hc1 => ?_) (fun hc1 => ?_); (focus (refine op1_mov rfl (by (conv => lhs; whnf) <;> rfl) ?_; refine wpO_cons ?_; refine op1_gtr rfl rfl rfl ?_; refine wpO_cons ?_; refine op1_pick_t rfl rfl (by (conv => lhs; whnf) <;> rfl) ?_; refine wpO_cons ?_; refine op1_pick_f rfl rfl (by (conv => lhs; whnf) <;> rfl) ?_; refine wpO_nil ?_; refine cuto1 (by (conv => lhs; whnf) <;> rfl) ?_; (exact ⟨by simp_all <;> omega, rfl⟩))); (focus (refine op1_skip rfl ?_; refine wpO_cons ?_; refine op1_skip rfl ?_; refine wpO_cons ?_; refine op1_pick_f rfl rfl (by (conv => lhs; whnf) <;> rfl) ?_; refine wpO_cons ?_; refine op1_pick_f rfl rfl (by (conv => lhs; whnf) <;> rfl) ?_; refine wpO_nil ?_; refine cuto1 (by (conv => lhs; whnf) <;> rfl) ?_; (exact ⟨by simp_all <;> omega, rfl⟩))))); (focus (refine op1_skip rfl ?_; refine wpO_cons ?_; refine op1_skip rfl ?_; refine wpO_cons ?_; refine op1_skip rfl ?_; refine wpO_cons ?_; refine op1_pick_f rfl rfl (by (conv => lhs; whnf) <;> rfl) ?_; refine wpO_cons ?_; refine op1_mov rfl (by (conv => lhs; whnf) <;> rfl) ?_; refine wpO_cons ?_; refine op1_skip rfl ?_; refine wpO_cons ?_; refine op1_skip rfl ?_; refine wpO_cons ?_; refine op1_pick_f rfl rfl (by (conv => lhs; whnf) <;> rfl) ?_; refine wpO_cons ?_; refine op1_pick_f rfl rfl (by (conv => lhs; whnf) <;> rfl) ?_; refine wpO_nil ?_; refine cuto1 (by (conv => lhs; whnf) <;> rfl) ?_; (exact ⟨by simp_all <;> omega, rfl⟩)))
  rintro vs6 T6 H6 ⟨rfl, rfl⟩
  refine wpO_cons ?_; refine op1_mov rfl (by (conv => lhs; whnf) <;> rfl) ?_; refine wpO_cons ?_; refine op1_mov rfl (by (conv => lhs; whnf) <;> rfl) ?_; refine wpO_cons ?_; refine op1_call1 rfl (by (conv => lhs; whnf) <;> rfl) ?_
  refine wpF_mono (L15 hT5.a hsm.inp hsm.recs) ?_
  rintro v H6 ⟨rfl, hE6⟩
  have hT6 := hT5.step0 hE6
  refine wpO_cons ?_; refine op1_mov rfl (by (conv => lhs; whnf) <;> rfl) ?_; refine wpO_cons ?_; refine op1_call1 rfl (by (conv => lhs; whnf) <;> rfl) ?_
  refine wpF_mono (L15 hT6.b hsm.inp hsm.recs) ?_
  rintro v H7 ⟨rfl, hE7⟩
  have hT7 := hT6.step0 hE7
  have hll : sA.line.length ≤ 1000000 := by have := hI3.line; omega
  refine wpO_cons ?_; refine op1_neqI_s rfl rfl rfl ?_; refine wpO_cons ?_; refine op1_pick_f rfl rfl (by (conv => lhs; whnf) <;> rfl) ?_; refine wpO_cons ?_; refine op1_mov rfl (by (conv => lhs; whnf) <;> rfl) ?_; refine wpO_cons ?_; refine op1_mov rfl (by (conv => lhs; whnf) <;> rfl) ?_; refine wpO_cons ?_; refine op1_call1 rfl (by (conv => lhs; whnf) <;> rfl) ?_
  refine wpF_mono (L16 hT7.a hll) ?_
  rintro v1 H8 ⟨r8, hN8, hR8, hE8⟩
  have hT8 := hT7.stepA hR8 hE8
  have hK8 : Keep H8 r8 O3 O5 := fun b hb => ⟨(hN8.fresh b hb).2.1, (hN8.fresh b hb).2.2, fun hm => absurd (hT7.b.lt b hm) (by have := (hN8.fresh b hb).1; omega)⟩
  refine wpO_cons ?_; refine op1_mov rfl (by (conv => lhs; whnf) <;> rfl) ?_; refine wpO_cons ?_; refine op1_call1 rfl (by (conv => lhs; whnf) <;> rfl) ?_
  refine wpF_mono (L16 hT8.b hll) ?_
  rintro v2 H9 ⟨r9, hN9, hR9, hE9⟩
  have hT9 := hT8.stepB hR9 hE9
  have hS8 := hN8.sl.rd.frame (hK8.stepB hE9).2
  refine wpO_cons ?_; refine op1_call2 rfl (by (conv => lhs; whnf) <;> rfl) (by (conv => lhs; whnf) <;> rfl) ?_
  refine wpF_mono (L14 hS8 hN9.sl.rd) ?_
  rintro _ _ ⟨rfl, rfl⟩
  refine wpO_cons ?_; refine op1_not_t rfl rfl ?_; refine wpO_cons ?_; refine op1_pick_f rfl rfl (by (conv => lhs; whnf) <;> rfl) ?_; refine wpO_cons ?_; refine op1_mov rfl (by (conv => lhs; whnf) <;> rfl) ?_; refine wpO_cons ?_; refine op1_mov rfl (by (conv => lhs; whnf) <;> rfl) ?_; refine wpO_cons ?_; refine op1_call1 rfl (by (conv => lhs; whnf) <;> rfl) ?_
  refine wpF_mono (L17 hT9.a) ?_
  rintro _ _ ⟨rfl, rfl⟩
  refine wpO_cons ?_; refine op1_mov rfl (by (conv => lhs; whnf) <;> rfl) ?_; refine wpO_cons ?_; refine op1_call1 rfl (by (conv => lhs; whnf) <;> rfl) ?_
  refine wpF_mono (L17 hT9.b) ?_
  rintro _ _ ⟨rfl, rfl⟩
  refine wpO_cons ?_; refine op1_neqB_s rfl rfl rfl rfl ?_; refine wpO_cons ?_; refine op1_pick_f rfl rfl (by (conv => lhs; whnf) <;> rfl) ?_; refine wpO_cons ?_; refine op1_mov rfl (by (conv => lhs; whnf) <;> rfl) ?_; refine wpO_cons ?_; refine op1_mov rfl (by (conv => lhs; whnf) <;> rfl) ?_; refine wpO_cons ?_; refine op1_call1 rfl (by (conv => lhs; whnf) <;> rfl) ?_
  refine wpF_mono (L19 hT9.a) ?_
  rintro w1 H10 ⟨O10, r10, hN10, hf10, hR10, hE10⟩
  have hT10 := hT9.stepA hR10 hE10
  have hK10 : Keep H10 r10 O10 O5 := fun b hb => ⟨(hf10 b hb).1, (hf10 b hb).2.2, fun hm => hT9.dis b (hf10 b hb).2.1 hm⟩
  refine wpO_cons ?_; refine op1_mov rfl (by (conv => lhs; whnf) <;> rfl) ?_; refine wpO_cons ?_; refine op1_call1 rfl (by (conv => lhs; whnf) <;> rfl) ?_
  refine wpF_mono (L19 hT10.b) ?_
  rintro w2 H11 ⟨O11, r11, hN11, hf11, hR11, hE11⟩
  have hT11 := hT10.stepB hR11 hE11
  have hS10 := hN10.rd.frame (hK10.stepB hE11).2
  refine wpO_cons ?_; refine op1_call2 rfl (by (conv => lhs; whnf) <;> rfl) (by (conv => lhs; whnf) <;> rfl) ?_
  refine wpF_mono (L18 hS10 hN11.rd (by omega)) ?_
  rintro _ _ ⟨rfl, rfl⟩
  refine wpO_cons ?_; refine op1_not_t rfl rfl ?_; refine wpO_cons ?_; refine op1_pick_f rfl rfl (by (conv => lhs; whnf) <;> rfl) ?_; refine wpO_nil ?_; refine seq_normal ?_; refine wp_false rfl ?_; refine wp_skip ?_; refine seq_normal ?_; refine wp_seq ?_; refine wp_region ?_; refine wpO_cons ?_; refine op1_mov rfl (by (conv => lhs; whnf) <;> rfl) ?_; refine wpO_cons ?_; refine op1_call1 rfl (by (conv => lhs; whnf) <;> rfl) ?_
  have hsm' : Small { sA with signals := [] } := ⟨hsm.inp, hsm.recs⟩
  generalize ({ sA with signals := [] } : PT) = sB at *
  refine wpF_mono (L20 hT11.a hsm') ?_
  rintro v1 H12 ⟨O12, r12, hN12, hR12, hE12⟩
  have hT12 := hT11.stepA hR12 hE12
  have hK12 : Keep H12 r12 O12 O11 := fun b hb => ⟨(hN12.fresh b hb).2.1, (hN12.fresh b hb).2.2, fun hm => absurd (hT11.b.lt b hm) (by have := (hN12.fresh b hb).1; omega)⟩
  refine wpO_cons ?_; refine op1_mov rfl (by (conv => lhs; whnf) <;> rfl) ?_; refine wpO_cons ?_; refine op1_call1 rfl (by (conv => lhs; whnf) <;> rfl) ?_
  refine wpF_mono (L20 hT12.b hsm') ?_
  rintro v2 H13 ⟨O13, r13, hN13, hR13, hE13⟩
  have hS12 := hN12.sl.rd.frame (hK12.stepB hE13).2
  refine wpO_cons ?_; refine op1_call2 rfl (by (conv => lhs; whnf) <;> rfl) (by (conv => lhs; whnf) <;> rfl) ?_
  refine wpF_mono (L14 hS12 hN13.sl.rd) ?_
  rintro _ _ ⟨rfl, rfl⟩
  refine wpO_cons ?_; refine op1_mov rfl (by (conv => lhs; whnf) <;> rfl) ?_; refine wpO_nil ?_; refine seq_normal ?_; refine wp_ret ?_; refine ret_of ?_; refine rk_tmp (by (conv => lhs; whnf) <;> rfl) ?_; refine rk_nil ?_
  rfl
end Go.E.Pty
