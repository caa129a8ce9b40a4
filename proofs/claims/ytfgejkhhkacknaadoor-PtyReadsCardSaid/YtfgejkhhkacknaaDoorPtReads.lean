/- Go's bytes.ReplaceAll of one byte by none, bytes.HasPrefix; PtyReads, as the evaluator runs it: true, whatever is typed and read. -/
import Derived.Test.YtfgejkhhkacknaaDoorPtLines
import Derived.Test.YtfgejkhhkacknaaDoorEngZf
namespace Go.E.Pty
open Go Go.E Go.Proofs.YtfgejkhhkacknaaDoor.base Go.Proofs.YtfgejkhhkacknaaDoor Go.Proofs
set_option linter.unusedVariables false
set_option linter.unusedSimpArgs false
set_option maxRecDepth 100000

def Rng (l : List Int) : Prop := ∀ x ∈ l, (0 : Int) ≤ x ∧ x ≤ 255
/-- all but the bars -/
def nb (l : List Int) : List Int := l.filter (fun x => !decide (x = 124))
theorem nb_append (a b : List Int) : nb (a ++ b) = nb a ++ nb b := by simp [nb]
theorem nb_len (l : List Int) : (nb l).length + l.count 124 = l.length := by
  induction l with
  | nil => rfl
  | cons a l ih =>
    unfold nb at ih ⊢
    by_cases h : a = 124
    · subst h; simp at ih ⊢; omega
    · simp [h, List.count_cons] at ih ⊢; omega
theorem nb_id {l : List Int} (h : l.count 124 = 0) : nb l = l := by
  unfold nb
  rw [List.filter_eq_self]
  intro a ha
  have := List.count_eq_zero.1 h
  simp only [Bool.not_eq_true', decide_eq_false_iff_not]
  intro e; subst e; exact this ha
theorem cnt_eq {l : List Int} (h : Rng l) : Go.Lib.countByte (l.map fun n => UInt8.ofNat n.toNat) (124 : Int).toNat.toUInt8 = l.count 124 := by
  induction l with
  | nil => rfl
  | cons a l ih =>
    have ih := ih fun x hx => h x (by simp [hx])
    unfold Go.Lib.countByte at ih ⊢
    rw [List.map_cons, List.count_cons, List.count_cons, ih, u8_eq (h a (by simp)) (by omega)]
    by_cases e : a = 124 <;> simp [e]
/-- where a bar is there is a first one -/
theorem ix_split {l : List Int} (h : 0 < l.count 124) : ∃ a b, l = a ++ 124 :: b ∧ ixI l 124 = a.length ∧ a.count 124 = 0 := by
  induction l with
  | nil => simp at h
  | cons x l ih =>
    by_cases e : x = 124
    · subst e; exact ⟨[], l, rfl, by simp [ixI], rfl⟩
    · rw [List.count_cons] at h
      simp [e] at h
      obtain ⟨a, b, rfl, h1, h2⟩ := ih (by rw [List.count_pos_iff]; exact h)
      refine ⟨x :: a, b, rfl, ?_, by simp [List.count_cons, e, h2]⟩
      unfold ixI
      rw [if_neg e, if_neg (by omega), h1]
      simp

theorem L82 {H : AHeap} {v w : Value} {l : List Int} {r r2 : List Nat} (hd : RdS H 1 v (bts l) r) (hw : RdS H 1 w (bts [124]) r2) (hl : Rng l) : wpF C 82 [v, w] H fun u H' => u = .int .i64 (l.count 124 : Nat) ∧ H = H' := by
  obtain ⟨aw, cw, rfl⟩ := hw.b1
  have hw : RdS H 1 (.slice aw 1 cw) (bts [124]) r2 := hw
  show wpF C 82 [_, .slice aw 1 cw] H _
  obtain ⟨b, off, cs, e, ro, x, rfl, rfl, hg, hv, hx⟩ := hw.at1 (i := 0) (by simp)
  obtain rfl : x = .int .u8 124 := by simpa [bts] using hx.symm
  refine wpF_ofW o82 rfl rfl ?_
  refine wp_seq ?_; refine wp_region ?_; refine wpO_cons ?_; refine op1_mov rfl (by (conv => lhs; whnf) <;> rfl) ?_; refine wpO_nil ?_; refine seq_normal ?_; refine wp_seq ?_; refine wp_seq ?_; refine wp_region ?_; refine wpO_cons ?_; refine op1_mov rfl (by (conv => lhs; whnf) <;> rfl) ?_; refine wpO_cons ?_; refine op1_len rfl rfl ?_; refine wpO_cons ?_; refine op1_eqlI rfl rfl rfl ?_; refine wpO_nil ?_; refine seq_normal ?_; refine wp_false rfl ?_; refine wp_skip ?_; refine seq_normal ?_; refine wp_seq ?_; refine wp_seq ?_; refine wp_region ?_; refine wpO_cons ?_; refine op1_mov rfl (by (conv => lhs; whnf) <;> rfl) ?_; refine wpO_cons ?_; refine op1_len rfl rfl ?_; refine wpO_cons ?_; refine op1_eqlI_s rfl rfl rfl ?_; refine wpO_nil ?_; refine seq_normal ?_; refine wp_true rfl ?_; refine wp_seq ?_; refine wp_region ?_; refine wpO_cons ?_; refine op1_mov rfl (by (conv => lhs; whnf) <;> rfl) ?_; refine wpO_cons ?_; refine op1_mov rfl (by (conv => lhs; whnf) <;> rfl) ?_; refine wpO_cons ?_; refine op1_iaddr rfl rfl rfl (by omega) (by omega) ?_; refine wpO_cons ?_
  refine op1_load rfl rfl hg hv ?_
  refine wpO_cons ?_
  refine op1_extB rfl (by (conv => lhs; whnf) <;> rfl) rfl (RdS.bytesV hd) ?_
  rw [if_pos rfl, cnt_eq hl]
  refine wpO_cons ?_; refine op1_mov rfl (by (conv => lhs; whnf) <;> rfl) ?_; refine wpO_nil ?_; refine seq_normal ?_; refine wp_ret ?_; refine seq_ret ?_; refine ret_of ?_; refine rk_tmp (by (conv => lhs; whnf) <;> rfl) ?_; refine rk_nil ?_
  exact ⟨rfl, rfl⟩

theorem L83 {H : AHeap} {v w : Value} {l : List Int} {r r2 : List Nat} (hd : RdS H 1 v (bts l) r) (hw : RdS H 1 w (bts [124]) r2) (hl : Rng l) : wpF C 83 [v, w] H fun u H' => u = .int .i64 (ixI l 124) ∧ H = H' := by
  obtain ⟨aw, cw, rfl⟩ := hw.b1
  have hw : RdS H 1 (.slice aw 1 cw) (bts [124]) r2 := hw
  show wpF C 83 [_, .slice aw 1 cw] H _
  obtain ⟨b, off, cs, e, ro, x, rfl, rfl, hg, hv, hx⟩ := hw.at1 (i := 0) (by simp)
  obtain rfl : x = .int .u8 124 := by simpa [bts] using hx.symm
  refine wpF_ofW o83 rfl rfl ?_
  refine wp_seq ?_; refine wp_region ?_; refine wpO_cons ?_; refine op1_mov rfl (by (conv => lhs; whnf) <;> rfl) ?_; refine wpO_nil ?_; refine seq_normal ?_; refine wp_seq ?_; refine wp_region ?_; refine wpO_cons ?_; refine op1_mov rfl (by (conv => lhs; whnf) <;> rfl) ?_; refine wpO_cons ?_; refine op1_len rfl rfl ?_; refine wpO_cons ?_; refine op1_mov rfl (by (conv => lhs; whnf) <;> rfl) ?_; refine wpO_nil ?_; refine seq_normal ?_; refine wp_seq ?_; refine wp_block ?_; refine wp_seq ?_; refine wp_region ?_; refine wpO_cons ?_; refine op1_mov rfl (by (conv => lhs; whnf) <;> rfl) ?_; refine wpO_cons ?_; refine op1_eqlI rfl rfl rfl ?_; refine wpO_cons ?_; refine op1_mov rfl (by (conv => lhs; whnf) <;> rfl) ?_; refine wpO_nil ?_; refine seq_normal ?_; refine wp_false rfl ?_; refine wp_seq ?_; refine wp_region ?_; refine wpO_cons ?_; refine op1_mov rfl (by (conv => lhs; whnf) <;> rfl) ?_; refine wpO_cons ?_; refine op1_eqlI_s rfl rfl rfl ?_; refine wpO_cons ?_; refine op1_mov rfl (by (conv => lhs; whnf) <;> rfl) ?_; refine wpO_nil ?_; refine seq_normal ?_; refine wp_true rfl ?_; refine wp_seq ?_; refine wp_region ?_; refine wpO_cons ?_; refine op1_mov rfl (by (conv => lhs; whnf) <;> rfl) ?_; refine wpO_cons ?_; refine op1_mov rfl (by (conv => lhs; whnf) <;> rfl) ?_; refine wpO_cons ?_; refine op1_iaddr rfl rfl rfl (by omega) (by omega) ?_; refine wpO_cons ?_
  refine op1_load rfl rfl hg hv ?_
  refine wpO_cons ?_; refine op1_call2 rfl (by (conv => lhs; whnf) <;> rfl) (by (conv => lhs; whnf) <;> rfl) ?_
  refine wpF_mono (L33 hd hl (by omega)) ?_
  rintro _ _ ⟨rfl, rfl⟩
  refine wpO_cons ?_; refine op1_mov rfl (by (conv => lhs; whnf) <;> rfl) ?_; refine wpO_nil ?_; refine seq_normal ?_; refine wp_ret ?_; refine block_ret ?_; refine seq_ret ?_; refine ret_of ?_; refine rk_tmp (by (conv => lhs; whnf) <;> rfl) ?_; refine rk_nil ?_
  exact ⟨rfl, rfl⟩

theorem L70 {H : AHeap} {v w : Value} {l : List Int} {r r2 : List Nat} (hd : RdS H 1 v (bts l) r) (hw : RdS H 1 w (bts [124]) r2) (hl : Rng l) (hlim : l.length ≤ 1000000) (hr : ∀ b ∈ r, b < H.next) (hr2 : ∀ b ∈ r2, b < H.next) :
    wpF C 70 [v, w, .slice none 0 0, .int .i64 (-1)] H fun u H' => ∃ o, SlO H' 1 u (bts (nb l)) o ∧ Ext [] H o H' := by
  obtain ⟨a, c, rfl⟩ := hd.b1
  obtain ⟨aw, cw, rfl⟩ := hw.b1
  have hw : RdS H 1 (.slice aw 1 cw) (bts [124]) r2 := hw
  show wpF C 70 [_, .slice aw 1 cw, _, _] H _
  have hcl := hd.len_le
  refine wpF_ofW o70 rfl rfl ?_
  refine wp_seq ?_; refine wp_region ?_; refine wpO_cons ?_; refine op1_mov rfl (by (conv => lhs; whnf) <;> rfl) ?_; refine wpO_nil ?_; refine seq_normal ?_; refine wp_seq ?_; refine wp_region ?_; refine wpO_cons ?_; refine op1_mov rfl (by (conv => lhs; whnf) <;> rfl) ?_; refine wpO_nil ?_; refine seq_normal ?_; refine wp_seq ?_; refine wp_seq ?_; refine wp_region ?_; refine wpO_cons ?_; refine op1_mov rfl (by (conv => lhs; whnf) <;> rfl) ?_; refine wpO_cons ?_; refine op1_neqI rfl rfl rfl ?_; refine wpO_nil ?_; refine seq_normal ?_; refine wp_true rfl ?_; refine wp_region ?_; refine wpO_cons ?_; refine op1_mov rfl (by (conv => lhs; whnf) <;> rfl) ?_; refine wpO_cons ?_; refine op1_mov rfl (by (conv => lhs; whnf) <;> rfl) ?_; refine wpO_cons ?_; refine op1_call2 rfl (by (conv => lhs; whnf) <;> rfl) (by (conv => lhs; whnf) <;> rfl) ?_
  refine wpF_mono (L82 hd hw hl) ?_
  rintro _ _ ⟨rfl, rfl⟩
  have hnl := nb_len l
  have ezero : ((-1 : Int)) < 0 := by omega
  refine wpO_cons ?_; refine op1_mov rfl (by (conv => lhs; whnf) <;> rfl) ?_; refine wpO_nil ?_; refine seq_normal ?_; refine wp_seq ?_; refine wp_seq ?_; refine wp_region ?_; refine wpO_cons ?_; refine op1_mov rfl (by (conv => lhs; whnf) <;> rfl) ?_; refine wpO_cons ?_; refine op1_eqlI rfl rfl rfl ?_; refine wpO_nil ?_; refine seq_normal ?_
  refine wp_dec rfl (fun h0 => ?_) (fun h0 => ?_)
  · refine wp_seq ?_; refine wp_region ?_; refine wpO_cons ?_; refine op1_mov rfl (by (conv => lhs; whnf) <;> rfl) ?_; refine wpO_cons ?_
    rw [nb_id (by omega)]
    refine op1_appendO rfl rfl (by (conv => lhs; whnf) <;> rfl) rfl .nil rfl (hd.src (by omega) (k := l.length) (by simp [bts])) (by simp [bts]) (by rw [Nat.mul_one, bts_take]; exact bts_one _) (by omega) (fun b hb => by simp at hb) ?_
    intro a2 c2 o3 H2 hO2 hE2
    rw [List.nil_append, Nat.mul_one, List.take_of_length_le (by simp)] at hO2
    refine wpO_cons ?_; refine op1_mov rfl (by (conv => lhs; whnf) <;> rfl) ?_; refine wpO_nil ?_; refine seq_normal ?_; refine wp_ret ?_; refine seq_ret ?_; refine ret_of ?_; refine rk_tmp (by (conv => lhs; whnf) <;> rfl) ?_; refine rk_nil ?_
    rw [Nat.zero_add] at hO2 ⊢
    exact ⟨o3, hO2, hE2⟩
  generalize hm : l.count 124 = m at *
  generalize hN : (nb l).length = N at *
  refine wp_skip ?_; refine seq_normal ?_; refine wp_seq ?_; refine wp_seq ?_; refine wp_region ?_; refine wpO_cons ?_; refine op1_mov rfl (by (conv => lhs; whnf) <;> rfl) ?_; refine wpO_cons ?_; refine op1_lss rfl rfl rfl ?_; refine wpO_cons ?_; refine op1_mov rfl (by (conv => lhs; whnf) <;> rfl) ?_; refine wpO_cons ?_; refine op1_skip rfl ?_; refine wpO_cons ?_; refine op1_skip rfl ?_; refine wpO_cons ?_; refine op1_skip rfl ?_; refine wpO_cons ?_; refine op1_pick_t rfl rfl (by (conv => lhs; whnf) <;> rfl) ?_; refine wpO_nil ?_; refine seq_normal ?_; refine wp_true rfl ?_; refine wp_region ?_; refine wpO_cons ?_; refine op1_mov rfl (by (conv => lhs; whnf) <;> rfl) ?_; refine wpO_cons ?_; refine op1_mov rfl (by (conv => lhs; whnf) <;> rfl) ?_; refine wpO_nil ?_; refine seq_normal ?_; refine wp_seq ?_; refine wp_region ?_; refine wpO_cons ?_; refine op1_mov rfl (by (conv => lhs; whnf) <;> rfl) ?_; refine wpO_cons ?_; refine op1_len rfl rfl ?_; refine wpO_cons ?_; refine op1_mov rfl (by (conv => lhs; whnf) <;> rfl) ?_; refine wpO_cons ?_; refine op1_mov rfl (by (conv => lhs; whnf) <;> rfl) ?_; refine wpO_cons ?_; refine op1_len rfl rfl ?_; refine wpO_cons ?_; refine op1_mov rfl (by (conv => lhs; whnf) <;> rfl) ?_; refine wpO_cons ?_; refine op1_len rfl rfl ?_; refine wpO_cons ?_; refine op1_sub rfl rfl rfl (by exact wrap_i64 (by omega) (by omega)) ?_; refine wpO_cons ?_; refine op1_mul rfl rfl rfl (by exact wrap_i64 (by omega) (by omega)) ?_; refine wpO_cons ?_; refine op1_add rfl rfl rfl (by exact wrap_i64 (by omega) (by omega)) ?_; refine wpO_cons ?_
  rw [show (((0 : Nat) : Int) - ((1 : Nat) : Int)) = -1 by omega]
  skip
  rw [show (l.length : Int) + (m : Int) * -1 = (N : Int) by omega]
  refine op1_mkslice rfl rfl rfl (by omega) (Int.le_refl _) (by omega) ?_
  rw [Int.toNat_natCast]
  have hz : zeroOf [.int .u8 0] N = List.replicate N (.int .u8 0) := by unfold zeroOf; simp [List.flatten_replicate_singleton]
  rw [hz]
  refine wpO_cons ?_; refine op1_mov rfl (by (conv => lhs; whnf) <;> rfl) ?_; refine wpO_nil ?_; refine seq_normal ?_; refine wp_seq ?_; refine wp_region ?_; refine wpO_cons ?_; refine op1_mov rfl (by (conv => lhs; whnf) <;> rfl) ?_; refine wpO_nil ?_; refine seq_normal ?_; refine wp_seq ?_; refine wp_region ?_; refine wpO_cons ?_; refine op1_mov rfl (by (conv => lhs; whnf) <;> rfl) ?_; refine wpO_nil ?_; refine seq_normal ?_; refine wp_seq ?_; refine wp_seq ?_; refine wp_region ?_; refine wpO_cons ?_; refine op1_mov rfl (by (conv => lhs; whnf) <;> rfl) ?_; refine wpO_cons ?_; refine op1_len rfl rfl ?_; refine wpO_cons ?_; refine op1_gtr rfl rfl rfl ?_; refine wpO_nil ?_; refine seq_normal ?_; refine wp_true rfl ?_; refine wp_seq ?_; refine wp_region ?_; refine wpO_cons ?_; refine op1_mov rfl (by (conv => lhs; whnf) <;> rfl) ?_; refine wpO_cons ?_; refine op1_mov rfl (by (conv => lhs; whnf) <;> rfl) ?_; refine wpO_nil ?_; refine seq_normal ?_; refine wp_block ?_
  refine wp_loop [11, 12, 49] (fun k vs H' => ∃ (i st w : Nat) (cs : List Value), vs = [.int .i64 w, .int .i64 st, .int .i64 i] ∧ i + k = m ∧ st ≤ l.length ∧ w = (nb (l.take st)).length ∧ (l.drop st).count 124 = k ∧ H'.get H.next = .cells cs 1 false ∧ cs.length = N ∧ cs.take w = bts (nb (l.take st)) ∧ (∀ b, b < H.next → H'.get b = H.get b) ∧ H'.next = H.next + 1)
    ⟨m, 0, 0, 0, _, rfl, by omega, by omega, rfl, by simp [hm], AHeap.ga_same, by simp, rfl, fun b hb => by rw [AHeap.get_add, if_neg (by omega)], by simp⟩ ?_
  rintro k vs T' H1 ⟨i, st, w, cs, rfl, hk, hst, hwl, hct, hg, hcl2, hpre, hkeep, hnx⟩
  have hd1 : RdS H1 1 (.slice a l.length c) (bts l) r := hd.frame fun b hb => hkeep b (hr b hb)
  have hw1 : RdS H1 1 (.slice aw 1 cw) (bts [124]) r2 := hw.frame fun b hb => hkeep b (hr2 b hb)
  refine wp_seq ?_; refine wp_region ?_; refine wpO_cons ?_; refine op1_lss rfl rfl rfl ?_; refine wpO_nil ?_; refine seq_normal ?_; refine wp_seq ?_
  refine wp_dec rfl (fun hlt => ?_) (fun hlt => ?_)
  · obtain ⟨x, y, hxy, hix, hx0⟩ := ix_split (l := l.drop st) (by omega)
    have hxl : st + x.length + 1 ≤ l.length := by
      have := congrArg List.length hxy
      simp at this; omega
    have hpl : x = (l.drop st).take x.length := by rw [hxy]; simp
    have hl3 : l = (l.take st ++ (x ++ [124])) ++ y := by
      conv => lhs; rw [← List.take_append_drop st l, hxy]
      simp
    have hlen3 : (l.take st ++ (x ++ [124])).length = st + x.length + 1 := by simp; omega
    have hx1 : l.take (st + x.length + 1) = l.take st ++ (x ++ [124]) := by
      have := List.take_left' (l₂ := y) hlen3
      rwa [← hl3] at this
    have hy1 : l.drop (st + x.length + 1) = y := by
      have := List.drop_left' (l₂ := y) hlen3
      rwa [← hl3] at this
    have hnx1 : nb (l.take (st + x.length + 1)) = nb (l.take st) ++ x := by
      rw [hx1, nb_append, nb_append, nb_id hx0]
      simp [nb]
    have hwN : (nb (l.take st)).length + x.length ≤ N := by
      have h1 : nb l = nb (l.take (st + x.length + 1)) ++ nb y := by rw [← nb_append, ← hy1, List.take_append_drop]
      have := congrArg List.length h1
      rw [hnx1] at this
      simp at this; omega
    refine wp_skip ?_; refine seq_normal ?_; refine wp_seq ?_; refine wp_block ?_; refine wp_seq ?_; refine wp_region ?_; refine wpO_cons ?_; refine op1_mov rfl (by (conv => lhs; whnf) <;> rfl) ?_; refine wpO_cons ?_; refine op1_mov rfl (by (conv => lhs; whnf) <;> rfl) ?_; refine wpO_cons ?_; refine op1_mov rfl (by (conv => lhs; whnf) <;> rfl) ?_; refine wpO_cons ?_
    refine op1_sliceR rfl rfl hd1 (bnds_lo (by omega) (by omega) hcl) (by simp only [Int.toNat_natCast]; omega) (Nat.le_refl _) ?_
    simp only [Int.toNat_natCast, Nat.mul_one]
    intro a3 c3 hd3
    rw [List.take_of_length_le (by simp [bts]), bts_drop] at hd3
    refine wpO_cons ?_; refine op1_mov rfl (by (conv => lhs; whnf) <;> rfl) ?_; refine wpO_cons ?_; refine op1_call2 rfl (by (conv => lhs; whnf) <;> rfl) (by (conv => lhs; whnf) <;> rfl) ?_
    refine wpF_mono (L83 hd3 hw1 fun z hz => hl z (List.mem_of_mem_drop hz)) ?_
    rintro _ _ ⟨rfl, rfl⟩
    rw [hix]
    refine wpO_cons ?_; refine op1_add rfl rfl rfl (by exact wrap_i64 (by omega) (by omega)) ?_; refine wpO_cons ?_; refine op1_mov rfl (by (conv => lhs; whnf) <;> rfl) ?_; refine wpO_nil ?_; refine seq_normal ?_; refine wp_seq ?_; refine wp_regionD ?_; refine wpD_cons ?_; refine op1_mov rfl (by (conv => lhs; whnf) <;> rfl) ?_; refine wpD_cons ?_; refine op1_mov rfl (by (conv => lhs; whnf) <;> rfl) ?_; refine wpD_cons ?_; refine op1_mov rfl (by (conv => lhs; whnf) <;> rfl) ?_; refine wpD_cons ?_
    refine op1_sliceB rfl rfl hg (.inr rfl) (bnds_lo (by omega) (by omega) (Nat.le_refl _)) (by simp only [Int.toNat_natCast]; omega) (Nat.le_refl _) ?_
    simp only [Int.toNat_natCast, Nat.mul_one, Nat.zero_add]
    refine wpD_cons ?_; refine op1_mov rfl (by (conv => lhs; whnf) <;> rfl) ?_; refine wpD_cons ?_; refine op1_mov rfl (by (conv => lhs; whnf) <;> rfl) ?_; refine wpD_cons ?_; refine op1_mov rfl (by (conv => lhs; whnf) <;> rfl) ?_; refine wpD_cons ?_
    refine op1_sliceRC rfl rfl hd1 (bnds_both (by omega) (by omega) (by omega)) (by omega) (by omega) ?_
    have e5 : ((st : Int) + (x.length : Int)).toNat - (st : Int).toNat = x.length := by omega
    rw [e5]
    intro a4 c4 hd4 hck4
    have e6 : ((bts l).drop ((st : Int).toNat * 1)).take (x.length * 1) = bts x := by
      rw [Int.toNat_natCast, Nat.mul_one, Nat.mul_one, bts_drop, bts_take, ← hpl]
    rw [e6] at hd4
    refine wpD_cons ?_
    refine op1_copyB rfl rfl rfl rfl rfl hd4 (by simp) (bts_one _) hg (by omega) ?_
    rw [show min x.length (N - w) = x.length by omega]
    intro H2 hg2 hk2 hn2
    rw [Nat.mul_one, show (bts x).take x.length = bts x from List.take_of_length_le (by rw [bts_length]; exact Nat.le_refl _)] at hg2
    refine wpD_cons ?_; refine op1_add rfl rfl rfl (by exact wrap_i64 (by omega) (by omega)) ?_; refine wpD_cons ?_; refine op1_mov rfl (by (conv => lhs; whnf) <;> rfl) ?_; refine wpD_nil ?_; refine dk_of ?_ ?_; refine chk_skip ?_; refine chk_skip ?_; refine chk_skip ?_; refine chk_cons 8 rfl rfl rfl ?_ ?_; refine chkFs_cons 3 rfl rfl ?_ ?_
    · refine chk_sliceB rfl hg (.inr rfl) (bnds_lo (by omega) (by omega) (Nat.le_refl _)) (by simp only [Int.toNat_natCast]; omega) (Nat.le_refl _) ?_
      simp only [Int.toNat_natCast, Nat.mul_one, Nat.zero_add]
      rfl
    · exact chkFs_nil
    refine chk_skip ?_; refine chk_skip ?_; refine chk_skip ?_; refine chk_cons 4 rfl rfl rfl ?_ ?_; refine chkFs_cons 3 rfl rfl ?_ ?_
    · refine hck4 _ _ (fun _ _ => rfl) ?_
      rfl
    · exact chkFs_nil
    · refine chk_skip ?_; refine chk_skip ?_; refine chk_skip ?_; exact chk_end
    have hcs2 : (cs.take w ++ bts x ++ cs.drop (w + x.length)).length = N := by
      simp only [List.length_append, List.length_take, List.length_drop, bts_length]; omega
    have e7 : (w : Int) + (x.length : Int) = ((w + x.length : Nat) : Int) := by omega
    refine seq_normal ?_; refine wp_seq ?_; refine wp_region ?_; refine wpO_cons ?_; refine op1_mov rfl (by (conv => lhs; whnf) <;> rfl) ?_; refine wpO_cons ?_; refine op1_mov rfl (by (conv => lhs; whnf) <;> rfl) ?_; refine wpO_cons ?_; refine op1_mov rfl (by (conv => lhs; whnf) <;> rfl) ?_; refine wpO_cons ?_
    rw [e7]
    refine op1_sliceB rfl rfl hg2 (.inr rfl) (bnds_lo (by omega) (by omega) (Nat.le_refl _)) (by simp only [Int.toNat_natCast]; omega) (Nat.le_refl _) ?_
    simp only [Int.toNat_natCast, Nat.mul_one, Nat.zero_add]
    refine wpO_cons ?_; refine op1_mov rfl (by (conv => lhs; whnf) <;> rfl) ?_; refine wpO_cons ?_
    refine op1_copyB (r := []) rfl rfl rfl rfl rfl .nil rfl rfl hg2 (by omega) ?_
    simp only [Nat.zero_min, Nat.zero_mul, List.take_nil, List.append_nil, Nat.add_zero, List.take_append_drop]
    intro H3 hg3 hk3 hn3
    refine wpO_cons ?_; refine op1_add rfl rfl rfl (by exact wrap_i64 (by omega) (by omega)) ?_; refine wpO_cons ?_; refine op1_mov rfl (by (conv => lhs; whnf) <;> rfl) ?_; refine wpO_nil ?_; refine seq_normal ?_; refine wp_region ?_; refine wpO_cons ?_; refine op1_mov rfl (by (conv => lhs; whnf) <;> rfl) ?_; refine wpO_cons ?_; refine op1_mov rfl (by (conv => lhs; whnf) <;> rfl) ?_; refine wpO_cons ?_; refine op1_len rfl rfl ?_; refine wpO_cons ?_; refine op1_add rfl rfl rfl (by exact wrap_i64 (by omega) (by omega)) ?_; refine wpO_cons ?_; refine op1_mov rfl (by (conv => lhs; whnf) <;> rfl) ?_; refine wpO_nil ?_; refine block_normal ?_; refine seq_normal ?_; refine wp_region ?_; refine wpO_cons ?_; refine op1_add rfl rfl rfl (by exact wrap_i64 (by omega) (by omega)) ?_; refine wpO_cons ?_; refine op1_mov rfl (by (conv => lhs; whnf) <;> rfl) ?_; refine wpO_nil ?_
    refine ⟨k - 1, by omega, i + 1, st + x.length + 1, w + x.length, _, rfl, by omega, by omega, ?_, ?_, hg3, hcs2, ?_, ?_, by omega⟩
    · rw [hnx1, List.length_append, hwl]
    · have h9 := hct
      rw [hxy, List.count_append, hx0, List.count_cons] at h9
      rw [hy1]
      simp at h9
      omega
    · rw [hnx1, bts_append, ← hpre]
      exact List.take_left' (by simp; omega)
    · exact fun b hb => (hk3 b (by omega)).trans ((hk2 b (by omega)).trans (hkeep b hb))
  · obtain rfl : k = 0 := by omega
    have hfin : nb (l.drop st) = l.drop st := nb_id hct
    have hsp : nb l = nb (l.take st) ++ l.drop st := by
      have : nb l = nb (l.take st) ++ nb (l.drop st) := by rw [← nb_append, List.take_append_drop]
      rw [this, hfin]
    have hwN : w + (l.length - st) = N := by
      have := congrArg List.length hsp
      simp at this; omega
    refine wp_exit ?_; refine seq_exit ?_; refine iter_exit ?_; refine block_exit ?_; refine seq_normal ?_; refine wp_seq ?_; refine wp_regionD ?_; refine wpD_cons ?_; refine op1_mov rfl (by (conv => lhs; whnf) <;> rfl) ?_; refine wpD_cons ?_; refine op1_mov rfl (by (conv => lhs; whnf) <;> rfl) ?_; refine wpD_cons ?_; refine op1_mov rfl (by (conv => lhs; whnf) <;> rfl) ?_; refine wpD_cons ?_
    refine op1_sliceB rfl rfl hg (.inr rfl) (bnds_lo (by omega) (by omega) (Nat.le_refl _)) (by simp only [Int.toNat_natCast]; omega) (Nat.le_refl _) ?_
    simp only [Int.toNat_natCast, Nat.mul_one, Nat.zero_add]
    refine wpD_cons ?_; refine op1_mov rfl (by (conv => lhs; whnf) <;> rfl) ?_; refine wpD_cons ?_; refine op1_mov rfl (by (conv => lhs; whnf) <;> rfl) ?_; refine wpD_cons ?_
    refine op1_sliceRC rfl rfl hd1 (bnds_lo (by omega) (by omega) hcl) (by simp only [Int.toNat_natCast]; omega) (Nat.le_refl _) ?_
    simp only [Int.toNat_natCast, Nat.mul_one]
    intro a4 c4 hd4 hck4
    have e6 : ((bts l).drop st).take (l.length - st) = bts (l.drop st) := by
      rw [bts_drop, List.take_of_length_le (by simp)]
    rw [e6] at hd4
    refine wpD_cons ?_
    refine op1_copyB rfl rfl rfl rfl rfl hd4 (by simp) (bts_one _) hg (by omega) ?_
    rw [show min (l.length - st) (N - w) = l.length - st by omega]
    intro H2 hg2 hk2 hn2
    rw [Nat.mul_one, show (bts (l.drop st)).take (l.length - st) = bts (l.drop st) from List.take_of_length_le (by simp)] at hg2
    refine wpD_cons ?_; refine op1_add rfl rfl rfl (by exact wrap_i64 (by omega) (by omega)) ?_; refine wpD_cons ?_; refine op1_mov rfl (by (conv => lhs; whnf) <;> rfl) ?_; refine wpD_nil ?_; refine dk_of ?_ ?_; refine chk_skip ?_; refine chk_skip ?_; refine chk_skip ?_; refine chk_cons 7 rfl rfl rfl ?_ ?_; refine chkFs_cons 3 rfl rfl ?_ ?_
    · refine chk_sliceB rfl hg (.inr rfl) (bnds_lo (by omega) (by omega) (Nat.le_refl _)) (by simp only [Int.toNat_natCast]; omega) (Nat.le_refl _) ?_
      simp only [Int.toNat_natCast, Nat.mul_one, Nat.zero_add]
      rfl
    · exact chkFs_nil
    refine chk_skip ?_; refine chk_skip ?_; refine chk_cons 4 rfl rfl rfl ?_ ?_; refine chkFs_cons 3 rfl rfl ?_ ?_
    · refine hck4 _ _ (fun _ _ => rfl) ?_
      rfl
    · exact chkFs_nil
    · refine chk_skip ?_; refine chk_skip ?_; refine chk_skip ?_; exact chk_end
    have e7 : (w : Int) + ((l.length - st : Nat) : Int) = (N : Int) := by omega
    refine seq_normal ?_; refine wp_seq ?_; refine wp_region ?_; refine wpO_cons ?_; refine op1_mov rfl (by (conv => lhs; whnf) <;> rfl) ?_; refine wpO_cons ?_; refine op1_mov rfl (by (conv => lhs; whnf) <;> rfl) ?_; refine wpO_cons ?_
    rw [e7]
    refine op1_sliceB rfl rfl hg2 (.inr rfl) (bnds_both (by omega) (by omega) (by omega)) (by omega) (by omega) ?_
    simp only [Int.toNat_natCast, Nat.mul_one, Nat.zero_add, Int.toNat_zero, Nat.sub_zero]
    refine wpO_cons ?_; refine op1_mov rfl (by (conv => lhs; whnf) <;> rfl) ?_; refine wpO_nil ?_; refine seq_normal ?_; refine wp_ret ?_; refine ret_of ?_; refine rk_tmp (by (conv => lhs; whnf) <;> rfl) ?_; refine rk_nil ?_
    have hcs2 : cs.take w ++ bts (l.drop st) ++ cs.drop (w + (l.length - st)) = bts (nb l) := by
      rw [hpre, hsp, bts_append, hwN, show cs.drop N = [] from List.drop_of_length_le (by omega), List.append_nil]
    rw [hcs2] at hg2
    refine ⟨[H.next], ?_, by omega, fun b hb _ => (hk2 b (by omega)).trans (hkeep b hb), fun b hb => ?_⟩
    · have h8 := SlO.blk (es := 1) (off := 0) (l := N) (c := N) hg2 (by simp; omega) (Nat.le_refl _)
      rw [List.drop_zero, List.take_of_length_le (by simp; omega)] at h8
      exact h8
    · simp at hb; subst hb; right; omega

theorem L35 {H : AHeap} {v w : Value} {l : List Int} {r r2 : List Nat} (hd : RdS H 1 v (bts l) r) (hw : RdS H 1 w (bts [124]) r2) (hl : Rng l) (hlim : l.length ≤ 1000000) (hr : ∀ b ∈ r, b < H.next) (hr2 : ∀ b ∈ r2, b < H.next) :
    wpF C 35 [v, w, .slice none 0 0] H fun u H' => ∃ o, SlO H' 1 u (bts (nb l)) o ∧ Ext [] H o H' := by
  refine wpF_ofW o35 rfl rfl ?_
  refine wp_seq ?_; refine wp_region ?_; refine wpO_cons ?_; refine op1_mov rfl (by (conv => lhs; whnf) <;> rfl) ?_; refine wpO_nil ?_; refine seq_normal ?_; refine wp_seq ?_; refine wp_region ?_; refine wpO_cons ?_; refine op1_mov rfl (by (conv => lhs; whnf) <;> rfl) ?_; refine wpO_cons ?_; refine op1_mov rfl (by (conv => lhs; whnf) <;> rfl) ?_; refine wpO_cons ?_; refine op1_mov rfl (by (conv => lhs; whnf) <;> rfl) ?_; refine wpO_cons ?_; refine op1_call4 rfl (by (conv => lhs; whnf) <;> rfl) (by (conv => lhs; whnf) <;> rfl) (by (conv => lhs; whnf) <;> rfl) (by (conv => lhs; whnf) <;> rfl) ?_
  refine wpF_mono (L70 hd hw hl hlim hr hr2) ?_
  rintro u H1 ⟨o, hO, hE⟩
  refine wpO_cons ?_; refine op1_mov rfl (by (conv => lhs; whnf) <;> rfl) ?_; refine wpO_nil ?_; refine seq_normal ?_; refine wp_ret ?_; refine ret_of ?_; refine rk_tmp (by (conv => lhs; whnf) <;> rfl) ?_; refine rk_nil ?_
  exact ⟨o, hO, hE⟩

/-- bytes.Equal of any two -/
theorem L14g {H : AHeap} {v w : Value} {l l2 : List Int} {r1 r2 : List Nat} (h1 : RdS H 1 v (bts l) r1) (h2 : RdS H 1 w (bts l2) r2) : wpF C 14 [v, w] H fun u H' => ∃ b, u = .bool b ∧ H = H' ∧ (l = l2 → b = true) := by
  refine wpF_ofW o14 rfl rfl ?_
  refine wp_seq ?_; refine wp_region ?_; refine wpO_cons ?_; refine op1_mov rfl (by (conv => lhs; whnf) <;> rfl) ?_; refine wpO_nil ?_; refine seq_normal ?_; refine wp_seq ?_; refine wp_region ?_; refine wpO_cons ?_; refine op1_mov rfl (by (conv => lhs; whnf) <;> rfl) ?_; refine wpO_cons ?_
  refine op1_b2s rfl (by (conv => lhs; whnf) <;> rfl) (b2s_rd h1) ?_
  refine wpO_cons ?_; refine op1_mov rfl (by (conv => lhs; whnf) <;> rfl) ?_; refine wpO_cons ?_
  refine op1_b2s rfl (by (conv => lhs; whnf) <;> rfl) (b2s_rd h2) ?_
  refine wpO_cons ?_; refine op1_eqlS rfl rfl rfl ?_; refine wpO_cons ?_; refine op1_mov rfl (by (conv => lhs; whnf) <;> rfl) ?_; refine wpO_nil ?_; refine seq_normal ?_; refine wp_ret ?_; refine ret_of ?_; refine rk_tmp (by (conv => lhs; whnf) <;> rfl) ?_; refine rk_nil ?_
  exact ⟨_, rfl, rfl, fun e => by subst e; simp⟩

theorem L36 {H : AHeap} {v w : Value} {l l2 : List Int} {r1 r2 : List Nat} (h1 : RdS H 1 v (bts l) r1) (h2 : RdS H 1 w (bts l2) r2) (hp : l2 <+: l) : wpF C 36 [v, w] H fun u H' => u = .bool true ∧ H = H' := by
  obtain ⟨a1, c1, rfl⟩ := h1.b1
  obtain ⟨a2, c2, rfl⟩ := h2.b1
  have hle := hp.length_le
  have hlc := h1.len_le
  refine wpF_ofW o36 rfl rfl ?_
  refine wp_seq ?_; refine wp_region ?_; refine wpO_cons ?_; refine op1_mov rfl (by (conv => lhs; whnf) <;> rfl) ?_; refine wpO_nil ?_; refine seq_normal ?_; refine wp_seq ?_; refine wp_region ?_; refine wpO_cons ?_; refine op1_mov rfl (by (conv => lhs; whnf) <;> rfl) ?_; refine wpO_cons ?_; refine op1_len rfl rfl ?_; refine wpO_cons ?_; refine op1_mov rfl (by (conv => lhs; whnf) <;> rfl) ?_; refine wpO_cons ?_; refine op1_len rfl rfl ?_; refine wpO_cons ?_; refine op1_geq rfl rfl rfl ?_; refine wpO_cons ?_; refine op1_mov rfl (by (conv => lhs; whnf) <;> rfl) ?_; refine wpO_cons ?_
  refine op1_dec rfl (fun hc => ?_) (fun hc => ?_)
  · refine op1_mov rfl (by (conv => lhs; whnf) <;> rfl) ?_; refine wpO_cons ?_; refine op1_mov rfl (by (conv => lhs; whnf) <;> rfl) ?_; refine wpO_cons ?_; refine op1_len rfl rfl ?_; refine wpO_cons ?_
    refine op1_sliceR rfl rfl h1 (bnds_hi (by omega) (by omega)) (by omega) (by simp only [Int.toNat_natCast]; omega) ?_
    simp only [Int.toNat_natCast, Nat.zero_mul, List.drop_zero, Nat.sub_zero, Nat.mul_one]
    intro a4 c4 hd4
    rw [bts_take, ← List.prefix_iff_eq_take.1 hp] at hd4
    refine wpO_cons ?_; refine op1_mov rfl (by (conv => lhs; whnf) <;> rfl) ?_; refine wpO_cons ?_; refine op1_call2 rfl (by (conv => lhs; whnf) <;> rfl) (by (conv => lhs; whnf) <;> rfl) ?_
    refine wpF_mono (L14 hd4 h2) ?_
    rintro _ _ ⟨rfl, rfl⟩
    refine wpO_cons ?_; refine op1_pick_t rfl rfl (by (conv => lhs; whnf) <;> rfl) ?_; refine wpO_cons ?_; refine op1_mov rfl (by (conv => lhs; whnf) <;> rfl) ?_; refine wpO_nil ?_; refine seq_normal ?_; refine wp_ret ?_; refine ret_of ?_; refine rk_tmp (by (conv => lhs; whnf) <;> rfl) ?_; refine rk_nil ?_
    exact ⟨rfl, rfl⟩
  · omega
end Go.E.Pty
