/- PtyReads, as the evaluator runs it: true, whatever is typed and in whatever pieces it is read. -/
import Derived.Test.YtfgejkhhkacknaaDoorPtReads
namespace Go.E.Pty
open Go Go.E Go.Proofs.YtfgejkhhkacknaaDoor.base Go.Proofs.YtfgejkhhkacknaaDoor Go.Proofs
set_option linter.unusedVariables false
set_option linter.unusedSimpArgs false
set_option maxRecDepth 100000

def PT.flat (s : PT) : List Int := (s.input.map (·.1)).flatten
structure RInv (s : PT) : Prop where
  hung : s.hung = false
  inv : Inv 255 64 s
  rng : Rng s.flat

theorem flat_len (l : List (List Int × Bool)) (M : Nat) (h : ∀ x ∈ l, x.1.length ≤ M) : (l.map (·.1)).flatten.length ≤ l.length * M := by
  rw [List.length_flatten, List.map_map]
  exact sum_le l M h
theorem RInv.len {s : PT} (h : RInv s) : s.flat.length ≤ 20000 := by
  have := flat_len s.input 255 h.inv.recs
  have := h.inv.inp
  unfold PT.flat
  omega
theorem Rng.take {l : List Int} (h : Rng l) (n : Nat) : Rng (l.take n) := fun x hx => h x (List.mem_of_mem_take hx)
theorem Rng.left {a b : List Int} (h : Rng (a ++ b)) : Rng a := fun x hx => h x (by simp [hx])
theorem Rng.right {a b : List Int} (h : Rng (a ++ b)) : Rng b := fun x hx => h x (by simp [hx])
theorem Rng.app {a b : List Int} (h : Rng a) (k : Rng b) : Rng (a ++ b) := fun x hx => by
  simp only [List.mem_append] at hx
  exact hx.elim (h x) (k x)

/-- a piece that is read: what is there is it and what is left -/
theorem RInv.read {s : PT} (h : RInv s) {n : Int} (h0 : 0 ≤ n) : RInv (s.read n).2.2.2 ∧ s.flat = (s.read n).1 ++ (s.read n).2.2.2.flat ∧ ((s.read n).1.length : Int) ≤ n ∧ ((s.read n).2.2.1 = 0 ∨ (s.read n).2.2.1 = 2) := by
  unfold PT.read
  rw [if_neg (by omega)]
  split
  · exact ⟨h, by simp, by simp; omega, .inl rfl⟩
  split
  · rename_i hin
    rw [if_neg (by rw [h.hung]; simp)]
    exact ⟨h, by simp, by simp; omega, .inr rfl⟩
  · rename_i d r rest hin
    have hd := h.inv.recs (d, r) (by rw [hin]; simp)
    have hi := h.inv.inp
    rw [hin] at hi
    simp only [List.length_cons] at hi
    have hf : s.flat = d ++ (rest.map (·.1)).flatten := by unfold PT.flat; rw [hin]; rfl
    obtain ⟨k, hk⟩ : ∃ k : Nat, (min n (d.length : Int)).toNat = k := ⟨_, rfl⟩
    simp only [hk]
    have hkl : (k : Int) ≤ n := by omega
    have e1 : (PT.flat { s with input := if d.drop k = [] then rest else (d.drop k, r) :: rest }) = d.drop k ++ (rest.map (·.1)).flatten := by
      unfold PT.flat
      dsimp only
      split
      · rename_i e; rw [e]; rfl
      · rfl
    refine ⟨⟨h.hung, ⟨h.inv.out, h.inv.line, ?_, ?_⟩, ?_⟩, ?_, ?_, by first | exact .inl rfl | trivial⟩
    · dsimp only
      split
      · omega
      · simp only [List.length_cons]; omega
    · dsimp only
      split
      · exact fun x hx => h.inv.recs x (by rw [hin]; simp [hx])
      · intro x hx
        rcases List.mem_cons.1 hx with rfl | hx
        · show (d.drop _).length ≤ 255
          simp only at hd
          simp only [List.length_drop]; omega
        · exact h.inv.recs x (by rw [hin]; simp [hx])
    · rw [e1]
      intro x hx
      refine h.rng x ?_
      rw [hf]
      simp only [List.mem_append] at hx ⊢
      exact hx.imp (fun h => List.mem_of_mem_drop h) id
    · rw [e1, hf, ← List.append_assoc, List.take_append_drop]
    · simp only [List.length_take]; omega

/-- reading all -/
theorem drain_nb : ∀ (n : Nat) {s : PT} (acc : List Int), RInv s → s.input.length < n → Rng acc → nb (s.drain n acc).1 = nb acc ++ nb s.flat ∧ Rng (s.drain n acc).1 ∧ (s.drain n acc).1.length ≤ acc.length + 256 * s.input.length
  | 0, s, acc, _, h, _ => by omega
  | n + 1, s, acc, h, hl, ha => by
    obtain ⟨h1, h2, h3, h4⟩ := h.read (n := 5000) (by omega)
    unfold PT.drain
    rcases hin : s.input with _ | ⟨⟨d, r⟩, rest⟩
    · have e : s.read 5000 = ([], false, 2, s) := by
        unfold PT.read
        rw [if_neg (by decide), if_neg (by decide), hin]
        simp only
        rw [if_neg (by rw [h.hung]; simp)]
      rw [e, if_neg (by simp)]
      have hf : s.flat = [] := by unfold PT.flat; rw [hin]; rfl
      rw [hf]
      exact ⟨by simp [nb], ha, by simp⟩
    · have hd := h.inv.recs (d, r) (by rw [hin]; simp)
      simp only at hd
      have hm : (min (5000 : Int) (d.length : Int)).toNat = d.length := by omega
      have e : s.read 5000 = (d, decide (d = []), 0, { s with input := rest }) := by
        unfold PT.read
        rw [if_neg (by decide), if_neg (by decide), hin]
        simp only [hm, List.take_length, List.drop_length, if_true]
      rw [e] at h1 h2 h3 h4 ⊢
      simp only [if_true] at h1 h2 h3 h4 ⊢
      have hrd : Rng d := by have := h.rng; rw [h2] at this; exact this.left
      obtain ⟨k1, k2, k3⟩ := drain_nb n (s := { s with input := rest }) (acc ++ d ++ [124]) h1 (by rw [hin] at hl; simp at hl; exact hl) ((ha.app hrd).app (by intro x hx; simp at hx; omega))
      rw [k1, h2]
      refine ⟨?_, k2, ?_⟩
      · rw [nb_append, nb_append, nb_append]
        simp [nb]
      · simp at k3 ⊢
        omega

theorem RInv.small {s : PT} (h : RInv s) : Small s := h.inv.small (by omega) (by omega)
theorem RInv.drain {s : PT} (h : RInv s) : nb (s.drain 1000 []).1 = nb s.flat ∧ Rng (s.drain 1000 []).1 ∧ (s.drain 1000 []).1.length ≤ 20000 := by
  have := h.inv.inp
  obtain ⟨h1, h2, h3⟩ := drain_nb 1000 [] h (by omega) (by intro x hx; simp at hx)
  exact ⟨by rw [h1]; simp [nb], h2, by simp at h3; omega⟩
theorem LInv.r {s : PT} (h : LInv s) (hI : Inv 255 64 s) : RInv s :=
  ⟨h.hung, hI, fun x hx => by
    unfold PT.flat at hx
    simp only [List.mem_flatten, List.mem_map] at hx
    obtain ⟨_, ⟨y, hy, rfl⟩, hx⟩ := hx
    exact (h.recs y hy).2.2 x hx⟩

/-- blocks that are kept: below, and none of the terminal's nor of what was read -/
def Kp (H : AHeap) (r O og : List Nat) : Prop := ∀ b ∈ r, b < H.next ∧ b ∉ O ∧ b ∉ og
theorem ownfresh {O O' : List Nat} {H H' : AHeap} {b : Nat} (hE : Ext O H O' H') (hb : b < H.next) (hn : b ∉ O) : b ∉ O' := fun hm => (hE.own b hm).elim hn fun h => by omega

theorem Rng.mono {a b c : List Int} (h : Rng a) (e : a = b ++ c) : Rng b := by subst e; exact h.left
theorem L8 {H : AHeap} (hgl : Glob objs H) {vd vz : Value} {l z : List Int} {r rz : List Nat} (hd : RdS H 1 vd (bts l) r) (hr : ∀ b ∈ r, b < H.next) (hrng : Rng l) (hz : RdS H 1 vz (bts z) rz) (hrz : ∀ b ∈ rz, b < H.next) (hzr : Rng z) : wpF C 8 [vd, vz] H fun v H' => v = .bool true := by
  obtain ⟨a, c, rfl⟩ := hd.b1
  obtain ⟨az, cz, rfl⟩ := hz.b1
  refine wpF_ofW o8 rfl rfl ?_
  refine wp_seq ?_; refine wp_region ?_; refine wpO_cons ?_; refine op1_mov rfl (by (conv => lhs; whnf) <;> rfl) ?_; refine wpO_nil ?_; refine seq_normal ?_; refine wp_seq ?_; refine wp_region ?_; refine wpO_cons ?_; refine op1_call1 rfl (by (conv => lhs; whnf) <;> rfl) ?_
  refine wpF_mono (L9 hgl (by omega)) ?_
  rintro v H1 ⟨p1, O1, rfl, hR1, hE1⟩
  refine wpO_cons ?_; refine op1_mov rfl (by (conv => lhs; whnf) <;> rfl) ?_; refine wpO_cons ?_; refine op1_extract rfl rfl rfl ?_; refine wpO_cons ?_; refine op1_extract rfl rfl rfl ?_; refine wpO_cons ?_; refine op1_mov rfl (by (conv => lhs; whnf) <;> rfl) ?_; refine wpO_cons ?_; refine op1_mov rfl (by (conv => lhs; whnf) <;> rfl) ?_; refine wpO_nil ?_; refine seq_normal ?_; refine wp_seq ?_; refine wp_region ?_; refine wpO_cons ?_; refine op1_call1 rfl (by (conv => lhs; whnf) <;> rfl) ?_
  refine wpF_mono (L9 hR1.glob (by omega)) ?_
  rintro v H2 ⟨p2, O2, rfl, hR2, hE2⟩
  have hT : Two H2 p1 (PT.new 1) O1 p2 (PT.new 1) O2 := ⟨hR1.frame hR2.glob hE2.next fun b hb => hE2.keep b (hR1.lt b hb) (by simp), hR2, fun b hb hm => (hE2.own b hm).elim (fun h => by simp at h) fun h1 => absurd (hR1.lt b hb) (by omega)⟩
  have hK : Keep H2 (r ++ rz) O1 O2 := fun b hb => by
    have hb0 : b < H.next := by simp only [List.mem_append] at hb; exact hb.elim (hr b) (hrz b)
    exact ⟨Nat.lt_of_lt_of_le hb0 (Nat.le_trans hE1.next hE2.next), ownfresh hE1 hb0 (by simp), ownfresh hE2 (Nat.lt_of_lt_of_le hb0 hE1.next) (by simp)⟩
  have hd2 : RdS H2 1 (.slice a l.length c) (bts l) r := (hd.frame fun b hb => hE1.keep b (hr b hb) (by simp)).frame fun b hb => hE2.keep b (Nat.lt_of_lt_of_le (hr b hb) hE1.next) (by simp)
  have hz2 : RdS H2 1 (.slice az z.length cz) (bts z) rz := (hz.frame fun b hb => hE1.keep b (hrz b hb) (by simp)).frame fun b hb => hE2.keep b (Nat.lt_of_lt_of_le (hrz b hb) hE1.next) (by simp)
  have hgl2 := hR2.glob
  refine wpO_cons ?_; refine op1_mov rfl (by (conv => lhs; whnf) <;> rfl) ?_; refine wpO_cons ?_; refine op1_extract rfl rfl rfl ?_; refine wpO_cons ?_; refine op1_extract rfl rfl rfl ?_; refine wpO_cons ?_; refine op1_mov rfl (by (conv => lhs; whnf) <;> rfl) ?_; refine wpO_cons ?_; refine op1_mov rfl (by (conv => lhs; whnf) <;> rfl) ?_; refine wpO_nil ?_; refine seq_normal ?_; refine wp_seq ?_; refine wp_seq ?_; refine wp_region ?_; refine wpO_cons ?_; refine op1_mov rfl (by (conv => lhs; whnf) <;> rfl) ?_; refine wpO_cons ?_; refine op1_len rfl rfl ?_; refine wpO_cons ?_; refine op1_gtr rfl rfl rfl ?_; refine wpO_cons ?_; refine op1_mov rfl (by (conv => lhs; whnf) <;> rfl) ?_; refine wpO_cons ?_
  refine op1_dec rfl (fun hc => ?_) (fun hc => ?_)
  · refine op1_skip rfl ?_; refine wpO_cons ?_; refine op1_skip rfl ?_; refine wpO_cons ?_; refine op1_skip rfl ?_; refine wpO_cons ?_; refine op1_pick_t rfl rfl (by (conv => lhs; whnf) <;> rfl) ?_; refine wpO_cons ?_; refine op1_mov rfl (by (conv => lhs; whnf) <;> rfl) ?_; refine wpO_cons ?_; refine op1_skip rfl ?_; refine wpO_cons ?_; refine op1_skip rfl ?_; refine wpO_cons ?_; refine op1_pick_t rfl rfl (by (conv => lhs; whnf) <;> rfl) ?_; refine wpO_cons ?_; refine op1_mov rfl (by (conv => lhs; whnf) <;> rfl) ?_; refine wpO_cons ?_; refine op1_skip rfl ?_; refine wpO_cons ?_; refine op1_skip rfl ?_; refine wpO_cons ?_; refine op1_pick_t rfl rfl (by (conv => lhs; whnf) <;> rfl) ?_; refine wpO_cons ?_; refine op1_mov rfl (by (conv => lhs; whnf) <;> rfl) ?_; refine wpO_cons ?_; refine op1_skip rfl ?_; refine wpO_cons ?_; refine op1_skip rfl ?_; refine wpO_cons ?_; refine op1_pick_t rfl rfl (by (conv => lhs; whnf) <;> rfl) ?_; refine wpO_nil ?_; refine seq_normal ?_; refine wp_true rfl ?_; refine wp_seq ?_; refine wp_region ?_; refine wpO_cons ?_; refine op1_call0 rfl  ?_; refine wpF_known rfl hgl2 ?_; refine wpO_cons ?_; refine op1_mov rfl (by (conv => lhs; whnf) <;> rfl) ?_; refine wpO_cons ?_; refine op1_mov rfl (by (conv => lhs; whnf) <;> rfl) ?_; refine wpO_cons ?_; refine op1_eqlI_s rfl rfl rfl ?_; refine wpO_cons ?_; refine op1_pick_t rfl rfl (by (conv => lhs; whnf) <;> rfl) ?_; refine wpO_cons ?_; refine op1_mov rfl (by (conv => lhs; whnf) <;> rfl) ?_; refine wpO_cons ?_; refine op1_mov rfl (by (conv => lhs; whnf) <;> rfl) ?_; refine wpO_cons ?_; refine op1_eqlI_s rfl rfl rfl ?_; refine wpO_cons ?_; refine op1_pick_t rfl rfl (by (conv => lhs; whnf) <;> rfl) ?_; refine wpO_cons ?_; refine op1_mov rfl (by (conv => lhs; whnf) <;> rfl) ?_; refine wpO_nil ?_; refine seq_normal ?_; refine wp_ret ?_; refine seq_ret ?_; refine ret_of ?_; refine rk_tmp (by (conv => lhs; whnf) <;> rfl) ?_; refine rk_nil ?_
    rfl
  refine op1_mov rfl (by (conv => lhs; whnf) <;> rfl) ?_; refine wpO_cons ?_; refine op1_len rfl rfl ?_; refine wpO_cons ?_; refine op1_gtr rfl rfl rfl ?_; refine wpO_cons ?_; refine op1_pick_f rfl rfl (by (conv => lhs; whnf) <;> rfl) ?_; refine wpO_cons ?_; refine op1_mov rfl (by (conv => lhs; whnf) <;> rfl) ?_; refine wpO_cons ?_
  refine op1_dec rfl (fun hc2 => ?_) (fun hc2 => ?_)
  · refine op1_skip rfl ?_; refine wpO_cons ?_; refine op1_skip rfl ?_; refine wpO_cons ?_; refine op1_pick_t rfl rfl (by (conv => lhs; whnf) <;> rfl) ?_; refine wpO_cons ?_; refine op1_mov rfl (by (conv => lhs; whnf) <;> rfl) ?_; refine wpO_cons ?_; refine op1_skip rfl ?_; refine wpO_cons ?_; refine op1_skip rfl ?_; refine wpO_cons ?_; refine op1_pick_t rfl rfl (by (conv => lhs; whnf) <;> rfl) ?_; refine wpO_cons ?_; refine op1_mov rfl (by (conv => lhs; whnf) <;> rfl) ?_; refine wpO_cons ?_; refine op1_skip rfl ?_; refine wpO_cons ?_; refine op1_skip rfl ?_; refine wpO_cons ?_; refine op1_pick_t rfl rfl (by (conv => lhs; whnf) <;> rfl) ?_; refine wpO_nil ?_; refine seq_normal ?_; refine wp_true rfl ?_; refine wp_seq ?_; refine wp_region ?_; refine wpO_cons ?_; refine op1_call0 rfl  ?_; refine wpF_known rfl hgl2 ?_; refine wpO_cons ?_; refine op1_mov rfl (by (conv => lhs; whnf) <;> rfl) ?_; refine wpO_cons ?_; refine op1_mov rfl (by (conv => lhs; whnf) <;> rfl) ?_; refine wpO_cons ?_; refine op1_eqlI_s rfl rfl rfl ?_; refine wpO_cons ?_; refine op1_pick_t rfl rfl (by (conv => lhs; whnf) <;> rfl) ?_; refine wpO_cons ?_; refine op1_mov rfl (by (conv => lhs; whnf) <;> rfl) ?_; refine wpO_cons ?_; refine op1_mov rfl (by (conv => lhs; whnf) <;> rfl) ?_; refine wpO_cons ?_; refine op1_eqlI_s rfl rfl rfl ?_; refine wpO_cons ?_; refine op1_pick_t rfl rfl (by (conv => lhs; whnf) <;> rfl) ?_; refine wpO_cons ?_; refine op1_mov rfl (by (conv => lhs; whnf) <;> rfl) ?_; refine wpO_nil ?_; refine seq_normal ?_; refine wp_ret ?_; refine seq_ret ?_; refine ret_of ?_; refine rk_tmp (by (conv => lhs; whnf) <;> rfl) ?_; refine rk_nil ?_
    rfl
  refine op1_call0 rfl  ?_; refine wpF_known rfl hgl2 ?_; refine wpO_cons ?_; refine op1_not_t rfl rfl ?_; refine wpO_cons ?_; refine op1_pick_f rfl rfl (by (conv => lhs; whnf) <;> rfl) ?_; refine wpO_cons ?_; refine op1_mov rfl (by (conv => lhs; whnf) <;> rfl) ?_; refine wpO_cons ?_; refine op1_mov rfl (by (conv => lhs; whnf) <;> rfl) ?_; refine wpO_cons ?_; refine op1_neqI_s rfl rfl rfl ?_; refine wpO_cons ?_; refine op1_pick_f rfl rfl (by (conv => lhs; whnf) <;> rfl) ?_; refine wpO_cons ?_; refine op1_mov rfl (by (conv => lhs; whnf) <;> rfl) ?_; refine wpO_cons ?_; refine op1_mov rfl (by (conv => lhs; whnf) <;> rfl) ?_; refine wpO_cons ?_; refine op1_neqI_s rfl rfl rfl ?_; refine wpO_cons ?_; refine op1_pick_f rfl rfl (by (conv => lhs; whnf) <;> rfl) ?_; refine wpO_nil ?_; refine seq_normal ?_; refine wp_false rfl ?_; refine wp_skip ?_; refine seq_normal ?_; refine wp_seq ?_; refine wp_region ?_; refine wpO_cons ?_; refine op1_mov rfl (by (conv => lhs; whnf) <;> rfl) ?_; refine wpO_cons ?_; refine op1_mov rfl (by (conv => lhs; whnf) <;> rfl) ?_; refine wpO_cons ?_; refine op1_call2 rfl (by (conv => lhs; whnf) <;> rfl) (by (conv => lhs; whnf) <;> rfl) ?_
  have hIn : Inv 255 64 (PT.new 1) := ⟨by simp [PT.new], by simp [PT.new], by simp [PT.new], by simp [PT.new]⟩
  refine wpF_mono (L11 hT.a hIn (Nat.le_refl _) (by omega) (Nat.le_refl _) (by omega) hd2 fun b hb => ⟨(hK b (by simp [hb])).1, (hK b (by simp [hb])).2.1⟩) ?_
  rintro v H3 ⟨rfl, hI3, O3, hR3, hE3⟩
  have hT3 := hT.stepA hR3 hE3
  obtain ⟨hK3, hk3⟩ := hK.stepA hE3
  have hd3 := hd2.frame fun b hb => hk3 b (by simp [hb])
  have hz3 := hz2.frame fun b hb => hk3 b (by simp [hb])
  refine wpO_nil ?_; refine seq_normal ?_; refine wp_seq ?_; refine wp_region ?_; refine wpO_cons ?_; refine op1_mov rfl (by (conv => lhs; whnf) <;> rfl) ?_; refine wpO_cons ?_; refine op1_mov rfl (by (conv => lhs; whnf) <;> rfl) ?_; refine wpO_cons ?_; refine op1_call2 rfl (by (conv => lhs; whnf) <;> rfl) (by (conv => lhs; whnf) <;> rfl) ?_
  refine wpF_mono (L11 hT3.b hIn (Nat.le_refl _) (by omega) (Nat.le_refl _) (by omega) hd3 fun b hb => ⟨(hK3 b (by simp [hb])).1, (hK3 b (by simp [hb])).2.2⟩) ?_
  rintro v H4 ⟨rfl, hI4, O4, hR4, hE4⟩
  have hT4 := hT3.stepB hR4 hE4
  obtain ⟨hK4, hk4⟩ := hK3.stepB hE4
  have hz4 := hz3.frame fun b hb => hk4 b (by simp [hb])
  have hRI := (LInv.new.type l hrng).r hI4
  generalize ((PT.new 1).type l).2.2 = s1 at *
  refine wpO_nil ?_; refine seq_normal ?_; refine wp_seq ?_; refine wp_region ?_; refine wpO_cons ?_; refine op1_mov rfl (by (conv => lhs; whnf) <;> rfl) ?_; refine wpO_cons ?_; refine op1_call1 rfl (by (conv => lhs; whnf) <;> rfl) ?_
  refine wpF_mono (L20 hT4.a hRI.small) ?_
  obtain ⟨hw1, hw2, hw3⟩ := hRI.drain
  generalize (s1.drain 1000 []).1 = D at *
  rintro v5 H5 ⟨O5, r5, hN5, hR5, hE5⟩
  have hT5 := hT4.stepA hR5 hE5
  obtain ⟨hK5, hk5⟩ := hK4.stepA hE5
  have hz5 := hz4.frame fun b hb => hk5 b (by simp [hb])
  have hR5b := hT5.b
  refine wpO_cons ?_; refine op1_bslice rfl ?_; refine bk_one (by (conv => lhs; whnf) <;> rfl) rfl rfl rfl ?_; refine bk_nil ?_; refine wpO_cons ?_
  have hbar : RdS (H5.add (.cells [.int .u8 124] 1 false)) 1 (.slice (some ⟨H5.next, 0, none⟩) 1 1) (bts [124]) [H5.next] := (SlO.new (H := H5) (es := 1) (n := 1) (vs := bts [124]) rfl).rd
  refine op1_b2b rfl rfl rfl AHeap.ga_same ?_
  refine wpO_cons ?_; refine op1_call3 rfl (by (conv => lhs; whnf) <;> rfl) (by (conv => lhs; whnf) <;> rfl) (by (conv => lhs; whnf) <;> rfl) ?_
  refine wpF_mono (L35 (hN5.sl.rd.frame fun b hb => AHeap.ga_lt (hN5.fresh b hb).2.1 rfl) hbar hw2 (by omega) (fun b hb => by have := (hN5.fresh b hb).2.1; simp only [AHeap.next_add]; omega) (by simp)) ?_
  rintro v6 H6 ⟨o6, hO6, hE6⟩
  have hE6' : Ext [] H5 o6 H6 := ⟨Nat.le_trans (by simp) hE6.next, fun b hb hn => (hE6.keep b (by simp only [AHeap.next_add]; omega) hn).trans (by rw [AHeap.get_add, if_neg (by omega)]), fun b hb => (hE6.own b hb).imp id fun h => by simp only [AHeap.next_add] at h; omega⟩
  rw [hw1] at hO6
  have hR6 := hR5b.frame (hR5b.glob.ext hE6' (by simp)) hE6'.next fun b hb => hE6'.keep b (hR5b.lt b hb) (by simp)
  have hz6 := hz5.frame fun b hb => hE6'.keep b (hK5 b (by simp [hb])).1 (by simp)
  have hK6 : Kp H6 (rz ++ o6) O4 [] := fun b hb => by
    simp only [List.mem_append] at hb
    rcases hb with hb | hb
    · exact ⟨Nat.lt_of_lt_of_le (hK5 b (by simp [hb])).1 hE6'.next, (hK5 b (by simp [hb])).2.2, by simp⟩
    · rcases hE6'.own b hb with h | h
      · simp at h
      · exact ⟨h.2, fun hm => by have := hR5b.lt b hm; omega, by simp⟩
  refine wpO_cons ?_; refine op1_mov rfl (by (conv => lhs; whnf) <;> rfl) ?_; refine wpO_nil ?_; refine seq_normal ?_; refine wp_seq ?_; refine wp_region ?_; refine wpO_cons ?_; refine op1_mov rfl (by (conv => lhs; whnf) <;> rfl) ?_; refine wpO_nil ?_; refine seq_normal ?_; refine wp_seq ?_; refine wp_seq ?_; refine wp_region ?_; refine wpO_cons ?_; refine op1_mov rfl (by (conv => lhs; whnf) <;> rfl) ?_; refine wpO_cons ?_; refine op1_len rfl rfl ?_; refine wpO_cons ?_; refine op1_mov rfl (by (conv => lhs; whnf) <;> rfl) ?_; refine wpO_nil ?_; refine seq_normal ?_; refine wp_block ?_
  refine wp_loop [66, 10] (fun k vs H' => ∃ (i : Nat) (s : PT) (gv : Value) (got : List Int) (og O' : List Nat), vs = [.int .i64 i, gv] ∧ i + k = z.length ∧ RInv s ∧ RepT false H' p2 s O' ∧ SlO H' 1 gv (bts got) og ∧ (∀ b ∈ og, b < H'.next ∧ b ∉ O' ∧ objs.length ≤ b) ∧ Kp H' (rz ++ o6) O' og ∧ (∀ b ∈ rz ++ o6, H'.get b = H6.get b) ∧ s1.flat = got ++ s.flat)
    ⟨z.length, 0, s1, .slice none 0 0, [], [], O4, rfl, by omega, hRI, hR6, .nil, by simp, hK6, fun _ _ => rfl, rfl⟩ ?_
  rintro k vs T' H7 ⟨i, s, gv, got, og, O7, rfl, hk, hRs, hR7, hO7, hog, hK7, hk7, hfl⟩
  have hgl7 : got.length ≤ 20000 := by have h1 := hRI.len; rw [hfl] at h1; simp at h1; omega
  obtain ⟨ag, cg, rfl⟩ := hO7.b1
  refine wp_seq ?_; refine wp_region ?_; refine wpO_cons ?_; refine op1_lss rfl rfl rfl ?_; refine wpO_nil ?_; refine seq_normal ?_; refine wp_seq ?_
  refine wp_dec rfl (fun hlt => ?_) (fun hlt => ?_)
  · have hi : i < z.length := by omega
    obtain ⟨b, off, cs, e, ro, v, rfl, hrzb, hgb, hv, hx⟩ := (hz6.frame fun b hb => hk7 b (by simp [hb])).at1 hi
    obtain ⟨x, hx', rfl⟩ : ∃ x, z[i]? = some x ∧ v = .int .u8 x := by
      simp only [bts, List.getElem?_map, Option.map_eq_some_iff] at hx
      obtain ⟨x, h1, h2⟩ := hx
      exact ⟨x, h1, h2.symm⟩
    have hxr := hzr x (List.mem_of_getElem? hx')
    refine wp_skip ?_; refine seq_normal ?_; refine wp_seq ?_; refine wp_block ?_; refine wp_seq ?_; refine wp_region ?_; refine wpO_cons ?_; refine op1_iaddr rfl rfl rfl (by omega) (by omega) ?_; refine wpO_cons ?_
    refine op1_load rfl rfl hgb hv ?_
    refine wpO_cons ?_; refine op1_mov rfl (by (conv => lhs; whnf) <;> rfl) ?_; refine wpO_nil ?_; refine seq_normal ?_; refine wp_seq ?_; refine wp_region ?_; refine wpO_cons ?_; refine op1_mov rfl (by (conv => lhs; whnf) <;> rfl) ?_; refine wpO_cons ?_; refine op1_mov rfl (by (conv => lhs; whnf) <;> rfl) ?_; refine wpO_cons ?_; refine op1_convInt rfl rfl (by exact wrap_i64 (by omega) (by omega)) ?_; refine wpO_cons ?_; refine op1_call2 rfl (by (conv => lhs; whnf) <;> rfl) (by (conv => lhs; whnf) <;> rfl) ?_
    refine wpF_mono (L12 hR7 x hRs.small.inp hRs.small.recs) ?_
    obtain ⟨hq1, hq2, hq3, hq4⟩ := hRs.read hxr.1
    generalize (s.read x).2.2.2 = s8 at *
    generalize (s.read x).2.2.1 = e8 at *
    generalize (s.read x).2.1 = b8 at *
    generalize (s.read x).1 = d8 at *
    rintro v H8 ⟨O8, vo, r8, rfl, hN8, hR8, hE8⟩
    have hO8 : SlO H8 1 (.slice ag got.length cg) (bts got) og := hO7.frame fun b hb => hE8.keep b (hog b hb).1 (hog b hb).2.1
    have hog8 : ∀ b ∈ og, b < H8.next ∧ b ∉ O8 ∧ objs.length ≤ b := fun b hb => ⟨Nat.lt_of_lt_of_le (hog b hb).1 hE8.next, ownfresh hE8 (hog b hb).1 (hog b hb).2.1, (hog b hb).2.2⟩
    have hdl : d8.length ≤ 255 := by omega
    obtain ⟨a8, c8, rfl⟩ := hN8.sl.b1
    refine wpO_cons ?_; refine op1_mov rfl (by (conv => lhs; whnf) <;> rfl) ?_; refine wpO_cons ?_; refine op1_extract rfl rfl rfl ?_; refine wpO_cons ?_; refine op1_extract rfl rfl rfl ?_; refine wpO_cons ?_; refine op1_extract rfl rfl rfl ?_; refine wpO_cons ?_; refine op1_mov rfl (by (conv => lhs; whnf) <;> rfl) ?_; refine wpO_cons ?_; refine op1_mov rfl (by (conv => lhs; whnf) <;> rfl) ?_; refine wpO_cons ?_; refine op1_mov rfl (by (conv => lhs; whnf) <;> rfl) ?_; refine wpO_nil ?_; refine seq_normal ?_; refine wp_seq ?_; refine wp_seq ?_; refine wp_region ?_; refine wpO_cons ?_; refine op1_mov rfl (by (conv => lhs; whnf) <;> rfl) ?_; refine wpO_cons ?_; refine op1_len rfl rfl ?_; refine wpO_cons ?_; refine op1_mov rfl (by (conv => lhs; whnf) <;> rfl) ?_; refine wpO_cons ?_; refine op1_convInt rfl rfl (by exact wrap_i64 (by omega) (by omega)) ?_; refine wpO_cons ?_; refine op1_gtr rfl rfl rfl ?_; refine wpO_cons ?_; refine op1_mov rfl (by (conv => lhs; whnf) <;> rfl) ?_; refine wpO_cons ?_
    refine op1_dec rfl (fun h1 => ?_) (fun h1 => ?_)
    · omega
    refine op1_mov rfl (by (conv => lhs; whnf) <;> rfl) ?_; refine wpO_cons ?_; refine op1_neqI rfl rfl rfl ?_; refine wpO_cons ?_; refine op1_mov rfl (by (conv => lhs; whnf) <;> rfl) ?_; refine wpO_cons ?_
    refine op1_ndec rfl (fun h2 => ?_) (fun h2 => ?_)
    · have h3 : e8 = 2 := by omega
      subst h3
      refine op1_mov rfl (by (conv => lhs; whnf) <;> rfl) ?_; refine wpO_cons ?_; refine op1_neqI_s rfl rfl rfl ?_; refine wpO_cons ?_; refine op1_pick_t rfl rfl (by (conv => lhs; whnf) <;> rfl) ?_; refine wpO_cons ?_; refine op1_pick_f rfl rfl (by (conv => lhs; whnf) <;> rfl) ?_; refine wpO_nil ?_; refine seq_normal ?_; refine wp_false rfl ?_; refine wp_skip ?_; refine seq_normal ?_; refine wp_region ?_; refine wpO_cons ?_; refine op1_mov rfl (by (conv => lhs; whnf) <;> rfl) ?_; refine wpO_cons ?_; refine op1_mov rfl (by (conv => lhs; whnf) <;> rfl) ?_; refine wpO_cons ?_
      refine op1_appendO rfl rfl (by (conv => lhs; whnf) <;> rfl) rfl hO8 rfl (hN8.sl.rd.src (by omega) (k := d8.length) (by simp)) (by simp) (by rw [Nat.mul_one, List.take_of_length_le (by simp)]; exact bts_one _) (by omega) (fun b hb => (hog8 b hb).1) ?_
      intro a9 c9 o9 H9 hO9 hE9
      rw [Nat.mul_one, List.take_of_length_le (by simp), ← bts_append] at hO9
      have hR9 := hR8.frame (hR8.glob.ext hE9 fun b hb => (hog8 b hb).2.2) hE9.next fun b hb => hE9.keep b (hR8.lt b hb) fun hm => (hog8 b hm).2.1 hb
      have hkk : ∀ b ∈ rz ++ o6, b < H8.next ∧ b ∉ O8 := fun b hb => ⟨Nat.lt_of_lt_of_le (hK7 b hb).1 hE8.next, ownfresh hE8 (hK7 b hb).1 (hK7 b hb).2.1⟩
      refine wpO_cons ?_; refine op1_mov rfl (by (conv => lhs; whnf) <;> rfl) ?_; refine wpO_nil ?_; refine block_normal ?_; refine seq_normal ?_; refine wp_region ?_; refine wpO_cons ?_; refine op1_add rfl rfl rfl (by exact wrap_i64 (by omega) (by omega)) ?_; refine wpO_cons ?_; refine op1_mov rfl (by (conv => lhs; whnf) <;> rfl) ?_; refine wpO_nil ?_
      refine ⟨k - 1, by omega, i + 1, s8, _, got ++ d8, o9, O8, rfl, by omega, hq1, hR9, ?_, ?_, ?_, ?_, ?_⟩
      · exact hO9
      · intro b hb
        refine ⟨hE9.lt (fun b hb => (hog8 b hb).1) b hb, fun hm => ?_, ?_⟩
        · rcases hE9.own b hb with h | h
          · exact (hog8 b h).2.1 hm
          · have := hR8.lt b hm; omega
        · rcases hE9.own b hb with h | h
          · exact (hog8 b h).2.2
          · have := hR8.glob.le; omega
      · exact fun b hb => ⟨Nat.lt_of_lt_of_le (hkk b hb).1 hE9.next, (hkk b hb).2, ownfresh hE9 (hkk b hb).1 (hK7 b hb).2.2⟩
      · exact fun b hb => ((hE9.keep b (hkk b hb).1 (hK7 b hb).2.2).trans (hE8.keep b (hK7 b hb).1 (hK7 b hb).2.1)).trans (hk7 b hb)
      · rw [hfl, hq2, List.append_assoc]
    · subst h2
      refine op1_skip rfl ?_; refine wpO_cons ?_; refine op1_skip rfl ?_; refine wpO_cons ?_; refine op1_pick_f rfl rfl (by (conv => lhs; whnf) <;> rfl) ?_; refine wpO_cons ?_; refine op1_pick_f rfl rfl (by (conv => lhs; whnf) <;> rfl) ?_; refine wpO_nil ?_; refine seq_normal ?_; refine wp_false rfl ?_; refine wp_skip ?_; refine seq_normal ?_; refine wp_region ?_; refine wpO_cons ?_; refine op1_mov rfl (by (conv => lhs; whnf) <;> rfl) ?_; refine wpO_cons ?_; refine op1_mov rfl (by (conv => lhs; whnf) <;> rfl) ?_; refine wpO_cons ?_
      refine op1_appendO rfl rfl (by (conv => lhs; whnf) <;> rfl) rfl hO8 rfl (hN8.sl.rd.src (by omega) (k := d8.length) (by simp)) (by simp) (by rw [Nat.mul_one, List.take_of_length_le (by simp)]; exact bts_one _) (by omega) (fun b hb => (hog8 b hb).1) ?_
      intro a9 c9 o9 H9 hO9 hE9
      rw [Nat.mul_one, List.take_of_length_le (by simp), ← bts_append] at hO9
      have hR9 := hR8.frame (hR8.glob.ext hE9 fun b hb => (hog8 b hb).2.2) hE9.next fun b hb => hE9.keep b (hR8.lt b hb) fun hm => (hog8 b hm).2.1 hb
      have hkk : ∀ b ∈ rz ++ o6, b < H8.next ∧ b ∉ O8 := fun b hb => ⟨Nat.lt_of_lt_of_le (hK7 b hb).1 hE8.next, ownfresh hE8 (hK7 b hb).1 (hK7 b hb).2.1⟩
      refine wpO_cons ?_; refine op1_mov rfl (by (conv => lhs; whnf) <;> rfl) ?_; refine wpO_nil ?_; refine block_normal ?_; refine seq_normal ?_; refine wp_region ?_; refine wpO_cons ?_; refine op1_add rfl rfl rfl (by exact wrap_i64 (by omega) (by omega)) ?_; refine wpO_cons ?_; refine op1_mov rfl (by (conv => lhs; whnf) <;> rfl) ?_; refine wpO_nil ?_
      refine ⟨k - 1, by omega, i + 1, s8, _, got ++ d8, o9, O8, rfl, by omega, hq1, hR9, ?_, ?_, ?_, ?_, ?_⟩
      · exact hO9
      · intro b hb
        refine ⟨hE9.lt (fun b hb => (hog8 b hb).1) b hb, fun hm => ?_, ?_⟩
        · rcases hE9.own b hb with h | h
          · exact (hog8 b h).2.1 hm
          · have := hR8.lt b hm; omega
        · rcases hE9.own b hb with h | h
          · exact (hog8 b h).2.2
          · have := hR8.glob.le; omega
      · exact fun b hb => ⟨Nat.lt_of_lt_of_le (hkk b hb).1 hE9.next, (hkk b hb).2, ownfresh hE9 (hkk b hb).1 (hK7 b hb).2.2⟩
      · exact fun b hb => ((hE9.keep b (hkk b hb).1 (hK7 b hb).2.2).trans (hE8.keep b (hK7 b hb).1 (hK7 b hb).2.1)).trans (hk7 b hb)
      · rw [hfl, hq2, List.append_assoc]
  · obtain rfl : i = z.length := by omega
    refine wp_exit ?_; refine seq_exit ?_; refine iter_exit ?_; refine block_exit ?_; refine seq_normal ?_; refine wp_seq ?_; refine wp_region ?_; refine wpO_cons ?_; refine op1_mov rfl (by (conv => lhs; whnf) <;> rfl) ?_; refine wpO_cons ?_; refine op1_bslice rfl ?_; refine bk_one (by (conv => lhs; whnf) <;> rfl) rfl rfl rfl ?_; refine bk_nil ?_; refine wpO_cons ?_; refine op1_b2b rfl rfl rfl (by with_reducible exact AHeap.ga_same) ?_; refine wpO_cons ?_; refine op1_call3 rfl (by (conv => lhs; whnf) <;> rfl) (by (conv => lhs; whnf) <;> rfl) (by (conv => lhs; whnf) <;> rfl) ?_
    refine wpF_mono (L35 (r := og) (l := got) (hO7.rd.frame fun b hb => AHeap.ga_lt (hog b hb).1 rfl) (SlO.new (H := H7) (es := 1) (n := 1) (vs := bts [124]) rfl).rd (hRI.rng.mono hfl) (by omega) (fun b hb => by have := (hog b hb).1; simp only [AHeap.next_add]; omega) (by simp)) ?_
    rintro v9 H9 ⟨o9, hO9, hE9⟩
    have hE9' : Ext [] H7 o9 H9 := ⟨Nat.le_trans (by simp) hE9.next, fun b hb hn => (hE9.keep b (by simp only [AHeap.next_add]; omega) hn).trans (by rw [AHeap.get_add, if_neg (by omega)]), fun b hb => (hE9.own b hb).imp id fun h => by simp only [AHeap.next_add] at h; omega⟩
    have hR9 := hR7.frame (hR7.glob.ext hE9' (by simp)) hE9'.next fun b hb => hE9'.keep b (hR7.lt b hb) (by simp)
    have hW9 : SlO H9 1 v6 (bts (nb s1.flat)) o6 := hO6.frame fun b hb => (hE9'.keep b (hK7 b (by simp [hb])).1 (by simp)).trans (hk7 b (by simp [hb]))
    refine wpO_cons ?_; refine op1_mov rfl (by (conv => lhs; whnf) <;> rfl) ?_; refine wpO_nil ?_; refine seq_normal ?_; refine wp_seq ?_; refine wp_region ?_; refine wpO_cons ?_; refine op1_mov rfl (by (conv => lhs; whnf) <;> rfl) ?_; refine wpO_cons ?_; refine op1_mov rfl (by (conv => lhs; whnf) <;> rfl) ?_; refine wpO_cons ?_; refine op1_call2 rfl (by (conv => lhs; whnf) <;> rfl) (by (conv => lhs; whnf) <;> rfl) ?_
    have hpre : nb got <+: nb s1.flat := by rw [hfl, nb_append]; exact List.prefix_append _ _
    refine wpF_mono (L36 hW9.rd hO9.rd hpre) ?_
    rintro _ _ ⟨rfl, rfl⟩
    refine wpO_cons ?_; refine op1_mov rfl (by (conv => lhs; whnf) <;> rfl) ?_; refine wpO_cons ?_; refine op1_mov rfl (by (conv => lhs; whnf) <;> rfl) ?_; refine wpO_cons ?_; refine op1_mov rfl (by (conv => lhs; whnf) <;> rfl) ?_; refine wpO_cons ?_; refine op1_call1 rfl (by (conv => lhs; whnf) <;> rfl) ?_
    refine wpF_mono (L20 hR9 hRs.small) ?_
    obtain ⟨hx1, hx2, hx3⟩ := hRs.drain
    generalize (s.drain 1000 []).1 = D2 at *
    rintro v10 H10 ⟨O10, r10, hN10, hR10, hE10⟩
    have ho9 : ∀ b ∈ o9, b < H9.next ∧ b ∉ O7 := fun b hb => (hE9'.own b hb).elim (fun h => by simp at h) fun h => ⟨h.2, fun hm => by have := hR7.lt b hm; omega⟩
    have hO10 : SlO H10 1 v9 (bts (nb got)) o9 := hO9.frame fun b hb => hE10.keep b (ho9 b hb).1 (ho9 b hb).2
    have ho6 : ∀ b ∈ o6, b < H9.next ∧ b ∉ O7 := fun b hb => ⟨Nat.lt_of_lt_of_le (hK7 b (by simp [hb])).1 hE9'.next, (hK7 b (by simp [hb])).2.1⟩
    have hW10 : SlO H10 1 v6 (bts (nb s1.flat)) o6 := hW9.frame fun b hb => hE10.keep b (ho6 b hb).1 (ho6 b hb).2
    obtain ⟨a9, c9, rfl⟩ := hO10.b1
    obtain ⟨a10, c10, rfl⟩ := hN10.sl.b1
    have hngl : (nb got).length ≤ 20000 := by have := nb_len got; omega
    have ho9' : ∀ b ∈ o9, b < H10.next := fun b hb => Nat.lt_of_lt_of_le (ho9 b hb).1 hE10.next
    have hnn : nb (nb got) = nb got := by unfold nb; simp
    have hres : nb (nb got ++ D2) = nb s1.flat := by rw [nb_append, hnn, hx1, hfl, nb_append]
    have hrr : Rng (nb got ++ D2) := Rng.app (fun x hx => (hRI.rng.mono hfl) x ((List.mem_filter.1 hx).1)) hx2
    refine wpO_cons ?_
    refine op1_appendO rfl rfl (by (conv => lhs; whnf) <;> rfl) rfl hO10 rfl (hN10.sl.rd.src (by omega) (k := D2.length) (by simp)) (by simp) (by rw [Nat.mul_one, List.take_of_length_le (by simp)]; exact bts_one _) (by omega) ho9' ?_
    intro a11 c11 o11 H11 hO11 hE11
    rw [Nat.mul_one, List.take_of_length_le (by simp), ← bts_append] at hO11
    have hW11 : SlO H11 1 v6 (bts (nb s1.flat)) o6 := hW10.frame fun b hb => hE11.keep b (Nat.lt_of_lt_of_le (ho6 b hb).1 hE10.next) fun hm => by
      rcases hE9'.own b hm with h | h
      · simp at h
      · have := (hK7 b (by simp [hb])).1; omega
    have hlt11 : ∀ b ∈ o11, b < H11.next := hE11.lt ho9'
    have ho6' : ∀ b ∈ o6, b < H11.next := fun b hb => Nat.lt_of_lt_of_le (Nat.lt_of_lt_of_le (ho6 b hb).1 hE10.next) hE11.next
    refine wpO_cons ?_; refine op1_bslice rfl ?_; refine bk_one (by (conv => lhs; whnf) <;> rfl) rfl rfl rfl ?_; refine bk_nil ?_; refine wpO_cons ?_; refine op1_b2b rfl rfl rfl (by with_reducible exact AHeap.ga_same) ?_; refine wpO_cons ?_; refine op1_call3 rfl (by (conv => lhs; whnf) <;> rfl) (by (conv => lhs; whnf) <;> rfl) (by (conv => lhs; whnf) <;> rfl) ?_
    refine wpF_mono (L35 (r := o11) (l := nb got ++ D2) (hO11.rd.frame fun b hb => AHeap.ga_lt (hlt11 b hb) rfl) (SlO.new (H := H11) (es := 1) (n := 1) (vs := bts [124]) rfl).rd hrr (by simp; omega) (fun b hb => by have := hlt11 b hb; simp only [AHeap.next_add]; omega) (by simp)) ?_
    rw [hres]
    rintro v12 H12 ⟨o12, hO12, hE12⟩
    have hW12 : SlO H12 1 v6 (bts (nb s1.flat)) o6 := hW11.frame fun b hb => (hE12.keep b (by have := ho6' b hb; simp only [AHeap.next_add]; omega) (by simp)).trans (by rw [AHeap.get_add, if_neg (by have := ho6' b hb; omega)])
    refine wpO_cons ?_; refine op1_mov rfl (by (conv => lhs; whnf) <;> rfl) ?_; refine wpO_cons ?_; refine op1_call2 rfl (by (conv => lhs; whnf) <;> rfl) (by (conv => lhs; whnf) <;> rfl) ?_
    refine wpF_mono (L14 hO12.rd hW12.rd) ?_
    rintro _ _ ⟨rfl, rfl⟩
    refine wpO_cons ?_; refine op1_pick_t rfl rfl (by (conv => lhs; whnf) <;> rfl) ?_; refine wpO_cons ?_; refine op1_mov rfl (by (conv => lhs; whnf) <;> rfl) ?_; refine wpO_nil ?_; refine seq_normal ?_; refine wp_ret ?_; refine ret_of ?_; refine rk_tmp (by (conv => lhs; whnf) <;> rfl) ?_; refine rk_nil ?_
    rfl
end Go.E.Pty
