/- PtyLines, as the evaluator runs it: true, whatever is typed. -/
import Derived.Test.YtfgejkhhkacknaaDoorPtCode2
import Derived.Test.YtfgejkhhkacknaaDoorPtLP
import Derived.Test.YtfgejkhhkacknaaDoorEngZe
import Derived.KernelRfl
namespace Go.E.Pty
open Go Go.E Go.Proofs.YtfgejkhhkacknaaDoor.base Go.Proofs.YtfgejkhhkacknaaDoor Go.Proofs
set_option linter.unusedVariables false
set_option linter.unusedSimpArgs false
set_option maxRecDepth 100000

theorem L33 {H : AHeap} {v : Value} {l : List Int} {r : List Nat} (hd : RdS H 1 v (bts l) r) (hl : ∀ x ∈ l, (0 : Int) ≤ x ∧ x ≤ 255) {c : Int} (hc : (0 : Int) ≤ c ∧ c ≤ 255) : wpF C 33 [v, .int .u8 c] H fun u H' => u = .int .i64 (ixI l c) ∧ H = H' := by
  refine wpF_ofW o33 rfl rfl ?_
  refine wp_seq ?_; refine wp_region ?_; refine wpO_cons ?_; refine op1_mov rfl (by (conv => lhs; whnf) <;> rfl) ?_; refine wpO_nil ?_; refine seq_normal ?_; refine wp_seq ?_; refine wp_region ?_; refine wpO_cons ?_; refine op1_mov rfl (by (conv => lhs; whnf) <;> rfl) ?_; refine wpO_cons ?_; refine op1_mov rfl (by (conv => lhs; whnf) <;> rfl) ?_; refine wpO_cons ?_
  refine op1_extB rfl (by (conv => lhs; whnf) <;> rfl) rfl (RdS.bytesV hd) ?_
  rw [if_neg (by simp), ixI_eq hc hl]
  refine wpO_cons ?_; refine op1_mov rfl (by (conv => lhs; whnf) <;> rfl) ?_; refine wpO_nil ?_; refine seq_normal ?_; refine wp_ret ?_; refine ret_of ?_; refine rk_tmp (by (conv => lhs; whnf) <;> rfl) ?_; refine rk_nil ?_
  exact ⟨rfl, rfl⟩

theorem L64 {H : AHeap} {v : Value} {l : List Int} {r : List Nat} (hd : RdS H 1 v (bts l) r) (h7 : ∀ x ∈ l, x = 7) (hlim : l.length ≤ 1000000) : wpF C 64 [v, .int .u8 7] H fun u H' => (∃ a c, u = .slice a 0 c) ∧ H = H' := by
  obtain ⟨a, c, rfl⟩ := hd.b1
  refine wpF_ofW o64 rfl rfl ?_
  refine wp_seq ?_; refine wp_region ?_; refine wpO_cons ?_; refine op1_mov rfl (by (conv => lhs; whnf) <;> rfl) ?_; refine wpO_nil ?_; refine seq_normal ?_; refine wp_seq ?_; refine wp_block ?_
  refine wp_loop [0] (fun k vs H' => ∃ a c, vs = [.slice a k c] ∧ H = H' ∧ RdS H 1 (.slice a k c) (bts (l.take k)) r ∧ k ≤ l.length) ⟨l.length, a, c, rfl, rfl, by rw [List.take_length]; exact hd, Nat.le_refl _⟩ ?_
  rintro k vs T' H' ⟨a, c, rfl, rfl, hd, hk⟩
  have hkc := hd.len_le
  refine wp_seq ?_; refine wp_seq ?_; refine wp_region ?_; refine wpO_cons ?_; refine op1_mov rfl (by (conv => lhs; whnf) <;> rfl) ?_; refine wpO_cons ?_; refine op1_len rfl rfl ?_; refine wpO_cons ?_; refine op1_gtr rfl rfl rfl ?_; refine wpO_cons ?_; refine op1_mov rfl (by (conv => lhs; whnf) <;> rfl) ?_; refine wpO_cons ?_
  refine op1_dec rfl (fun hc => ?_) (fun hc => ?_)
  · obtain ⟨b, off, cs, e, ro, v, rfl, rfl, hg, hv, hx⟩ := hd.at1 (i := k - 1) (by omega)
    obtain rfl : v = .int .u8 7 := by
      simp only [bts, List.getElem?_map, Option.map_eq_some_iff] at hx
      obtain ⟨x, h1, rfl⟩ := hx
      rw [h7 x (List.mem_of_mem_take (List.mem_of_getElem? h1))]
    have e1 : (k : Int) - 1 = ((k - 1 : Nat) : Int) := by omega
    refine op1_mov rfl (by (conv => lhs; whnf) <;> rfl) ?_; refine wpO_cons ?_; refine op1_mov rfl (by (conv => lhs; whnf) <;> rfl) ?_; refine wpO_cons ?_; refine op1_len rfl rfl ?_; refine wpO_cons ?_; refine op1_sub rfl rfl rfl (by exact wrap_i64 (by omega) (by omega)) ?_; refine wpO_cons ?_; refine op1_iaddr rfl rfl rfl (by omega) (by omega) ?_; refine wpO_cons ?_
    rw [e1]
    skip
    refine op1_load rfl rfl hg hv ?_
    refine wpO_cons ?_; refine op1_mov rfl (by (conv => lhs; whnf) <;> rfl) ?_; refine wpO_cons ?_; refine op1_eqlI_s rfl rfl rfl ?_; refine wpO_cons ?_; refine op1_pick_t rfl rfl (by (conv => lhs; whnf) <;> rfl) ?_; refine wpO_nil ?_; refine seq_normal ?_; refine wp_true rfl ?_; refine wp_skip ?_; refine seq_normal ?_; refine wp_block ?_; refine wp_region ?_; refine wpO_cons ?_; refine op1_mov rfl (by (conv => lhs; whnf) <;> rfl) ?_; refine wpO_cons ?_; refine op1_mov rfl (by (conv => lhs; whnf) <;> rfl) ?_; refine wpO_cons ?_; refine op1_len rfl rfl ?_; refine wpO_cons ?_; refine op1_sub rfl rfl rfl (by exact wrap_i64 (by omega) (by omega)) ?_; refine wpO_cons ?_
    rw [e1]
    refine op1_sliceR rfl rfl hd (bnds_hi (by omega) (by omega)) (by omega) (by simp only [Int.toNat_natCast]; omega) ?_
    simp only [Int.toNat_natCast, Nat.zero_mul, List.drop_zero, Nat.sub_zero, Nat.mul_one]
    intro a2 c2 hd2
    rw [bts_take, List.take_take, Nat.min_eq_left (by omega)] at hd2
    refine wpO_cons ?_; refine op1_mov rfl (by (conv => lhs; whnf) <;> rfl) ?_; refine wpO_nil ?_; refine block_normal ?_
    exact ⟨k - 1, by omega, a2, c2, rfl, rfl, hd2, by omega⟩
  · obtain rfl : k = 0 := by omega
    refine op1_skip rfl ?_; refine wpO_cons ?_; refine op1_skip rfl ?_; refine wpO_cons ?_; refine op1_skip rfl ?_; refine wpO_cons ?_; refine op1_skip rfl ?_; refine wpO_cons ?_; refine op1_skip rfl ?_; refine wpO_cons ?_; refine op1_skip rfl ?_; refine wpO_cons ?_; refine op1_skip rfl ?_; refine wpO_cons ?_; refine op1_skip rfl ?_; refine wpO_cons ?_; refine op1_pick_f rfl rfl (by (conv => lhs; whnf) <;> rfl) ?_; refine wpO_nil ?_; refine seq_normal ?_; refine wp_false rfl ?_; refine wp_exit ?_; refine seq_exit ?_; refine iter_exit ?_; refine block_exit ?_; refine seq_normal ?_; refine wp_seq ?_; refine wp_region ?_; refine wpO_cons ?_; refine op1_mov rfl (by (conv => lhs; whnf) <;> rfl) ?_; refine wpO_cons ?_; refine op1_mov rfl (by (conv => lhs; whnf) <;> rfl) ?_; refine wpO_nil ?_; refine seq_normal ?_; refine wp_ret ?_; refine ret_of ?_; refine rk_tmp (by (conv => lhs; whnf) <;> rfl) ?_; refine rk_nil ?_
    exact ⟨⟨_, _, rfl⟩, rfl⟩

theorem L63 {H : AHeap} {a : Option Addr} {c : Nat} {x : Int} : wpF C 63 [.slice a 0 c, .int .u8 x] H fun u H' => (∃ a c, u = .slice a 0 c) ∧ H = H' := by
  refine wpF_ofW o63 rfl rfl ?_
  refine wp_seq ?_; refine wp_region ?_; refine wpO_cons ?_; refine op1_mov rfl (by (conv => lhs; whnf) <;> rfl) ?_; refine wpO_nil ?_; refine seq_normal ?_; refine wp_seq ?_; refine wp_block ?_
  refine wp_loop [0] (fun k vs H' => vs = [.slice a 0 c] ∧ H = H') ⟨0, rfl, rfl⟩ ?_
  rintro k vs T' H' ⟨rfl, rfl⟩
  refine wp_seq ?_; refine wp_seq ?_; refine wp_region ?_; refine wpO_cons ?_; refine op1_mov rfl (by (conv => lhs; whnf) <;> rfl) ?_; refine wpO_cons ?_; refine op1_len rfl rfl ?_; refine wpO_cons ?_; refine op1_gtr rfl rfl rfl ?_; refine wpO_cons ?_; refine op1_mov rfl (by (conv => lhs; whnf) <;> rfl) ?_; refine wpO_cons ?_; refine op1_skip rfl ?_; refine wpO_cons ?_; refine op1_skip rfl ?_; refine wpO_cons ?_; refine op1_skip rfl ?_; refine wpO_cons ?_; refine op1_skip rfl ?_; refine wpO_cons ?_; refine op1_skip rfl ?_; refine wpO_cons ?_; refine op1_pick_f rfl rfl (by (conv => lhs; whnf) <;> rfl) ?_; refine wpO_nil ?_; refine seq_normal ?_; refine wp_false rfl ?_; refine wp_exit ?_; refine seq_exit ?_; refine iter_exit ?_; refine block_exit ?_; refine seq_normal ?_; refine wp_seq ?_; refine wp_seq ?_; refine wp_region ?_; refine wpO_cons ?_; refine op1_mov rfl (by (conv => lhs; whnf) <;> rfl) ?_; refine wpO_cons ?_; refine op1_len rfl rfl ?_; refine wpO_cons ?_; refine op1_eqlI_s rfl rfl rfl ?_; refine wpO_nil ?_; refine seq_normal ?_; refine wp_true rfl ?_; refine wp_seq ?_; refine wp_region ?_; refine wpO_cons ?_; refine op1_mov rfl (by (conv => lhs; whnf) <;> rfl) ?_; refine wpO_nil ?_; refine seq_normal ?_; refine wp_ret ?_; refine seq_ret ?_; refine ret_of ?_; refine rk_tmp (by (conv => lhs; whnf) <;> rfl) ?_; refine rk_nil ?_
  exact ⟨⟨_, _, rfl⟩, rfl⟩

theorem L34 {H : AHeap} {v : Value} {l : List Int} {r : List Nat} (hd : RdS H 1 v (bts l) r) (h7 : ∀ x ∈ l, x = 7) (hlim : l.length ≤ 1000000) : wpF C 34 [v, .string ⟨#[7]⟩] H fun u H' => (∃ a c, u = .slice a 0 c) ∧ H = H' := by
  obtain ⟨a, c, rfl⟩ := hd.b1
  refine wpF_ofW o34 rfl rfl ?_
  refine wp_seq ?_; refine wp_region ?_; refine wpO_cons ?_; refine op1_mov rfl (by (conv => lhs; whnf) <;> rfl) ?_; refine wpO_nil ?_; refine seq_normal ?_; refine wp_seq ?_; refine wp_seq ?_; refine wp_region ?_; refine wpO_cons ?_; refine op1_mov rfl (by (conv => lhs; whnf) <;> rfl) ?_; refine wpO_cons ?_; refine op1_len rfl rfl ?_; refine wpO_cons ?_; refine op1_eqlI rfl rfl rfl ?_; refine wpO_nil ?_; refine seq_normal ?_
  refine wp_dec rfl (fun hc => ?_) (fun hc => ?_)
  · refine wp_seq ?_; refine wp_region ?_; refine wpO_cons ?_; refine op1_mov rfl (by (conv => lhs; whnf) <;> rfl) ?_; refine wpO_nil ?_; refine seq_normal ?_; refine wp_ret ?_; refine seq_ret ?_; refine ret_of ?_; refine rk_tmp (by (conv => lhs; whnf) <;> rfl) ?_; refine rk_nil ?_
    exact ⟨⟨_, _, rfl⟩, rfl⟩
  refine wp_skip ?_; refine seq_normal ?_; refine wp_seq ?_; refine wp_seq ?_; refine wp_region ?_; refine wpO_cons ?_; refine op1_mov rfl (by (conv => lhs; whnf) <;> rfl) ?_; refine wpO_cons ?_; refine op1_eqlS rfl rfl rfl ?_; refine wpO_nil ?_; refine seq_normal ?_
  rw [show ((⟨#[7]⟩ : ByteArray).toList == (⟨#[]⟩ : ByteArray).toList) = false by kernel_rfl]
  refine wp_false rfl ?_; refine wp_skip ?_; refine seq_normal ?_; refine wp_seq ?_; refine wp_seq ?_; refine wp_region ?_; refine wpO_cons ?_; refine op1_mov rfl (by (conv => lhs; whnf) <;> rfl) ?_; refine wpO_cons ?_; refine op1_lenS rfl rfl ?_; refine wpO_cons ?_; refine op1_eqlI_s rfl rfl rfl ?_; refine wpO_cons ?_; refine op1_mov rfl (by (conv => lhs; whnf) <;> rfl) ?_; refine wpO_cons ?_; refine op1_mov rfl (by (conv => lhs; whnf) <;> rfl) ?_; refine wpO_cons ?_; refine op1_pure rfl rfl rfl ?_; refine wpO_cons ?_; refine op1_lss rfl rfl rfl ?_; refine wpO_cons ?_; refine op1_pick_t rfl rfl (by (conv => lhs; whnf) <;> rfl) ?_; refine wpO_nil ?_; refine seq_normal ?_; refine wp_true rfl ?_; refine wp_seq ?_; refine wp_regionD ?_; refine wpD_cons ?_; refine op1_mov rfl (by (conv => lhs; whnf) <;> rfl) ?_; refine wpD_cons ?_; refine op1_mov rfl (by (conv => lhs; whnf) <;> rfl) ?_; refine wpD_cons ?_; refine op1_pure rfl rfl rfl ?_; refine wpD_cons ?_; refine op1_mov rfl (by (conv => lhs; whnf) <;> rfl) ?_; refine wpD_cons ?_; refine op1_pure rfl rfl rfl ?_; refine wpD_cons ?_; refine op1_call2 rfl (by (conv => lhs; whnf) <;> rfl) (by (conv => lhs; whnf) <;> rfl) ?_
  refine wpF_mono (L64 hd h7 hlim) ?_
  rintro _ _ ⟨⟨a2, c2, rfl⟩, rfl⟩
  refine wpD_cons ?_; refine op1_call2 rfl (by (conv => lhs; whnf) <;> rfl) (by (conv => lhs; whnf) <;> rfl) ?_
  refine wpF_mono L63 ?_
  rintro _ _ ⟨⟨a3, c3, rfl⟩, rfl⟩
  refine wpD_cons ?_; refine op1_mov rfl (by (conv => lhs; whnf) <;> rfl) ?_; refine wpD_nil ?_; refine dk_of ?_ ?_; refine chk_skip ?_; refine chk_skip ?_; refine chk_skip ?_; refine chk_skip ?_; refine chk_skip ?_; refine chk_skip ?_; refine chk_skip ?_; refine chk_skip ?_; exact chk_end; refine seq_normal ?_; refine wp_ret ?_; refine seq_ret ?_; refine ret_of ?_; refine rk_tmp (by (conv => lhs; whnf) <;> rfl) ?_; refine rk_nil ?_
  exact ⟨⟨_, _, rfl⟩, rfl⟩

theorem Inv.read5 {s : PT} (h : Inv 255 64 s) : Inv 255 64 (s.read 5000).2.2.2 := by
  unfold PT.read
  rw [if_neg (by decide), if_neg (by decide)]
  split
  · split <;> exact h
  · rename_i d r rest hin
    have hd := h.recs (d, r) (by rw [hin]; simp)
    have hm : (min (5000 : Int) (d.length : Int)).toNat = d.length := by simp only at hd; omega
    simp only [hm, List.drop_length, if_true]
    exact ⟨h.out, h.line, by have := h.inp; rw [hin] at this; simp at this; simp only; omega, fun x hx => h.recs x (by rw [hin]; simp [hx])⟩

theorem L7 {H : AHeap} (hgl : Glob objs H) {vd : Value} {l : List Int} {r : List Nat} (hd : RdS H 1 vd (bts l) r) (hr : ∀ b ∈ r, b < H.next) (hrng : ∀ x ∈ l, (0 : Int) ≤ x ∧ x ≤ 255) : wpF C 7 [vd] H fun v H' => v = .bool true := by
  obtain ⟨a, c, rfl⟩ := hd.b1
  refine wpF_ofW o7 rfl rfl ?_
  refine wp_seq ?_; refine wp_region ?_; refine wpO_cons ?_; refine op1_mov rfl (by (conv => lhs; whnf) <;> rfl) ?_; refine wpO_nil ?_; refine seq_normal ?_; refine wp_seq ?_; refine wp_region ?_; refine wpO_cons ?_; refine op1_call1 rfl (by (conv => lhs; whnf) <;> rfl) ?_
  refine wpF_mono (L9 hgl (by omega)) ?_
  rintro v H1 ⟨p, O, rfl, hR, hE⟩
  have hgl1 := hR.glob
  refine wpO_cons ?_; refine op1_mov rfl (by (conv => lhs; whnf) <;> rfl) ?_; refine wpO_cons ?_; refine op1_extract rfl rfl rfl ?_; refine wpO_cons ?_; refine op1_extract rfl rfl rfl ?_; refine wpO_cons ?_; refine op1_mov rfl (by (conv => lhs; whnf) <;> rfl) ?_; refine wpO_cons ?_; refine op1_mov rfl (by (conv => lhs; whnf) <;> rfl) ?_; refine wpO_nil ?_; refine seq_normal ?_; refine wp_seq ?_; refine wp_seq ?_; refine wp_region ?_; refine wpO_cons ?_; refine op1_mov rfl (by (conv => lhs; whnf) <;> rfl) ?_; refine wpO_cons ?_; refine op1_len rfl rfl ?_; refine wpO_cons ?_; refine op1_gtr rfl rfl rfl ?_; refine wpO_cons ?_; refine op1_mov rfl (by (conv => lhs; whnf) <;> rfl) ?_; refine wpO_cons ?_
  refine op1_dec rfl (fun hc => ?_) (fun hc => ?_)
  · refine op1_skip rfl ?_; refine wpO_cons ?_; refine op1_skip rfl ?_; refine wpO_cons ?_; refine op1_pick_t rfl rfl (by (conv => lhs; whnf) <;> rfl) ?_; refine wpO_cons ?_; refine op1_mov rfl (by (conv => lhs; whnf) <;> rfl) ?_; refine wpO_cons ?_; refine op1_skip rfl ?_; refine wpO_cons ?_; refine op1_skip rfl ?_; refine wpO_cons ?_; refine op1_pick_t rfl rfl (by (conv => lhs; whnf) <;> rfl) ?_; refine wpO_nil ?_; refine seq_normal ?_; refine wp_true rfl ?_; refine wp_seq ?_; refine wp_region ?_; refine wpO_cons ?_; refine op1_call0 rfl  ?_; refine wpF_known rfl hgl1 ?_; refine wpO_cons ?_; refine op1_mov rfl (by (conv => lhs; whnf) <;> rfl) ?_; refine wpO_cons ?_; refine op1_mov rfl (by (conv => lhs; whnf) <;> rfl) ?_; refine wpO_cons ?_; refine op1_eqlI_s rfl rfl rfl ?_; refine wpO_cons ?_; refine op1_pick_t rfl rfl (by (conv => lhs; whnf) <;> rfl) ?_; refine wpO_cons ?_; refine op1_mov rfl (by (conv => lhs; whnf) <;> rfl) ?_; refine wpO_nil ?_; refine seq_normal ?_; refine wp_ret ?_; refine seq_ret ?_; refine ret_of ?_; refine rk_tmp (by (conv => lhs; whnf) <;> rfl) ?_; refine rk_nil ?_
    rfl
  refine op1_call0 rfl  ?_; refine wpF_known rfl hgl1 ?_; refine wpO_cons ?_; refine op1_not_t rfl rfl ?_; refine wpO_cons ?_; refine op1_pick_f rfl rfl (by (conv => lhs; whnf) <;> rfl) ?_; refine wpO_cons ?_; refine op1_mov rfl (by (conv => lhs; whnf) <;> rfl) ?_; refine wpO_cons ?_; refine op1_mov rfl (by (conv => lhs; whnf) <;> rfl) ?_; refine wpO_cons ?_; refine op1_neqI_s rfl rfl rfl ?_; refine wpO_cons ?_; refine op1_pick_f rfl rfl (by (conv => lhs; whnf) <;> rfl) ?_; refine wpO_nil ?_; refine seq_normal ?_; refine wp_false rfl ?_; refine wp_skip ?_; refine seq_normal ?_; refine wp_seq ?_; refine wp_region ?_; refine wpO_cons ?_; refine op1_mov rfl (by (conv => lhs; whnf) <;> rfl) ?_; refine wpO_cons ?_; refine op1_mov rfl (by (conv => lhs; whnf) <;> rfl) ?_; refine wpO_cons ?_; refine op1_call2 rfl (by (conv => lhs; whnf) <;> rfl) (by (conv => lhs; whnf) <;> rfl) ?_
  have hIn : Inv 255 64 (PT.new 1) := ⟨by simp [PT.new], by simp [PT.new], by simp [PT.new], by simp [PT.new]⟩
  have hfr : ∀ b ∈ r, b < H1.next ∧ b ∉ O := fun b hb => ⟨Nat.lt_of_lt_of_le (hr b hb) hE.next, fun hm => (hE.own b hm).elim (fun h => by simp at h) (fun h => absurd (hr b hb) (by omega))⟩
  have hd1 : RdS H1 1 (.slice a l.length c) (bts l) r := hd.frame fun b hb => hE.keep b (hr b hb) (by simp)
  refine wpF_mono (L11 hR hIn (Nat.le_refl _) (by omega) (Nat.le_refl _) (by omega) hd1 hfr) ?_
  rintro v H2 ⟨rfl, hI2, O2, hR2, hE2⟩
  have hL2 := LInv.new.type l hrng
  generalize ((PT.new 1).type l).2.2 = s2 at *
  refine wpO_nil ?_; refine seq_normal ?_; refine wp_seq ?_; refine wp_seq ?_; refine wp_region ?_; refine wpO_cons ?_; refine op1_mov rfl (by (conv => lhs; whnf) <;> rfl) ?_; refine wpO_nil ?_; refine seq_normal ?_; refine wp_block ?_
  refine wp_loop [5] (fun k vs H' => ∃ (i : Nat) (s : PT) (O' : List Nat), vs = [.int .i64 i] ∧ i + k = 100 ∧ LInv s ∧ Inv 255 64 s ∧ RepT false H' p s O') ⟨100, 0, s2, O2, rfl, rfl, hL2, hI2, hR2⟩ ?_
  rintro k vs T' H3 ⟨i, s, O3, rfl, hk, hL, hI, hR3⟩
  have hrd : ∀ x ∈ s.input, x.1.length ≤ 10000000 := fun x hx => by have := hI.recs x hx; omega
  refine wp_seq ?_; refine wp_seq ?_; refine wp_region ?_; refine wpO_cons ?_; refine op1_mov rfl (by (conv => lhs; whnf) <;> rfl) ?_; refine wpO_cons ?_; refine op1_lss rfl rfl rfl ?_; refine wpO_nil ?_; refine seq_normal ?_
  refine wp_dec rfl (fun hlt => ?_) (fun hlt => ?_)
  · refine wp_skip ?_; refine seq_normal ?_; refine wp_seq ?_; refine wp_block ?_; refine wp_seq ?_; refine wp_region ?_; refine wpO_cons ?_; refine op1_mov rfl (by (conv => lhs; whnf) <;> rfl) ?_; refine wpO_cons ?_; refine op1_call2 rfl (by (conv => lhs; whnf) <;> rfl) (by (conv => lhs; whnf) <;> rfl) ?_
    refine wpF_mono (L12 hR3 5000 (by have := hI.inp; omega) hrd) ?_
    rintro v H4 ⟨O4, vo, r4, rfl, hN4, hR4, hE4⟩
    obtain ⟨hL4, hok⟩ := hL.read
    have hI4 := hI.read5
    generalize hs4 : (s.read 5000).2.2.2 = s4 at *
    generalize (s.read 5000).2.2.1 = e4 at *
    generalize (s.read 5000).2.1 = b4 at *
    generalize (s.read 5000).1 = d4 at *
    refine wpO_cons ?_; refine op1_mov rfl (by (conv => lhs; whnf) <;> rfl) ?_; refine wpO_cons ?_; refine op1_extract rfl rfl rfl ?_; refine wpO_cons ?_; refine op1_extract rfl rfl rfl ?_; refine wpO_cons ?_; refine op1_extract rfl rfl rfl ?_; refine wpO_cons ?_; refine op1_mov rfl (by (conv => lhs; whnf) <;> rfl) ?_; refine wpO_cons ?_; refine op1_mov rfl (by (conv => lhs; whnf) <;> rfl) ?_; refine wpO_cons ?_; refine op1_mov rfl (by (conv => lhs; whnf) <;> rfl) ?_; refine wpO_nil ?_; refine seq_normal ?_; refine wp_seq ?_; refine wp_seq ?_; refine wp_region ?_; refine wpO_cons ?_; refine op1_mov rfl (by (conv => lhs; whnf) <;> rfl) ?_; refine wpO_cons ?_; refine op1_neqI rfl rfl rfl ?_; refine wpO_nil ?_; refine seq_normal ?_
    refine wp_ndec rfl (fun he => ?_) (fun he => ?_)
    · refine wp_exit ?_; refine seq_exit ?_; refine block_other rfl ?_; refine seq_exit ?_; refine iter_exit ?_; refine block_exit ?_; refine seq_normal ?_; refine wp_seq ?_; refine wp_region ?_; refine wpO_cons ?_; refine op1_mov rfl (by (conv => lhs; whnf) <;> rfl) ?_; refine wpO_cons ?_; refine op1_call2 rfl (by (conv => lhs; whnf) <;> rfl) (by (conv => lhs; whnf) <;> rfl) ?_
      refine wpF_mono (L13 hR4 5000 (by have := hI4.out; omega)) ?_
      rintro v H5 ⟨O5, v5, r5, rfl, hN5, hR5, hE5⟩
      have hall : ∀ x ∈ (s4.outp 5000).1, x = 7 := by
        intro x hx
        unfold PT.outp at hx
        rw [if_neg (by decide), if_neg (by rw [hL4.stopped]; simp)] at hx
        exact hL4.out x (List.mem_of_mem_take hx)
      have hz : (s4.outp 5000).2.1 = 0 := by
        unfold PT.outp
        rw [if_neg (by decide), if_neg (by rw [hL4.stopped]; simp)]
      have hlen5 : (s4.outp 5000).1.length ≤ 1000000 := by
        unfold PT.outp
        rw [if_neg (by decide), if_neg (by rw [hL4.stopped]; simp)]
        have := hI4.out
        simp only [List.length_take]
        omega
      rw [hz]
      refine wpO_cons ?_; refine op1_mov rfl (by (conv => lhs; whnf) <;> rfl) ?_; refine wpO_cons ?_; refine op1_extract rfl rfl rfl ?_; refine wpO_cons ?_; refine op1_extract rfl rfl rfl ?_; refine wpO_cons ?_; refine op1_mov rfl (by (conv => lhs; whnf) <;> rfl) ?_; refine wpO_cons ?_; refine op1_mov rfl (by (conv => lhs; whnf) <;> rfl) ?_; refine wpO_nil ?_; refine seq_normal ?_; refine wp_seq ?_; refine wp_region ?_; refine wpO_cons ?_; refine op1_mov rfl (by (conv => lhs; whnf) <;> rfl) ?_; refine wpO_cons ?_; refine op1_eqlI_s rfl rfl rfl ?_; refine wpO_cons ?_; refine op1_mov rfl (by (conv => lhs; whnf) <;> rfl) ?_; refine wpO_cons ?_; refine op1_mov rfl (by (conv => lhs; whnf) <;> rfl) ?_; refine wpO_cons ?_; refine op1_call2 rfl (by (conv => lhs; whnf) <;> rfl) (by (conv => lhs; whnf) <;> rfl) ?_
      refine wpF_mono (L34 hN5.sl.rd hall hlen5) ?_
      rintro _ _ ⟨⟨a6, c6, rfl⟩, rfl⟩
      refine wpO_cons ?_; refine op1_len rfl rfl ?_; refine wpO_cons ?_; refine op1_eqlI_s rfl rfl rfl ?_; refine wpO_cons ?_; refine op1_pick_t rfl rfl (by (conv => lhs; whnf) <;> rfl) ?_; refine wpO_cons ?_; refine op1_mov rfl (by (conv => lhs; whnf) <;> rfl) ?_; refine wpO_nil ?_; refine seq_normal ?_; refine wp_ret ?_; refine ret_of ?_; refine rk_tmp (by (conv => lhs; whnf) <;> rfl) ?_; refine rk_nil ?_
      rfl
    · obtain ⟨⟨hl1, hl2, hl3⟩, hb4⟩ := hok he
      refine wp_skip ?_; refine seq_normal ?_; refine wp_seq ?_; refine wp_region ?_; refine wpO_cons ?_; refine op1_mov rfl (by (conv => lhs; whnf) <;> rfl) ?_; refine wpO_cons ?_; refine op1_call2 rfl (by (conv => lhs; whnf) <;> rfl) (by (conv => lhs; whnf) <;> rfl) ?_
      refine wpF_mono (L33 hN4.sl.rd hl3 (by omega)) ?_
      rintro _ _ ⟨rfl, rfl⟩
      obtain ⟨a7, c7, rfl⟩ := hN4.sl.b1
      refine wpO_cons ?_; refine op1_mov rfl (by (conv => lhs; whnf) <;> rfl) ?_; refine wpO_nil ?_; refine seq_normal ?_; refine wp_seq ?_; refine wp_region ?_; refine wpO_cons ?_; refine op1_mov rfl (by (conv => lhs; whnf) <;> rfl) ?_; refine wpO_cons ?_; refine op1_len rfl rfl ?_; refine wpO_cons ?_; refine op1_gtr rfl rfl rfl ?_; refine wpO_cons ?_; refine op1_mov rfl (by (conv => lhs; whnf) <;> rfl) ?_; refine wpO_cons ?_
      refine op1_dec rfl (fun h1 => ?_) (fun h1 => ?_)
      · omega
      refine op1_mov rfl (by (conv => lhs; whnf) <;> rfl) ?_; refine wpO_cons ?_; refine op1_geq rfl rfl rfl ?_; refine wpO_cons ?_; refine op1_mov rfl (by (conv => lhs; whnf) <;> rfl) ?_; refine wpO_cons ?_
      have hcut : (0 : Int) ≤ ixI d4 10 → ixI d4 10 = (d4.length : Int) - 1 := by
        intro h
        have := hl2 _ (ixI_get h)
        omega
      rw [hb4]
      refine op1_dec rfl (fun h2 => ?_) (fun h2 => ?_)
      · have h3 := hcut h2
        refine op1_mov rfl (by (conv => lhs; whnf) <;> rfl) ?_; refine wpO_cons ?_; refine op1_mov rfl (by (conv => lhs; whnf) <;> rfl) ?_; refine wpO_cons ?_; refine op1_len rfl rfl ?_; refine wpO_cons ?_; refine op1_sub rfl rfl rfl (by exact wrap_i64 (by omega) (by omega)) ?_; refine wpO_cons ?_; refine op1_neqI rfl rfl rfl ?_; refine wpO_cons ?_; refine op1_pick_t rfl rfl (by (conv => lhs; whnf) <;> rfl) ?_; refine wpO_cons ?_; refine op1_pick_f rfl rfl (by (conv => lhs; whnf) <;> rfl) ?_; refine wpO_cons ?_; refine op1_mov rfl (by (conv => lhs; whnf) <;> rfl) ?_; refine wpO_cons ?_
        rw [h3, decide_eq_true rfl]
        refine op1_mov rfl (by (conv => lhs; whnf) <;> rfl) ?_; refine wpO_cons ?_; refine op1_mov rfl (by (conv => lhs; whnf) <;> rfl) ?_; refine wpO_cons ?_; refine op1_len rfl rfl ?_; refine wpO_cons ?_; refine op1_eqlI rfl rfl rfl ?_; refine wpO_cons ?_; refine op1_neqB rfl rfl rfl rfl ?_; refine wpO_cons ?_; refine op1_pick_f rfl rfl (by (conv => lhs; whnf) <;> rfl) ?_; refine wpO_nil ?_; refine seq_normal ?_
        rw [show decide (d4 = []) = decide ((d4.length : Int) = 0) by cases d4 <;> simp <;> omega]
        refine wp_cond rfl (fun h9 => ?_) (fun h9 => ?_)
        · simp at h9
        · refine wp_skip ?_; refine block_normal ?_; refine seq_normal ?_; refine wp_region ?_; refine wpO_cons ?_; refine op1_mov rfl (by (conv => lhs; whnf) <;> rfl) ?_; refine wpO_cons ?_; refine op1_add rfl rfl rfl (by exact wrap_i64 (by omega) (by omega)) ?_; refine wpO_cons ?_; refine op1_mov rfl (by (conv => lhs; whnf) <;> rfl) ?_; refine wpO_nil ?_
          exact ⟨k - 1, by omega, i + 1, s4, O4, rfl, by omega, hL4, hI4, hR4⟩
      · refine op1_skip rfl ?_; refine wpO_cons ?_; refine op1_skip rfl ?_; refine wpO_cons ?_; refine op1_skip rfl ?_; refine wpO_cons ?_; refine op1_skip rfl ?_; refine wpO_cons ?_; refine op1_skip rfl ?_; refine wpO_cons ?_; refine op1_pick_f rfl rfl (by (conv => lhs; whnf) <;> rfl) ?_; refine wpO_cons ?_; refine op1_pick_f rfl rfl (by (conv => lhs; whnf) <;> rfl) ?_; refine wpO_cons ?_; refine op1_mov rfl (by (conv => lhs; whnf) <;> rfl) ?_; refine wpO_cons ?_; refine op1_mov rfl (by (conv => lhs; whnf) <;> rfl) ?_; refine wpO_cons ?_; refine op1_mov rfl (by (conv => lhs; whnf) <;> rfl) ?_; refine wpO_cons ?_; refine op1_len rfl rfl ?_; refine wpO_cons ?_; refine op1_eqlI rfl rfl rfl ?_; refine wpO_cons ?_; refine op1_neqB rfl rfl rfl rfl ?_; refine wpO_cons ?_; refine op1_pick_f rfl rfl (by (conv => lhs; whnf) <;> rfl) ?_; refine wpO_nil ?_; refine seq_normal ?_
        rw [show decide (d4 = []) = decide ((d4.length : Int) = 0) by cases d4 <;> simp <;> omega]
        refine wp_cond rfl (fun h9 => ?_) (fun h9 => ?_)
        · simp at h9
        · refine wp_skip ?_; refine block_normal ?_; refine seq_normal ?_; refine wp_region ?_; refine wpO_cons ?_; refine op1_mov rfl (by (conv => lhs; whnf) <;> rfl) ?_; refine wpO_cons ?_; refine op1_add rfl rfl rfl (by exact wrap_i64 (by omega) (by omega)) ?_; refine wpO_cons ?_; refine op1_mov rfl (by (conv => lhs; whnf) <;> rfl) ?_; refine wpO_nil ?_
          exact ⟨k - 1, by omega, i + 1, s4, O4, rfl, by omega, hL4, hI4, hR4⟩
  · refine wp_exit ?_; refine seq_exit ?_; refine iter_exit ?_; refine block_exit ?_; refine seq_normal ?_; refine wp_seq ?_; refine wp_region ?_; refine wpO_cons ?_; refine op1_mov rfl (by (conv => lhs; whnf) <;> rfl) ?_; refine wpO_cons ?_; refine op1_call2 rfl (by (conv => lhs; whnf) <;> rfl) (by (conv => lhs; whnf) <;> rfl) ?_
    refine wpF_mono (L13 hR3 5000 (by have := hI.out; omega)) ?_
    rintro v H5 ⟨O5, v5, r5, rfl, hN5, hR5, hE5⟩
    have hall : ∀ x ∈ (s.outp 5000).1, x = 7 := by
      intro x hx
      unfold PT.outp at hx
      rw [if_neg (by decide), if_neg (by rw [hL.stopped]; simp)] at hx
      exact hL.out x (List.mem_of_mem_take hx)
    have hz : (s.outp 5000).2.1 = 0 := by
      unfold PT.outp
      rw [if_neg (by decide), if_neg (by rw [hL.stopped]; simp)]
    have hlen5 : (s.outp 5000).1.length ≤ 1000000 := by
      unfold PT.outp
      rw [if_neg (by decide), if_neg (by rw [hL.stopped]; simp)]
      have := hI.out
      simp only [List.length_take]
      omega
    rw [hz]
    refine wpO_cons ?_; refine op1_mov rfl (by (conv => lhs; whnf) <;> rfl) ?_; refine wpO_cons ?_; refine op1_extract rfl rfl rfl ?_; refine wpO_cons ?_; refine op1_extract rfl rfl rfl ?_; refine wpO_cons ?_; refine op1_mov rfl (by (conv => lhs; whnf) <;> rfl) ?_; refine wpO_cons ?_; refine op1_mov rfl (by (conv => lhs; whnf) <;> rfl) ?_; refine wpO_nil ?_; refine seq_normal ?_; refine wp_seq ?_; refine wp_region ?_; refine wpO_cons ?_; refine op1_mov rfl (by (conv => lhs; whnf) <;> rfl) ?_; refine wpO_cons ?_; refine op1_eqlI_s rfl rfl rfl ?_; refine wpO_cons ?_; refine op1_mov rfl (by (conv => lhs; whnf) <;> rfl) ?_; refine wpO_cons ?_; refine op1_mov rfl (by (conv => lhs; whnf) <;> rfl) ?_; refine wpO_cons ?_; refine op1_call2 rfl (by (conv => lhs; whnf) <;> rfl) (by (conv => lhs; whnf) <;> rfl) ?_
    refine wpF_mono (L34 hN5.sl.rd hall hlen5) ?_
    rintro _ _ ⟨⟨a6, c6, rfl⟩, rfl⟩
    refine wpO_cons ?_; refine op1_len rfl rfl ?_; refine wpO_cons ?_; refine op1_eqlI_s rfl rfl rfl ?_; refine wpO_cons ?_; refine op1_pick_t rfl rfl (by (conv => lhs; whnf) <;> rfl) ?_; refine wpO_cons ?_; refine op1_mov rfl (by (conv => lhs; whnf) <;> rfl) ?_; refine wpO_nil ?_; refine seq_normal ?_; refine wp_ret ?_; refine ret_of ?_; refine rk_tmp (by (conv => lhs; whnf) <;> rfl) ?_; refine rk_nil ?_
    rfl
end Go.E.Pty
