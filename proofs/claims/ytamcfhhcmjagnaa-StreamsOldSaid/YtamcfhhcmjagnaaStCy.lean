/- A connection: Output, Next. -/
import Derived.Test.YtamcfhhcmjagnaaStCx
namespace Go.E.St
open Go Go.E Go.Proofs.Ytamcfhhcmjagnaa Go.Proofs
set_option linter.unusedVariables false
set_option linter.unusedSimpArgs false
set_option maxRecDepth 100000
theorem sgA_at {H : AHeap} {g : Sg} {cs : List Value} {o : List Nat} (h : (sgA g cs).f H o) : ∃ a c, cs = sgC g (.slice a g.data.length c) := by
  obtain ⟨vd, h⟩ := h
  cases h with
  | cons h1 h2 => cases h2 with
    | cons h3 h4 =>
      cases h4
      obtain ⟨rfl, h3⟩ := h3
      have h5 : SlO H 1 vd (u8s g.data) _ := h1
      obtain ⟨a, c, rfl⟩ := h5.shape1
      rw [u8s_length] at h3
      exact ⟨a, c, h3⟩
theorem dl_data (s : Cn) (lim : Int) (hs : s.size ≤ 256) : ∀ (f : Nat) (sent nx : Int), ∀ g ∈ (s.dl lim f sent nx).1, g.data.length ≤ 256
  | 0, _, _, g, h => by simp [Cn.dl] at h
  | f + 1, sent, nx, g, h => by
    rw [Cn.dl] at h
    split at h
    · rcases List.mem_cons.1 h with h | h
      · rw [h]
        show (List.take _ _).length ≤ 256
        rw [List.length_take]
        unfold Cn.dn
        omega
      · exact dl_data s lim hs f _ _ g h
    · simp at h
theorem addFin_data (s : Cn) (nx : Int) : ∀ (l : List Sg), (∀ g ∈ l, g.data.length ≤ 256) → ∀ g ∈ addFin s nx l, g.data.length ≤ 256
  | [], _, g, h => by
    rw [addFin, List.mem_singleton] at h
    rw [h]; exact Nat.zero_le _
  | [a], hl, g, h => by
    rw [addFin, List.mem_singleton] at h
    rw [h]; exact hl a (by simp)
  | a :: b :: l, hl, g, h => by
    rw [addFin] at h
    rcases List.mem_cons.1 h with h | h
    · rw [h]; exact hl a (by simp)
    · exact addFin_data s nx (b :: l) (fun x hx => hl x (by simp at hx ⊢; right; exact hx)) g h
    · intro h; cases h
theorem segs_data {s : Cn} (hs : s.size ≤ 256) : ∀ g ∈ s.segs.1, g.data.length ≤ 256 := by
  intro g hg
  unfold Cn.segs at hg
  split at hg
  · split at hg
    · simp at hg
    · rw [List.mem_singleton] at hg
      rw [hg]; unfold Cn.hello; split <;> exact Nat.zero_le _
  split at hg
  · unfold Cn.dat at hg
    split at hg
    · exact addFin_data s _ _ (dl_data s _ hs _ _ _) g hg
    · exact dl_data s _ hs _ _ _ g hg
  · simp at hg
theorem ackd_data {s : Cn} {l : List Sg} (h : ∀ g ∈ l, g.data.length ≤ 256) : ∀ g ∈ s.ackd l, g.data.length ≤ 256 := by
  intro g hg
  unfold Cn.ackd at hg
  split at hg
  · rw [List.mem_singleton] at hg
    rw [hg]; exact Nat.zero_le _
  · exact h g hg
theorem addFin_len (s : Cn) (nx : Int) : ∀ (l : List Sg), (addFin s nx l).length ≤ l.length + 1
  | [] => by simp [addFin]
  | [a] => by simp [addFin]
  | a :: b :: l => by
    have := addFin_len s nx (b :: l)
    rw [addFin] <;> simp_all
theorem segs_len {s : Cn} (hok : Ok s) : s.segs.1.length ≤ 5000 := by
  have hol := hok.out
  have h1 := dl_len s s.dlim hok.size.1 s.out.length s.sent0 s.nxt (by unfold Cn.sent0; exact (w32b _).1)
  have h0 := (w32b (s.nxt - s.una)).1
  have h2 : s.dr.1 = (s.dl s.dlim s.out.length s.sent0 s.nxt).1 := rfl
  have h3 : s.sent0 = IntKind.u32.wrap (s.nxt - s.una) := rfl
  unfold Cn.segs
  split
  · split <;> simp
  split
  · unfold Cn.dat
    split
    · have := addFin_len s s.dr.2.2 s.dr.1
      simp only
      rw [h2] at *
      omega
    · simp only
      rw [h2]
      omega
  · simp
section
variable {B H : AHeap} {As : List Asn} {p : Nat} {s : Cn} {g : Sg}
theorem L43 {now : Int} (hok : Ok s) (hS : S B H (repC p s :: As)) :
    wpF C 43 [ptC p, .int .i64 now] H fun v H' => ∃ a c, v = .tuple ⟨[.slice a (s.output now).2.1.length c, .int .i64 (s.output now).1]⟩ ∧ S B H' (arr 5 sgA (.slice a (s.output now).2.1.length c) (s.output now).2.1 :: repC p (s.output now).2.2 :: As) := by
  have hcl := hok.clock
  have hS0 := hS
  obtain ⟨ao, co, ai, ci, ho, hi, hO⟩ := openC hS
  refine wpF_ofW o43 rfl rfl ?_
  clear hS
  have hS := hO
  clear hO
  unfold cnC at hS
  unfold ptC
  refine zsr ?_; refine zw1 ?_; refine zw1 ?_; refine zns ?_
  refine wp_cutR [] (fun vs H' => vs = [] ∧ (0 ≤ now ∧ now ≤ 1099511627776) ∧ s.output now = (0, ({ s.late now with clock := now } : Cn).sent now) ∧ S B H' (repC p (s.late now) :: As)) ?_ ?_
  · refine wp_block ?_; refine zsr ?_; refine zw1 ?_; refine wpO_cons ?_; refine op1_bin_false rfl (by (conv => lhs; whnf) <;> rfl) (by (conv => lhs; whnf) <;> rfl) rfl ?_; refine zw1 ?_; refine zns ?_; refine wp_false rfl ?_; refine zsr ?_; refine zw1 ?_; refine wpO_cons ?_; refine op1_call1 rfl (by (conv => lhs; whnf) <;> rfl) ?_
    refine wpF_mono L68 ?_
    rintro _ H2 ⟨rfl, rfl⟩
    by_cases h1 : 0 ≤ now ∧ now ≤ 1099511627776
    rotate_left
    · have e : s.output now = (34, [], s) := by unfold Cn.output; rw [if_pos h1]
      rw [decide_eq_false h1, e]
      refine wpO_cons ?_; refine op1_not_f rfl rfl ?_; refine zw1 ?_; refine zns ?_; refine wp_true rfl ?_; refine zsr ?_; refine zw1 ?_; refine zw1 ?_; refine zns ?_; refine wp_ret ?_; refine block_ret ?_
      refine cutR_ret ?_
      refine ret_of ?_; refine zr ?_; refine zr ?_; refine rk_nil ?_
      exact ⟨none, 0, rfl, S.arrNil hS0⟩
    rw [decide_eq_true h1]
    refine wpO_cons ?_; refine op1_not_t rfl rfl ?_; refine zw1 ?_; refine zns ?_; refine wp_false rfl ?_; refine zsr ?_; refine zw1 ?_; refine zw1 ?_; refine zn ?_; refine zf ?_; refine zh (S.g0 hS) ?_; refine wpO_cons ?_; refine op1_lss rfl rfl rfl ?_; refine zw1 ?_; refine zns ?_
    refine wp_dec rfl (fun h2 => ?_) (fun h2 => ?_)
    · have e : s.output now = (30, [], s) := by unfold Cn.output; rw [if_neg (fun h => h h1), if_pos h2]
      rw [e]
      refine zsr ?_; refine zw1 ?_; refine zw1 ?_; refine zns ?_; refine wp_ret ?_; refine block_ret ?_
      refine cutR_ret ?_
      refine ret_of ?_; refine zr ?_; refine zr ?_; refine rk_nil ?_
      exact ⟨none, 0, rfl, S.arrNil hS0⟩
    refine zsr ?_; refine zw1 ?_; refine zn ?_; refine zf ?_; refine zh (S.g0 hS) ?_; refine zw1 ?_; refine zns ?_
    obtain ⟨rs, hrs⟩ : ∃ z, z = s.rst := ⟨_, rfl⟩
    rw [← hrs]
    cases rs
    rotate_left
    · have e : s.output now = (0, [⟨10, s.nxt, s.rcv, 0, []⟩], { s with clock := now, rst := false }) := by unfold Cn.output; rw [if_neg (fun h => h h1), if_neg h2, ← hrs, if_pos rfl]
      rw [e]
      refine wp_true rfl ?_; refine zsr ?_; refine zw1 ?_; refine zw1 ?_; refine zw1 ?_; refine zn ?_; refine zf ?_; refine wpO_cons ?_; (refine op1_store1S rfl rfl (by (conv => lhs; whnf) <;> rfl) rfl rfl (S.up0 hS) rfl ?_; intro H1 hS; replace hS := S.dn0 hS); refine zn ?_; refine zf ?_; refine wpO_cons ?_; (refine op1_store1S rfl rfl (by (conv => lhs; whnf) <;> rfl) rfl rfl (S.up0 hS) rfl ?_; intro H2 hS; replace hS := S.dn0 hS); refine zns ?_; refine wp_seq ?_; refine wp_regionD ?_; refine zd1 ?_; refine zm ?_; refine zg ?_; refine zg ?_; refine zj (S.g0 hS) ?_; refine zd1 ?_; refine zm ?_; refine zg ?_; refine wpD_cons ?_; refine op1_faddr rfl rfl ?_; refine zj (S.g0 hS) ?_; refine wpD_cons ?_; refine op1_build rfl ?_; refine bk_one (by (conv => lhs; whnf) <;> rfl) rfl rfl rfl ?_; refine bk_one (by (conv => lhs; whnf) <;> rfl) rfl rfl rfl ?_; refine bk_one (by (conv => lhs; whnf) <;> rfl) rfl rfl rfl ?_; refine bk_nil ?_; refine wpD_cons ?_; refine op1_bsliceS rfl hS ?_; refine bk_agg rfl rfl rfl rfl ?_; refine bk_nil ?_; intro p1 H3 hS; refine zd1 ?_; refine zd1 ?_; refine wpD_nil ?_; refine dk_of ?_ ?_; (iterate 4 refine chk_skip ?_); refine zx 10 ?_ ?_; refine zy 0 ?_ ?_; exact zq (S.g1 hS); exact chkFs_nil; (iterate 4 refine chk_skip ?_); refine zx 5 ?_ ?_; refine zy 0 ?_ ?_; exact zq (S.g1 hS); exact chkFs_nil; (iterate 4 refine chk_skip ?_); exact chk_end; refine seq_normal ?_; refine wp_ret ?_; refine block_ret ?_
      refine cutR_ret ?_
      refine ret_of ?_; refine zr ?_; refine zr ?_; refine rk_nil ?_
      exact ⟨some ⟨p1, 0, none⟩, 1, rfl, sg_single (g := ⟨10, s.nxt, s.rcv, 0, []⟩) (vd := .slice none 0 0) (S.up1 (S.slNil (S.up1 (closeC (s := { s with clock := now, rst := false }) (S.up3 (S.up3 (S.up3 hS)))))))⟩
    refine wp_false rfl ?_; refine zsr ?_; refine zw1 ?_; refine zn ?_; refine zf ?_; refine zh (S.g0 hS) ?_; refine wpO_cons ?_; refine op1_eqlI rfl rfl rfl ?_; refine zw1 ?_; refine zns ?_
    refine wp_dec rfl (fun h3 => ?_) (fun h3 => ?_)
    · have e : s.output now = (4, [], s) := by unfold Cn.output; rw [if_neg (fun h => h h1), if_neg h2, ← hrs, if_neg (by simp), if_pos h3]
      rw [e]
      refine zsr ?_; refine zw1 ?_; refine zw1 ?_; refine zns ?_; refine wp_ret ?_; refine block_ret ?_
      refine cutR_ret ?_
      refine ret_of ?_; refine zr ?_; refine zr ?_; refine rk_nil ?_
      exact ⟨none, 0, rfl, S.arrNil hS0⟩
    refine zsr ?_; refine zw1 ?_; refine zn ?_; refine zf ?_; refine zh (S.g0 hS) ?_; refine wpO_cons ?_; refine op1_eqlI rfl rfl rfl ?_; refine zw1 ?_; refine zns ?_
    refine wp_dec rfl (fun h4 => ?_) (fun h4 => ?_)
    · have e : s.output now = (35, [], s) := by unfold Cn.output; rw [if_neg (fun h => h h1), if_neg h2, ← hrs, if_neg (by simp), if_neg h3, if_pos h4]
      rw [e]
      refine zsr ?_; refine zw1 ?_; refine zw1 ?_; refine zns ?_; refine wp_ret ?_; refine block_ret ?_
      refine cutR_ret ?_
      refine ret_of ?_; refine zr ?_; refine zr ?_; refine rk_nil ?_
      exact ⟨none, 0, rfl, S.arrNil hS0⟩
    refine zsr ?_; refine zw1 ?_; refine zw1 ?_; refine wpO_cons ?_; refine op1_call2 rfl (by (conv => lhs; whnf) <;> rfl) (by (conv => lhs; whnf) <;> rfl) ?_
    refine wpF_mono (L74 hok h1 hS0) ?_
    clear hS hS0
    rintro _ H2 ⟨rfl, hS⟩
    obtain ⟨lb, hlb⟩ : ∃ z, z = s.lateB now := ⟨_, rfl⟩
    rw [← hlb]
    cases lb
    · have e : s.output now = (0, ({ s.late now with clock := now } : Cn).sent now) := by unfold Cn.output; rw [if_neg (fun h => h h1), if_neg h2, ← hrs, if_neg (by simp), if_neg h3, if_neg h4, ← hlb, if_neg (by simp)]
      refine zw1 ?_; refine zns ?_; refine wp_false rfl ?_; refine wp_skip ?_; refine block_normal ?_
      exact cutR0 ⟨rfl, h1, e, hS⟩
    · have e : s.output now = (4, [], s.late now) := by unfold Cn.output; rw [if_neg (fun h => h h1), if_neg h2, ← hrs, if_neg (by simp), if_neg h3, if_neg h4, ← hlb, if_pos rfl]
      rw [e]
      refine zw1 ?_; refine zns ?_; refine wp_true rfl ?_; refine zsr ?_; refine zw1 ?_; refine zw1 ?_; refine zns ?_; refine wp_ret ?_; refine block_ret ?_
      refine cutR_ret ?_
      refine ret_of ?_; refine zr ?_; refine zr ?_; refine rk_nil ?_
      exact ⟨none, 0, rfl, S.arrNil hS⟩
  clear hS hS0
  rintro vs2 T2 H2 ⟨rfl, hnow, hout, hS⟩
  rw [hout]
  clear hout
  have hok1 := hok.late (now := now) hnow
  obtain ⟨s1, hs1⟩ : ∃ z : Cn, z = { s.late now with clock := now } := ⟨_, rfl⟩
  have hok2 : Ok s1 := by
    rw [hs1]
    exact ⟨hok1.first, hok1.una, hok1.nxt, hok1.rcv, hok1.size, hok1.window, hok1.out, hok1.inc, hok1.pat, hok1.tmo, hok1.since, hnow, hok1.reps, hok1.st, hok1.syn⟩
  rw [← hs1]
  obtain ⟨ao, co, ai, ci, ho, hi, hO⟩ := openC hS
  clear hS
  have hS := hO
  clear hO
  unfold cnC at hS
  refine zsr ?_; refine zw1 ?_; refine zw1 ?_; refine zn ?_; refine zf ?_; refine wpO_cons ?_; (refine op1_store1S rfl rfl (by (conv => lhs; whnf) <;> rfl) rfl rfl (S.up0 hS) rfl ?_; intro H1 hS; replace hS := S.dn0 hS); refine zns ?_; refine zsr ?_; refine zw1 ?_; refine wpO_cons ?_; refine op1_call1 rfl (by (conv => lhs; whnf) <;> rfl) ?_
  have hS1 := closeC (s := { s.late now with clock := now }) hS
  rw [← hs1] at hS1
  refine wpF_mono (L75 hok2 hS1) ?_
  clear hS hS1 hok1 hs1
  intro v1 H4 hS
  obtain ⟨al, cl, rfl, hcl2⟩ := S.arrShape hS (by decide)
  have hok3 := hok2.segs
  have hsd := segs_data hok2.size.2
  have hsl := segs_len hok2
  unfold Cn.sent
  obtain ⟨l, hl⟩ : ∃ z, z = s1.segs.1 := ⟨_, rfl⟩
  obtain ⟨s2, hs2⟩ : ∃ z, z = s1.segs.2 := ⟨_, rfl⟩
  rw [← hl, ← hs2] at hS
  rw [← hl] at hsd hsl hcl2
  rw [← hs2] at hok3
  rw [← hl, ← hs2]
  clear hl hs2
  have hil2 := hok3.inc
  have hS0 := S.up1 hS
  obtain ⟨ao, co, ai, ci, ho, hi, hO⟩ := openC (S.up1 hS)
  clear hS
  have hS := hO
  clear hO
  unfold cnC at hS
  have hd2 := ackd_data (s := s2) hsd
  have hl2l : (s2.ackd l).length ≤ 5001 := by unfold Cn.ackd; split; simp; omega
  obtain ⟨l2, hl2⟩ : ∃ z, z = s2.ackd l := ⟨_, rfl⟩
  refine zw1 ?_; refine zns ?_
  refine wp_cut [6] (fun vs H' => ∃ (al : Option Addr) (cl : Nat), vs = [.slice al l2.length cl] ∧ S B H' (repC p s2 :: arr 5 sgA (.slice al l2.length cl) l2 :: As)) ?_ ?_
  · rw [hl2]
    unfold Cn.ackd
    obtain ⟨f1, hf1⟩ : ∃ z, z = s2.due := ⟨_, rfl⟩
    obtain ⟨f2, hf2⟩ : ∃ z, z = s2.synced := ⟨_, rfl⟩
    rw [← hf1, ← hf2]
    have hT := hS
    rw [← hf1, ← hf2] at hS
    cases f1
    · rw [if_neg (by simp)]
      refine zsr ?_; refine zw1 ?_; refine zn ?_; refine zf ?_; refine wpO_cons ?_; refine op1_faddr rfl rfl ?_; refine zh (S.g0 hS) ?_; refine zw1 ?_; (iterate 3 refine zk ?_); refine zu ?_; refine zw1 ?_; (iterate 5 refine zk ?_); refine zu ?_; refine zns ?_; refine wp_false rfl ?_; refine wp_skip ?_; refine cut1 (by (conv => lhs; whnf) <;> rfl) ?_
      exact ⟨al, cl, rfl, hS0⟩
    refine zsr ?_; refine zw1 ?_; refine zn ?_; refine zf ?_; refine wpO_cons ?_; refine op1_faddr rfl rfl ?_; refine zh (S.g0 hS) ?_; refine zw1 ?_; refine zw1 ?_; refine wpO_cons ?_; refine op1_len rfl rfl ?_; refine wpO_cons ?_; refine op1_eqlI rfl rfl rfl ?_; refine zt ?_; refine zw1 ?_; refine wpO_cons ?_
    refine op1_dec rfl (fun h1 => ?_) (fun h1 => ?_)
    rotate_left
    · rw [if_neg (fun h => h1 (by omega))]
      refine op1_skip rfl ?_; (iterate 4 refine zk ?_); refine zu ?_; refine zns ?_; refine wp_false rfl ?_; refine wp_skip ?_; refine cut1 (by (conv => lhs; whnf) <;> rfl) ?_
      exact ⟨al, cl, rfl, hS0⟩
    cases f2
    · rw [if_neg (by simp)]
      refine op1_mov rfl (by (conv => lhs; whnf) <;> rfl) ?_; refine zn ?_; refine zf ?_; refine wpO_cons ?_; refine op1_faddr rfl rfl ?_; refine zh (S.g0 hS) ?_; refine zt ?_; refine zns ?_; refine wp_false rfl ?_; refine wp_skip ?_; refine cut1 (by (conv => lhs; whnf) <;> rfl) ?_
      exact ⟨al, cl, rfl, hS0⟩
    rw [if_pos ⟨rfl, by omega, rfl⟩]
    obtain rfl : l = [] := List.eq_nil_of_length_eq_zero (by omega)
    refine op1_mov rfl (by (conv => lhs; whnf) <;> rfl) ?_; refine zn ?_; refine zf ?_; refine wpO_cons ?_; refine op1_faddr rfl rfl ?_; refine zh (S.g0 hS) ?_; refine zt ?_; refine zns ?_; refine wp_true rfl ?_; refine wp_region ?_; refine zw1 ?_; refine zw1 ?_; refine zw1 ?_; refine zn ?_; refine zf ?_; refine zf ?_; refine zh (S.g0 hS) ?_; refine wpO_cons ?_; refine op1_call4 rfl (by (conv => lhs; whnf) <;> rfl) (by (conv => lhs; whnf) <;> rfl) (by (conv => lhs; whnf) <;> rfl) (by (conv => lhs; whnf) <;> rfl) ?_
    refine wpF_mono (L76 (s := s2) (d := []) hil2 (fun H h => ⟨[], .nil, by simp⟩) (by simp) ⟨_, _, _, rfl⟩ hT) ?_
    clear hS hT
    rintro _ H5 ⟨a2, c2, rfl, hS⟩
    obtain ⟨css, hcss, hcl, hS⟩ := S.unarr (S.up4 hS)
    have hone := sg_one (S.up1 hS)
    unfold sgC
    refine wpO_cons ?_; refine op1_bsliceS rfl hS ?_; refine bk_agg rfl rfl rfl rfl ?_; refine bk_nil ?_; intro p1 H3 hS; refine wpO_cons ?_; (refine op1_appBS rfl rfl (by (conv => lhs; whnf) <;> rfl) rfl (S.g0 hS) rfl rfl (S.up1 hS) (by omega) ?_; intro a1 c1 H6 hS; replace hS := S.dn1 hS; replace hS := S.drop hS); refine zw1 ?_; refine wpO_nil ?_; refine cut1 (by (conv => lhs; whnf) <;> rfl) ?_
    have h9 := sg_snoc (g := s2.sgm 2 s2.nxt []) (l := []) (n := 0) hcss rfl (S.up1 (S.up2 hS))
    exact ⟨_, _, rfl, closeC (S.up3 (S.up3 (S.up3 h9)))⟩
  rw [← hl2] at hd2 hl2l ⊢
  clear hS hS0
  rintro vs3 T3 H5 ⟨al, cl, rfl, hS⟩
  refine wp_seq ?_; refine zsr ?_; refine zw1 ?_; refine wpO_cons ?_; refine op1_len rfl rfl ?_; refine zw1 ?_; refine zns ?_; refine wp_block ?_
  refine wp_loop [98] (fun k vs H' => ∃ i : Nat, vs = [.int .i64 i] ∧ k = l2.length - i ∧ i ≤ l2.length ∧ S B H' (arr 5 sgA (.slice al l2.length cl) l2 :: repC p ((l2.take i).foldl (Cn.mark now) s2) :: As)) ⟨_, 0, rfl, rfl, by omega, S.up1 hS⟩ ?_
  clear hS
  rintro k vs T4 H6 ⟨i, rfl, rfl, hi, hS⟩
  refine zsr ?_; refine wpO_cons ?_; refine op1_lss rfl rfl rfl ?_; refine zns ?_; refine wp_seq ?_
  refine wp_dec rfl (fun h1 => ?_) (fun h1 => ?_)
  rotate_left
  · obtain rfl : i = l2.length := by omega
    rw [List.take_length] at hS
    refine wp_exit ?_; refine seq_exit ?_; refine iter_exit ?_; refine block_exit ?_; refine seq_normal ?_; refine zsr ?_; refine zw1 ?_; refine zw1 ?_; refine zw1 ?_; refine zns ?_; refine wp_ret ?_; refine ret_of ?_; refine zr ?_; refine zr ?_; refine rk_nil ?_
    exact ⟨al, cl, rfl, hS⟩
  obtain ⟨g, hg⟩ : ∃ g, l2[i]? = some g := ⟨l2[i]'(by omega), by simp⟩
  have hgd := hd2 g (List.mem_of_getElem? hg)
  have htk : (l2.take (i + 1)).foldl (Cn.mark now) s2 = Cn.mark now ((l2.take i).foldl (Cn.mark now) s2) g := by rw [List.take_add_one, hg, Option.toList_some, List.foldl_append]; rfl
  obtain ⟨s3, hs3⟩ : ∃ z, z = (l2.take i).foldl (Cn.mark now) s2 := ⟨_, rfl⟩
  rw [← hs3] at hS htk
  obtain ⟨css, hcss, hcl, hS⟩ := S.unarr hS
  obtain ⟨cs, og, hcs, hA, _⟩ := S.many_at (S.up1 hS) hg
  obtain ⟨ag, cg, rfl⟩ := sgA_at hA
  have hcut := flatten_cut hcss hcs
  obtain ⟨lb, lo, lcs, rfl, _⟩ := S.slBlk hS (by omega)
  obtain ⟨ao, co, ai, ci, ho, hi, hO⟩ := openC (S.up2 hS)
  have hS0 := hS
  clear hS
  have hS := hO
  clear hO
  unfold cnC at hS
  unfold sgC at hcut
  refine wp_skip ?_; refine seq_normal ?_; refine wp_seq ?_; refine wp_block ?_; refine zsr ?_; refine wpO_cons ?_; refine op1_iaddr rfl rfl rfl (by omega) (by omega) ?_; refine wpO_cons ?_; refine op1_loadNL rfl rfl (S.up3 hS) rfl rfl (by omega) rfl ?_; refine wpO_cons ?_; refine op1_allocS rfl hS ?_; intro p1 H3 hS; refine wpO_cons ?_
  rw [show (i : Int).toNat = i from rfl, hcut]
  (refine op1_storeNS rfl rfl (by (conv => lhs; whnf) <;> rfl) rfl rfl (S.up0 hS) (Nat.le_of_ble_eq_true rfl) ?_; intro H7 hS; replace hS := S.dn0 hS); refine zns ?_
  obtain ⟨du, hdu⟩ : ∃ z, z = (s3.due && !has g.fl 2) := ⟨_, rfl⟩
  refine wp_cut [] (fun vs H' => vs = [] ∧ S B H' (pto p1 (.cells [.int .i64 g.fl, .int .u32 g.seq, .int .u32 g.num, .int .i64 g.win, .slice ag g.data.length cg] 0 false) :: pto p (.cells (cnC { s3 with due := du } (.slice ao s3.out.length co) (.slice ai s3.inc.length ci)) 0 false) :: sl 1 (.slice ao s3.out.length co) (u8s s3.out) :: sl 1 (.slice ai s3.inc.length ci) (u8s s3.inc) :: sl 5 (.slice (some ⟨lb, lo, none⟩) l2.length cl) css.flatten :: many sgA l2 css :: As)) ?_ ?_
  · obtain ⟨f1, hf1⟩ : ∃ z, z = s3.due := ⟨_, rfl⟩
    rw [← hf1] at hdu
    refine wp_region ?_; refine zw1 ?_; refine zw1 ?_; refine zn ?_; refine zf ?_; refine wpO_cons ?_; refine op1_faddr rfl rfl ?_; refine zh (S.g1 hS) ?_; refine zw1 ?_; refine wpO_cons ?_
    rw [← hf1]
    cases f1
    · refine op1_skip rfl ?_; refine zk ?_; refine zk ?_; refine zu ?_; refine zn ?_; refine zf ?_; refine wpO_cons ?_; refine op1_faddr rfl rfl ?_; refine wpO_cons ?_; (refine op1_store1S rfl rfl (by (conv => lhs; whnf) <;> rfl) rfl rfl (S.up1 hS) rfl ?_; intro H8 hS; replace hS := S.dn1 hS); refine wpO_nil ?_; refine cut0  ?_
      rw [hdu]
      exact ⟨rfl, hS⟩
    · refine op1_load_5 rfl rfl (by exact S.g0 hS) rfl rfl ?_; refine wpO_cons ?_; refine op1_call2 rfl (by (conv => lhs; whnf) <;> rfl) (by (conv => lhs; whnf) <;> rfl) ?_
      refine wpF_mono (L39 (g := g) hS) ?_
      clear hS
      rintro _ H8 ⟨rfl, hS⟩
      refine wpO_cons ?_; refine op1_not rfl rfl ?_; refine zt ?_; refine zn ?_; refine zf ?_; refine wpO_cons ?_; refine op1_faddr rfl rfl ?_; refine wpO_cons ?_; (refine op1_store1S rfl rfl (by (conv => lhs; whnf) <;> rfl) rfl rfl (S.up1 hS) rfl ?_; intro H9 hS; replace hS := S.dn1 hS); refine wpO_nil ?_; refine cut0  ?_
      rw [hdu]
      exact ⟨rfl, hS⟩
  clear hS
  rintro vs5 T5 H8 ⟨rfl, hS⟩
  unfold cnC at hS
  dsimp only at hS
  have hmk : Cn.mark now s3 g = { s3 with due := du, run := s3.run || decide (0 < lenS g), since := if 0 < lenS g ∧ s3.run = false then now else s3.since } := by unfold Cn.mark; rw [← hdu]
  have hb1 := b2n_b (has g.fl 1)
  have hb4 := b2n_b (has g.fl 4)
  have hlsb : 0 ≤ lenS g ∧ lenS g ≤ 300 := by unfold lenS; omega
  refine zsr ?_; refine wpO_cons ?_; refine op1_load_5 rfl rfl (by exact S.g0 hS) rfl rfl ?_; refine wpO_cons ?_; refine op1_call1 rfl (by (conv => lhs; whnf) <;> rfl) ?_
  refine wpF_mono (L71 (g := g) (by omega) hS) ?_
  clear hS
  rintro _ H9 ⟨rfl, hS⟩
  rw [hmk] at htk
  clear hmk hdu
  refine wpO_cons ?_; refine op1_gtr rfl rfl rfl ?_; refine zw1 ?_; refine wpO_cons ?_
  refine op1_dec rfl (fun h2 => ?_) (fun h2 => ?_)
  rotate_left
  · rw [decide_eq_false h2, Bool.or_false, if_neg (fun h => h2 h.1)] at htk
    refine op1_skip rfl ?_; (iterate 5 refine zk ?_); refine zu ?_; refine zns ?_; refine wp_false rfl ?_; refine wp_skip ?_; refine block_normal ?_; refine seq_normal ?_; refine wp_region ?_; refine wpO_cons ?_; refine op1_add rfl rfl rfl (by exact wrap_i64 (by omega) (by omega)) ?_; refine zw1 ?_; refine wpO_nil ?_
    refine ⟨l2.length - (i + 1), by omega, i + 1, rfl, rfl, by omega, ?_⟩
    rw [htk]
    have h9 := closeC (s := { s3 with due := du }) (S.drop hS)
    exact S.arrI (S.dn2 h9) hcss
  rw [decide_eq_true h2, Bool.or_true] at htk
  obtain ⟨ru, hru⟩ : ∃ z, z = s3.run := ⟨_, rfl⟩
  rw [← hru] at htk
  refine op1_mov rfl (by (conv => lhs; whnf) <;> rfl) ?_; refine zn ?_; refine zf ?_; refine zf ?_; refine zh (S.g1 hS) ?_; refine wpO_cons ?_; refine op1_not rfl rfl ?_; refine zt ?_; refine zns ?_
  rw [← hru]
  cases ru
  · rw [if_pos ⟨h2, rfl⟩] at htk
    refine wp_true rfl ?_; refine wp_region ?_; refine zw1 ?_; refine zw1 ?_; refine zw1 ?_; refine zn ?_; refine zf ?_; refine zf ?_; refine wpO_cons ?_; (refine op1_store1S rfl rfl (by (conv => lhs; whnf) <;> rfl) rfl rfl (S.up1 hS) rfl ?_; intro H10 hS; replace hS := S.dn1 hS); refine zn ?_; refine zf ?_; refine zf ?_; refine wpO_cons ?_; (refine op1_store1S rfl rfl (by (conv => lhs; whnf) <;> rfl) rfl rfl (S.up1 hS) rfl ?_; intro H11 hS; replace hS := S.dn1 hS); refine wpO_nil ?_; refine block_normal ?_; refine seq_normal ?_; refine wp_region ?_; refine wpO_cons ?_; refine op1_add rfl rfl rfl (by exact wrap_i64 (by omega) (by omega)) ?_; refine zw1 ?_; refine wpO_nil ?_
    refine ⟨l2.length - (i + 1), by omega, i + 1, rfl, rfl, by omega, ?_⟩
    rw [htk]
    have h9 := closeC (s := { s3 with due := du, run := true, since := now }) (S.drop hS)
    exact S.arrI (S.dn2 h9) hcss
  · rw [if_neg (by simp)] at htk
    refine wp_false rfl ?_; refine wp_skip ?_; refine block_normal ?_; refine seq_normal ?_; refine wp_region ?_; refine wpO_cons ?_; refine op1_add rfl rfl rfl (by exact wrap_i64 (by omega) (by omega)) ?_; refine zw1 ?_; refine wpO_nil ?_
    refine ⟨l2.length - (i + 1), by omega, i + 1, rfl, rfl, by omega, ?_⟩
    rw [htk]
    have e9 : ({ s3 with due := du, run := true, since := s3.since } : Cn) = { s3 with due := du } := by rw [hru]
    rw [e9]
    have h9 := closeC (s := { s3 with due := du }) (S.drop hS)
    exact S.arrI (S.dn2 h9) hcss
end
end Go.E.St
/- A connection: when it has something to do next. -/
namespace Go.E.St
open Go Go.E Go.Proofs.Ytamcfhhcmjagnaa Go.Proofs
set_option linter.unusedVariables false
set_option linter.unusedSimpArgs false
set_option maxRecDepth 100000
def Cn.next (s : Cn) : Int × Bool := if 0 < (s.output s.clock).2.1.length then (s.clock, true) else if s.st ≠ 9 ∧ s.run = true then (max s.clock (s.since + s.tmo), true) else (0, false)
section
variable {B H : AHeap} {As : List Asn} {p : Nat} {s : Cn} {g : Sg}
theorem L46 (hok : Ok s) (hS : S B H (repC p s :: As)) : wpF C 46 [ptC p] H fun v H' => v = .tuple ⟨[.int .i64 s.next.1, .bool s.next.2]⟩ ∧ S B H' (repC p s :: As) := by
  have hcl := hok.clock
  have hsi := hok.since
  have htm := hok.tmo
  have hS0 := hS
  obtain ⟨ao, co, ai, ci, ho, hi, hO⟩ := openC hS
  refine wpF_ofW o46 rfl rfl ?_
  clear hS
  have hS := hO
  clear hO
  unfold cnC at hS
  unfold ptC Cn.next
  obtain ⟨ol, hol⟩ : ∃ z, z = (s.output s.clock).2.1.length := ⟨_, rfl⟩
  rw [← hol]
  refine zsr ?_; refine zw1 ?_; refine zw1 ?_; refine zns ?_; refine wp_seq ?_; refine zsr ?_; refine zw1 ?_; refine wpO_cons ?_; refine op1_bin_false rfl (by (conv => lhs; whnf) <;> rfl) (by (conv => lhs; whnf) <;> rfl) rfl ?_; refine zns ?_; refine wp_false rfl ?_; refine wp_skip ?_; refine seq_normal ?_; refine wp_seq ?_; refine wp_seq ?_; refine wp_regionD ?_; refine zd1 ?_; refine zd1 ?_; refine zm ?_; refine zg ?_; refine zj (S.g0 hS) ?_; refine wpD_cons ?_; refine op1_call1 rfl (by (conv => lhs; whnf) <;> rfl) ?_
  have hT := hS
  refine wpF_mono (L36 hok hS0) ?_
  clear hS hS0
  rintro _ H2 ⟨q, rfl, hS⟩
  unfold ptC
  obtain ⟨ao2, co2, ai2, ci2, ho2, hi2, hU⟩ := openC (S.up1 hS)
  unfold cnC at hU
  refine wpD_cons ?_; refine op1_call2 rfl (by (conv => lhs; whnf) <;> rfl) (by (conv => lhs; whnf) <;> rfl) ?_
  refine wpF_mono (L43 (now := s.clock) hok hS) ?_
  clear hS
  rintro _ H3 ⟨a, c, rfl, hS⟩
  rw [← hol]
  have hS0 := S.drop (S.drop hS)
  obtain ⟨ao, co, ai, ci, ho, hi, hO⟩ := openC hS0
  clear hS
  have hS := hO
  clear hO
  unfold cnC at hS
  refine zd1 ?_; refine wpD_cons ?_; refine op1_extract rfl rfl rfl ?_; refine wpD_cons ?_; refine op1_extract rfl rfl rfl ?_; refine zd1 ?_; refine zd1 ?_; refine wpD_nil ?_; refine dk_of ?_ ?_; (iterate 4 refine chk_skip ?_); refine zx 8 ?_ ?_; refine zy 7 ?_ ?_; exact zq (S.g0 hT); refine zy 6 ?_ ?_; exact zq (S.g0 hU); exact chkFs_nil; (iterate 7 refine chk_skip ?_); exact chk_end; refine seq_normal ?_; refine zsr ?_; refine zw1 ?_; refine wpO_cons ?_; refine op1_len rfl rfl ?_; refine wpO_cons ?_; refine op1_gtr rfl rfl rfl ?_; refine zns ?_
  refine wp_dec rfl (fun h1 => ?_) (fun h1 => ?_)
  · rw [if_pos (by omega)]
    refine zsr ?_; refine zw1 ?_; refine zn ?_; refine zf ?_; refine zh (S.g0 hS) ?_; refine zw1 ?_; refine zw1 ?_; refine zns ?_; refine wp_ret ?_; refine seq_ret ?_; refine ret_of ?_; refine zr ?_; refine zr ?_; refine rk_nil ?_
    exact ⟨rfl, hS0⟩
  rw [if_neg (by omega)]
  refine wp_skip ?_; refine seq_normal ?_
  obtain ⟨ru, hru⟩ : ∃ z, z = s.run := ⟨_, rfl⟩
  rw [← hru]
  refine wp_seq ?_; refine zsr ?_; refine zw1 ?_; refine zn ?_; refine zf ?_; refine zh (S.g0 hS) ?_; refine wpO_cons ?_; refine op1_neqI rfl rfl rfl ?_; refine zw1 ?_; refine wpO_cons ?_
  refine op1_ndec rfl (fun h2 => ?_) (fun h2 => ?_)
  · refine op1_mov rfl (by (conv => lhs; whnf) <;> rfl) ?_; refine zn ?_; refine zf ?_; refine zf ?_; refine zh (S.g0 hS) ?_; refine zt ?_; refine zns ?_
    rw [← hru]
    cases ru
    · rw [if_neg (by simp)]
      refine wp_false rfl ?_; refine wp_skip ?_; refine seq_normal ?_; refine zsr ?_; refine zw1 ?_; refine zw1 ?_; refine zns ?_; refine wp_ret ?_; refine ret_of ?_; refine zr ?_; refine zr ?_; refine rk_nil ?_
      exact ⟨rfl, hS0⟩
    · rw [if_pos ⟨h2, rfl⟩]
      refine wp_true rfl ?_; refine wp_seq ?_; refine wp_regionD ?_; refine zd1 ?_; refine zm ?_; refine zg ?_; refine zj (S.g0 hS) ?_; refine zd1 ?_; refine zm ?_; refine zg ?_; refine zg ?_; refine zj (S.g0 hS) ?_; refine zd1 ?_; refine zm ?_; refine zg ?_; refine zg ?_; refine zj (S.g0 hS) ?_; refine wpD_cons ?_; refine op1_add rfl rfl rfl (by exact wrap_i64 (by omega) (by omega)) ?_; refine wpD_cons ?_; refine op1_max rfl rfl rfl ?_; refine zd1 ?_; refine zd1 ?_; refine wpD_nil ?_; refine dk_of ?_ ?_; (iterate 3 refine chk_skip ?_); refine zx 15 ?_ ?_; refine zy 0 ?_ ?_; exact zq (S.g0 hS); exact chkFs_nil; (iterate 4 refine chk_skip ?_); refine zx 10 ?_ ?_; refine zy 0 ?_ ?_; exact zq (S.g0 hS); exact chkFs_nil; (iterate 4 refine chk_skip ?_); refine zx 5 ?_ ?_; refine zy 0 ?_ ?_; exact zq (S.g0 hS); exact chkFs_nil; (iterate 4 refine chk_skip ?_); exact chk_end; refine seq_normal ?_; refine wp_ret ?_; refine seq_ret ?_; refine ret_of ?_; refine zr ?_; refine zr ?_; refine rk_nil ?_
      exact ⟨rfl, hS0⟩
  · rw [if_neg (fun h => h.1 h2)]
    refine op1_skip rfl ?_; (iterate 4 refine zk ?_); refine zu ?_; refine zns ?_; refine wp_false rfl ?_; refine wp_skip ?_; refine seq_normal ?_; refine zsr ?_; refine zw1 ?_; refine zw1 ?_; refine zns ?_; refine wp_ret ?_; refine ret_of ?_; refine zr ?_; refine zr ?_; refine rk_nil ?_
    exact ⟨rfl, hS0⟩
end
end Go.E.St
/- What always holds of a connection, kept by every call. -/
namespace Go.E.St
open Go Go.E Go.Proofs.Ytamcfhhcmjagnaa Go.Proofs
set_option linter.unusedVariables false
set_option linter.unusedSimpArgs false
set_option maxRecDepth 100000
structure Inv (s : Cn) : Prop where
  ok : Ok s
  una0 : s.st ≤ 1 → s.una = s.first
theorem Ok.st9 {s : Cn} (h : Ok s) : Ok { s with st := 9 } := ⟨h.first, h.una, h.nxt, h.rcv, h.size, h.window, h.out, h.inc, h.pat, h.tmo, h.since, h.clock, h.reps, by simp, by simp⟩
theorem Inv.of3 {s : Cn} (h : Ok s) (h3 : 3 ≤ s.st) : Inv s := ⟨h, fun k => by omega⟩
theorem Inv.new {f n t : Int} (h : NewOk n t) (hf : 0 ≤ f ∧ f ≤ 4294967295) : Inv (cn0 f n t) := by
  obtain ⟨h1, h2⟩ := h
  exact ⟨⟨hf, hf, hf, by simp [cn0], h1, by simp [cn0], by simp [cn0], by simp [cn0], h2, h2, by simp [cn0], by simp [cn0], by simp [cn0], by simp [cn0], fun _ => rfl⟩, fun _ => rfl⟩
theorem Inv.start {s : Cn} {n : Int} (h : Inv s) (hn : n = 1 ∨ n = 2) : Inv (s.start n).2 := by
  unfold Cn.start
  split
  · rename_i h0
    have h := id h
    obtain ⟨h, hu⟩ := h
    exact ⟨⟨h.first, h.una, h.nxt, h.rcv, h.size, h.window, h.out, h.inc, h.pat, h.tmo, h.since, h.clock, h.reps, by show 0 ≤ n ∧ n ≤ 9; omega, fun _ => hu (by omega)⟩, fun _ => hu (by omega)⟩
  · exact h
theorem Inv.write {s : Cn} {d : List Int} (h : Inv s) : Inv (s.write d).2.2 := by
  unfold Cn.write
  split
  · exact h
  split
  · exact h
  · obtain ⟨h, hu⟩ := h
    have := h.out
    refine ⟨⟨h.first, h.una, h.nxt, h.rcv, h.size, h.window, ?_, h.inc, h.pat, h.tmo, h.since, h.clock, h.reps, h.st, h.syn⟩, hu⟩
    show (s.out ++ d.take _).length ≤ 4096
    rw [List.length_append, List.length_take]
    omega
theorem Inv.close {s : Cn} (h : Inv s) : Inv s.close.2 := by
  unfold Cn.close
  split
  · exact h
  · obtain ⟨h, hu⟩ := h
    have hst := h.st
    have hsy := h.syn
    refine ⟨⟨h.first, h.una, h.nxt, h.rcv, h.size, h.window, h.out, h.inc, h.pat, h.tmo, h.since, h.clock, h.reps, ?_, ?_⟩, ?_⟩
    · show 0 ≤ (if s.st = 4 then (5 : Int) else if s.st = 6 then 7 else s.st) ∧ (if s.st = 4 then (5 : Int) else if s.st = 6 then 7 else s.st) ≤ 9
      split
      · decide
      split
      · decide
      · exact hst
    · show (if s.st = 4 then (5 : Int) else if s.st = 6 then 7 else s.st) = 2 → s.una = s.first
      split
      · intro k; omega
      split
      · intro k; omega
      · exact hsy
    · show (if s.st = 4 then (5 : Int) else if s.st = 6 then 7 else s.st) ≤ 1 → s.una = s.first
      split
      · intro k; omega
      split
      · intro k; omega
      · exact hu
theorem Inv.abort {s : Cn} (h : Inv s) : Inv s.abort.2 := by
  unfold Cn.abort
  split
  · exact h
  split
  · exact h
  · have h := h.ok
    exact Inv.of3 ⟨h.first, h.una, h.nxt, h.rcv, h.size, h.window, h.out, h.inc, h.pat, h.tmo, h.since, h.clock, h.reps, by simp, by simp⟩ (by show (3 : Int) ≤ 9; decide)
theorem Inv.read {s : Cn} {n : Int} (h : Inv s) : Inv (s.read n).2.2 := by
  unfold Cn.read
  split
  · exact h
  · obtain ⟨h, hu⟩ := h
    have := h.inc
    refine ⟨⟨h.first, h.una, h.nxt, h.rcv, h.size, h.window, h.out, ?_, h.pat, h.tmo, h.since, h.clock, h.reps, h.st, h.syn⟩, hu⟩
    show (s.inc.drop _).length ≤ 4096
    rw [List.length_drop]
    omega
structure Ok3 (s : Cn) : Prop where
  ok : Ok s
  st : 3 ≤ s.st
theorem Ok3.st9 {s : Cn} (h : Ok s) : Ok3 { s with st := 9 } := ⟨h.st9, by show (3 : Int) ≤ 9; decide⟩
theorem Ok3.greeted {s : Cn} {g : Sg} (h : Ok s) (hg : SgOk g) : Ok3 (s.greeted g) :=
  ⟨⟨h.first, h.una, h.nxt, w32b _, h.size, hg.win, h.out, h.inc, h.pat, h.tmo, h.since, h.clock, h.reps, by show (0 : Int) ≤ 3 ∧ (3 : Int) ≤ 9; decide, fun k => by have : (3 : Int) = 2 := k; omega⟩, by show (3 : Int) ≤ 3; decide⟩
theorem Ok3.due {s : Cn} {b : Bool} (h : Ok3 s) : Ok3 { s with due := b } := by
  obtain ⟨h, h3⟩ := h
  exact ⟨⟨h.first, h.una, h.nxt, h.rcv, h.size, h.window, h.out, h.inc, h.pat, h.tmo, h.since, h.clock, h.reps, h.st, h.syn⟩, h3⟩
theorem estab_st (s : Cn) : s.estab.st = 4 ∨ s.estab.st = 5 := by
  unfold Cn.estab
  show (if s.asked = true then (5 : Int) else 4) = 4 ∨ (if s.asked = true then (5 : Int) else 4) = 5
  split
  · exact .inr rfl
  · exact .inl rfl
theorem Ok3.estab {s : Cn} (h : Ok s) : Ok3 s.estab := by
  have h1 := estab_st s
  exact ⟨⟨h.first, h.una, h.nxt, h.rcv, h.size, h.window, h.out, h.inc, h.pat, h.tmo, h.since, h.clock, h.reps, by omega, by omega⟩, by omega⟩
theorem acked_st (s : Cn) (num now : Int) : (s.acked num now).st = if s.ackF num = true ∧ s.st = 7 then 8 else s.st := rfl
theorem Ok3.acked {s : Cn} {num now : Int} (h : Ok3 s) (hn : 0 ≤ num ∧ num ≤ 4294967295) (hnow : 0 ≤ now ∧ now ≤ 1099511627776) : Ok3 (s.acked num now) := by
  obtain ⟨h, h3⟩ := h
  have h4 := h.st
  have h5 : 3 ≤ (s.acked num now).st ∧ (s.acked num now).st ≤ 9 := by
    rw [acked_st]
    split <;> omega
  have hol := h.out
  refine ⟨⟨h.first, hn, h.nxt, h.rcv, h.size, h.window, ?_, h.inc, h.pat, h.pat, hnow, h.clock, ?_, by omega, by omega⟩, h5.1⟩
  · show (s.out.drop _).length ≤ 4096
    rw [List.length_drop]
    omega
  · show (0 : Int) ≤ 0 ∧ (0 : Int) ≤ 8
    decide
theorem Ok3.win {s : Cn} {w : Int} (h : Ok3 s) (hw : 0 ≤ w ∧ w ≤ 4096) : Ok3 { s with window := w } := by
  obtain ⟨h, h3⟩ := h
  exact ⟨⟨h.first, h.una, h.nxt, h.rcv, h.size, hw, h.out, h.inc, h.pat, h.tmo, h.since, h.clock, h.reps, h.st, h.syn⟩, h3⟩
theorem Ok3.tMid {s : Cn} {g : Sg} (h : Ok3 s) : Ok3 (s.tMid g) := by
  obtain ⟨h, h3⟩ := h
  have hil := h.inc
  refine ⟨⟨h.first, h.una, h.nxt, w32b _, h.size, h.window, h.out, ?_, h.pat, h.tmo, h.since, h.clock, h.reps, h.st, h.syn⟩, h3⟩
  show (s.inc ++ (s.tDat g).take (s.tN g)).length ≤ 4096
  rw [List.length_append, List.length_take]
  unfold Cn.tN
  omega
theorem finSt_b (s : Cn) (h : 3 ≤ s.st ∧ s.st ≤ 9) : 3 ≤ s.finSt ∧ s.finSt ≤ 9 := by
  unfold Cn.finSt
  split
  · omega
  split
  · split <;> omega
  · exact h
theorem Ok3.fin {s : Cn} (h : Ok3 s) : Ok3 s.fin := by
  obtain ⟨h, h3⟩ := h
  have h5 := finSt_b s ⟨h3, h.st.2⟩
  exact ⟨⟨h.first, h.una, h.nxt, w32b _, h.size, h.window, h.out, h.inc, h.pat, h.tmo, h.since, h.clock, h.reps, by show 0 ≤ s.finSt ∧ s.finSt ≤ 9; omega, fun k => by have : s.finSt = 2 := k; omega⟩, h5.1⟩
theorem Ok3.take {s : Cn} {g : Sg} (h : Ok3 s) : Ok3 (s.take g) := by
  unfold Cn.take
  split
  · exact h
  split
  · exact h.tMid
  · exact h.tMid.fin
theorem Ok3.segment {s : Cn} {g : Sg} {now : Int} (h : Ok3 s) (hg : SgOk g) (hnow : 0 ≤ now ∧ now ≤ 1099511627776) : Ok3 (s.segment g now) := by
  unfold Cn.segment
  split
  · split
    · exact Ok3.st9 h.ok
    · exact h
  · have hA : Ok3 (s.segA g now) := by
      unfold Cn.segA
      split
      · refine Ok3.win ?_ hg.win
        have h1 : Ok3 (s.seg1 g) := by
          unfold Cn.seg1
          split
          · exact Ok3.estab h.ok
          · exact h
        unfold Cn.seg2
        split
        · exact h1.acked hg.num hnow
        · exact h1
      · exact h
    unfold Cn.segB
    split
    · exact hA
    split
    · exact hA.due.take
    · exact hA.due
theorem Ok3.inv {s : Cn} (h : Ok3 s) : Inv s := Inv.of3 h.ok h.st
theorem sgOk_of {g : Sg} (h : validE g = 0) (hnb : (0 ≤ g.seq ∧ g.seq ≤ 4294967295) ∧ 0 ≤ g.num ∧ g.num ≤ 4294967295) : SgOk g := by
  unfold validE at h
  split at h
  · omega
  split at h
  · omega
  split at h
  · omega
  exact ⟨by omega, hnb.1, hnb.2, by omega, by omega⟩
theorem inputE_0 {s : Cn} {g : Sg} {now : Int} (h : s.inputE g now = 0) : (0 ≤ now ∧ now ≤ 1099511627776) ∧ validE g = 0 ∧ s.clock ≤ now ∧ s.st ≠ 9 ∧ s.st ≠ 0 := by
  unfold Cn.inputE at h
  split at h
  · omega
  split at h
  · omega
  split at h
  · omega
  split at h
  · omega
  split at h
  · omega
  omega
theorem Inv.input {s : Cn} {g : Sg} {now : Int} (h : Inv s) (hnb : (0 ≤ g.seq ∧ g.seq ≤ 4294967295) ∧ 0 ≤ g.num ∧ g.num ≤ 4294967295) : Inv (s.input g now) := by
  unfold Cn.input
  split
  · exact h
  rename_i he
  obtain ⟨hnow, hv, hck, h9, h0⟩ := inputE_0 (show s.inputE g now = 0 by omega)
  have hg := sgOk_of hv hnb
  obtain ⟨ho, hu⟩ := h
  have hc : Ok { s with clock := now } := ⟨ho.first, ho.una, ho.nxt, ho.rcv, ho.size, ho.window, ho.out, ho.inc, ho.pat, ho.tmo, ho.since, hnow, ho.reps, ho.st, ho.syn⟩
  have hst := ho.st
  obtain ⟨c, hcc⟩ : ∃ c : Cn, c = { s with clock := now } := ⟨_, rfl⟩
  have hcs : c.st = s.st := by rw [hcc]
  have hcu : c.una = s.una := by rw [hcc]
  have hcf : c.first = s.first := by rw [hcc]
  rw [← hcc] at hc ⊢
  unfold Cn.inp
  split
  · split
    · exact (Ok3.greeted hc hg).inv
    · exact ⟨hc, fun k => by rw [hcu, hcf]; exact hu (by omega)⟩
  split
  · unfold Cn.answered
    split
    · exact (Ok3.st9 hc).inv
    split
    · exact ((Ok3.estab ((Ok3.greeted hc hg).due (b := true)).ok).acked hg.num hnow).inv
    split
    · have h1 := Ok3.greeted hc hg
      exact Inv.of3 ⟨hc.first, hc.una, hc.first, w32b _, hc.size, hg.win, hc.out, hc.inc, hc.pat, hc.tmo, hc.since, hc.clock, hc.reps, by show (0 : Int) ≤ 3 ∧ (3 : Int) ≤ 9; decide, fun k => by have : (3 : Int) = 2 := k; omega⟩ (by show (3 : Int) ≤ 3; decide)
    · exact ⟨hc, fun k => by omega⟩
  split
  · exact (Ok3.due ⟨hc, by omega⟩).inv
  · exact (Ok3.segment ⟨hc, by omega⟩ hg hnow).inv
theorem mark_ok {now : Int} (hnow : 0 ≤ now ∧ now ≤ 1099511627776) {s : Cn} {g : Sg} (h : Ok s) : Ok (Cn.mark now s g) := by
  unfold Cn.mark
  refine ⟨h.first, h.una, h.nxt, h.rcv, h.size, h.window, h.out, h.inc, h.pat, h.tmo, ?_, h.clock, h.reps, h.st, h.syn⟩
  show 0 ≤ (if 0 < lenS g ∧ s.run = false then now else s.since) ∧ (if 0 < lenS g ∧ s.run = false then now else s.since) ≤ 1099511627776
  split
  · exact hnow
  · exact h.since
theorem marks_ok {now : Int} (hnow : 0 ≤ now ∧ now ≤ 1099511627776) : ∀ (l : List Sg) {s : Cn}, Ok s → Ok (l.foldl (Cn.mark now) s)
  | [], _, h => h
  | g :: l, _, h => marks_ok hnow l (mark_ok hnow h)
structure Kept (s t : Cn) : Prop where
  first : t.first = s.first
  una : t.una = s.una
  st : t.st = s.st
  out : t.out = s.out
  inc : t.inc = s.inc
  rcv : t.rcv = s.rcv
  synced : t.synced = s.synced
  ended : t.ended = s.ended
  size : t.size = s.size
  window : t.window = s.window
  asked : t.asked = s.asked
  finGone : t.finGone = s.finGone
  clock : t.clock = s.clock
theorem Kept.rfl' {s : Cn} : Kept s s := ⟨rfl, rfl, rfl, rfl, rfl, rfl, rfl, rfl, rfl, rfl, rfl, rfl, rfl⟩
theorem Kept.trans {s t u : Cn} (h : Kept s t) (k : Kept t u) : Kept s u :=
  ⟨k.first.trans h.first, k.una.trans h.una, k.st.trans h.st, k.out.trans h.out, k.inc.trans h.inc, k.rcv.trans h.rcv, k.synced.trans h.synced, k.ended.trans h.ended, k.size.trans h.size, k.window.trans h.window, k.asked.trans h.asked, k.finGone.trans h.finGone, k.clock.trans h.clock⟩
theorem marks_kept {now : Int} : ∀ (l : List Sg) (s : Cn), Kept s (l.foldl (Cn.mark now) s)
  | [], s => Kept.rfl'
  | g :: l, s => Kept.trans (t := Cn.mark now s g) ⟨rfl, rfl, rfl, rfl, rfl, rfl, rfl, rfl, rfl, rfl, rfl, rfl, rfl⟩ (marks_kept l _)
theorem segs_kept (s : Cn) : Kept s s.segs.2 := by
  unfold Cn.segs
  split
  · split
    · exact Kept.rfl'
    · exact ⟨rfl, rfl, rfl, rfl, rfl, rfl, rfl, rfl, rfl, rfl, rfl, rfl, rfl⟩
  split
  · unfold Cn.dat
    split <;> exact ⟨rfl, rfl, rfl, rfl, rfl, rfl, rfl, rfl, rfl, rfl, rfl, rfl, rfl⟩
  · exact Kept.rfl'
theorem sent_kept (s : Cn) (now : Int) : Kept s (s.sent now).2 := (segs_kept s).trans (marks_kept _ _)
theorem Inv.late {s : Cn} {now : Int} (h : Inv s) (hnow : 0 ≤ now ∧ now ≤ 1099511627776) : Inv (s.late now) := by
  refine ⟨h.ok.late hnow, ?_⟩
  unfold Cn.late
  split
  · exact h.una0
  split
  · intro k
    have : (9 : Int) ≤ 1 := k
    omega
  · exact h.una0
theorem Inv.output {s : Cn} {now : Int} (h : Inv s) : Inv (s.output now).2.2 := by
  unfold Cn.output
  split
  · exact h
  rename_i hnow
  replace hnow : 0 ≤ now ∧ now ≤ 1099511627776 := Classical.byContradiction hnow
  split
  · exact h
  split
  · obtain ⟨h, hu⟩ := h
    exact ⟨⟨h.first, h.una, h.nxt, h.rcv, h.size, h.window, h.out, h.inc, h.pat, h.tmo, h.since, hnow, h.reps, h.st, h.syn⟩, hu⟩
  split
  · exact h
  split
  · exact h
  split
  · exact h.late hnow
  · have h1 := h.late hnow
    obtain ⟨h, hu⟩ := h1
    have hc : Ok { s.late now with clock := now } := ⟨h.first, h.una, h.nxt, h.rcv, h.size, h.window, h.out, h.inc, h.pat, h.tmo, h.since, hnow, h.reps, h.st, h.syn⟩
    have hk := sent_kept { s.late now with clock := now } now
    refine ⟨marks_ok hnow _ hc.segs, fun k => ?_⟩
    show (({ s.late now with clock := now } : Cn).sent now).2.una = (({ s.late now with clock := now } : Cn).sent now).2.first
    rw [hk.una, hk.first]
    exact hu (by rw [← hk.st]; exact k)
end Go.E.St
