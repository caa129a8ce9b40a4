/- The reference's connection: moving on, writing, reading, copying. -/
import Derived.Test.YtamcfhhcmjagnaaStR1
namespace Go.E.St
open Go Go.E Go.Proofs.Ytamcfhhcmjagnaa Go.Proofs
set_option linter.unusedVariables false
set_option linter.unusedSimpArgs false
set_option maxRecDepth 100000
section
variable {B H : AHeap} {As : List Asn} {p : Nat} {s : Cn} {g : Sg}
theorem L83 {num now : Int} (hol : s.out.length ≤ 4096) (hil : s.inc.length ≤ 4096) (hn : 0 ≤ num ∧ num ≤ 4294967295) (hk : 0 ≤ s.ackN num) (hS : S B H (repD p s :: As)) : wpF C 83 [ptC p, .int .u32 num, .int .i64 now] H fun v H' => S B H' (repD p (s.acked num now) :: As) := by
  refine wpF_ofW o83 rfl rfl ?_
  obtain ⟨ao, co, ai, ci, ho, hi, hO⟩ := openD hS
  clear hS
  have hS := hO
  clear hO
  unfold rfC at hS
  unfold ptC
  refine zsr ?_; refine zw1 ?_; refine zw1 ?_; refine wpO_cons ?_; refine op1_nilchk rfl rfl ?_; refine wpO_cons ?_; refine op1_faddr0 rfl rfl ?_; refine wpO_cons ?_; refine op1_load rfl rfl (by exact S.g0 hS) rfl ?_; refine wpO_cons ?_
  refine op1_subW rfl rfl rfl ?_
  refine wpO_cons ?_
  obtain ⟨n0, hn0⟩ : ∃ z, z = IntKind.u32.wrap (num - s.una) := ⟨_, rfl⟩
  have hn0b : 0 ≤ n0 ∧ n0 ≤ 4294967295 := by rw [hn0, wrap_u32]; omega
  have hak : s.ackN num = if s.una = s.first then n0 - 1 else n0 := by unfold Cn.ackN; rw [← hn0]
  rw [← hn0]
  obtain ⟨n1, hn1⟩ : ∃ z, z = s.ackN num := ⟨_, rfl⟩
  rw [← hn1] at hak hk
  refine op1_convInt rfl rfl (by rw [wrap_i64 (by omega) (by omega)]) ?_
  refine zw1 ?_; refine zns ?_
  refine wp_cut [6] (fun vs H' => vs = [.int .i64 n1] ∧ H = H') ?_ ?_
  · refine wp_seq ?_; refine wp_regionD ?_; refine zd1 ?_; refine wpD_cons ?_; refine op1_nilchk rfl rfl ?_; refine wpD_cons ?_; refine op1_faddr0 rfl rfl ?_; refine wpD_cons ?_; refine op1_load rfl rfl (by exact S.g0 hS) rfl ?_; refine zd1 ?_; refine wpD_cons ?_; refine op1_nilchk rfl rfl ?_; refine wpD_cons ?_; refine op1_faddr0 rfl rfl ?_; refine wpD_cons ?_; refine op1_load rfl rfl (by exact S.g0 hS) rfl ?_; refine wpD_cons ?_; refine op1_eqlI rfl rfl rfl ?_; refine wpD_nil ?_; refine dk_of ?_ ?_; (iterate 3 refine chk_skip ?_); refine chk_cons 6 rfl rfl rfl ?_ ?_; refine chkFs_cons 0 rfl rfl ?_ ?_; exact chk_load rfl (by exact S.g0 hS) rfl rfl; exact chkFs_nil; (iterate 3 refine chk_skip ?_); refine chk_cons 2 rfl rfl rfl ?_ ?_; refine chkFs_cons 0 rfl rfl ?_ ?_; exact chk_load rfl (by exact S.g0 hS) rfl rfl; exact chkFs_nil; refine chk_skip ?_; exact chk_end; refine seq_normal ?_
    refine wp_dec rfl (fun h1 => ?_) (fun h1 => ?_)
    · rw [if_pos h1] at hak
      refine wp_region ?_; refine zw1 ?_; refine wpO_cons ?_; refine op1_sub rfl rfl rfl (by exact wrap_i64 (by omega) (by omega)) ?_; refine zw1 ?_; refine wpO_nil ?_; refine cut1 (by (conv => lhs; whnf) <;> rfl) ?_
      exact ⟨by rw [hak], rfl⟩
    · rw [if_neg h1] at hak
      refine wp_skip ?_; refine cut1 (by (conv => lhs; whnf) <;> rfl) ?_
      exact ⟨by rw [hak], rfl⟩
  rintro vs2 T2 H2 ⟨rfl, rfl⟩
  obtain ⟨m, hm⟩ : ∃ z : Nat, z = (min n1 s.out.length).toNat := ⟨_, rfl⟩
  have hmi : (m : Int) = min n1 s.out.length := by omega
  have hmo : m ≤ s.out.length := by omega
  obtain ⟨fg, hfg⟩ : ∃ z, z = s.ackF num := ⟨_, rfl⟩
  have hfg2 : fg = (s.finGone || decide ((s.out.length : Int) < n1)) := by rw [hfg]; unfold Cn.ackF; rw [← hn1]
  have he : s.acked num now = { s with out := s.out.drop m, una := num, reps := 0, tmo := s.pat, run := (!decide (num = s.nxt)), since := now, finGone := fg, st := if fg = true ∧ s.st = 7 then 8 else s.st } := by
    unfold Cn.acked; rw [← hfg, ← hn1, ← hm]
  skip
  refine wp_cut [6] (fun vs H' => vs = [.int .i64 m] ∧ S B H' (pto p (.cells (rfC { s with finGone := fg } (.slice ao s.out.length co) (.slice ai s.inc.length ci)) 0 false) :: sl 1 (.slice ao s.out.length co) (u8s s.out) :: sl 1 (.slice ai s.inc.length ci) (u8s s.inc) :: As)) ?_ ?_
  · refine zsr ?_; refine zw1 ?_; refine zw1 ?_; refine wpO_cons ?_; refine op1_nilchk rfl rfl ?_; refine wpO_cons ?_; refine op1_faddr0 rfl rfl ?_; refine wpO_cons ?_; refine op1_load rfl rfl (by exact S.g0 hS) rfl ?_; refine wpO_cons ?_; refine op1_len rfl rfl ?_; refine wpO_cons ?_; refine op1_gtr rfl rfl rfl ?_; refine zns ?_
    refine wp_dec rfl (fun h1 => ?_) (fun h1 => ?_)
    · have e1 : fg = true := by rw [hfg2, decide_eq_true h1, Bool.or_true]
      rw [e1]
      refine zsr ?_; refine zw1 ?_; refine wpO_cons ?_; refine op1_nilchk rfl rfl ?_; refine wpO_cons ?_; refine op1_faddr0 rfl rfl ?_; refine wpO_cons ?_; (refine op1_store1S rfl rfl (by (conv => lhs; whnf) <;> rfl) rfl rfl (S.up0 hS) rfl ?_; intro H1 hS; replace hS := S.dn0 hS); refine zns ?_; refine wp_region ?_; refine zw1 ?_; refine wpO_cons ?_; refine op1_nilchk rfl rfl ?_; refine wpO_cons ?_; refine op1_faddr0 rfl rfl ?_; refine wpO_cons ?_; refine op1_load rfl rfl (by exact S.g0 hS) rfl ?_; refine wpO_cons ?_; refine op1_len rfl rfl ?_; refine zw1 ?_; refine wpO_nil ?_; refine cut1 (by (conv => lhs; whnf) <;> rfl) ?_
      exact ⟨by rw [show (m : Int) = s.out.length by omega], hS⟩
    · have e1 : fg = s.finGone := by rw [hfg2, decide_eq_false h1, Bool.or_false]
      rw [e1]
      refine wp_skip ?_; refine cut1 (by (conv => lhs; whnf) <;> rfl) ?_
      exact ⟨by rw [show (m : Int) = n1 by omega], hS⟩
  clear hS
  rintro vs3 T3 H3 ⟨rfl, hS⟩
  unfold rfC at hS
  dsimp only at hS
  refine zsr ?_; refine zw1 ?_; refine wpO_cons ?_; refine op1_bsliceS rfl hS ?_; refine bk_nil ?_; intro p1 H1 hS; refine zw1 ?_; refine wpO_cons ?_; refine op1_nilchk rfl rfl ?_; refine wpO_cons ?_; refine op1_faddr0 rfl rfl ?_; refine wpO_cons ?_; refine op1_load rfl rfl (by exact S.g1 hS) rfl ?_; refine zw1 ?_; refine wpO_cons ?_
  replace hS := S.slNew (l := 0) (es := 1) hS rfl
  refine op1_sliceD rfl rfl (RD.cons (RD.cons RD.head)) hS (bnds_lo (by omega) (by omega) ho) (by simp only [Int.toNat_natCast]; omega) (Nat.le_refl _) ?_
  simp only [Int.toNat_natCast, Nat.mul_one]
  intro a5 c5 hd5 hck5
  rw [u8s_drop, u8s_take, List.take_of_length_le (by rw [List.length_drop]; omega)] at hd5
  obtain ⟨r5, hr5, _⟩ := hd5 _ hS
  refine wpO_cons ?_
  refine op1_appRS rfl rfl (by (conv => lhs; whnf) <;> rfl) rfl hr5 (by simp) (u8s_one _) hS (by omega) ?_
  rw [List.nil_append, Nat.zero_add]
  intro a6 c6 H6 hS
  clear hck5 hd5 hr5
  have hdl : (s.out.drop m).length = s.out.length - m := by rw [List.length_drop]
  rw [he]
  clear he hfg hfg2
  refine wpO_cons ?_; refine op1_nilchk rfl rfl ?_; refine wpO_cons ?_; refine op1_faddr0 rfl rfl ?_; refine wpO_cons ?_; (refine op1_store1S rfl rfl (by (conv => lhs; whnf) <;> rfl) rfl rfl (S.up1 hS) rfl ?_; intro H2 hS; replace hS := S.dn1 hS); refine zns ?_; refine zsr ?_; refine zw1 ?_; refine zw1 ?_; refine wpO_cons ?_; refine op1_nilchk rfl rfl ?_; refine wpO_cons ?_; refine op1_faddr0 rfl rfl ?_; refine wpO_cons ?_; (refine op1_store1S rfl rfl (by (conv => lhs; whnf) <;> rfl) rfl rfl (S.up1 hS) rfl ?_; intro H4 hS; replace hS := S.dn1 hS); refine zns ?_; refine zsr ?_; refine zw1 ?_; refine zw1 ?_; refine zw1 ?_; refine wpO_cons ?_; refine op1_nilchk rfl rfl ?_; refine wpO_cons ?_; refine op1_faddr0 rfl rfl ?_; refine wpO_cons ?_; refine op1_load rfl rfl (by exact S.g1 hS) rfl ?_; refine wpO_cons ?_; refine op1_nilchk rfl rfl ?_; refine wpO_cons ?_; refine op1_faddr0 rfl rfl ?_; refine wpO_cons ?_; (refine op1_store1S rfl rfl (by (conv => lhs; whnf) <;> rfl) rfl rfl (S.up1 hS) rfl ?_; intro H5 hS; replace hS := S.dn1 hS); refine wpO_cons ?_; refine op1_nilchk rfl rfl ?_; refine wpO_cons ?_; refine op1_faddr0 rfl rfl ?_; refine wpO_cons ?_; (refine op1_store1S rfl rfl (by (conv => lhs; whnf) <;> rfl) rfl rfl (S.up1 hS) rfl ?_; intro H7 hS; replace hS := S.dn1 hS); refine zns ?_; refine wp_seq ?_; refine wp_regionD ?_; refine zd1 ?_; refine zd1 ?_; refine zd1 ?_; refine wpD_cons ?_; refine op1_nilchk rfl rfl ?_; refine wpD_cons ?_; refine op1_faddr0 rfl rfl ?_; refine wpD_cons ?_; refine op1_load rfl rfl (by exact S.g1 hS) rfl ?_; refine zd1 ?_; refine wpD_cons ?_; refine op1_nilchk rfl rfl ?_; refine wpD_cons ?_; refine op1_faddr0 rfl rfl ?_; refine wpD_cons ?_; refine op1_load rfl rfl (by exact S.g1 hS) rfl ?_; refine wpD_cons ?_; refine op1_neqI rfl rfl rfl ?_; refine zd1 ?_; refine wpD_cons ?_; refine op1_nilchk rfl rfl ?_; refine wpD_cons ?_; refine op1_faddr0 rfl rfl ?_; refine wpD_cons ?_; (refine op1_store1S rfl rfl (by (conv => lhs; whnf) <;> rfl) rfl rfl (S.up1 hS) rfl ?_; intro H8 hS; replace hS := S.dn1 hS); refine wpD_cons ?_; refine op1_nilchk rfl rfl ?_; refine wpD_cons ?_; refine op1_faddr0 rfl rfl ?_; refine wpD_cons ?_; (refine op1_store1S rfl rfl (by (conv => lhs; whnf) <;> rfl) rfl rfl (S.up1 hS) rfl ?_; intro H9 hS; replace hS := S.dn1 hS); refine wpD_nil ?_; refine dk_of ?_ ?_; (iterate 5 refine chk_skip ?_); refine chk_cons 13 rfl rfl rfl ?_ ?_; refine chkFs_cons 4 rfl rfl ?_ ?_; exact chk_load rfl (by exact S.g1 (by assumption)) rfl rfl; exact chkFs_nil; (iterate 3 refine chk_skip ?_); refine chk_cons 9 rfl rfl rfl ?_ ?_; refine chkFs_cons 4 rfl rfl ?_ ?_; exact chk_load rfl (by exact S.g1 (by assumption)) rfl rfl; exact chkFs_nil; (iterate 8 refine chk_skip ?_); exact chk_end; refine seq_normal ?_; refine zsr ?_; refine zw1 ?_; refine wpO_cons ?_; refine op1_nilchk rfl rfl ?_; refine wpO_cons ?_; refine op1_faddr0 rfl rfl ?_; refine wpO_cons ?_; refine op1_load rfl rfl (by exact S.g1 hS) rfl ?_; refine zw1 ?_; refine wpO_cons ?_
  cases fg
  · refine op1_skip rfl ?_; refine wpO_cons ?_; refine op1_skip rfl ?_; refine wpO_cons ?_; refine op1_skip rfl ?_; refine wpO_cons ?_; refine op1_skip rfl ?_; refine wpO_cons ?_; refine op1_skip rfl ?_; refine wpO_cons ?_; refine op1_pick_f rfl rfl (by (conv => lhs; whnf) <;> rfl) ?_; refine zns ?_; refine wp_false rfl ?_; refine wp_skip ?_; refine nrm_of ?_; refine rk_nil ?_
    exact closeD (s := { s with out := s.out.drop m, una := num, reps := 0, tmo := s.pat, run := (!decide (num = s.nxt)), since := now, finGone := false }) (S.drop (S.up2 (S.up1 hS)))
  · refine op1_mov rfl (by (conv => lhs; whnf) <;> rfl) ?_; refine wpO_cons ?_; refine op1_nilchk rfl rfl ?_; refine wpO_cons ?_; refine op1_faddr0 rfl rfl ?_; refine wpO_cons ?_; refine op1_load rfl rfl (by exact S.g1 hS) rfl ?_; refine wpO_cons ?_; refine op1_eqlI rfl rfl rfl ?_; refine wpO_cons ?_; refine op1_pick_t rfl rfl (by (conv => lhs; whnf) <;> rfl) ?_; refine zns ?_
    refine wp_dec rfl (fun h1 => ?_) (fun h1 => ?_)
    · refine wp_region ?_; refine zw1 ?_; refine wpO_cons ?_; refine op1_nilchk rfl rfl ?_; refine wpO_cons ?_; refine op1_faddr0 rfl rfl ?_; refine wpO_cons ?_; (refine op1_store1S rfl rfl (by (conv => lhs; whnf) <;> rfl) rfl rfl (S.up1 hS) rfl ?_; intro H10 hS; replace hS := S.dn1 hS); refine wpO_nil ?_; refine nrm_of ?_; refine rk_nil ?_
      rw [if_pos ⟨rfl, h1⟩]
      exact closeD (s := { s with out := s.out.drop m, una := num, reps := 0, tmo := s.pat, run := (!decide (num = s.nxt)), since := now, finGone := true, st := 8 }) (S.drop (S.up2 (S.up1 hS)))
    · refine wp_skip ?_; refine nrm_of ?_; refine rk_nil ?_
      rw [if_neg (fun h => h1 h.2)]
      exact closeD (s := { s with out := s.out.drop m, una := num, reps := 0, tmo := s.pat, run := (!decide (num = s.nxt)), since := now, finGone := true }) (S.drop (S.up2 (S.up1 hS)))
theorem L50 {vd : Value} {d : List Int} (hok : Ok s) (hd : RD B As 1 vd (u8s d)) (hl : d.length ≤ 9223372036854775807) (hS : S B H (repD p s :: As)) :
    wpF C 50 [ptC p, vd] H fun v H' => v = .tuple ⟨[.int .i64 (s.write d).1, .int .i64 (s.write d).2.1]⟩ ∧ S B H' (repD p (s.write d).2.2 :: As) := by
  obtain ⟨a, c, rfl⟩ := hd.u1 hS.drop
  have hol := hok.out
  refine wpF_ofW o50 rfl rfl ?_
  have hS0 := hS
  obtain ⟨ao, co, ai, ci, ho, hi, hO⟩ := openD hS
  clear hS
  have hS := hO
  clear hO
  unfold rfC at hS
  have hS0' := hS
  unfold ptC
  refine zsr ?_; refine zw1 ?_; refine zw1 ?_; refine zns ?_; refine wp_seq ?_; refine zsr ?_; refine zw1 ?_; refine wpO_cons ?_; refine op1_nilchk rfl rfl ?_; refine wpO_cons ?_; refine op1_faddr0 rfl rfl ?_; refine wpO_cons ?_; refine op1_load rfl rfl (by exact S.g0 hS0') rfl ?_; refine wpO_cons ?_; refine op1_eqlI rfl rfl rfl ?_; refine zns ?_
  refine wp_dec rfl (fun h => ?_) (fun h => ?_)
  · have e : s.write d = (0, 4, s) := by unfold Cn.write; rw [show s.wrt = 4 by unfold Cn.wrt; rw [if_pos h]]; rfl
    rw [e]
    refine zsr ?_; refine zw1 ?_; refine zw1 ?_; refine zns ?_; refine wp_ret ?_; refine seq_ret ?_; refine ret_of ?_; refine rk_tmp (by (conv => lhs; whnf) <;> rfl) ?_; refine rk_tmp (by (conv => lhs; whnf) <;> rfl) ?_; refine rk_nil ?_
    exact ⟨rfl, hS0⟩
  refine wp_skip ?_; refine seq_normal ?_; refine wp_seq ?_; refine zsr ?_; refine zw1 ?_; refine wpO_cons ?_; refine op1_call1 rfl (by (conv => lhs; whnf) <;> rfl) ?_
  refine wpF_mono (L77 hS0) ?_
  rintro _ H2 ⟨rfl, rfl⟩
  have hw := wrt_of s h
  obtain ⟨o, ho'⟩ : ∃ z, z = (!s.asked && decide (s.st = 4 ∨ s.st = 6 ∨ s.st = 2 ∨ s.st = 3)) := ⟨_, rfl⟩
  rw [← ho'] at hw
  rw [← ho']
  clear ho'
  cases o
  · have e : s.write d = (0, 35, s) := by unfold Cn.write; rw [hw]; rfl
    rw [e]
    refine wpO_cons ?_; refine op1_not_f rfl rfl ?_; refine zns ?_; refine wp_true rfl ?_; refine zsr ?_; refine zw1 ?_; refine zw1 ?_; refine zns ?_; refine wp_ret ?_; refine seq_ret ?_; refine ret_of ?_; refine rk_tmp (by (conv => lhs; whnf) <;> rfl) ?_; refine rk_tmp (by (conv => lhs; whnf) <;> rfl) ?_; refine rk_nil ?_
    exact ⟨rfl, hS0⟩
  unfold Cn.write
  rw [hw, if_neg (by simp)]
  refine wpO_cons ?_; refine op1_not_t rfl rfl ?_; refine zns ?_; refine wp_false rfl ?_; refine wp_skip ?_; refine seq_normal ?_; refine zsr ?_; refine zw1 ?_; refine wpO_cons ?_; refine op1_len rfl rfl ?_; refine zw1 ?_; refine wpO_cons ?_; refine op1_nilchk rfl rfl ?_; refine wpO_cons ?_; refine op1_faddr0 rfl rfl ?_; refine wpO_cons ?_; refine op1_load rfl rfl (by exact S.g0 hS0') rfl ?_; refine wpO_cons ?_; refine op1_len rfl rfl ?_; refine wpO_cons ?_; refine op1_sub rfl rfl rfl (by exact wrap_i64 (by omega) (by omega)) ?_; refine wpO_cons ?_; refine op1_min rfl rfl rfl ?_; refine zw1 ?_; refine zns ?_; refine wp_seq ?_; refine zsr ?_; refine zw1 ?_; refine wpO_cons ?_; refine op1_eqlI rfl rfl rfl ?_; refine zw1 ?_; refine wpO_cons ?_
  obtain ⟨m, hm⟩ : ∃ m : Nat, m = min d.length (4096 - s.out.length) := ⟨_, rfl⟩
  rw [show (min (d.length : Int) (4096 - (s.out.length : Int))) = (m : Int) by omega, ← hm]
  skip
  refine op1_dec rfl (fun h1 => ?_) (fun h1 => ?_)
  · refine op1_mov rfl (by (conv => lhs; whnf) <;> rfl) ?_; refine wpO_cons ?_; refine op1_len rfl rfl ?_; refine wpO_cons ?_; refine op1_gtr rfl rfl rfl ?_; refine wpO_cons ?_; refine op1_pick_t rfl rfl (by (conv => lhs; whnf) <;> rfl) ?_; refine zns ?_
    refine wp_dec rfl (fun h2 => ?_) (fun h2 => ?_)
    · rw [if_pos (by omega)]
      refine zsr ?_; refine zw1 ?_; refine zw1 ?_; refine zns ?_; refine wp_ret ?_; refine seq_ret ?_; refine ret_of ?_; refine rk_tmp (by (conv => lhs; whnf) <;> rfl) ?_; refine rk_tmp (by (conv => lhs; whnf) <;> rfl) ?_; refine rk_nil ?_
      exact ⟨rfl, hS0⟩
    · rw [if_neg (by omega)]
      refine wp_skip ?_; refine seq_normal ?_; refine wp_seq ?_; refine wp_regionD ?_; refine zd1 ?_; refine wpD_cons ?_; refine op1_bsliceS rfl hS ?_; refine bk_nil ?_; intro p1 H1 hS; refine zd1 ?_; refine wpD_cons ?_; refine op1_nilchk rfl rfl ?_; refine wpD_cons ?_; refine op1_faddr0 rfl rfl ?_; refine wpD_cons ?_; refine op1_load rfl rfl (by exact S.g1 hS) rfl ?_; refine zd1 ?_; refine zd1 ?_; refine wpD_cons ?_
      have hmd : m ≤ d.length := by omega
      have hcap : d.length ≤ c := by obtain ⟨_, hz, _⟩ := hd _ (S.drop (S.drop (S.drop hS0'))); exact hz.le_cap
      replace hS := S.slNew (l := 0) (es := 1) hS rfl
      have hT := hS
      refine op1_sliceD rfl rfl hd (S.drop (S.drop (S.drop (S.drop hS)))) (bnds_hi (by omega) (by omega)) (by omega) (by simp only [Int.toNat_natCast]; omega) ?_
      simp only [Int.toNat_natCast, Nat.zero_mul, List.drop_zero, Nat.sub_zero, Nat.mul_one]
      intro a1 c1 hd1 hck
      rw [u8s_take] at hd1
      have hml : (d.take m).length = m := by rw [List.length_take]; omega
      obtain ⟨r0, hr0, _⟩ := (RD.cons (RD.cons RD.head) : RD B _ 1 (.slice ao s.out.length co) (u8s s.out)) _ hS
      refine wpD_cons ?_
      refine op1_appRS rfl rfl (by (conv => lhs; whnf) <;> rfl) rfl hr0 (by simp) (u8s_one _) hS (by omega) ?_
      rw [List.nil_append, Nat.zero_add]
      intro a3 c3 H3 hS
      have hT2 := hS
      obtain ⟨r1, hr1, _⟩ := hd1 _ (S.drop (S.drop (S.drop (S.drop hS))))
      refine wpD_cons ?_
      refine op1_appRS rfl rfl (by (conv => lhs; whnf) <;> rfl) rfl hr1 (by simp [hml]) (u8s_one _) hS (by omega) ?_
      intro a2 c2 H4 hS
      rw [← u8s_append] at hS
      refine wpD_cons ?_; refine op1_nilchk rfl rfl ?_; refine wpD_cons ?_; refine op1_faddr0 rfl rfl ?_; refine wpD_cons ?_; (refine op1_store1S rfl rfl (by (conv => lhs; whnf) <;> rfl) rfl rfl (S.up1 hS) rfl ?_; intro H2 hS; replace hS := S.dn1 hS); refine wpD_nil ?_; refine dk_of ?_ ?_; (iterate 5 refine chk_skip ?_); refine chk_cons 9 rfl rfl rfl ?_ ?_; refine chkFs_cons 5 rfl rfl ?_ ?_; exact chk_load rfl (by exact S.g1 hT) rfl rfl; exact chkFs_nil; (iterate 2 refine chk_skip ?_); refine chk_cons 6 rfl rfl rfl ?_ ?_; refine chkFs_cons 5 rfl rfl ?_ ?_
      · exact hck _ _ (S.drop (S.drop (S.drop (S.drop hT)))) rfl
      refine chkFs_cons 4 rfl rfl ?_ ?_
      · exact hck _ _ (S.drop (S.drop (S.drop (S.drop hT2)))) rfl
      exact chkFs_nil; (iterate 5 refine chk_skip ?_); exact chk_end; refine seq_normal ?_; refine zsr ?_; refine zw1 ?_; refine zw1 ?_; refine zw1 ?_; refine zns ?_; refine wp_ret ?_; refine ret_of ?_; refine rk_tmp (by (conv => lhs; whnf) <;> rfl) ?_; refine rk_tmp (by (conv => lhs; whnf) <;> rfl) ?_; refine rk_nil ?_
      exact ⟨rfl, closeD (s := { s with out := s.out ++ d.take m }) (S.drop (S.up2 (S.up1 hS)))⟩
  · rw [if_neg (by omega)]
    refine op1_skip rfl ?_; refine wpO_cons ?_; refine op1_skip rfl ?_; refine wpO_cons ?_; refine op1_skip rfl ?_; refine wpO_cons ?_; refine op1_pick_f rfl rfl (by (conv => lhs; whnf) <;> rfl) ?_; refine zns ?_; refine wp_false rfl ?_; refine wp_skip ?_; refine seq_normal ?_; refine wp_seq ?_; refine wp_regionD ?_; refine zd1 ?_; refine wpD_cons ?_; refine op1_bsliceS rfl hS ?_; refine bk_nil ?_; intro p1 H1 hS; refine zd1 ?_; refine wpD_cons ?_; refine op1_nilchk rfl rfl ?_; refine wpD_cons ?_; refine op1_faddr0 rfl rfl ?_; refine wpD_cons ?_; refine op1_load rfl rfl (by exact S.g1 hS) rfl ?_; refine zd1 ?_; refine zd1 ?_; refine wpD_cons ?_
    have hmd : m ≤ d.length := by omega
    have hcap : d.length ≤ c := by obtain ⟨_, hz, _⟩ := hd _ (S.drop (S.drop (S.drop hS0'))); exact hz.le_cap
    replace hS := S.slNew (l := 0) (es := 1) hS rfl
    have hT := hS
    refine op1_sliceD rfl rfl hd (S.drop (S.drop (S.drop (S.drop hS)))) (bnds_hi (by omega) (by omega)) (by omega) (by simp only [Int.toNat_natCast]; omega) ?_
    simp only [Int.toNat_natCast, Nat.zero_mul, List.drop_zero, Nat.sub_zero, Nat.mul_one]
    intro a1 c1 hd1 hck
    rw [u8s_take] at hd1
    have hml : (d.take m).length = m := by rw [List.length_take]; omega
    obtain ⟨r0, hr0, _⟩ := (RD.cons (RD.cons RD.head) : RD B _ 1 (.slice ao s.out.length co) (u8s s.out)) _ hS
    refine wpD_cons ?_
    refine op1_appRS rfl rfl (by (conv => lhs; whnf) <;> rfl) rfl hr0 (by simp) (u8s_one _) hS (by omega) ?_
    rw [List.nil_append, Nat.zero_add]
    intro a3 c3 H3 hS
    have hT2 := hS
    obtain ⟨r1, hr1, _⟩ := hd1 _ (S.drop (S.drop (S.drop (S.drop hS))))
    refine wpD_cons ?_
    refine op1_appRS rfl rfl (by (conv => lhs; whnf) <;> rfl) rfl hr1 (by simp [hml]) (u8s_one _) hS (by omega) ?_
    intro a2 c2 H4 hS
    rw [← u8s_append] at hS
    refine wpD_cons ?_; refine op1_nilchk rfl rfl ?_; refine wpD_cons ?_; refine op1_faddr0 rfl rfl ?_; refine wpD_cons ?_; (refine op1_store1S rfl rfl (by (conv => lhs; whnf) <;> rfl) rfl rfl (S.up1 hS) rfl ?_; intro H2 hS; replace hS := S.dn1 hS); refine wpD_nil ?_; refine dk_of ?_ ?_; (iterate 5 refine chk_skip ?_); refine chk_cons 9 rfl rfl rfl ?_ ?_; refine chkFs_cons 5 rfl rfl ?_ ?_; exact chk_load rfl (by exact S.g1 hT) rfl rfl; exact chkFs_nil; (iterate 2 refine chk_skip ?_); refine chk_cons 6 rfl rfl rfl ?_ ?_; refine chkFs_cons 5 rfl rfl ?_ ?_
    · exact hck _ _ (S.drop (S.drop (S.drop (S.drop hT)))) rfl
    refine chkFs_cons 4 rfl rfl ?_ ?_
    · exact hck _ _ (S.drop (S.drop (S.drop (S.drop hT2)))) rfl
    exact chkFs_nil; (iterate 5 refine chk_skip ?_); exact chk_end; refine seq_normal ?_; refine zsr ?_; refine zw1 ?_; refine zw1 ?_; refine zw1 ?_; refine zns ?_; refine wp_ret ?_; refine ret_of ?_; refine rk_tmp (by (conv => lhs; whnf) <;> rfl) ?_; refine rk_tmp (by (conv => lhs; whnf) <;> rfl) ?_; refine rk_nil ?_
    exact ⟨rfl, closeD (s := { s with out := s.out ++ d.take m }) (S.drop (S.up2 (S.up1 hS)))⟩
theorem L86 (hok : Ok s) (hS : S B H (repD p s :: As)) : wpF C 86 [ptC p] H fun v H' => ∃ q, v = ptC q ∧ S B H' (repD q s :: repD p s :: As) := by
  have hol := hok.out
  have hil := hok.inc
  refine wpF_ofW o86 rfl rfl ?_
  obtain ⟨ao, co, ai, ci, ho, hi, hO⟩ := openD hS
  clear hS
  have hS := hO
  clear hO
  unfold rfC at hS
  unfold ptC
  refine zsr ?_; refine zw1 ?_; refine zns ?_; refine zsr ?_; refine zw1 ?_; refine wpO_cons ?_; refine op1_nilchk rfl rfl ?_; refine wpO_cons ?_
  refine op1_loadN rfl rfl hS.get (by simp) rfl ?_
  refine wpO_cons ?_; refine op1_allocS rfl hS ?_; intro p1 H1 hS; refine wpO_cons ?_; (refine op1_storeNS rfl rfl (by (conv => lhs; whnf) <;> rfl) rfl rfl (S.up0 hS) (Nat.le_of_ble_eq_true rfl) ?_; intro H2 hS; replace hS := S.dn0 hS); refine zns ?_; refine wp_seq ?_; refine wp_regionD ?_; refine wpD_cons ?_; refine op1_bsliceS rfl hS ?_; refine bk_nil ?_; intro p2 H3 hS; refine zd1 ?_; refine wpD_cons ?_; refine op1_nilchk rfl rfl ?_; refine wpD_cons ?_; refine op1_faddr0 rfl rfl ?_; refine wpD_cons ?_; refine op1_load rfl rfl (by exact S.g2 hS) rfl ?_; refine wpD_cons ?_; refine op1_bsliceS rfl hS ?_; refine bk_nil ?_; intro p3 H4 hS; refine zd1 ?_; refine wpD_cons ?_; refine op1_nilchk rfl rfl ?_; refine wpD_cons ?_; refine op1_faddr0 rfl rfl ?_; refine wpD_cons ?_; refine op1_load rfl rfl (by exact S.g3 hS) rfl ?_; refine wpD_cons ?_
  replace hS := S.slNew (l := 0) (es := 1) (S.up1 hS) rfl
  have hT := hS
  obtain ⟨r0, hr0, _⟩ := (RD.cons (RD.cons (RD.cons (RD.cons RD.head))) : RD B _ 1 (.slice ao s.out.length co) (u8s s.out)) _ hS
  refine op1_appRS rfl rfl (by (conv => lhs; whnf) <;> rfl) rfl hr0 (by simp) (u8s_one _) hS (by omega) ?_
  rw [List.nil_append, Nat.zero_add]
  intro a3 c3 H5 hS
  have hT2 := hS
  refine wpD_cons ?_
  replace hS := S.slNew (l := 0) (es := 1) (S.up1 hS) rfl
  obtain ⟨r1, hr1, _⟩ := (RD.cons (RD.cons (RD.cons (RD.cons (RD.cons RD.head)))) : RD B _ 1 (.slice ai s.inc.length ci) (u8s s.inc)) _ hS
  refine op1_appRS rfl rfl (by (conv => lhs; whnf) <;> rfl) rfl hr1 (by simp) (u8s_one _) hS (by omega) ?_
  rw [List.nil_append, Nat.zero_add]
  intro a4 c4 H6 hS
  refine wpD_cons ?_; refine op1_faddr0 rfl rfl ?_; refine wpD_cons ?_; (refine op1_store1S rfl rfl (by (conv => lhs; whnf) <;> rfl) rfl rfl (S.up2 hS) rfl ?_; intro H7 hS; replace hS := S.dn2 hS); refine wpD_cons ?_; refine op1_faddr0 rfl rfl ?_; refine wpD_cons ?_; (refine op1_store1S rfl rfl (by (conv => lhs; whnf) <;> rfl) rfl rfl (S.up2 hS) rfl ?_; intro H8 hS; replace hS := S.dn2 hS); refine wpD_nil ?_; refine dk_of ?_ ?_; (iterate 4 refine chk_skip ?_); refine chk_cons 12 rfl rfl rfl ?_ ?_; refine chkFs_cons 6 rfl rfl ?_ ?_; exact chk_load rfl (by exact S.g3 hT) rfl rfl; exact chkFs_nil; (iterate 4 refine chk_skip ?_); refine chk_cons 7 rfl rfl rfl ?_ ?_; refine chkFs_cons 6 rfl rfl ?_ ?_; exact chk_load rfl (by exact S.g3 hT) rfl rfl; refine chkFs_cons 5 rfl rfl ?_ ?_; exact chk_load rfl (by exact S.g3 (by assumption)) rfl rfl; exact chkFs_nil; (iterate 6 refine chk_skip ?_); exact chk_end; refine seq_normal ?_; refine zsr ?_; refine zw1 ?_; refine zns ?_; refine wp_ret ?_; refine ret_of ?_; refine rk_tmp (by (conv => lhs; whnf) <;> rfl) ?_; refine rk_nil ?_
  have h9 := closeD (s := s) (p := p1) (S.up2 (S.up1 hS))
  exact ⟨p1, rfl, S.up1 (closeD (s := s) (S.up3 (S.up3 (S.up3 h9))))⟩
theorem L51 {n : Int} (hok : Ok s) (hS : S B H (repD p s :: As)) : wpF C 51 [ptC p, .int .i64 n] H fun v H' => ∃ v0, v = .tuple ⟨[v0, .int .i64 (s.read n).2.1]⟩ ∧ S B H' (sl 1 v0 (u8s (s.read n).1) :: repD p (s.read n).2.2 :: As) := by
  have hol := hok.out
  have hil := hok.inc
  refine wpF_ofW o51 rfl rfl ?_
  have hS0 := hS
  obtain ⟨ao, co, ai, ci, ho, hi, hO⟩ := openD hS
  clear hS
  have hS := hO
  clear hO
  unfold rfC at hS
  unfold ptC
  refine zsr ?_; refine zw1 ?_; refine zw1 ?_; refine zns ?_; refine wp_seq ?_; refine zsr ?_; refine zw1 ?_; refine wpO_cons ?_; refine op1_lss rfl rfl rfl ?_; refine zns ?_
  refine wp_dec rfl (fun h1 => ?_) (fun h1 => ?_)
  · have e : s.read n = ([], 34, s) := s.read_err (by unfold Cn.readE; rw [if_pos h1]) (by decide)
    rw [e]
    refine zsr ?_; refine zw1 ?_; refine zw1 ?_; refine zns ?_; refine wp_ret ?_; refine seq_ret ?_; refine ret_of ?_; refine rk_tmp (by (conv => lhs; whnf) <;> rfl) ?_; refine rk_tmp (by (conv => lhs; whnf) <;> rfl) ?_; refine rk_nil ?_
    exact ⟨_, rfl, S.slNil hS0⟩
  refine wp_skip ?_; refine seq_normal ?_
  refine wp_cutR [] (fun vs H' => vs = [] ∧ H = H' ∧ s.readE n = 0) ?_ ?_
  · refine zsr ?_; refine zw1 ?_; refine wpO_cons ?_; refine op1_nilchk rfl rfl ?_; refine wpO_cons ?_; refine op1_faddr0 rfl rfl ?_; refine wpO_cons ?_; refine op1_load rfl rfl (by exact S.g0 hS) rfl ?_; refine wpO_cons ?_; refine op1_len rfl rfl ?_; refine wpO_cons ?_; refine op1_eqlI rfl rfl rfl ?_; refine zns ?_
    refine wp_dec rfl (fun h2 => ?_) (fun h2 => ?_)
    rotate_left
    · have e : s.readE n = 0 := by unfold Cn.readE; rw [if_neg h1, if_pos (by omega)]
      refine wp_skip ?_
      exact cutR0 ⟨rfl, rfl, e⟩
    refine wp_block ?_; refine zsr ?_; refine zw1 ?_; refine wpO_cons ?_; refine op1_nilchk rfl rfl ?_; refine wpO_cons ?_; refine op1_faddr0 rfl rfl ?_; refine wpO_cons ?_; refine op1_load rfl rfl (by exact S.g0 hS) rfl ?_; refine wpO_cons ?_; refine op1_eqlI rfl rfl rfl ?_; refine zw1 ?_; refine zns ?_
    refine wp_dec rfl (fun h3 => ?_) (fun h3 => ?_)
    · have e : s.read n = ([], 4, s) := s.read_err (by unfold Cn.readE; rw [if_neg h1, if_neg (by omega), if_pos h3]) (by decide)
      rw [e]
      refine zsr ?_; refine zw1 ?_; refine zw1 ?_; refine zns ?_; refine wp_ret ?_; refine block_ret ?_
      refine cutR_ret ?_
      refine ret_of ?_; refine rk_tmp (by (conv => lhs; whnf) <;> rfl) ?_; refine rk_tmp (by (conv => lhs; whnf) <;> rfl) ?_; refine rk_nil ?_
      exact ⟨_, rfl, S.slNil hS0⟩
    refine zsr ?_; refine zw1 ?_; refine wpO_cons ?_; refine op1_nilchk rfl rfl ?_; refine wpO_cons ?_; refine op1_faddr0 rfl rfl ?_; refine wpO_cons ?_; refine op1_load rfl rfl (by exact S.g0 hS) rfl ?_; refine zw1 ?_; refine zns ?_
    obtain ⟨en, hen⟩ : ∃ z, z = s.ended := ⟨_, rfl⟩
    rw [← hen]
    cases en
    · refine wp_false rfl ?_; refine zsr ?_; refine zw1 ?_; refine wpO_cons ?_; refine op1_gtr rfl rfl rfl ?_; refine zw1 ?_; refine zns ?_
      refine wp_dec rfl (fun h4 => ?_) (fun h4 => ?_)
      · have e : s.read n = ([], 2, s) := s.read_err (by unfold Cn.readE; rw [if_neg h1, if_neg (by omega), if_neg h3, ← hen, if_neg (by simp), if_pos h4]) (by decide)
        rw [e]
        refine zsr ?_; refine zw1 ?_; refine zw1 ?_; refine zns ?_; refine wp_ret ?_; refine block_ret ?_
        refine cutR_ret ?_
        refine ret_of ?_; refine rk_tmp (by (conv => lhs; whnf) <;> rfl) ?_; refine rk_tmp (by (conv => lhs; whnf) <;> rfl) ?_; refine rk_nil ?_
        exact ⟨_, rfl, S.slNil hS0⟩
      · have e : s.readE n = 0 := by unfold Cn.readE; rw [if_neg h1, if_neg (by omega), if_neg h3, ← hen, if_neg (by simp), if_neg h4]
        refine wp_skip ?_; refine block_normal ?_
        exact cutR0 ⟨rfl, rfl, e⟩
    · have e : s.read n = ([], 33, s) := s.read_err (by unfold Cn.readE; rw [if_neg h1, if_neg (by omega), if_neg h3, ← hen, if_pos rfl]) (by decide)
      rw [e]
      refine wp_true rfl ?_; refine zsr ?_; refine zw1 ?_; refine zw1 ?_; refine zns ?_; refine wp_ret ?_; refine block_ret ?_
      refine cutR_ret ?_
      refine ret_of ?_; refine rk_tmp (by (conv => lhs; whnf) <;> rfl) ?_; refine rk_tmp (by (conv => lhs; whnf) <;> rfl) ?_; refine rk_nil ?_
      exact ⟨_, rfl, S.slNil hS0⟩
  rintro vs T2 H2 ⟨rfl, rfl, he⟩
  have hn0 : 0 ≤ n := by omega
  have er : s.read n = (s.inc.take (s.readK n), 0, { s with due := s.due || decide (4096 - s.inc.length = 0 ∧ 0 < s.readK n), inc := s.inc.drop (s.readK n) }) := by unfold Cn.read; rw [if_neg (by omega)]
  rw [er]
  obtain ⟨k, hk⟩ : ∃ k, k = s.readK n := ⟨_, rfl⟩
  rw [← hk]
  have hkn : (k : Int) = min n s.inc.length := by rw [hk]; unfold Cn.readK; omega
  have hkl : k ≤ s.inc.length := by omega
  obtain ⟨dn, hdn⟩ : ∃ z, z = (s.due || decide (4096 - s.inc.length = 0 ∧ 0 < k)) := ⟨_, rfl⟩
  rw [← hdn]
  refine zsr ?_; refine zw1 ?_; refine zw1 ?_; refine wpO_cons ?_; refine op1_nilchk rfl rfl ?_; refine wpO_cons ?_; refine op1_faddr0 rfl rfl ?_; refine wpO_cons ?_; refine op1_load rfl rfl (by exact S.g0 hS) rfl ?_; refine wpO_cons ?_; refine op1_len rfl rfl ?_; refine wpO_cons ?_; refine op1_min rfl rfl rfl ?_; refine zw1 ?_; refine zns ?_
  rw [← hkn]
  refine wp_cut [] (fun vs H' => vs = [] ∧ S B H' (pto p (.cells (rfC { s with due := dn } (.slice ao s.out.length co) (.slice ai s.inc.length ci)) 0 false) :: sl 1 (.slice ao s.out.length co) (u8s s.out) :: sl 1 (.slice ai s.inc.length ci) (u8s s.inc) :: As)) ?_ ?_
  · refine zsr ?_; refine zw1 ?_; refine wpO_cons ?_; refine op1_call1 rfl (by (conv => lhs; whnf) <;> rfl) ?_
    refine wpF_mono (L78 (s := s) (by omega) hS) ?_
    rintro _ H4 ⟨rfl, rfl⟩
    refine wpO_cons ?_; refine op1_eqlI rfl rfl rfl ?_; refine zw1 ?_; refine wpO_cons ?_
    refine op1_dec rfl (fun h5 => ?_) (fun h5 => ?_)
    · refine op1_mov rfl (by (conv => lhs; whnf) <;> rfl) ?_; refine wpO_cons ?_; refine op1_gtr rfl rfl rfl ?_; refine wpO_cons ?_; refine op1_pick_t rfl rfl (by (conv => lhs; whnf) <;> rfl) ?_; refine zns ?_
      refine wp_dec rfl (fun h6 => ?_) (fun h6 => ?_)
      · have ed : dn = true := by rw [hdn, decide_eq_true (by omega), Bool.or_true]
        rw [ed]
        refine wp_region ?_; refine zw1 ?_; refine wpO_cons ?_; refine op1_nilchk rfl rfl ?_; refine wpO_cons ?_; refine op1_faddr0 rfl rfl ?_; refine wpO_cons ?_; (refine op1_store1S rfl rfl (by (conv => lhs; whnf) <;> rfl) rfl rfl (S.up0 hS) rfl ?_; intro H1 hS; replace hS := S.dn0 hS); refine wpO_nil ?_; refine cut0  ?_
        exact ⟨rfl, hS⟩
      · have ed : dn = s.due := by rw [hdn, decide_eq_false (by omega), Bool.or_false]
        rw [ed]
        refine wp_skip ?_; refine cut0  ?_
        exact ⟨rfl, hS⟩
    · have ed : dn = s.due := by rw [hdn, decide_eq_false (by omega), Bool.or_false]
      rw [ed]
      refine op1_skip rfl ?_; refine wpO_cons ?_; refine op1_skip rfl ?_; refine wpO_cons ?_; refine op1_pick_f rfl rfl (by (conv => lhs; whnf) <;> rfl) ?_; refine zns ?_; refine wp_false rfl ?_; refine wp_skip ?_; refine cut0  ?_
      exact ⟨rfl, hS⟩
  clear hS
  rintro vs4 T4 H4 ⟨rfl, hS⟩
  unfold rfC at hS
  dsimp only at hS
  have hml : (s.inc.take k).length = k := by rw [List.length_take]; omega
  have hdl : (s.inc.drop k).length = s.inc.length - k := by rw [List.length_drop]
  refine zsr ?_; refine wpO_cons ?_; refine op1_bsliceS rfl hS ?_; refine bk_nil ?_; intro p1 H1 hS; refine zw1 ?_; refine wpO_cons ?_; refine op1_nilchk rfl rfl ?_; refine wpO_cons ?_; refine op1_faddr0 rfl rfl ?_; refine wpO_cons ?_; refine op1_load rfl rfl (by exact S.g1 hS) rfl ?_; refine zw1 ?_; refine wpO_cons ?_
  replace hS := S.slNew (l := 0) (es := 1) hS rfl
  refine op1_sliceD rfl rfl (RD.cons (RD.cons (RD.cons RD.head))) hS (bnds_hi (by omega) (by omega)) (by omega) (by simp only [Int.toNat_natCast]; omega) ?_
  simp only [Int.toNat_natCast, Nat.zero_mul, List.drop_zero, Nat.sub_zero, Nat.mul_one]
  intro a1 c1 hd1 hck
  clear hck
  rw [u8s_take] at hd1
  obtain ⟨r1, hr1, _⟩ := hd1 _ hS
  refine wpO_cons ?_
  refine op1_appRS rfl rfl (by (conv => lhs; whnf) <;> rfl) rfl hr1 (by simp [hml]) (u8s_one _) hS (by omega) ?_
  rw [List.nil_append, Nat.zero_add]
  intro a2 c2 H5 hS
  clear hd1 hr1
  refine zw1 ?_; refine zns ?_; refine zsr ?_; refine zw1 ?_; refine wpO_cons ?_; refine op1_bsliceS rfl hS ?_; refine bk_nil ?_; intro p2 H2 hS; refine zw1 ?_; refine wpO_cons ?_; refine op1_nilchk rfl rfl ?_; refine wpO_cons ?_; refine op1_faddr0 rfl rfl ?_; refine wpO_cons ?_; refine op1_load rfl rfl (by exact S.g2 hS) rfl ?_; refine zw1 ?_; refine wpO_cons ?_
  replace hS := S.slNew (l := 0) (es := 1) hS rfl
  refine op1_sliceD rfl rfl (RD.cons (RD.cons (RD.cons (RD.cons RD.head)))) hS (bnds_lo (by omega) (by omega) hi) (by simp only [Int.toNat_natCast]; omega) (Nat.le_refl _) ?_
  simp only [Int.toNat_natCast, Nat.mul_one]
  intro a3 c3 hd3 hck
  clear hck
  rw [u8s_drop, u8s_take, List.take_of_length_le (l := s.inc.drop k) (by rw [List.length_drop]; omega)] at hd3
  obtain ⟨r3, hr3, _⟩ := hd3 _ hS
  refine wpO_cons ?_
  refine op1_appRS rfl rfl (by (conv => lhs; whnf) <;> rfl) rfl hr3 (by simp) (u8s_one _) hS (by omega) ?_
  rw [List.nil_append, Nat.zero_add]
  intro a4 c4 H7 hS
  clear hd3 hr3
  refine wpO_cons ?_; refine op1_nilchk rfl rfl ?_; refine wpO_cons ?_; refine op1_faddr0 rfl rfl ?_; refine wpO_cons ?_; (refine op1_store1S rfl rfl (by (conv => lhs; whnf) <;> rfl) rfl rfl (S.up2 hS) rfl ?_; intro H3 hS; replace hS := S.dn2 hS); refine zns ?_; refine zsr ?_; refine zw1 ?_; refine zw1 ?_; refine zw1 ?_; refine zns ?_; refine wp_ret ?_; refine ret_of ?_; refine rk_tmp (by (conv => lhs; whnf) <;> rfl) ?_; refine rk_tmp (by (conv => lhs; whnf) <;> rfl) ?_; refine rk_nil ?_
  exact ⟨_, rfl, S.up1 (closeD (s := { s with due := dn, inc := s.inc.drop k }) (S.up3 (S.up3 (S.drop (S.up4 hS)))))⟩
theorem L80 {ad : Option Addr} {cd : Nat} {now : Int} (hok : Ok s) (hg : SgOk g) (hst : s.st = 2) (hS : S B H (repD p s :: As)) :
    wpF C 80 [ptC p, .agg ⟨sgC g (.slice ad g.data.length cd)⟩, .int .i64 now] H fun v H' => S B H' (repD p (s.answered g now) :: As) := by
  have hol := hok.out
  have hil := hok.inc
  have hf := hok.first
  have hun := hok.syn hst
  refine wpF_ofW o80 rfl rfl ?_
  obtain ⟨ao, co, ai, ci, ho, hi, hO⟩ := openD hS
  clear hS
  have hS := hO
  clear hO
  unfold rfC at hS
  unfold ptC sgC
  refine zsr ?_; refine wpO_cons ?_; refine op1_boxNS rfl rfl rfl hS ?_; intro p1 H1 hS; refine zns ?_
  refine wp_cut [6] (fun vs H' => vs = [.bool (s.mine g)] ∧ H1 = H') ?_ ?_
  · unfold Cn.mine
    refine wp_regionD ?_; refine wpD_cons ?_; refine op1_faddr0 rfl rfl ?_; refine wpD_cons ?_; refine op1_load rfl rfl (by exact S.g0 hS) rfl ?_; refine zd1 ?_; refine wpD_cons ?_; refine op1_nilchk rfl rfl ?_; refine wpD_cons ?_; refine op1_faddr0 rfl rfl ?_; refine wpD_cons ?_; refine op1_load rfl rfl (by exact S.g1 hS) rfl ?_; refine wpD_cons ?_
    refine op1_addW rfl rfl rfl ?_
    refine wpD_cons ?_; refine op1_eqlI rfl rfl rfl ?_; refine zd1 ?_; refine wpD_cons ?_
    refine op1_dec rfl (fun h1 => ?_) (fun h1 => ?_)
    · refine op1_mov rfl (by (conv => lhs; whnf) <;> rfl) ?_; refine wpD_cons ?_; refine op1_nilchk rfl rfl ?_; refine wpD_cons ?_; refine op1_faddr0 rfl rfl ?_; refine wpD_cons ?_; refine op1_load rfl rfl (by exact S.g1 hS) rfl ?_; refine zd1 ?_; refine wpD_cons ?_; refine op1_nilchk rfl rfl ?_; refine wpD_cons ?_; refine op1_faddr0 rfl rfl ?_; refine wpD_cons ?_; refine op1_load rfl rfl (by exact S.g1 hS) rfl ?_; refine wpD_cons ?_; refine op1_neqI rfl rfl rfl ?_; refine wpD_cons ?_; refine op1_pick_t rfl rfl (by (conv => lhs; whnf) <;> rfl) ?_; refine zd1 ?_; refine wpD_nil ?_; refine dk_of ?_ ?_; refine chk_skip ?_; refine chk_cons 19 rfl rfl rfl ?_ ?_; refine chkFs_cons 0 rfl rfl ?_ ?_; exact chk_load rfl (by exact S.g0 hS) rfl rfl; exact chkFs_nil; (iterate 3 refine chk_skip ?_); refine chk_cons 15 rfl rfl rfl ?_ ?_; refine chkFs_cons 0 rfl rfl ?_ ?_; exact chk_load rfl (by exact S.g1 hS) rfl rfl; exact chkFs_nil; (iterate 6 refine chk_skip ?_); refine chk_cons 8 rfl rfl rfl ?_ ?_; refine chkFs_cons 0 rfl rfl ?_ ?_; exact chk_load rfl (by exact S.g1 hS) rfl rfl; exact chkFs_nil; (iterate 3 refine chk_skip ?_); refine chk_cons 4 rfl rfl rfl ?_ ?_; refine chkFs_cons 0 rfl rfl ?_ ?_; exact chk_load rfl (by exact S.g1 hS) rfl rfl; exact chkFs_nil; (iterate 3 refine chk_skip ?_); exact chk_end; refine cut1 (by (conv => lhs; whnf) <;> rfl) ?_
      rw [decide_eq_true h1, Bool.true_and]
      exact ⟨rfl, rfl⟩
    · refine op1_skip rfl ?_; refine wpD_cons ?_; refine op1_skip rfl ?_; refine wpD_cons ?_; refine op1_skip rfl ?_; refine wpD_cons ?_; refine op1_skip rfl ?_; refine wpD_cons ?_; refine op1_skip rfl ?_; refine wpD_cons ?_; refine op1_skip rfl ?_; refine wpD_cons ?_; refine op1_skip rfl ?_; refine wpD_cons ?_; refine op1_skip rfl ?_; refine wpD_cons ?_; refine op1_skip rfl ?_; refine wpD_cons ?_; refine op1_pick_f rfl rfl (by (conv => lhs; whnf) <;> rfl) ?_; refine zd1 ?_; refine wpD_nil ?_; refine dk_of ?_ ?_; refine chk_skip ?_; refine chk_cons 19 rfl rfl rfl ?_ ?_; refine chkFs_cons 0 rfl rfl ?_ ?_; exact chk_load rfl (by exact S.g0 hS) rfl rfl; exact chkFs_nil; (iterate 3 refine chk_skip ?_); refine chk_cons 15 rfl rfl rfl ?_ ?_; refine chkFs_cons 0 rfl rfl ?_ ?_; exact chk_load rfl (by exact S.g1 hS) rfl rfl; exact chkFs_nil; (iterate 6 refine chk_skip ?_); refine chk_unw 8 rfl rfl rfl ?_; (iterate 3 refine chk_skip ?_); refine chk_unw 4 rfl rfl rfl ?_; (iterate 3 refine chk_skip ?_); exact chk_end; refine cut1 (by (conv => lhs; whnf) <;> rfl) ?_
      rw [decide_eq_false h1, Bool.false_and]
      exact ⟨rfl, rfl⟩
  rintro vs2 T2 H2 ⟨rfl, rfl⟩
  obtain ⟨mi, hmi⟩ : ∃ z, z = s.mine g := ⟨_, rfl⟩
  obtain ⟨f8, hf8⟩ : ∃ z, z = has g.fl 8 := ⟨_, rfl⟩
  obtain ⟨f2, hf2⟩ : ∃ z, z = has g.fl 2 := ⟨_, rfl⟩
  have hA : s.answered g now = if f8 = true ∧ f2 = true ∧ mi = true then { s with st := 9 } else if g.fl = 3 ∧ mi = true then ({ s.greeted g with due := true } : Cn).estab.acked g.num now
    else if g.fl = 1 then { s.greeted g with nxt := s.first, run := false } else s := by unfold Cn.answered; rw [← hmi, ← hf8, ← hf2]
  rw [← hmi]
  refine wp_block ?_
  refine wp_cut [26] (fun vs H' => vs = [.bool (f8 && (f2 && mi))] ∧ H1 = H') ?_ ?_
  · refine wp_region ?_; refine wpO_cons ?_; refine op1_faddr0 rfl rfl ?_; refine wpO_cons ?_; refine op1_load rfl rfl (by exact S.g0 hS) rfl ?_; refine wpO_cons ?_; refine op1_call2 rfl (by (conv => lhs; whnf) <;> rfl) (by (conv => lhs; whnf) <;> rfl) ?_
    refine wpF_mono (L40 (k := 8) hg.fl (by decide)) ?_
    rw [← hf8]
    rintro _ H2 ⟨rfl, rfl⟩
    cases f8
    · refine zw1 ?_; refine wpO_cons ?_; refine op1_skip rfl ?_; refine wpO_cons ?_; refine op1_skip rfl ?_; refine wpO_cons ?_; refine op1_skip rfl ?_; refine wpO_cons ?_; refine op1_pick_f rfl rfl (by (conv => lhs; whnf) <;> rfl) ?_; refine zw1 ?_; refine wpO_cons ?_; refine op1_skip rfl ?_; refine wpO_cons ?_; refine op1_pick_f rfl rfl (by (conv => lhs; whnf) <;> rfl) ?_; refine zw1 ?_; refine wpO_nil ?_; refine cut1 (by (conv => lhs; whnf) <;> rfl) ?_
      exact ⟨rfl, rfl⟩
    · refine zw1 ?_; refine wpO_cons ?_; refine op1_faddr0 rfl rfl ?_; refine wpO_cons ?_; refine op1_load rfl rfl (by exact S.g0 hS) rfl ?_; refine wpO_cons ?_; refine op1_call2 rfl (by (conv => lhs; whnf) <;> rfl) (by (conv => lhs; whnf) <;> rfl) ?_
      refine wpF_mono (L40 (k := 2) hg.fl (by decide)) ?_
      rw [← hf2]
      rintro _ H2 ⟨rfl, rfl⟩
      cases f2
      · refine wpO_cons ?_; refine op1_pick_t rfl rfl (by (conv => lhs; whnf) <;> rfl) ?_; refine zw1 ?_; refine wpO_cons ?_; refine op1_skip rfl ?_; refine wpO_cons ?_; refine op1_pick_f rfl rfl (by (conv => lhs; whnf) <;> rfl) ?_; refine zw1 ?_; refine wpO_nil ?_; refine cut1 (by (conv => lhs; whnf) <;> rfl) ?_
        exact ⟨rfl, rfl⟩
      · refine wpO_cons ?_; refine op1_pick_t rfl rfl (by (conv => lhs; whnf) <;> rfl) ?_; refine zw1 ?_; refine zw1 ?_; refine wpO_cons ?_; refine op1_pick_t rfl rfl (by (conv => lhs; whnf) <;> rfl) ?_; refine zw1 ?_; refine wpO_nil ?_; refine cut1 (by (conv => lhs; whnf) <;> rfl) ?_
        exact ⟨rfl, rfl⟩
  rintro vs3 T3 H3 ⟨rfl, rfl⟩
  obtain ⟨b1, hb1⟩ : ∃ z, z = (f8 && (f2 && mi)) := ⟨_, rfl⟩
  have hA1 : (f8 = true ∧ f2 = true ∧ mi = true) ↔ b1 = true := by rw [hb1]; simp
  simp only [hA1] at hA
  rw [← hb1, hA]
  clear hA1 hb1 hA
  cases b1
  rotate_left
  · rw [if_pos rfl]
    refine wp_true rfl ?_; refine wp_region ?_; refine zw1 ?_; refine wpO_cons ?_; refine op1_nilchk rfl rfl ?_; refine wpO_cons ?_; refine op1_faddr0 rfl rfl ?_; refine wpO_cons ?_; (refine op1_store1S rfl rfl (by (conv => lhs; whnf) <;> rfl) rfl rfl (S.up1 hS) rfl ?_; intro H2 hS; replace hS := S.dn1 hS); refine wpO_nil ?_; refine block_normal ?_; refine nrm_of ?_; refine rk_nil ?_
    exact closeD (s := { s with st := 9 }) (S.drop hS)
  rw [if_neg (by simp)]
  clear ho hi
  refine wp_false rfl ?_; refine zsr ?_; refine wpO_cons ?_; refine op1_faddr0 rfl rfl ?_; refine wpO_cons ?_; refine op1_load rfl rfl (by exact S.g0 hS) rfl ?_; refine wpO_cons ?_; refine op1_eqlI rfl rfl rfl ?_; refine zw1 ?_; refine wpO_cons ?_
  refine op1_dec rfl (fun h3 => ?_) (fun h3 => ?_)
  · cases mi
    · rw [if_neg (by simp), if_neg (by omega)]
      refine op1_mov rfl (by (conv => lhs; whnf) <;> rfl) ?_; refine wpO_cons ?_; refine op1_pick_t rfl rfl (by (conv => lhs; whnf) <;> rfl) ?_; refine zw1 ?_; refine zns ?_; refine wp_false rfl ?_; refine zsr ?_; refine wpO_cons ?_; refine op1_faddr0 rfl rfl ?_; refine wpO_cons ?_; refine op1_load rfl rfl (by exact S.g0 hS) rfl ?_; refine wpO_cons ?_; refine op1_eqlI rfl rfl rfl ?_; refine zw1 ?_; refine zns ?_
      rw [decide_eq_false (show ¬ g.fl = 1 by omega)]
      refine wp_false rfl ?_; refine wp_skip ?_; refine block_normal ?_; refine nrm_of ?_; refine rk_nil ?_
      exact closeD (S.drop hS)
    · rw [if_pos ⟨h3, rfl⟩]
      refine op1_mov rfl (by (conv => lhs; whnf) <;> rfl) ?_; refine wpO_cons ?_; refine op1_pick_t rfl rfl (by (conv => lhs; whnf) <;> rfl) ?_; refine zw1 ?_; refine zns ?_; refine wp_true rfl ?_; refine wp_seq ?_; refine wp_regionD ?_; (iterate 4 refine zd1 ?_); refine wpD_cons ?_; refine op1_faddr0 rfl rfl ?_; refine wpD_cons ?_; refine op1_load rfl rfl (by exact S.g0 hS) rfl ?_; refine wpD_cons ?_
      refine op1_addW rfl rfl rfl ?_
      refine wpD_cons ?_; refine op1_faddr0 rfl rfl ?_; refine wpD_cons ?_; refine op1_load rfl rfl (by exact S.g0 hS) rfl ?_; refine wpD_cons ?_; refine op1_nilchk rfl rfl ?_; refine wpD_cons ?_; refine op1_faddr0 rfl rfl ?_; refine wpD_cons ?_; (refine op1_store1S rfl rfl (by (conv => lhs; whnf) <;> rfl) rfl rfl (S.up1 hS) rfl ?_; intro H2 hS; replace hS := S.dn1 hS); refine wpD_cons ?_; refine op1_nilchk rfl rfl ?_; refine wpD_cons ?_; refine op1_faddr0 rfl rfl ?_; refine wpD_cons ?_; (refine op1_store1S rfl rfl (by (conv => lhs; whnf) <;> rfl) rfl rfl (S.up1 hS) rfl ?_; intro H3 hS; replace hS := S.dn1 hS); refine wpD_cons ?_; refine op1_nilchk rfl rfl ?_; refine wpD_cons ?_; refine op1_faddr0 rfl rfl ?_; refine wpD_cons ?_; (refine op1_store1S rfl rfl (by (conv => lhs; whnf) <;> rfl) rfl rfl (S.up1 hS) rfl ?_; intro H4 hS; replace hS := S.dn1 hS); refine wpD_cons ?_; refine op1_nilchk rfl rfl ?_; refine wpD_cons ?_; refine op1_faddr0 rfl rfl ?_; refine wpD_cons ?_; (refine op1_store1S rfl rfl (by (conv => lhs; whnf) <;> rfl) rfl rfl (S.up1 hS) rfl ?_; intro H5 hS; replace hS := S.dn1 hS); refine wpD_nil ?_; refine dk_of ?_ ?_; (iterate 5 refine chk_skip ?_); refine chk_cons 16 rfl rfl rfl ?_ ?_; refine chkFs_cons 10 rfl rfl ?_ ?_; exact chk_load rfl (by exact S.g0 (by assumption)) rfl rfl; exact chkFs_nil; (iterate 2 refine chk_skip ?_); refine chk_cons 13 rfl rfl rfl ?_ ?_; refine chkFs_cons 10 rfl rfl ?_ ?_; exact chk_load rfl (by exact S.g0 (by assumption)) rfl rfl; refine chkFs_cons 7 rfl rfl ?_ ?_; exact chk_load rfl (by exact S.g0 (by assumption)) rfl rfl; refine chkFs_cons 4 rfl rfl ?_ ?_; exact chk_load rfl (by exact S.g0 (by assumption)) rfl rfl; exact chkFs_nil; (iterate 12 refine chk_skip ?_); exact chk_end; refine seq_normal ?_; refine zsr ?_; refine zw1 ?_; refine wpO_cons ?_; refine op1_call1 rfl (by (conv => lhs; whnf) <;> rfl) ?_
      refine wpF_mono (L82 (s := { s with rcv := IntKind.u32.wrap (g.seq + 1), synced := true, window := g.win, due := true }) (closeD (s := { s with rcv := IntKind.u32.wrap (g.seq + 1), synced := true, window := g.win, due := true }) (S.up3 (S.up3 (S.up3 hS))))) ?_
      clear hS
      intro v5 H5 hS
      have e : ({ s with rcv := IntKind.u32.wrap (g.seq + 1), synced := true, window := g.win, due := true } : Cn).estab = ({ s.greeted g with due := true } : Cn).estab := rfl
      rw [e] at hS
      have hnum : g.num = IntKind.u32.wrap (s.first + 1) := by
        unfold Cn.mine at hmi
        simp at hmi
        exact hmi.1
      have hnb := hg.num
      refine zns ?_; refine wp_region ?_; refine zw1 ?_; refine wpO_cons ?_; refine op1_faddr0 rfl rfl ?_; refine wpO_cons ?_; refine op1_load rfl rfl (by exact S.g1 hS) rfl ?_; refine zw1 ?_; refine wpO_cons ?_; refine op1_call3 rfl (by (conv => lhs; whnf) <;> rfl) (by (conv => lhs; whnf) <;> rfl) (by (conv => lhs; whnf) <;> rfl) ?_
      refine wpF_mono (L83 (num := g.num) (now := now) (s := ({ s.greeted g with due := true } : Cn).estab) hol hil hnb ?_ hS) ?_
      · unfold Cn.ackN
        show 0 ≤ if s.una = s.first then IntKind.u32.wrap (g.num - s.una) - 1 else _
        rw [if_pos hun, hun, hnum, wrap_u32, wrap_u32]
        omega
      clear hS
      intro v6 H6 hS
      refine wpO_nil ?_; refine block_normal ?_; refine nrm_of ?_; refine rk_nil ?_
      exact S.drop (S.up1 hS)
  · rw [if_neg (fun h => h3 h.1)]
    refine op1_skip rfl ?_; refine wpO_cons ?_; refine op1_pick_f rfl rfl (by (conv => lhs; whnf) <;> rfl) ?_; refine zw1 ?_; refine zns ?_; refine wp_false rfl ?_; refine zsr ?_; refine wpO_cons ?_; refine op1_faddr0 rfl rfl ?_; refine wpO_cons ?_; refine op1_load rfl rfl (by exact S.g0 hS) rfl ?_; refine wpO_cons ?_; refine op1_eqlI rfl rfl rfl ?_; refine zw1 ?_; refine zns ?_
    refine wp_dec rfl (fun h4 => ?_) (fun h4 => ?_)
    · rw [if_pos h4]
      refine wp_seq ?_; refine wp_regionD ?_; (iterate 4 refine zd1 ?_); refine wpD_cons ?_; refine op1_faddr0 rfl rfl ?_; refine wpD_cons ?_; refine op1_load rfl rfl (by exact S.g0 hS) rfl ?_; refine wpD_cons ?_
      refine op1_addW rfl rfl rfl ?_
      refine wpD_cons ?_; refine op1_faddr0 rfl rfl ?_; refine wpD_cons ?_; refine op1_load rfl rfl (by exact S.g0 hS) rfl ?_; refine wpD_cons ?_; refine op1_nilchk rfl rfl ?_; refine wpD_cons ?_; refine op1_faddr0 rfl rfl ?_; refine wpD_cons ?_; (refine op1_store1S rfl rfl (by (conv => lhs; whnf) <;> rfl) rfl rfl (S.up1 hS) rfl ?_; intro H2 hS; replace hS := S.dn1 hS); refine wpD_cons ?_; refine op1_nilchk rfl rfl ?_; refine wpD_cons ?_; refine op1_faddr0 rfl rfl ?_; refine wpD_cons ?_; (refine op1_store1S rfl rfl (by (conv => lhs; whnf) <;> rfl) rfl rfl (S.up1 hS) rfl ?_; intro H3 hS; replace hS := S.dn1 hS); refine wpD_cons ?_; refine op1_nilchk rfl rfl ?_; refine wpD_cons ?_; refine op1_faddr0 rfl rfl ?_; refine wpD_cons ?_; (refine op1_store1S rfl rfl (by (conv => lhs; whnf) <;> rfl) rfl rfl (S.up1 hS) rfl ?_; intro H4 hS; replace hS := S.dn1 hS); refine wpD_cons ?_; refine op1_nilchk rfl rfl ?_; refine wpD_cons ?_; refine op1_faddr0 rfl rfl ?_; refine wpD_cons ?_; (refine op1_store1S rfl rfl (by (conv => lhs; whnf) <;> rfl) rfl rfl (S.up1 hS) rfl ?_; intro H5 hS; replace hS := S.dn1 hS); refine wpD_nil ?_; refine dk_of ?_ ?_; (iterate 5 refine chk_skip ?_); refine chk_cons 16 rfl rfl rfl ?_ ?_; refine chkFs_cons 10 rfl rfl ?_ ?_; exact chk_load rfl (by exact S.g0 (by assumption)) rfl rfl; refine chkFs_cons 7 rfl rfl ?_ ?_; exact chk_load rfl (by exact S.g0 (by assumption)) rfl rfl; exact chkFs_nil; (iterate 2 refine chk_skip ?_); refine chk_cons 13 rfl rfl rfl ?_ ?_; refine chkFs_cons 10 rfl rfl ?_ ?_; exact chk_load rfl (by exact S.g0 (by assumption)) rfl rfl; refine chkFs_cons 7 rfl rfl ?_ ?_; exact chk_load rfl (by exact S.g0 (by assumption)) rfl rfl; refine chkFs_cons 4 rfl rfl ?_ ?_; exact chk_load rfl (by exact S.g0 (by assumption)) rfl rfl; refine chkFs_cons 1 rfl rfl ?_ ?_; exact chk_load rfl (by exact S.g0 (by assumption)) rfl rfl; exact chkFs_nil; (iterate 12 refine chk_skip ?_); exact chk_end; refine seq_normal ?_; refine wp_region ?_; refine zw1 ?_; refine zw1 ?_; refine zw1 ?_; refine wpO_cons ?_; refine op1_nilchk rfl rfl ?_; refine wpO_cons ?_; refine op1_faddr0 rfl rfl ?_; refine wpO_cons ?_; refine op1_load rfl rfl (by exact S.g1 hS) rfl ?_; refine wpO_cons ?_; refine op1_nilchk rfl rfl ?_; refine wpO_cons ?_; refine op1_faddr0 rfl rfl ?_; refine wpO_cons ?_; (refine op1_store1S rfl rfl (by (conv => lhs; whnf) <;> rfl) rfl rfl (S.up1 hS) rfl ?_; intro H6 hS; replace hS := S.dn1 hS); refine wpO_cons ?_; refine op1_nilchk rfl rfl ?_; refine wpO_cons ?_; refine op1_faddr0 rfl rfl ?_; refine wpO_cons ?_; (refine op1_store1S rfl rfl (by (conv => lhs; whnf) <;> rfl) rfl rfl (S.up1 hS) rfl ?_; intro H7 hS; replace hS := S.dn1 hS); refine wpO_nil ?_; refine block_normal ?_; refine nrm_of ?_; refine rk_nil ?_
      exact closeD (s := { s.greeted g with nxt := s.first, run := false }) (S.drop hS)
    · rw [if_neg h4]
      refine wp_skip ?_; refine block_normal ?_; refine nrm_of ?_; refine rk_nil ?_
      exact closeD (S.drop hS)
end
end Go.E.St
