/- Streams: the ports' Put and Take. -/
import Derived.Test.YtamcfhhcmjagnaaStM
namespace Go.E.St
open Go Go.E Go.Proofs.Ytamcfhhcmjagnaa Go.Proofs
set_option linter.unusedVariables false
set_option linter.unusedSimpArgs false
set_option maxRecDepth 100000
def Po.putR (s : Po) (d : Dg) : Bool × Int :=
  if ¬ ((0 ≤ d.fr ∧ d.fr ≤ 65535) ∧ (0 ≤ d.to ∧ d.to ≤ 65535)) then (false, 34)
  else if 4096 < d.data.length then (false, 20)
  else if d.to ≠ s.num then (false, 14)
  else if s.lim ≤ s.q.length then (false, 0)
  else (true, 0)
def Po.put (s : Po) (d : Dg) : Po := if (s.putR d).1 = true then { s with q := s.q ++ [d] } else s
theorem flat_len3 : ∀ (css : List (List Value)), (∀ c ∈ css, c.length = 3) → css.flatten.length = css.length * 3
  | [], _ => rfl
  | c :: css, h => by rw [List.flatten_cons, List.length_append, h c (by simp), flat_len3 css fun d hd => h d (by simp [hd]), List.length_cons]; omega
theorem dg_one {B H : AHeap} : ∀ {ws : List Dg} {css : List (List Value)} {As : List Asn}, S B H (many dgA ws css :: As) → css.flatten.all (·.oneCell') = true
  | [], css, As, h => by rw [h.many_unnil.1]; rfl
  | w :: ws, css, As, h => by
    obtain ⟨cs, css, rfl, h1⟩ := h.many_uncons
    obtain ⟨vd, rfl, h2⟩ := dgA_un h1
    obtain ⟨a, c, rfl⟩ := h2.u1
    rw [List.flatten_cons, List.all_append, dg_one h1.drop]
    rfl
theorem L18 {B H : AHeap} {As : List Asn} {p : Nat} {s : Po} {d : Dg} {vd : Value} (hd : RD B As 1 vd (u8s d.data)) (hq : s.q.length ≤ 1000) (hS : S B H (repPo p s :: As)) :
    wpF C 18 [.pointer (some ⟨p, 0, none⟩), .agg ⟨[.int .i64 d.fr, .int .i64 d.to, vd]⟩] H fun v H' => v = .tuple ⟨[.bool (s.putR d).1, .int .i64 (s.putR d).2]⟩ ∧ S B H' (repPo p (s.put d) :: As) := by
  obtain ⟨ad, cd, rfl⟩ := hd.u1 hS.drop
  obtain ⟨vq, hO⟩ := openPo hS
  obtain ⟨aq, cq, rfl, hqc⟩ := S.arrShape (S.up1 hO) (by decide)
  refine wpF_ofW o18 rfl rfl ?_
  clear hS
  have hS := hO
  clear hO
  unfold Po.put
  refine zsr ?_; refine wpO_cons ?_; refine op1_boxNS rfl rfl rfl hS ?_; intro p1 H1 hS; refine zw1 ?_; refine zw1 ?_; refine zns ?_; refine wp_seq ?_; refine wp_block ?_; refine zsr ?_; refine zw1 ?_; refine wpO_cons ?_; refine op1_bin_false rfl (by (conv => lhs; whnf) <;> rfl) (by (conv => lhs; whnf) <;> rfl) rfl ?_; refine zw1 ?_; refine zns ?_; refine wp_false rfl ?_; refine zsr ?_; refine wpO_cons ?_; refine op1_faddr0 rfl rfl ?_; refine wpO_cons ?_; refine op1_load rfl rfl (by exact S.g0 hS) rfl ?_; refine wpO_cons ?_; refine op1_call1 rfl (by (conv => lhs; whnf) <;> rfl) ?_
  refine wpF_mono L44 ?_
  rintro _ _ ⟨rfl, rfl⟩
  by_cases h0 : 0 ≤ d.fr ∧ d.fr ≤ 65535
  case neg =>
    have e : s.putR d = (false, 34) := by unfold Po.putR; rw [if_pos (fun h => h0 h.1)]
    rw [decide_eq_false h0, e]
    refine wpO_cons ?_; refine op1_not_f rfl rfl ?_; refine zw1 ?_; refine wpO_cons ?_; refine op1_skip rfl ?_; refine wpO_cons ?_; refine op1_skip rfl ?_; refine wpO_cons ?_; refine op1_skip rfl ?_; refine wpO_cons ?_; refine op1_skip rfl ?_; refine wpO_cons ?_; refine op1_pick_t rfl rfl (by (conv => lhs; whnf) <;> rfl) ?_; refine zw1 ?_; refine zns ?_; refine wp_true rfl ?_; refine zsr ?_; refine zw1 ?_; refine zw1 ?_; refine zns ?_; refine wp_ret ?_; refine block_ret ?_; refine seq_ret ?_; refine ret_of ?_; refine rk_tmp (by (conv => lhs; whnf) <;> rfl) ?_; refine rk_tmp (by (conv => lhs; whnf) <;> rfl) ?_; refine rk_nil ?_
    exact ⟨rfl, by rw [if_neg (by simp)]; exact closePo (S.drop hS)⟩
  rw [decide_eq_true h0]
  refine wpO_cons ?_; refine op1_not_t rfl rfl ?_; refine zw1 ?_; refine wpO_cons ?_; refine op1_faddr0 rfl rfl ?_; refine wpO_cons ?_; refine op1_load rfl rfl (by exact S.g0 hS) rfl ?_; refine wpO_cons ?_; refine op1_call1 rfl (by (conv => lhs; whnf) <;> rfl) ?_
  refine wpF_mono L44 ?_
  rintro _ _ ⟨rfl, rfl⟩
  by_cases h1 : 0 ≤ d.to ∧ d.to ≤ 65535
  case neg =>
    have e : s.putR d = (false, 34) := by unfold Po.putR; rw [if_pos (fun h => h1 h.2)]
    rw [decide_eq_false h1, e]
    refine wpO_cons ?_; refine op1_not_f rfl rfl ?_; refine wpO_cons ?_; refine op1_pick_f rfl rfl (by (conv => lhs; whnf) <;> rfl) ?_; refine zw1 ?_; refine zns ?_; refine wp_true rfl ?_; refine zsr ?_; refine zw1 ?_; refine zw1 ?_; refine zns ?_; refine wp_ret ?_; refine block_ret ?_; refine seq_ret ?_; refine ret_of ?_; refine rk_tmp (by (conv => lhs; whnf) <;> rfl) ?_; refine rk_tmp (by (conv => lhs; whnf) <;> rfl) ?_; refine rk_nil ?_
    exact ⟨rfl, by rw [if_neg (by simp)]; exact closePo (S.drop hS)⟩
  rw [decide_eq_true h1]
  refine wpO_cons ?_; refine op1_not_t rfl rfl ?_; refine wpO_cons ?_; refine op1_pick_f rfl rfl (by (conv => lhs; whnf) <;> rfl) ?_; refine zw1 ?_; refine zns ?_; refine wp_false rfl ?_; refine zsr ?_; refine wpO_cons ?_; refine op1_faddr0 rfl rfl ?_; refine wpO_cons ?_; refine op1_load rfl rfl (by exact S.g0 hS) rfl ?_; refine wpO_cons ?_; refine op1_len rfl rfl ?_; refine wpO_cons ?_; refine op1_gtr rfl rfl rfl ?_; refine zw1 ?_; refine zns ?_
  refine wp_dec rfl (fun h2 => ?_) (fun h2 => ?_)
  · have e : s.putR d = (false, 20) := by unfold Po.putR; rw [if_neg (fun h => h ⟨h0, h1⟩), if_pos (by omega)]
    rw [e]
    refine zsr ?_; refine zw1 ?_; refine zw1 ?_; refine zns ?_; refine wp_ret ?_; refine block_ret ?_; refine seq_ret ?_; refine ret_of ?_; refine rk_tmp (by (conv => lhs; whnf) <;> rfl) ?_; refine rk_tmp (by (conv => lhs; whnf) <;> rfl) ?_; refine rk_nil ?_
    exact ⟨rfl, by rw [if_neg (by simp)]; exact closePo (S.drop hS)⟩
  refine wp_seq ?_; refine wp_regionD ?_; refine wpD_cons ?_; refine op1_faddr0 rfl rfl ?_; refine wpD_cons ?_; refine op1_load rfl rfl (by exact S.g0 hS) rfl ?_; refine zd1 ?_; refine wpD_cons ?_; refine op1_nilchk rfl rfl ?_; refine wpD_cons ?_; refine op1_faddr0 rfl rfl ?_; refine wpD_cons ?_; refine op1_load rfl rfl (by exact S.g1 hS) rfl ?_; refine wpD_cons ?_; refine op1_neqI rfl rfl rfl ?_; refine zd1 ?_; refine wpD_nil ?_; refine dk_of ?_ ?_; refine chk_skip ?_; refine chk_cons 7 rfl rfl rfl ?_ ?_; refine chkFs_cons 0 rfl rfl ?_ ?_; exact chk_load rfl (by exact S.g0 hS) rfl rfl; exact chkFs_nil; (iterate 3 refine chk_skip ?_); refine chk_cons 3 rfl rfl rfl ?_ ?_; refine chkFs_cons 0 rfl rfl ?_ ?_; exact chk_load rfl (by exact S.g1 hS) rfl rfl; exact chkFs_nil; (iterate 2 refine chk_skip ?_); exact chk_end; refine seq_normal ?_
  refine wp_ndec rfl (fun h3 => ?_) (fun h3 => ?_)
  · have e : s.putR d = (false, 14) := by unfold Po.putR; rw [if_neg (fun h => h ⟨h0, h1⟩), if_neg (by omega), if_pos h3]
    rw [e]
    refine zsr ?_; refine zw1 ?_; refine zw1 ?_; refine zns ?_; refine wp_ret ?_; refine block_ret ?_; refine seq_ret ?_; refine ret_of ?_; refine rk_tmp (by (conv => lhs; whnf) <;> rfl) ?_; refine rk_tmp (by (conv => lhs; whnf) <;> rfl) ?_; refine rk_nil ?_
    exact ⟨rfl, by rw [if_neg (by simp)]; exact closePo (S.drop hS)⟩
  refine wp_seq ?_; refine wp_regionD ?_; refine zd1 ?_; refine wpD_cons ?_; refine op1_nilchk rfl rfl ?_; refine wpD_cons ?_; refine op1_faddr0 rfl rfl ?_; refine wpD_cons ?_; refine op1_load rfl rfl (by exact S.g1 hS) rfl ?_; refine wpD_cons ?_; refine op1_len rfl rfl ?_; refine zd1 ?_; refine wpD_cons ?_; refine op1_nilchk rfl rfl ?_; refine wpD_cons ?_; refine op1_faddr0 rfl rfl ?_; refine wpD_cons ?_; refine op1_load rfl rfl (by exact S.g1 hS) rfl ?_; refine wpD_cons ?_; refine op1_geq rfl rfl rfl ?_; refine zd1 ?_; refine wpD_nil ?_; refine dk_of ?_ ?_; (iterate 3 refine chk_skip ?_); refine chk_cons 8 rfl rfl rfl ?_ ?_; refine chkFs_cons 0 rfl rfl ?_ ?_; exact chk_load rfl (by exact S.g1 hS) rfl rfl; exact chkFs_nil; refine chk_cons 7 rfl rfl rfl ?_ ?_; refine chkFs_cons 0 rfl rfl ?_ ?_; exact chk_len rfl rfl; exact chkFs_nil; (iterate 3 refine chk_skip ?_); refine chk_cons 3 rfl rfl rfl ?_ ?_; refine chkFs_cons 0 rfl rfl ?_ ?_; exact chk_load rfl (by exact S.g1 hS) rfl rfl; exact chkFs_nil; (iterate 2 refine chk_skip ?_); exact chk_end; refine seq_normal ?_
  refine wp_dec rfl (fun h4 => ?_) (fun h4 => ?_)
  · have e : s.putR d = (false, 0) := by unfold Po.putR; rw [if_neg (fun h => h ⟨h0, h1⟩), if_neg (by omega), if_neg (by omega), if_pos (by omega)]
    rw [e]
    refine zsr ?_; refine zw1 ?_; refine zw1 ?_; refine zns ?_; refine wp_ret ?_; refine block_ret ?_; refine seq_ret ?_; refine ret_of ?_; refine rk_tmp (by (conv => lhs; whnf) <;> rfl) ?_; refine rk_tmp (by (conv => lhs; whnf) <;> rfl) ?_; refine rk_nil ?_
    exact ⟨rfl, by rw [if_neg (by simp)]; exact closePo (S.drop hS)⟩
  have e : s.putR d = (true, 0) := by unfold Po.putR; rw [if_neg (fun h => h ⟨h0, h1⟩), if_neg (by omega), if_neg (by omega), if_neg (by omega)]
  rw [e]
  refine wp_skip ?_; refine block_normal ?_; refine seq_normal ?_; refine zsr ?_; refine wpO_cons ?_; refine op1_faddr0 rfl rfl ?_; refine wpO_cons ?_; refine op1_load rfl rfl (by exact S.g0 hS) rfl ?_; refine wpO_cons ?_; refine op1_call1 rfl (by (conv => lhs; whnf) <;> rfl) ?_
  refine wpF_mono (L45 (RD.cons (RD.cons (RD.cons hd))) hS (by omega)) ?_
  clear hS
  intro v1 H2 hS
  obtain ⟨a1, c1, rfl⟩ := hS.u1
  obtain ⟨css, hcss, hcl, hS⟩ := S.unarr (S.up3 hS)
  have hone := dg_one (S.up1 hS)
  refine wpO_cons ?_; refine op1_faddr0 rfl rfl ?_; refine wpO_cons ?_; (refine op1_store1S rfl rfl (by (conv => lhs; whnf) <;> rfl) rfl rfl (S.up3 hS) rfl ?_; intro H3 hS; replace hS := S.dn3 hS); refine zns ?_; refine wp_seq ?_; refine wp_regionD ?_; refine zd1 ?_; refine zd1 ?_; refine wpD_cons ?_; refine op1_nilchk rfl rfl ?_; refine wpD_cons ?_; refine op1_faddr0 rfl rfl ?_; refine wpD_cons ?_; refine op1_load rfl rfl (by exact S.g4 hS) rfl ?_; refine wpD_cons ?_; refine op1_load_3 rfl rfl (by exact S.g3 hS) rfl rfl ?_; refine wpD_cons ?_; refine op1_bsliceS rfl hS ?_; refine bk_agg rfl rfl rfl rfl ?_; refine bk_nil ?_; intro p2 H4 hS; refine wpD_cons ?_; (refine op1_appBS rfl rfl (by (conv => lhs; whnf) <;> rfl) rfl (S.g0 hS) rfl rfl (S.up1 hS) (by omega) ?_; intro a2 c2 H5 hS; replace hS := S.dn1 hS; replace hS := S.drop hS); refine wpD_cons ?_; refine op1_nilchk rfl rfl ?_; refine wpD_cons ?_; refine op1_faddr0 rfl rfl ?_; refine wpD_cons ?_; (refine op1_store1S rfl rfl (by (conv => lhs; whnf) <;> rfl) rfl rfl (S.up4 hS) rfl ?_; intro H6 hS; replace hS := S.dn4 hS); refine wpD_nil ?_; refine dk_of ?_ ?_; (iterate 4 refine chk_skip ?_); refine chk_cons 7 rfl rfl rfl ?_ ?_; refine chkFs_cons 4 rfl rfl ?_ ?_; exact chk_load rfl (by exact S.g5 (by assumption)) rfl rfl; exact chkFs_nil; refine chk_cons 6 rfl rfl rfl ?_ ?_; refine chkFs_cons 4 rfl rfl ?_ ?_; exact chk_loadN rfl (by exact S.g4 (by assumption)) rfl rfl rfl; exact chkFs_nil; (iterate 5 refine chk_skip ?_); exact chk_end; refine seq_normal ?_; refine zsr ?_; refine zw1 ?_; refine zw1 ?_; refine zns ?_; refine wp_ret ?_; refine ret_of ?_; refine rk_tmp (by (conv => lhs; whnf) <;> rfl) ?_; refine rk_tmp (by (conv => lhs; whnf) <;> rfl) ?_; refine rk_nil ?_
  refine ⟨rfl, ?_⟩
  rw [if_pos rfl]
  have h9 := S.many_snoc (S.up1 (S.up2 (dgA_of (w := d) (S.up2 hS))))
  have ef : (css ++ [[Value.int .i64 d.fr, .int .i64 d.to, .slice a1 d.data.length c1]]).flatten = css.flatten ++ [.int .i64 d.fr, .int .i64 d.to, .slice a1 d.data.length c1] := by simp
  have h10 := S.up1 h9
  have h11 := S.arrI (css := css ++ [[.int .i64 d.fr, .int .i64 d.to, .slice a1 d.data.length c1]]) (v := .slice a2 (s.q.length + 1) c2) (by rw [ef]; exact h10) (fun c hc => by
    simp only [List.mem_append, List.mem_singleton] at hc
    rcases hc with hc | rfl
    · exact hcss c hc
    · rfl)
  exact closePo (s := { s with q := s.q ++ [d] }) (S.up1 (S.drop (S.up1 h11)))
theorem L19 {B H : AHeap} {As : List Asn} {p : Nat} {s : Po} {d : Dg} {a : Option Addr} {c : Nat} {r : List Nat} (hr : RdS B 1 (.slice a d.data.length c) (u8s d.data) r) (hlt : ∀ b ∈ r, b < B.next) (hq : s.q.length ≤ 1000) (hql : s.q.length ≤ s.lim) (hS : S B H (repPo p s :: As)) :
    wpF C 19 [.pointer (some ⟨p, 0, none⟩), .agg ⟨[.int .i64 d.fr, .int .i64 d.to, .slice a d.data.length c]⟩] H fun v H' => v = .tuple ⟨[.bool (s.putR d).1, .int .i64 (s.putR d).2]⟩ ∧ S B H' (repPo p (s.put d) :: As) := by
  obtain ⟨vq, hO⟩ := openPo hS
  obtain ⟨aq, cq, rfl, hqc⟩ := S.arrShape (S.up1 hO) (by decide)
  refine wpF_ofW o19 rfl rfl ?_
  clear hS
  have hS := hO
  clear hO
  unfold Po.put
  refine zsr ?_; refine wpO_cons ?_; refine op1_boxNS rfl rfl rfl hS ?_; intro p1 H1 hS; refine zw1 ?_; refine zw1 ?_; refine zns ?_; refine wp_seq ?_; refine zsr ?_; refine wpO_cons ?_; refine op1_faddr0 rfl rfl ?_; refine wpO_cons ?_; refine op1_load rfl rfl (by exact S.g0 hS) rfl ?_; refine wpO_cons ?_; refine op1_lss rfl rfl rfl ?_; refine zw1 ?_; refine wpO_cons ?_
  refine op1_dec rfl (fun g1 => ?_) (fun g1 => ?_)
  · have e : s.putR d = (false, 34) := by unfold Po.putR; rw [if_pos (by omega)]
    rw [e]
    refine op1_skip rfl ?_; refine wpO_cons ?_; refine op1_skip rfl ?_; refine wpO_cons ?_; refine op1_skip rfl ?_; refine wpO_cons ?_; refine op1_pick_t rfl rfl (by (conv => lhs; whnf) <;> rfl) ?_; refine zw1 ?_; refine wpO_cons ?_; refine op1_skip rfl ?_; refine wpO_cons ?_; refine op1_skip rfl ?_; refine wpO_cons ?_; refine op1_skip rfl ?_; refine wpO_cons ?_; refine op1_pick_t rfl rfl (by (conv => lhs; whnf) <;> rfl) ?_; refine zw1 ?_; refine wpO_cons ?_; refine op1_skip rfl ?_; refine wpO_cons ?_; refine op1_skip rfl ?_; refine wpO_cons ?_; refine op1_skip rfl ?_; refine wpO_cons ?_; refine op1_pick_t rfl rfl (by (conv => lhs; whnf) <;> rfl) ?_; refine zns ?_; refine wp_true rfl ?_; refine zsr ?_; refine zw1 ?_; refine zw1 ?_; refine zns ?_; refine wp_ret ?_; refine seq_ret ?_; refine ret_of ?_; refine rk_tmp (by (conv => lhs; whnf) <;> rfl) ?_; refine rk_tmp (by (conv => lhs; whnf) <;> rfl) ?_; refine rk_nil ?_
    exact ⟨rfl, by rw [if_neg (by simp)]; exact closePo (S.drop hS)⟩
  refine op1_faddr0 rfl rfl ?_; refine wpO_cons ?_; refine op1_load rfl rfl (by exact S.g0 hS) rfl ?_; refine wpO_cons ?_; refine op1_gtr rfl rfl rfl ?_; refine wpO_cons ?_; refine op1_pick_f rfl rfl (by (conv => lhs; whnf) <;> rfl) ?_; refine zw1 ?_; refine wpO_cons ?_
  refine op1_dec rfl (fun g2 => ?_) (fun g2 => ?_)
  · have e : s.putR d = (false, 34) := by unfold Po.putR; rw [if_pos (by omega)]
    rw [e]
    refine op1_skip rfl ?_; refine wpO_cons ?_; refine op1_skip rfl ?_; refine wpO_cons ?_; refine op1_skip rfl ?_; refine wpO_cons ?_; refine op1_pick_t rfl rfl (by (conv => lhs; whnf) <;> rfl) ?_; refine zw1 ?_; refine wpO_cons ?_; refine op1_skip rfl ?_; refine wpO_cons ?_; refine op1_skip rfl ?_; refine wpO_cons ?_; refine op1_skip rfl ?_; refine wpO_cons ?_; refine op1_pick_t rfl rfl (by (conv => lhs; whnf) <;> rfl) ?_; refine zns ?_; refine wp_true rfl ?_; refine zsr ?_; refine zw1 ?_; refine zw1 ?_; refine zns ?_; refine wp_ret ?_; refine seq_ret ?_; refine ret_of ?_; refine rk_tmp (by (conv => lhs; whnf) <;> rfl) ?_; refine rk_tmp (by (conv => lhs; whnf) <;> rfl) ?_; refine rk_nil ?_
    exact ⟨rfl, by rw [if_neg (by simp)]; exact closePo (S.drop hS)⟩
  refine op1_faddr0 rfl rfl ?_; refine wpO_cons ?_; refine op1_load rfl rfl (by exact S.g0 hS) rfl ?_; refine wpO_cons ?_; refine op1_lss rfl rfl rfl ?_; refine wpO_cons ?_; refine op1_pick_f rfl rfl (by (conv => lhs; whnf) <;> rfl) ?_; refine zw1 ?_; refine wpO_cons ?_
  refine op1_dec rfl (fun g3 => ?_) (fun g3 => ?_)
  · have e : s.putR d = (false, 34) := by unfold Po.putR; rw [if_pos (by omega)]
    rw [e]
    refine op1_skip rfl ?_; refine wpO_cons ?_; refine op1_skip rfl ?_; refine wpO_cons ?_; refine op1_skip rfl ?_; refine wpO_cons ?_; refine op1_pick_t rfl rfl (by (conv => lhs; whnf) <;> rfl) ?_; refine zns ?_; refine wp_true rfl ?_; refine zsr ?_; refine zw1 ?_; refine zw1 ?_; refine zns ?_; refine wp_ret ?_; refine seq_ret ?_; refine ret_of ?_; refine rk_tmp (by (conv => lhs; whnf) <;> rfl) ?_; refine rk_tmp (by (conv => lhs; whnf) <;> rfl) ?_; refine rk_nil ?_
    exact ⟨rfl, by rw [if_neg (by simp)]; exact closePo (S.drop hS)⟩
  refine op1_faddr0 rfl rfl ?_; refine wpO_cons ?_; refine op1_load rfl rfl (by exact S.g0 hS) rfl ?_; refine wpO_cons ?_; refine op1_gtr rfl rfl rfl ?_; refine wpO_cons ?_; refine op1_pick_f rfl rfl (by (conv => lhs; whnf) <;> rfl) ?_; refine zns ?_
  refine wp_dec rfl (fun g4 => ?_) (fun g4 => ?_)
  · have e : s.putR d = (false, 34) := by unfold Po.putR; rw [if_pos (by omega)]
    rw [e]
    refine zsr ?_; refine zw1 ?_; refine zw1 ?_; refine zns ?_; refine wp_ret ?_; refine seq_ret ?_; refine ret_of ?_; refine rk_tmp (by (conv => lhs; whnf) <;> rfl) ?_; refine rk_tmp (by (conv => lhs; whnf) <;> rfl) ?_; refine rk_nil ?_
    exact ⟨rfl, by rw [if_neg (by simp)]; exact closePo (S.drop hS)⟩
  refine wp_skip ?_; refine seq_normal ?_; refine wp_seq ?_; refine zsr ?_; refine wpO_cons ?_; refine op1_faddr0 rfl rfl ?_; refine wpO_cons ?_; refine op1_load rfl rfl (by exact S.g0 hS) rfl ?_; refine wpO_cons ?_; refine op1_len rfl rfl ?_; refine wpO_cons ?_; refine op1_gtr rfl rfl rfl ?_; refine zns ?_
  refine wp_dec rfl (fun h2 => ?_) (fun h2 => ?_)
  · have e : s.putR d = (false, 20) := by unfold Po.putR; rw [if_neg (by omega), if_pos (by omega)]
    rw [e]
    refine zsr ?_; refine zw1 ?_; refine zw1 ?_; refine zns ?_; refine wp_ret ?_; refine seq_ret ?_; refine ret_of ?_; refine rk_tmp (by (conv => lhs; whnf) <;> rfl) ?_; refine rk_tmp (by (conv => lhs; whnf) <;> rfl) ?_; refine rk_nil ?_
    exact ⟨rfl, by rw [if_neg (by simp)]; exact closePo (S.drop hS)⟩
  refine wp_skip ?_; refine seq_normal ?_; refine wp_seq ?_; refine wp_seq ?_; refine wp_regionD ?_; refine wpD_cons ?_; refine op1_faddr0 rfl rfl ?_; refine wpD_cons ?_; refine op1_load rfl rfl (by exact S.g0 hS) rfl ?_; refine zd1 ?_; refine wpD_cons ?_; refine op1_nilchk rfl rfl ?_; refine wpD_cons ?_; refine op1_faddr0 rfl rfl ?_; refine wpD_cons ?_; refine op1_load rfl rfl (by exact S.g1 hS) rfl ?_; refine wpD_cons ?_; refine op1_neqI rfl rfl rfl ?_; refine wpD_nil ?_; refine dk_of ?_ ?_; refine chk_skip ?_; refine chk_cons 6 rfl rfl rfl ?_ ?_; refine chkFs_cons 0 rfl rfl ?_ ?_; exact chk_load rfl (by exact S.g0 hS) rfl rfl; exact chkFs_nil; (iterate 3 refine chk_skip ?_); refine chk_cons 2 rfl rfl rfl ?_ ?_; refine chkFs_cons 0 rfl rfl ?_ ?_; exact chk_load rfl (by exact S.g1 hS) rfl rfl; exact chkFs_nil; refine chk_skip ?_; exact chk_end; refine seq_normal ?_
  refine wp_ndec rfl (fun h3 => ?_) (fun h3 => ?_)
  · have e : s.putR d = (false, 14) := by unfold Po.putR; rw [if_neg (by omega), if_neg (by omega), if_pos h3]
    rw [e]
    refine zsr ?_; refine zw1 ?_; refine zw1 ?_; refine zns ?_; refine wp_ret ?_; refine seq_ret ?_; refine ret_of ?_; refine rk_tmp (by (conv => lhs; whnf) <;> rfl) ?_; refine rk_tmp (by (conv => lhs; whnf) <;> rfl) ?_; refine rk_nil ?_
    exact ⟨rfl, by rw [if_neg (by simp)]; exact closePo (S.drop hS)⟩
  refine wp_skip ?_; refine seq_normal ?_; refine wp_seq ?_; refine wp_seq ?_; refine wp_regionD ?_; refine zd1 ?_; refine wpD_cons ?_; refine op1_nilchk rfl rfl ?_; refine wpD_cons ?_; refine op1_faddr0 rfl rfl ?_; refine wpD_cons ?_; refine op1_load rfl rfl (by exact S.g1 hS) rfl ?_; refine wpD_cons ?_; refine op1_len rfl rfl ?_; refine zd1 ?_; refine wpD_cons ?_; refine op1_nilchk rfl rfl ?_; refine wpD_cons ?_; refine op1_faddr0 rfl rfl ?_; refine wpD_cons ?_; refine op1_load rfl rfl (by exact S.g1 hS) rfl ?_; refine wpD_cons ?_; refine op1_eqlI rfl rfl rfl ?_; refine wpD_nil ?_; refine dk_of ?_ ?_; (iterate 3 refine chk_skip ?_); refine chk_cons 7 rfl rfl rfl ?_ ?_; refine chkFs_cons 0 rfl rfl ?_ ?_; exact chk_load rfl (by exact S.g1 hS) rfl rfl; exact chkFs_nil; refine chk_cons 6 rfl rfl rfl ?_ ?_; refine chkFs_cons 0 rfl rfl ?_ ?_; exact chk_len rfl rfl; exact chkFs_nil; (iterate 3 refine chk_skip ?_); refine chk_cons 2 rfl rfl rfl ?_ ?_; refine chkFs_cons 0 rfl rfl ?_ ?_; exact chk_load rfl (by exact S.g1 hS) rfl rfl; exact chkFs_nil; refine chk_skip ?_; exact chk_end; refine seq_normal ?_
  refine wp_dec rfl (fun h4 => ?_) (fun h4 => ?_)
  · have e : s.putR d = (false, 0) := by unfold Po.putR; rw [if_neg (by omega), if_neg (by omega), if_neg (by omega), if_pos (by omega)]
    rw [e]
    refine zsr ?_; refine zw1 ?_; refine zw1 ?_; refine zns ?_; refine wp_ret ?_; refine seq_ret ?_; refine ret_of ?_; refine rk_tmp (by (conv => lhs; whnf) <;> rfl) ?_; refine rk_tmp (by (conv => lhs; whnf) <;> rfl) ?_; refine rk_nil ?_
    exact ⟨rfl, by rw [if_neg (by simp)]; exact closePo (S.drop hS)⟩
  have e : s.putR d = (true, 0) := by unfold Po.putR; rw [if_neg (by omega), if_neg (by omega), if_neg (by omega), if_neg (by omega)]
  rw [e]
  obtain ⟨css, hcss, hcl, hS⟩ := S.unarr (S.up2 hS)
  have hone := dg_one (S.up1 hS)
  refine wp_skip ?_; refine seq_normal ?_; refine wp_seq ?_; refine wp_regionD ?_; refine zd1 ?_; refine zd1 ?_; refine wpD_cons ?_; refine op1_nilchk rfl rfl ?_; refine wpD_cons ?_; refine op1_faddr0 rfl rfl ?_; refine wpD_cons ?_; refine op1_load rfl rfl (by exact S.g3 hS) rfl ?_; refine wpD_cons ?_; refine op1_faddr0 rfl rfl ?_; refine wpD_cons ?_; refine op1_load rfl rfl (by exact S.g2 hS) rfl ?_; refine wpD_cons ?_; refine op1_faddr0 rfl rfl ?_; refine wpD_cons ?_; refine op1_load rfl rfl (by exact S.g2 hS) rfl ?_; refine wpD_cons ?_; refine op1_bsliceS rfl hS ?_; refine bk_nil ?_; intro p2 H2 hS; refine wpD_cons ?_; refine op1_faddr0 rfl rfl ?_; refine wpD_cons ?_; refine op1_load rfl rfl (by exact S.g3 hS) rfl ?_; refine wpD_cons ?_
  replace hS := S.slNew (l := 0) (es := 1) hS rfl
  refine op1_appRS rfl rfl (by (conv => lhs; whnf) <;> rfl) rfl (hS.rdB hr hlt) (by simp) (u8s_one _) hS (by omega) ?_
  rw [List.nil_append, Nat.zero_add]
  intro a1 c1 H2 hS
  refine wpD_cons ?_; refine op1_build rfl ?_; refine bk_one (by (conv => lhs; whnf) <;> rfl) rfl rfl rfl ?_; refine bk_one (by (conv => lhs; whnf) <;> rfl) rfl rfl rfl ?_; refine bk_one (by (conv => lhs; whnf) <;> rfl) rfl rfl rfl ?_; refine bk_nil ?_; refine wpD_cons ?_; refine op1_bsliceS rfl hS ?_; refine bk_agg rfl rfl rfl rfl ?_; refine bk_nil ?_; intro p3 H3 hS; refine wpD_cons ?_; (refine op1_appBS rfl rfl (by (conv => lhs; whnf) <;> rfl) rfl (S.g0 hS) rfl rfl (S.up2 hS) (by omega) ?_; intro a2 c2 H4 hS; replace hS := S.dn2 hS; replace hS := S.drop hS); refine wpD_cons ?_; refine op1_nilchk rfl rfl ?_; refine wpD_cons ?_; refine op1_faddr0 rfl rfl ?_; refine wpD_cons ?_; (refine op1_store1S rfl rfl (by (conv => lhs; whnf) <;> rfl) rfl rfl (S.up4 hS) rfl ?_; intro H5 hS; replace hS := S.dn4 hS); refine wpD_nil ?_; refine dk_of ?_ ?_; (iterate 4 refine chk_skip ?_); refine chk_cons 15 rfl rfl rfl ?_ ?_; refine chkFs_cons 7 rfl rfl ?_ ?_; exact chk_load rfl (by exact S.g4 (by assumption)) rfl rfl; refine chkFs_cons 4 rfl rfl ?_ ?_; exact chk_load rfl (by exact S.g5 (by assumption)) rfl rfl; exact chkFs_nil; refine chk_skip ?_; refine chk_cons 13 rfl rfl rfl ?_ ?_; refine chkFs_cons 7 rfl rfl ?_ ?_; exact chk_load rfl (by exact S.g3 (by assumption)) rfl rfl; refine chkFs_cons 4 rfl rfl ?_ ?_; exact chk_load rfl (by exact S.g4 (by assumption)) rfl rfl; exact chkFs_nil; refine chk_skip ?_; refine chk_cons 11 rfl rfl rfl ?_ ?_; refine chkFs_cons 7 rfl rfl ?_ ?_; exact chk_load rfl (by exact S.g3 (by assumption)) rfl rfl; refine chkFs_cons 4 rfl rfl ?_ ?_; exact chk_load rfl (by exact S.g4 (by assumption)) rfl rfl; exact chkFs_nil; (iterate 2 refine chk_skip ?_); refine chk_cons 8 rfl rfl rfl ?_ ?_; refine chkFs_cons 7 rfl rfl ?_ ?_; exact chk_load rfl (by exact S.g3 (by assumption)) rfl rfl; exact chkFs_nil; (iterate 7 refine chk_skip ?_); exact chk_end; refine seq_normal ?_; refine zsr ?_; refine zw1 ?_; refine zw1 ?_; refine zns ?_; refine wp_ret ?_; refine ret_of ?_; refine rk_tmp (by (conv => lhs; whnf) <;> rfl) ?_; refine rk_tmp (by (conv => lhs; whnf) <;> rfl) ?_; refine rk_nil ?_
  refine ⟨rfl, ?_⟩
  rw [if_pos rfl]
  have h9 := S.many_snoc (S.up1 (S.up2 (dgA_of (w := d) hS)))
  have ef : (css ++ [[Value.int .i64 d.fr, .int .i64 d.to, .slice a1 d.data.length c1]]).flatten = css.flatten ++ [.int .i64 d.fr, .int .i64 d.to, .slice a1 d.data.length c1] := by simp
  have h10 := S.up1 h9
  have h11 := S.arrI (css := css ++ [[.int .i64 d.fr, .int .i64 d.to, .slice a1 d.data.length c1]]) (v := .slice a2 (s.q.length + 1) c2) (by rw [ef]; exact h10) (fun c hc => by
    simp only [List.mem_append, List.mem_singleton] at hc
    rcases hc with hc | rfl
    · exact hcss c hc
    · rfl)
  exact closePo (s := { s with q := s.q ++ [d] }) (S.up1 (S.drop (S.up1 h11)))
def Po.fst (s : Po) : Dg := s.q.headD ⟨0, 0, []⟩
def Po.tl (s : Po) : Po := { s with q := s.q.tail }
theorem L20 {B H : AHeap} {As : List Asn} {p : Nat} {s : Po} (hq : s.q.length ≤ 1000) (hS : S B H (repPo p s :: As)) :
    wpF C 20 [.pointer (some ⟨p, 0, none⟩)] H fun v H' => ∃ a c, v = .tuple ⟨[.agg ⟨[.int .i64 s.fst.fr, .int .i64 s.fst.to, .slice a s.fst.data.length c]⟩, .bool (decide (s.q ≠ []))]⟩ ∧ S B H' (sl 1 (.slice a s.fst.data.length c) (u8s s.fst.data) :: repPo p s.tl :: As) := by
  obtain ⟨vq, hO⟩ := openPo hS
  obtain ⟨aq, cq, rfl, hqc⟩ := S.arrShape (S.up1 hO) (by decide)
  refine wpF_ofW o20 rfl rfl ?_
  clear hS
  have hS := hO
  clear hO
  obtain ⟨num, lim, q⟩ := s
  simp only at hqc hq hS ⊢
  cases q with
  | nil =>
    refine zsr ?_; refine wpO_cons ?_; refine op1_allocS rfl hS ?_; intro p1 H1 hS; refine zw1 ?_; refine zns ?_; refine wp_seq ?_; refine zsr ?_; refine zw1 ?_; refine wpO_cons ?_; refine op1_bin_false rfl (by (conv => lhs; whnf) <;> rfl) (by (conv => lhs; whnf) <;> rfl) rfl ?_; refine zw1 ?_; refine zw1 ?_; refine wpO_cons ?_; refine op1_nilchk rfl rfl ?_; refine wpO_cons ?_; refine op1_faddr0 rfl rfl ?_; refine wpO_cons ?_; refine op1_load rfl rfl (by exact S.g1 hS) rfl ?_; refine wpO_cons ?_; refine op1_len rfl rfl ?_; refine wpO_cons ?_; refine op1_eqlI_s rfl rfl rfl ?_; refine wpO_cons ?_; refine op1_pick_f rfl rfl (by (conv => lhs; whnf) <;> rfl) ?_; refine zns ?_; refine wp_true rfl ?_; refine zsr ?_; refine wpO_cons ?_; refine op1_build rfl ?_; refine bk_nil ?_; refine wpO_cons ?_; (refine op1_storeNS rfl rfl (by (conv => lhs; whnf) <;> rfl) rfl rfl (S.up0 hS) (Nat.le_of_ble_eq_true rfl) ?_; intro H2 hS; replace hS := S.dn0 hS); refine zw1 ?_; refine zns ?_; refine wp_ret ?_; refine seq_ret ?_; refine ret_of ?_; refine rk_cellN rfl (by exact S.g0 hS) rfl rfl ?_; refine rk_tmp (by (conv => lhs; whnf) <;> rfl) ?_; refine rk_nil ?_
    exact ⟨none, 0, rfl, S.slNil (closePo (s := ⟨num, lim, []⟩) (S.drop hS))⟩
  | cons d q =>
    rw [List.length_cons] at hS hq hqc
    obtain ⟨css, hcss, hcl, hS⟩ := S.unarr (S.up1 hS)
    obtain ⟨cs, css, rfl, hS⟩ := S.many_uncons (S.up1 hS)
    obtain ⟨vd, rfl, hS⟩ := dgA_un hS
    obtain ⟨a1, c1, rfl⟩ := hS.u1
    obtain ⟨qb, qo, qcs, rfl, hq1, hq2, hq3, _⟩ := S.slBlk (S.up2 hS) (by simp)
    replace hS := S.up2 hS
    rw [List.flatten_cons] at hS
    refine zsr ?_; refine wpO_cons ?_; refine op1_allocS rfl hS ?_; intro p1 H1 hS; refine zw1 ?_; refine zns ?_; refine wp_seq ?_; refine zsr ?_; refine zw1 ?_; refine wpO_cons ?_; refine op1_bin_false rfl (by (conv => lhs; whnf) <;> rfl) (by (conv => lhs; whnf) <;> rfl) rfl ?_; refine zw1 ?_; refine zw1 ?_; refine wpO_cons ?_; refine op1_nilchk rfl rfl ?_; refine wpO_cons ?_; refine op1_faddr0 rfl rfl ?_; refine wpO_cons ?_; refine op1_load rfl rfl (by exact S.g4 hS) rfl ?_; refine wpO_cons ?_; refine op1_len rfl rfl ?_; refine wpO_cons ?_; refine op1_eqlI rfl rfl rfl ?_; refine wpO_cons ?_; refine op1_pick_f rfl rfl (by (conv => lhs; whnf) <;> rfl) ?_; refine zns ?_; refine wp_false rfl ?_; refine wp_skip ?_; refine seq_normal ?_; refine zsr ?_; refine zw1 ?_; refine wpO_cons ?_; refine op1_nilchk rfl rfl ?_; refine wpO_cons ?_; refine op1_faddr0 rfl rfl ?_; refine wpO_cons ?_; refine op1_load rfl rfl (by exact S.g4 hS) rfl ?_; refine wpO_cons ?_; refine op1_iaddr rfl rfl rfl (by omega) (by omega) ?_; refine wpO_cons ?_; refine op1_loadNL rfl rfl (S.up1 hS) rfl rfl (by omega) rfl ?_; refine wpO_cons ?_; refine op1_allocS rfl hS ?_; intro p2 H2 hS; refine wpO_cons ?_; (refine op1_storeNS rfl rfl (by (conv => lhs; whnf) <;> rfl) rfl rfl (S.up0 hS) (Nat.le_of_ble_eq_true rfl) ?_; intro H3 hS; replace hS := S.dn0 hS); refine zns ?_; refine zsr ?_; refine zw1 ?_; refine zw1 ?_; refine wpO_cons ?_; refine op1_nilchk rfl rfl ?_; refine wpO_cons ?_; refine op1_faddr0 rfl rfl ?_; refine wpO_cons ?_; refine op1_load rfl rfl (by exact S.g5 hS) rfl ?_; refine wpO_cons ?_
    obtain ⟨qb', qo', qcs', e1, hq4, hq5, hq6, hS⟩ := S.slBlk (S.up2 hS) (by omega)
    cases e1
    refine op1_sliceB rfl rfl hS.get (.inr rfl) (bnds_lo (i := .i64) (n := 1) (by omega) (by omega) (by omega)) (by simp) (by omega) ?_
    rw [show (1 : Int).toNat = 1 from rfl, Nat.one_mul, show q.length + 1 - 1 = q.length by omega]
    refine wpO_cons ?_; refine op1_nilchk rfl rfl ?_; refine wpO_cons ?_; refine op1_faddr0 rfl rfl ?_; refine wpO_cons ?_; (refine op1_store1S rfl rfl (by (conv => lhs; whnf) <;> rfl) rfl rfl (S.up5 hS) rfl ?_; intro H4 hS; replace hS := S.dn5 hS); refine zns ?_; refine zsr ?_; refine wpO_cons ?_; refine op1_load_3 rfl rfl (by exact S.g1 hS) rfl rfl ?_; refine wpO_cons ?_; (refine op1_storeNS rfl rfl (by (conv => lhs; whnf) <;> rfl) rfl rfl (S.up2 hS) (Nat.le_of_ble_eq_true rfl) ?_; intro H5 hS; replace hS := S.dn2 hS); refine zw1 ?_; refine zns ?_; refine wp_ret ?_; refine ret_of ?_; refine rk_cellN rfl (by exact S.g2 hS) rfl rfl ?_; refine rk_tmp (by (conv => lhs; whnf) <;> rfl) ?_; refine rk_nil ?_
    have e9 : (qcs'.drop (qo + 3)).take (q.length * 3) = css.flatten := by
      have := congrArg (List.drop 3) hq6
      rw [List.drop_take, List.drop_drop, show (q.length + 1) * 3 - 3 = q.length * 3 by omega] at this
      exact this.symm
    have h1 := S.slOf (off := qo + 3) (l := q.length) (c := cq - 1) hS (by omega) (by omega)
    rw [e9] at h1
    have h2 := S.arrI (S.up1 (S.up4 h1)) (fun c hc => hcss c (by simp [hc]))
    exact ⟨a1, c1, rfl, S.up1 (S.drop (S.up1 (S.drop (S.up1 (closePo (s := ⟨num, lim, q⟩) (S.up4 h2))))))⟩
theorem L21 {B H : AHeap} {As : List Asn} {p : Nat} {s : Po} (hq : s.q.length ≤ 1000) (hS : S B H (repPo p s :: As)) :
    wpF C 21 [.pointer (some ⟨p, 0, none⟩)] H fun v H' => ∃ a c, v = .tuple ⟨[.agg ⟨[.int .i64 s.fst.fr, .int .i64 s.fst.to, .slice a s.fst.data.length c]⟩, .bool (decide (s.q ≠ []))]⟩ ∧ S B H' (sl 1 (.slice a s.fst.data.length c) (u8s s.fst.data) :: repPo p s.tl :: As) := by
  obtain ⟨vq, hO⟩ := openPo hS
  obtain ⟨aq, cq, rfl, hqc⟩ := S.arrShape (S.up1 hO) (by decide)
  refine wpF_ofW o21 rfl rfl ?_
  clear hS
  have hS := hO
  clear hO
  obtain ⟨num, lim, q⟩ := s
  simp only at hqc hq hS ⊢
  cases q with
  | nil =>
    refine zsr ?_; refine wpO_cons ?_; refine op1_allocS rfl hS ?_; intro p1 H1 hS; refine zw1 ?_; refine zns ?_; refine wp_seq ?_; refine zsr ?_; refine zw1 ?_; refine wpO_cons ?_; refine op1_nilchk rfl rfl ?_; refine wpO_cons ?_; refine op1_faddr0 rfl rfl ?_; refine wpO_cons ?_; refine op1_load rfl rfl (by exact S.g1 hS) rfl ?_; refine wpO_cons ?_; refine op1_len rfl rfl ?_; refine wpO_cons ?_; refine op1_eqlI_s rfl rfl rfl ?_; refine zns ?_; refine wp_true rfl ?_; refine zsr ?_; refine wpO_cons ?_; refine op1_build rfl ?_; refine bk_nil ?_; refine wpO_cons ?_; (refine op1_storeNS rfl rfl (by (conv => lhs; whnf) <;> rfl) rfl rfl (S.up0 hS) (Nat.le_of_ble_eq_true rfl) ?_; intro H2 hS; replace hS := S.dn0 hS); refine zw1 ?_; refine zns ?_; refine wp_ret ?_; refine seq_ret ?_; refine ret_of ?_; refine rk_cellN rfl (by exact S.g0 hS) rfl rfl ?_; refine rk_tmp (by (conv => lhs; whnf) <;> rfl) ?_; refine rk_nil ?_
    exact ⟨none, 0, rfl, S.slNil (closePo (s := ⟨num, lim, []⟩) (S.drop hS))⟩
  | cons d q =>
    rw [List.length_cons] at hS hq hqc
    obtain ⟨css, hcss, hcl, hS⟩ := S.unarr (S.up1 hS)
    obtain ⟨cs, css, rfl, hS⟩ := S.many_uncons (S.up1 hS)
    obtain ⟨vd, rfl, hS⟩ := dgA_un hS
    obtain ⟨a1, c1, rfl⟩ := hS.u1
    obtain ⟨qb, qo, qcs, rfl, hq1, hq2, hq3, _⟩ := S.slBlk (S.up2 hS) (by simp)
    have hone := dg_one (S.up1 hS)
    have hfl : css.flatten.length = q.length * 3 := by
      have : css.length = q.length := by simpa using hcl
      rw [← this]
      exact flat_len3 css fun c hc => hcss c (by simp [hc])
    replace hS := S.up2 hS
    rw [List.flatten_cons] at hS
    refine zsr ?_; refine wpO_cons ?_; refine op1_allocS rfl hS ?_; intro p1 H1 hS; refine zw1 ?_; refine zns ?_; refine wp_seq ?_; refine zsr ?_; refine zw1 ?_; refine wpO_cons ?_; refine op1_nilchk rfl rfl ?_; refine wpO_cons ?_; refine op1_faddr0 rfl rfl ?_; refine wpO_cons ?_; refine op1_load rfl rfl (by exact S.g4 hS) rfl ?_; refine wpO_cons ?_; refine op1_len rfl rfl ?_; refine wpO_cons ?_; refine op1_eqlI rfl rfl rfl ?_; refine zns ?_; refine wp_false rfl ?_; refine wp_skip ?_; refine seq_normal ?_; refine zsr ?_; refine zw1 ?_; refine wpO_cons ?_; refine op1_nilchk rfl rfl ?_; refine wpO_cons ?_; refine op1_faddr0 rfl rfl ?_; refine wpO_cons ?_; refine op1_load rfl rfl (by exact S.g4 hS) rfl ?_; refine wpO_cons ?_; refine op1_iaddr rfl rfl rfl (by omega) (by omega) ?_; refine wpO_cons ?_; refine op1_loadNL rfl rfl (S.up1 hS) rfl rfl (by omega) rfl ?_; refine wpO_cons ?_; refine op1_allocS rfl hS ?_; intro p2 H2 hS; refine wpO_cons ?_; (refine op1_storeNS rfl rfl (by (conv => lhs; whnf) <;> rfl) rfl rfl (S.up0 hS) (Nat.le_of_ble_eq_true rfl) ?_; intro H3 hS; replace hS := S.dn0 hS); refine zns ?_; refine zsr ?_; refine zw1 ?_; refine wpO_cons ?_; refine op1_bsliceS rfl hS ?_; refine bk_nil ?_; intro p3 H4 hS; refine zw1 ?_; refine wpO_cons ?_; refine op1_nilchk rfl rfl ?_; refine wpO_cons ?_; refine op1_faddr0 rfl rfl ?_; refine wpO_cons ?_; refine op1_load rfl rfl (by exact S.g6 hS) rfl ?_; refine wpO_cons ?_
    obtain ⟨qb', qo', qcs', e1, hq4, hq5, hq6, hS⟩ := S.slBlk (S.up3 hS) (by omega)
    cases e1
    refine op1_sliceB rfl rfl hS.get (.inr rfl) (bnds_lo (i := .i64) (n := 1) (by omega) (by omega) (by omega)) (by simp) (by omega) ?_
    rw [show (1 : Int).toNat = 1 from rfl, Nat.one_mul, show q.length + 1 - 1 = q.length by omega]
    have e9 : (qcs'.drop (qo + 3)).take (q.length * 3) = css.flatten := by
      have := congrArg (List.drop 3) hq6
      rw [List.drop_take, List.drop_drop, show (q.length + 1) * 3 - 3 = q.length * 3 by omega] at this
      exact this.symm
    have hrd := RdS.blk (b := qb) (es := 3) (off := qo + 3) (l := q.length) (c := cq - 1) (cs := qcs') (e := 3) (ro := false) hS.get (by omega) (.inr rfl) (by omega)
    rw [e9] at hrd
    replace hS := S.slNew (l := 0) (es := 3) (S.up1 hS) rfl
    refine wpO_cons ?_
    refine op1_appRS rfl rfl (by (conv => lhs; whnf) <;> rfl) rfl hrd hfl hone hS (by omega) ?_
    rw [List.nil_append, Nat.zero_add]
    intro a2 c2 H4 hS
    refine wpO_cons ?_; refine op1_nilchk rfl rfl ?_; refine wpO_cons ?_; refine op1_faddr0 rfl rfl ?_; refine wpO_cons ?_; (refine op1_store1S rfl rfl (by (conv => lhs; whnf) <;> rfl) rfl rfl (S.up6 hS) rfl ?_; intro H5 hS; replace hS := S.dn6 hS); refine zns ?_; refine zsr ?_; refine wpO_cons ?_; refine op1_load_3 rfl rfl (by exact S.g2 hS) rfl rfl ?_; refine wpO_cons ?_; (refine op1_storeNS rfl rfl (by (conv => lhs; whnf) <;> rfl) rfl rfl (S.up3 hS) (Nat.le_of_ble_eq_true rfl) ?_; intro H6 hS; replace hS := S.dn3 hS); refine zw1 ?_; refine zns ?_; refine wp_ret ?_; refine ret_of ?_; refine rk_cellN rfl (by exact S.g3 hS) rfl rfl ?_; refine rk_tmp (by (conv => lhs; whnf) <;> rfl) ?_; refine rk_nil ?_
    have h2 := S.arrI (S.up1 (S.up5 hS)) (fun c hc => hcss c (by simp [hc]))
    exact ⟨a1, c1, rfl, S.up1 (S.drop (S.up1 (S.drop (S.up1 (S.drop (S.up1 (closePo (s := ⟨num, lim, q⟩) (S.up5 h2))))))))⟩
end Go.E.St
