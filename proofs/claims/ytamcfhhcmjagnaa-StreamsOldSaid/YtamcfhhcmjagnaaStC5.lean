/- A connection: Input. -/
import Derived.Test.YtamcfhhcmjagnaaStC3
namespace Go.E.St
open Go Go.E Go.Proofs.Ytamcfhhcmjagnaa Go.Proofs
set_option linter.unusedVariables false
set_option linter.unusedSimpArgs false
set_option maxRecDepth 100000
def Cn.mine (s : Cn) (g : Sg) : Bool := decide (g.num = IntKind.u32.wrap (s.first + 1)) && !decide (s.nxt = s.first)
def Cn.answered (s : Cn) (g : Sg) (now : Int) : Cn :=
  if has g.fl 8 = true ∧ has g.fl 2 = true ∧ s.mine g = true then { s with st := 9 }
  else if g.fl = 3 ∧ s.mine g = true then ({ s.greeted g with due := true } : Cn).estab.acked g.num now
  else if g.fl = 1 then { s.greeted g with nxt := s.first, run := false }
  else s
def Cn.accepts (s : Cn) (g : Sg) : Bool := has g.fl 2 && !before g.num s.una && !before s.nxt g.num
def Cn.seg1 (s : Cn) (g : Sg) : Cn := if s.st = 3 ∧ g.num ≠ s.first then s.estab else s
def Cn.seg2 (s : Cn) (g : Sg) (now : Int) : Cn := if g.num ≠ s.una then s.acked g.num now else s
def Cn.segA (s : Cn) (g : Sg) (now : Int) : Cn := if s.accepts g = true then { (s.seg1 g).seg2 g now with window := g.win } else s
def Cn.segB (s : Cn) (g : Sg) : Cn := if lenS g = 0 then s else if s.st ≠ 3 ∧ s.st ≠ 8 then ({ s with due := true } : Cn).take g else { s with due := true }
def Cn.segment (s : Cn) (g : Sg) (now : Int) : Cn := if has g.fl 8 = true then (if g.seq = s.rcv then { s with st := 9 } else s) else (s.segA g now).segB g
def Cn.inputE (s : Cn) (g : Sg) (now : Int) : Int :=
  if ¬ (0 ≤ now ∧ now ≤ 1099511627776) then 34 else if validE g ≠ 0 then validE g else if now < s.clock then 30 else if s.st = 9 then 4 else if s.st = 0 then 35 else 0
def Cn.inp (s : Cn) (g : Sg) (now : Int) : Cn :=
  if s.st = 1 then (if g.fl = 1 then s.greeted g else s) else if s.st = 2 then s.answered g now else if s.st = 8 then { s with due := s.due || decide (0 < lenS g) } else s.segment g now
def Cn.input (s : Cn) (g : Sg) (now : Int) : Cn := if s.inputE g now ≠ 0 then s else ({ s with clock := now } : Cn).inp g now
theorem seg1_f (s : Cn) (g : Sg) : (s.seg1 g).out = s.out ∧ (s.seg1 g).inc = s.inc ∧ (s.seg1 g).una = s.una ∧ (s.seg1 g).rcv = s.rcv := by
  unfold Cn.seg1; split <;> exact ⟨rfl, rfl, rfl, rfl⟩
theorem seg2_f (s : Cn) (g : Sg) (now : Int) : (s.seg2 g now).out.length ≤ s.out.length ∧ (s.seg2 g now).inc = s.inc ∧ (s.seg2 g now).rcv = s.rcv := by
  unfold Cn.seg2
  split
  · exact ⟨by show (List.drop _ s.out).length ≤ _; rw [List.length_drop]; omega, rfl, rfl⟩
  · exact ⟨Nat.le_refl _, rfl, rfl⟩
section
variable {B H : AHeap} {As : List Asn} {p : Nat} {s : Cn} {g : Sg}
theorem L70 {ad : Option Addr} {cd : Nat} {now : Int} (hok : Ok s) (hg : SgOk g) (hst : s.st = 2) (hS : S B H (repC p s :: As)) :
    wpF C 70 [ptC p, .agg ⟨sgC g (.slice ad g.data.length cd)⟩, .int .i64 now] H fun v H' => S B H' (repC p (s.answered g now) :: As) := by
  have hol := hok.out
  have hil := hok.inc
  have hf := hok.first
  have hun := hok.syn hst
  obtain ⟨ao, co, ai, ci, ho, hi, hO⟩ := openC hS
  refine wpF_ofW o70 rfl rfl ?_
  clear hS
  have hS := hO
  clear hO
  unfold cnC at hS
  unfold ptC sgC
  refine zsr ?_; refine wpO_cons ?_; refine op1_boxNS rfl rfl rfl hS ?_; intro p1 H1 hS; refine zns ?_
  refine wp_cut [6] (fun vs H' => vs = [.bool (s.mine g)] ∧ H1 = H') ?_ ?_
  · unfold Cn.mine
    refine wp_regionD ?_; refine zg ?_; refine zj (S.g0 hS) ?_; refine zd1 ?_; refine zm ?_; refine zg ?_; refine zg ?_; refine zj (S.g1 hS) ?_; refine wpD_cons ?_
    refine op1_addW rfl rfl rfl ?_
    refine wpD_cons ?_; refine op1_eqlI rfl rfl rfl ?_; refine zd1 ?_; refine wpD_cons ?_
    refine op1_dec rfl (fun h1 => ?_) (fun h1 => ?_)
    · refine op1_mov rfl (by (conv => lhs; whnf) <;> rfl) ?_; refine zm ?_; refine zg ?_; refine zg ?_; refine zj (S.g1 hS) ?_; refine zd1 ?_; refine zm ?_; refine zg ?_; refine zg ?_; refine zj (S.g1 hS) ?_; refine wpD_cons ?_; refine op1_neqI rfl rfl rfl ?_; refine wpD_cons ?_; refine op1_pick_t rfl rfl (by (conv => lhs; whnf) <;> rfl) ?_; refine zd1 ?_; refine wpD_nil ?_; refine dk_of ?_ ?_; refine chk_skip ?_; refine zx 22 ?_ ?_; refine zy 0 ?_ ?_; exact zq (S.g0 hS); exact chkFs_nil; (iterate 4 refine chk_skip ?_); refine zx 17 ?_ ?_; refine zy 0 ?_ ?_; exact zq (S.g1 hS); exact chkFs_nil; (iterate 7 refine chk_skip ?_); refine zx 9 ?_ ?_; refine zy 0 ?_ ?_; exact zq (S.g1 hS); exact chkFs_nil; (iterate 4 refine chk_skip ?_); refine zx 4 ?_ ?_; refine zy 0 ?_ ?_; exact zq (S.g1 hS); exact chkFs_nil; (iterate 3 refine chk_skip ?_); exact chk_end; refine cut1 (by (conv => lhs; whnf) <;> rfl) ?_
      rw [decide_eq_true h1, Bool.true_and]
      exact ⟨rfl, rfl⟩
    · refine op1_skip rfl ?_; (iterate 10 refine zl ?_); refine wpD_cons ?_; refine op1_pick_f rfl rfl (by (conv => lhs; whnf) <;> rfl) ?_; refine zd1 ?_; refine wpD_nil ?_; refine dk_of ?_ ?_; refine chk_skip ?_; refine zx 22 ?_ ?_; refine zy 0 ?_ ?_; exact zq (S.g0 hS); exact chkFs_nil; (iterate 4 refine chk_skip ?_); refine zx 17 ?_ ?_; refine zy 0 ?_ ?_; exact zq (S.g1 hS); exact chkFs_nil; (iterate 7 refine chk_skip ?_); refine chk_unw 9 rfl rfl rfl ?_; (iterate 4 refine chk_skip ?_); refine chk_unw 4 rfl rfl rfl ?_; (iterate 3 refine chk_skip ?_); exact chk_end; refine cut1 (by (conv => lhs; whnf) <;> rfl) ?_
      rw [decide_eq_false h1, Bool.false_and]
      exact ⟨rfl, rfl⟩
  rintro vs2 T2 H2 ⟨rfl, rfl⟩
  obtain ⟨mi, hmi⟩ : ∃ z, z = s.mine g := ⟨_, rfl⟩
  obtain ⟨f8, hf8⟩ : ∃ z, z = has g.fl 8 := ⟨_, rfl⟩
  obtain ⟨f2, hf2⟩ : ∃ z, z = has g.fl 2 := ⟨_, rfl⟩
  have hA : s.answered g now = if f8 = true ∧ f2 = true ∧ mi = true then { s with st := 9 } else if g.fl = 3 ∧ mi = true then ({ s.greeted g with due := true } : Cn).estab.acked g.num now
    else if g.fl = 1 then { s.greeted g with nxt := s.first, run := false } else s := by unfold Cn.answered; rw [← hmi, ← hf8, ← hf2]
  rw [← hmi]
  refine wp_block ?_
  refine wp_cut [29] (fun vs H' => vs = [.bool (f8 && (f2 && mi))] ∧ S B H' (pto p1 (.cells [.int .i64 g.fl, .int .u32 g.seq, .int .u32 g.num, .int .i64 g.win, .slice ad g.data.length cd] 0 false) :: pto p (.cells (cnC s (.slice ao s.out.length co) (.slice ai s.inc.length ci)) 0 false) :: sl 1 (.slice ao s.out.length co) (u8s s.out) :: sl 1 (.slice ai s.inc.length ci) (u8s s.inc) :: As)) ?_ ?_
  · refine wp_region ?_; refine wpO_cons ?_; refine op1_load_5 rfl rfl (by exact S.g0 hS) rfl rfl ?_; refine wpO_cons ?_; refine op1_call2 rfl (by (conv => lhs; whnf) <;> rfl) (by (conv => lhs; whnf) <;> rfl) ?_
    refine wpF_mono (L39 (g := g) hS) ?_
    clear hS
    rw [← hf8]
    rintro _ H2 ⟨rfl, hS⟩
    cases f8
    · refine zw1 ?_; refine zk ?_; refine zk ?_; refine zu ?_; refine zw1 ?_; refine zk ?_; refine zu ?_; refine zw1 ?_; refine wpO_nil ?_; refine cut1 (by (conv => lhs; whnf) <;> rfl) ?_
      exact ⟨rfl, hS⟩
    · refine zw1 ?_; refine wpO_cons ?_; refine op1_load_5 rfl rfl (by exact S.g0 hS) rfl rfl ?_; refine wpO_cons ?_; refine op1_call2 rfl (by (conv => lhs; whnf) <;> rfl) (by (conv => lhs; whnf) <;> rfl) ?_
      refine wpF_mono (L39 (g := g) hS) ?_
      clear hS
      rw [← hf2]
      rintro _ H2 ⟨rfl, hS⟩
      cases f2
      · refine zt ?_; refine zw1 ?_; refine zk ?_; refine zu ?_; refine zw1 ?_; refine wpO_nil ?_; refine cut1 (by (conv => lhs; whnf) <;> rfl) ?_
        exact ⟨rfl, hS⟩
      · refine zt ?_; refine zw1 ?_; refine zw1 ?_; refine zt ?_; refine zw1 ?_; refine wpO_nil ?_; refine cut1 (by (conv => lhs; whnf) <;> rfl) ?_
        exact ⟨rfl, hS⟩
  clear hS
  rintro vs3 T3 H3 ⟨rfl, hS⟩
  obtain ⟨b1, hb1⟩ : ∃ z, z = (f8 && (f2 && mi)) := ⟨_, rfl⟩
  have hA1 : (f8 = true ∧ f2 = true ∧ mi = true) ↔ b1 = true := by rw [hb1]; simp
  simp only [hA1] at hA
  rw [← hb1, hA]
  clear hA1 hb1 hA
  cases b1
  rotate_left
  · rw [if_pos rfl]
    refine wp_true rfl ?_; refine wp_region ?_; refine zw1 ?_; refine zn ?_; refine zf ?_; refine wpO_cons ?_; (refine op1_store1S rfl rfl (by (conv => lhs; whnf) <;> rfl) rfl rfl (S.up1 hS) rfl ?_; intro H2 hS; replace hS := S.dn1 hS); refine wpO_nil ?_; refine block_normal ?_; refine nrm_of ?_; refine rk_nil ?_
    exact closeC (s := { s with st := 9 }) (S.drop hS)
  rw [if_neg (by simp)]
  have h9 := closeC (s := s) (S.up3 (S.up3 (S.up3 hS)))
  clear ho hi
  refine wp_false rfl ?_; refine zsr ?_; refine zf ?_; refine zh (S.g1 h9) ?_; refine wpO_cons ?_; refine op1_eqlI rfl rfl rfl ?_; refine zw1 ?_; refine wpO_cons ?_
  refine op1_dec rfl (fun h3 => ?_) (fun h3 => ?_)
  · cases mi
    · rw [if_neg (by simp), if_neg (by omega)]
      refine op1_mov rfl (by (conv => lhs; whnf) <;> rfl) ?_; refine zt ?_; refine zw1 ?_; refine zns ?_; refine wp_false rfl ?_; refine zsr ?_; refine zf ?_; refine zh (S.g1 h9) ?_; refine wpO_cons ?_; refine op1_eqlI rfl rfl rfl ?_; refine zw1 ?_; refine zns ?_
      rw [decide_eq_false (show ¬ g.fl = 1 by omega)]
      refine wp_false rfl ?_; refine wp_skip ?_; refine block_normal ?_; refine nrm_of ?_; refine rk_nil ?_
      exact S.drop (S.up1 h9)
    · rw [if_pos ⟨h3, rfl⟩]
      refine op1_mov rfl (by (conv => lhs; whnf) <;> rfl) ?_; refine zt ?_; refine zw1 ?_; refine zns ?_; refine wp_true rfl ?_; refine zsr ?_; refine zw1 ?_; refine wpO_cons ?_; refine op1_load_5 rfl rfl (by exact S.g1 h9) rfl rfl ?_; refine wpO_cons ?_; refine op1_call2 rfl (by (conv => lhs; whnf) <;> rfl) (by (conv => lhs; whnf) <;> rfl) ?_
      refine wpF_mono (L69 (g := g) h9) ?_
      clear hS h9
      intro v4 H4 hS
      obtain ⟨ao, co, ai, ci, ho, hi, hO⟩ := openC hS
      clear hS
      have hS := hO
      clear hO
      unfold cnC at hS
      unfold Cn.greeted at hS
      dsimp only at hS
      refine zns ?_; refine zsr ?_; refine zw1 ?_; refine zn ?_; refine zf ?_; refine wpO_cons ?_; refine op1_faddr rfl rfl ?_; refine wpO_cons ?_; (refine op1_store1S rfl rfl (by (conv => lhs; whnf) <;> rfl) rfl rfl (S.up0 hS) rfl ?_; intro H2 hS; replace hS := S.dn0 hS); refine zns ?_; refine zsr ?_; refine zw1 ?_; refine wpO_cons ?_; refine op1_call1 rfl (by (conv => lhs; whnf) <;> rfl) ?_
      refine wpF_mono (L87 (closeC (s := { s.greeted g with due := true }) hS)) ?_
      clear hS
      intro v5 H5 hS
      have hnum : g.num = IntKind.u32.wrap (s.first + 1) := by
        unfold Cn.mine at hmi
        simp at hmi
        exact hmi.1
      have hnb := hg.num
      refine zns ?_; refine wp_region ?_; refine zw1 ?_; refine zf ?_; refine zh (S.g1 hS) ?_; refine zw1 ?_; refine wpO_cons ?_; refine op1_call3 rfl (by (conv => lhs; whnf) <;> rfl) (by (conv => lhs; whnf) <;> rfl) (by (conv => lhs; whnf) <;> rfl) ?_
      refine wpF_mono (L88 (num := g.num) (now := now) (s := ({ s.greeted g with due := true } : Cn).estab) hol hil hnb ?_ hS) ?_
      · unfold Cn.ackN
        show 0 ≤ if s.una = s.first then IntKind.u32.wrap (g.num - s.una) - 1 else _
        rw [if_pos hun, hun, hnum, wrap_u32, wrap_u32]
        omega
      clear hS
      intro v6 H6 hS
      refine wpO_nil ?_; refine block_normal ?_; refine nrm_of ?_; refine rk_nil ?_
      exact S.drop (S.up1 hS)
  · rw [if_neg (fun h => h3 h.1)]
    refine op1_skip rfl ?_; refine zu ?_; refine zw1 ?_; refine zns ?_; refine wp_false rfl ?_; refine zsr ?_; refine zf ?_; refine zh (S.g1 h9) ?_; refine wpO_cons ?_; refine op1_eqlI rfl rfl rfl ?_; refine zw1 ?_; refine zns ?_
    refine wp_dec rfl (fun h4 => ?_) (fun h4 => ?_)
    · rw [if_pos h4]
      refine zsr ?_; refine zw1 ?_; refine wpO_cons ?_; refine op1_load_5 rfl rfl (by exact S.g1 h9) rfl rfl ?_; refine wpO_cons ?_; refine op1_call2 rfl (by (conv => lhs; whnf) <;> rfl) (by (conv => lhs; whnf) <;> rfl) ?_
      refine wpF_mono (L69 (g := g) h9) ?_
      clear hS h9
      intro v4 H4 hS
      obtain ⟨ao, co, ai, ci, ho, hi, hO⟩ := openC hS
      clear hS
      have hS := hO
      clear hO
      unfold cnC at hS
      unfold Cn.greeted at hS
      dsimp only at hS
      refine zns ?_; refine wp_region ?_; refine zw1 ?_; refine zw1 ?_; refine zw1 ?_; refine zn ?_; refine zf ?_; refine zf ?_; refine zh (S.g0 hS) ?_; refine zn ?_; refine zf ?_; refine zf ?_; refine wpO_cons ?_; (refine op1_store1S rfl rfl (by (conv => lhs; whnf) <;> rfl) rfl rfl (S.up0 hS) rfl ?_; intro H2 hS; replace hS := S.dn0 hS); refine zn ?_; refine zf ?_; refine zf ?_; refine wpO_cons ?_; (refine op1_store1S rfl rfl (by (conv => lhs; whnf) <;> rfl) rfl rfl (S.up0 hS) rfl ?_; intro H5 hS; replace hS := S.dn0 hS); refine wpO_nil ?_; refine block_normal ?_; refine nrm_of ?_; refine rk_nil ?_
      exact S.drop (S.up1 (closeC (s := { s.greeted g with nxt := s.first, run := false }) hS))
    · rw [if_neg h4]
      refine wp_skip ?_; refine block_normal ?_; refine nrm_of ?_; refine rk_nil ?_
      exact S.drop (S.up1 h9)
theorem L72 {ad : Option Addr} {cd : Nat} {now : Int} (hok : Ok s) (hg : SgOk g) (hd : RD B As 1 (.slice ad g.data.length cd) (u8s g.data)) (hS : S B H (repC p s :: As)) :
    wpF C 72 [ptC p, .agg ⟨sgC g (.slice ad g.data.length cd)⟩, .int .i64 now] H fun v H' => S B H' (repC p (s.segment g now) :: As) := by
  have hol := hok.out
  have hil := hok.inc
  have hrc := hok.rcv
  have hdl := hg.data
  have hnb := hg.num
  have hub := hok.una
  refine wpF_ofW o72 rfl rfl ?_
  unfold ptC sgC
  refine zsr ?_; refine wpO_cons ?_; refine op1_boxNS rfl rfl rfl hS ?_; intro p1 H1 hS; refine zns ?_; refine wp_seq ?_; refine zsr ?_; refine wpO_cons ?_; refine op1_load_5 rfl rfl (by exact S.g0 hS) rfl rfl ?_; refine wpO_cons ?_; refine op1_call2 rfl (by (conv => lhs; whnf) <;> rfl) (by (conv => lhs; whnf) <;> rfl) ?_
  refine wpF_mono (L39 (g := g) hS) ?_
  clear hS
  rintro _ H2 ⟨rfl, hS⟩
  obtain ⟨f8, hf8⟩ : ∃ z, z = has g.fl 8 := ⟨_, rfl⟩
  unfold Cn.segment
  rw [← hf8]
  cases f8
  rotate_left
  · rw [if_pos rfl]
    obtain ⟨ao, co, ai, ci, ho, hi, hO⟩ := openC (S.up1 hS)
    have hS0 := hS
    clear hS
    have hS := hO
    clear hO
    unfold cnC at hS
    refine zns ?_; refine wp_true rfl ?_; refine wp_seq ?_; refine wp_seq ?_; refine wp_regionD ?_; refine zg ?_; refine zj (S.g3 hS) ?_; refine zd1 ?_; refine zm ?_; refine zg ?_; refine wpD_cons ?_; refine op1_faddr rfl rfl ?_; refine zj (S.g0 hS) ?_; refine wpD_cons ?_; refine op1_eqlI rfl rfl rfl ?_; refine wpD_nil ?_; refine dk_of ?_ ?_; refine chk_skip ?_; refine zx 7 ?_ ?_; refine zy 0 ?_ ?_; exact zq (S.g3 hS); exact chkFs_nil; (iterate 4 refine chk_skip ?_); refine zx 2 ?_ ?_; refine zy 0 ?_ ?_; exact zq (S.g0 hS); exact chkFs_nil; refine chk_skip ?_; exact chk_end; refine seq_normal ?_
    refine wp_dec rfl (fun h1 => ?_) (fun h1 => ?_)
    · rw [if_pos h1]
      refine wp_region ?_; refine zw1 ?_; refine zn ?_; refine zf ?_; refine wpO_cons ?_; (refine op1_store1S rfl rfl (by (conv => lhs; whnf) <;> rfl) rfl rfl (S.up0 hS) rfl ?_; intro H3 hS; replace hS := S.dn0 hS); refine zns ?_; refine wp_ret ?_; refine seq_ret ?_; refine ret_of ?_; refine rk_nil ?_
      exact S.drop (S.up1 (closeC (s := { s with st := 9 }) hS))
    · rw [if_neg h1]
      refine wp_skip ?_; refine seq_normal ?_; refine wp_ret ?_; refine seq_ret ?_; refine ret_of ?_; refine rk_nil ?_
      exact S.drop hS0
  rw [if_neg (by simp)]
  refine zns ?_; refine wp_false rfl ?_; refine wp_skip ?_; refine seq_normal ?_
  refine wp_cut [] (fun vs H' => vs = [] ∧ S B H' (repC p (s.segA g now) :: pto p1 (.cells [.int .i64 g.fl, .int .u32 g.seq, .int .u32 g.num, .int .i64 g.win, .slice ad g.data.length cd] 0 false) :: As)) ?_ ?_
  · obtain ⟨f2, hf2⟩ : ∃ z, z = has g.fl 2 := ⟨_, rfl⟩
    obtain ⟨b1, hb1⟩ : ∃ z, z = before g.num s.una := ⟨_, rfl⟩
    obtain ⟨b2, hb2⟩ : ∃ z, z = before s.nxt g.num := ⟨_, rfl⟩
    have hacc : s.accepts g = (f2 && !b1 && !b2) := by unfold Cn.accepts; rw [← hf2, ← hb1, ← hb2]
    unfold Cn.segA
    rw [hacc]
    obtain ⟨ao, co, ai, ci, ho, hi, hO⟩ := openC (S.up1 hS)
    clear hS
    have hS := hO
    clear hO
    unfold cnC at hS
    have hT := hS
    refine wp_seq ?_; refine wp_regionD ?_; refine wpD_cons ?_; refine op1_load_5 rfl rfl (by exact S.g3 hT) rfl rfl ?_; refine wpD_cons ?_; refine op1_call2 rfl (by (conv => lhs; whnf) <;> rfl) (by (conv => lhs; whnf) <;> rfl) ?_
    refine wpF_mono (L39 (g := g) hS) ?_
    rw [← hf2]
    rintro _ H3 ⟨rfl, hS⟩
    cases f2
    · refine zd1 ?_; (iterate 9 refine zl ?_); refine wpD_cons ?_; refine op1_pick_f rfl rfl (by (conv => lhs; whnf) <;> rfl) ?_; refine zd1 ?_; (iterate 9 refine zl ?_); refine wpD_cons ?_; refine op1_pick_f rfl rfl (by (conv => lhs; whnf) <;> rfl) ?_; refine wpD_nil ?_; refine dk_of ?_ ?_; refine zx 24 ?_ ?_; refine zy 23 ?_ ?_; exact chk_loadN rfl (by exact S.g3 hT) rfl rfl rfl; exact chkFs_nil; (iterate 3 refine chk_skip ?_); refine chk_unw 20 rfl rfl rfl ?_; (iterate 4 refine chk_skip ?_); refine chk_unw 15 rfl rfl rfl ?_; (iterate 8 refine chk_skip ?_); refine chk_unw 6 rfl rfl rfl ?_; refine chk_skip ?_; refine chk_unw 4 rfl rfl rfl ?_; (iterate 3 refine chk_skip ?_); exact chk_end; refine seq_normal ?_; refine wp_false rfl ?_; refine wp_skip ?_; refine cut0  ?_
      rw [if_neg (by simp)]
      exact ⟨rfl, closeC hS⟩
    · refine zd1 ?_; refine zg ?_; refine zj (S.g3 hS) ?_; refine zd1 ?_; refine zm ?_; refine zg ?_; refine zg ?_; refine zj (S.g0 hS) ?_; refine wpD_cons ?_; refine op1_call2 rfl (by (conv => lhs; whnf) <;> rfl) (by (conv => lhs; whnf) <;> rfl) ?_
      refine wpF_mono L10 ?_
      rw [← hb1]
      rintro _ H4 ⟨rfl, rfl⟩
      cases b1
      rotate_left
      · refine wpD_cons ?_; refine op1_not_t rfl rfl ?_; refine wpD_cons ?_; refine op1_pick_t rfl rfl (by (conv => lhs; whnf) <;> rfl) ?_; refine zd1 ?_; (iterate 9 refine zl ?_); refine wpD_cons ?_; refine op1_pick_f rfl rfl (by (conv => lhs; whnf) <;> rfl) ?_; refine wpD_nil ?_; refine dk_of ?_ ?_; refine zx 24 ?_ ?_; refine zy 23 ?_ ?_; exact chk_loadN rfl (by exact S.g3 hT) rfl rfl rfl; exact chkFs_nil; (iterate 3 refine chk_skip ?_); refine zx 20 ?_ ?_; refine zy 14 ?_ ?_; exact zq (S.g3 hS); exact chkFs_nil; (iterate 4 refine chk_skip ?_); refine zx 15 ?_ ?_; refine zy 14 ?_ ?_; exact zq (S.g0 hS); exact chkFs_nil; (iterate 8 refine chk_skip ?_); refine chk_unw 6 rfl rfl rfl ?_; refine chk_skip ?_; refine chk_unw 4 rfl rfl rfl ?_; (iterate 3 refine chk_skip ?_); exact chk_end; refine seq_normal ?_; refine wp_false rfl ?_; refine wp_skip ?_; refine cut0  ?_
        rw [if_neg (by simp)]
        exact ⟨rfl, closeC hS⟩
      refine wpD_cons ?_; refine op1_not_f rfl rfl ?_; refine wpD_cons ?_; refine op1_pick_t rfl rfl (by (conv => lhs; whnf) <;> rfl) ?_; refine zd1 ?_; refine zd1 ?_; refine zm ?_; refine zg ?_; refine zg ?_; refine zj (S.g0 hS) ?_; refine zg ?_; refine zj (S.g3 hS) ?_; refine wpD_cons ?_; refine op1_call2 rfl (by (conv => lhs; whnf) <;> rfl) (by (conv => lhs; whnf) <;> rfl) ?_
      refine wpF_mono L10 ?_
      rw [← hb2]
      rintro _ H5 ⟨rfl, rfl⟩
      cases b2
      rotate_left
      · refine wpD_cons ?_; refine op1_not_t rfl rfl ?_; refine wpD_cons ?_; refine op1_pick_t rfl rfl (by (conv => lhs; whnf) <;> rfl) ?_; refine wpD_nil ?_; refine dk_of ?_ ?_; refine zx 24 ?_ ?_; refine zy 23 ?_ ?_; exact chk_loadN rfl (by exact S.g3 hT) rfl rfl rfl; exact chkFs_nil; (iterate 3 refine chk_skip ?_); refine zx 20 ?_ ?_; refine zy 14 ?_ ?_; exact zq (S.g3 hS); exact chkFs_nil; (iterate 4 refine chk_skip ?_); refine zx 15 ?_ ?_; refine zy 14 ?_ ?_; exact zq (S.g0 hS); exact chkFs_nil; (iterate 8 refine chk_skip ?_); refine zx 6 ?_ ?_; refine zy 3 ?_ ?_; exact zq (S.g0 hS); exact chkFs_nil; refine chk_skip ?_; refine zx 4 ?_ ?_; refine zy 3 ?_ ?_; exact zq (S.g3 hS); exact chkFs_nil; (iterate 3 refine chk_skip ?_); exact chk_end; refine seq_normal ?_; refine wp_false rfl ?_; refine wp_skip ?_; refine cut0  ?_
        rw [if_neg (by simp)]
        exact ⟨rfl, closeC hS⟩
      rw [if_pos (by simp)]
      refine wpD_cons ?_; refine op1_not_f rfl rfl ?_; refine wpD_cons ?_; refine op1_pick_t rfl rfl (by (conv => lhs; whnf) <;> rfl) ?_; refine wpD_nil ?_; refine dk_of ?_ ?_; refine zx 24 ?_ ?_; refine zy 23 ?_ ?_; exact chk_loadN rfl (by exact S.g3 hT) rfl rfl rfl; exact chkFs_nil; (iterate 3 refine chk_skip ?_); refine zx 20 ?_ ?_; refine zy 14 ?_ ?_; exact zq (S.g3 hS); exact chkFs_nil; (iterate 4 refine chk_skip ?_); refine zx 15 ?_ ?_; refine zy 14 ?_ ?_; exact zq (S.g0 hS); exact chkFs_nil; (iterate 8 refine chk_skip ?_); refine zx 6 ?_ ?_; refine zy 3 ?_ ?_; exact zq (S.g0 hS); exact chkFs_nil; refine chk_skip ?_; refine zx 4 ?_ ?_; refine zy 3 ?_ ?_; exact zq (S.g3 hS); exact chkFs_nil; (iterate 3 refine chk_skip ?_); exact chk_end; refine seq_normal ?_; refine wp_true rfl ?_
      have hS0 := closeC (s := s) hS
      refine wp_cut [] (fun vs H' => vs = [] ∧ S B H' (repC p (s.seg1 g) :: pto p1 (.cells [.int .i64 g.fl, .int .u32 g.seq, .int .u32 g.num, .int .i64 g.win, .slice ad g.data.length cd] 0 false) :: As)) ?_ ?_
      · unfold Cn.seg1
        refine wp_seq ?_; refine wp_regionD ?_; refine zd1 ?_; refine zm ?_; refine zg ?_; refine zj (S.g0 hS) ?_; refine wpD_cons ?_; refine op1_eqlI rfl rfl rfl ?_; refine zd1 ?_; refine wpD_cons ?_
        refine op1_dec rfl (fun h1 => ?_) (fun h1 => ?_)
        · refine op1_faddr0 rfl rfl ?_; refine zj (S.g1 hS0) ?_; refine zd1 ?_; refine zm ?_; refine zg ?_; refine zg ?_; refine zj (S.g0 hS) ?_; refine wpD_cons ?_; refine op1_neqI rfl rfl rfl ?_; refine wpD_cons ?_; refine op1_pick_t rfl rfl (by (conv => lhs; whnf) <;> rfl) ?_; refine wpD_nil ?_; refine dk_of ?_ ?_; (iterate 3 refine chk_skip ?_); refine zx 12 ?_ ?_; refine zy 0 ?_ ?_; exact zq (S.g0 hS); exact chkFs_nil; (iterate 3 refine chk_skip ?_); refine zx 8 ?_ ?_; refine zy 0 ?_ ?_; exact zq (S.g1 hS0); exact chkFs_nil; (iterate 4 refine chk_skip ?_); refine zx 3 ?_ ?_; refine zy 0 ?_ ?_; exact zq (S.g0 hS); exact chkFs_nil; (iterate 2 refine chk_skip ?_); exact chk_end; refine seq_normal ?_
          refine wp_ndec rfl (fun h2 => ?_) (fun h2 => ?_)
          · rw [if_pos ⟨h1, h2⟩]
            refine wp_region ?_; refine zw1 ?_; refine wpO_cons ?_; refine op1_call1 rfl (by (conv => lhs; whnf) <;> rfl) ?_
            refine wpF_mono (L87 hS0) ?_
            intro v6 H6 hS
            refine wpO_nil ?_; refine cut0  ?_
            exact ⟨rfl, hS⟩
          · rw [if_neg (fun h => h.2 h2)]
            refine wp_skip ?_; refine cut0  ?_
            exact ⟨rfl, hS0⟩
        · rw [if_neg (fun h => h1 h.1)]
          refine op1_skip rfl ?_; (iterate 7 refine zl ?_); refine wpD_cons ?_; refine op1_pick_f rfl rfl (by (conv => lhs; whnf) <;> rfl) ?_; refine wpD_nil ?_; refine dk_of ?_ ?_; (iterate 3 refine chk_skip ?_); refine zx 12 ?_ ?_; refine zy 0 ?_ ?_; exact zq (S.g0 hS); exact chkFs_nil; (iterate 3 refine chk_skip ?_); refine chk_unw 8 rfl rfl rfl ?_; (iterate 4 refine chk_skip ?_); refine chk_unw 3 rfl rfl rfl ?_; (iterate 2 refine chk_skip ?_); exact chk_end; refine seq_normal ?_; refine wp_false rfl ?_; refine wp_skip ?_; refine cut0  ?_
          exact ⟨rfl, hS0⟩
      clear hS hS0 hT
      rintro vs4 T4 H6 ⟨rfl, hS⟩
      obtain ⟨s1, hs1⟩ : ∃ z, z = s.seg1 g := ⟨_, rfl⟩
      have hs1f : s1.out.length ≤ 4096 ∧ s1.inc.length ≤ 4096 ∧ (0 ≤ s1.una ∧ s1.una ≤ 4294967295) := by
        rw [hs1]; unfold Cn.seg1; split
        · exact ⟨hol, hil, hub⟩
        · exact ⟨hol, hil, hub⟩
      rw [← hs1] at hS ⊢
      skip
      refine wp_cut [] (fun vs H' => vs = [] ∧ S B H' (repC p (s1.seg2 g now) :: pto p1 (.cells [.int .i64 g.fl, .int .u32 g.seq, .int .u32 g.num, .int .i64 g.win, .slice ad g.data.length cd] 0 false) :: As)) ?_ ?_
      · unfold Cn.seg2
        have hS0 := hS
        obtain ⟨ao, co, ai, ci, ho, hi, hO⟩ := openC hS
        clear hS
        have hS := hO
        clear hO
        unfold cnC at hS
        refine wp_seq ?_; refine wp_regionD ?_; refine zg ?_; refine zj (S.g3 hS) ?_; refine zd1 ?_; refine zm ?_; refine zg ?_; refine zg ?_; refine zj (S.g0 hS) ?_; refine wpD_cons ?_; refine op1_neqI rfl rfl rfl ?_; refine wpD_nil ?_; refine dk_of ?_ ?_; refine chk_skip ?_; refine zx 7 ?_ ?_; refine zy 0 ?_ ?_; exact zq (S.g3 hS); exact chkFs_nil; (iterate 4 refine chk_skip ?_); refine zx 2 ?_ ?_; refine zy 0 ?_ ?_; exact zq (S.g0 hS); exact chkFs_nil; refine chk_skip ?_; exact chk_end; refine seq_normal ?_
        refine wp_ndec rfl (fun h2 => ?_) (fun h2 => ?_)
        · rw [if_pos h2]
          refine wp_region ?_; refine zw1 ?_; refine zf ?_; refine zh (S.g3 hS) ?_; refine zw1 ?_; refine wpO_cons ?_; refine op1_call3 rfl (by (conv => lhs; whnf) <;> rfl) (by (conv => lhs; whnf) <;> rfl) (by (conv => lhs; whnf) <;> rfl) ?_
          refine wpF_mono (L88 (now := now) (num := g.num) hs1f.1 hs1f.2.1 hnb ?_ hS0) ?_
          · have := hs1f.2.2
            unfold Cn.ackN
            split <;> (rw [wrap_u32]; omega)
          intro v6 H7 hS
          refine wpO_nil ?_; refine cut0  ?_
          exact ⟨rfl, hS⟩
        · rw [if_neg (fun h => h h2)]
          refine wp_skip ?_; refine cut0  ?_
          exact ⟨rfl, hS0⟩
      clear hS
      rintro vs5 T5 H7 ⟨rfl, hS⟩
      obtain ⟨s2, hs2⟩ : ∃ z, z = s1.seg2 g now := ⟨_, rfl⟩
      rw [← hs2] at hS ⊢
      obtain ⟨ao, co, ai, ci, ho, hi, hO⟩ := openC hS
      clear hS
      have hS := hO
      clear hO
      unfold cnC at hS
      refine wp_region ?_; refine zw1 ?_; refine zf ?_; refine zh (S.g3 hS) ?_; refine zn ?_; refine zf ?_; refine zf ?_; refine wpO_cons ?_; (refine op1_store1S rfl rfl (by (conv => lhs; whnf) <;> rfl) rfl rfl (S.up0 hS) rfl ?_; intro H4 hS; replace hS := S.dn0 hS); refine wpO_nil ?_; refine cut0  ?_
      exact ⟨rfl, closeC (s := { s2 with window := g.win }) hS⟩
  clear hS
  rintro vs3 T3 H3 ⟨rfl, hS⟩
  obtain ⟨s3, hs3⟩ : ∃ z, z = s.segA g now := ⟨_, rfl⟩
  have h3f : s3.out.length ≤ 4096 ∧ s3.inc.length ≤ 4096 ∧ (0 ≤ s3.rcv ∧ s3.rcv ≤ 4294967295) := by
    rw [hs3]; unfold Cn.segA
    obtain ⟨e1, e2, e3, e4⟩ := seg1_f s g
    obtain ⟨e5, e6, e7⟩ := seg2_f (s.seg1 g) g now
    split
    · exact ⟨by show ((s.seg1 g).seg2 g now).out.length ≤ _; rw [e1] at e5; omega, by show ((s.seg1 g).seg2 g now).inc.length ≤ _; rw [e6, e2]; exact hil, by show 0 ≤ ((s.seg1 g).seg2 g now).rcv ∧ _; rw [e7, e4]; exact hrc⟩
    · exact ⟨hol, hil, hrc⟩
  rw [← hs3] at hS ⊢
  unfold Cn.segB
  refine wp_seq ?_; refine zsr ?_; refine wpO_cons ?_; refine op1_load_5 rfl rfl (by exact S.g1 hS) rfl rfl ?_; refine wpO_cons ?_; refine op1_call1 rfl (by (conv => lhs; whnf) <;> rfl) ?_
  refine wpF_mono (L71 (g := g) (by omega) hS) ?_
  clear hS
  rintro _ H4 ⟨rfl, hS⟩
  refine wpO_cons ?_; refine op1_eqlI rfl rfl rfl ?_; refine zns ?_
  refine wp_dec rfl (fun h1 => ?_) (fun h1 => ?_)
  · rw [if_pos h1]
    refine wp_ret ?_; refine seq_ret ?_; refine ret_of ?_; refine rk_nil ?_
    exact S.drop (S.up1 hS)
  rw [if_neg h1]
  obtain ⟨ao, co, ai, ci, ho, hi, hO⟩ := openC hS
  clear hS
  have hS := hO
  clear hO
  unfold cnC at hS
  refine wp_skip ?_; refine seq_normal ?_; refine zsr ?_; refine zw1 ?_; refine zn ?_; refine zf ?_; refine wpO_cons ?_; refine op1_faddr rfl rfl ?_; refine wpO_cons ?_; (refine op1_store1S rfl rfl (by (conv => lhs; whnf) <;> rfl) rfl rfl (S.up0 hS) rfl ?_; intro H5 hS; replace hS := S.dn0 hS); refine zns ?_; refine zsr ?_; refine zw1 ?_; refine zn ?_; refine zf ?_; refine zh (S.g0 hS) ?_; refine wpO_cons ?_; refine op1_neqI rfl rfl rfl ?_; refine zw1 ?_; refine wpO_cons ?_
  refine op1_ndec rfl (fun h2 => ?_) (fun h2 => ?_)
  rotate_left
  · rw [if_neg (fun h => h.1 h2)]
    refine op1_skip rfl ?_; (iterate 4 refine zk ?_); refine zu ?_; refine zns ?_; refine wp_false rfl ?_; refine wp_skip ?_; refine nrm_of ?_; refine rk_nil ?_
    exact S.drop (S.up1 (closeC (s := { s3 with due := true }) hS))
  refine op1_mov rfl (by (conv => lhs; whnf) <;> rfl) ?_; refine zn ?_; refine zf ?_; refine zh (S.g0 hS) ?_; refine wpO_cons ?_; refine op1_neqI rfl rfl rfl ?_; refine zt ?_; refine zns ?_
  refine wp_ndec rfl (fun h3 => ?_) (fun h3 => ?_)
  rotate_left
  · rw [if_neg (fun h => h.2 h3)]
    refine wp_skip ?_; refine nrm_of ?_; refine rk_nil ?_
    exact S.drop (S.up1 (closeC (s := { s3 with due := true }) hS))
  rw [if_pos ⟨h2, h3⟩]
  refine wp_region ?_; refine zw1 ?_; refine wpO_cons ?_; refine op1_load_5 rfl rfl (by exact S.g3 hS) rfl rfl ?_; refine wpO_cons ?_; refine op1_call2 rfl (by (conv => lhs; whnf) <;> rfl) (by (conv => lhs; whnf) <;> rfl) ?_
  refine wpF_mono (L89 (s := { s3 with due := true }) (g := g) h3f.1 h3f.2.1 h3f.2.2 hg (RD.cons hd) (closeC (s := { s3 with due := true }) hS)) ?_
  clear hS
  intro v5 H5 hS
  refine wpO_nil ?_; refine nrm_of ?_; refine rk_nil ?_
  exact S.drop (S.up1 hS)
theorem L38 {ad : Option Addr} {cd : Nat} {now : Int} (hok : Ok s) (hnb : (0 ≤ g.seq ∧ g.seq ≤ 4294967295) ∧ 0 ≤ g.num ∧ g.num ≤ 4294967295) (hd : RD B As 1 (.slice ad g.data.length cd) (u8s g.data)) (hS : S B H (repC p s :: As)) :
    wpF C 38 [ptC p, .agg ⟨sgC g (.slice ad g.data.length cd)⟩, .int .i64 now] H fun v H' => v = .int .i64 (s.inputE g now) ∧ S B H' (repC p (s.input g now) :: As) := by
  have hcl := hok.clock
  refine wpF_ofW o38 rfl rfl ?_
  unfold ptC sgC
  refine zsr ?_; refine wpO_cons ?_; refine op1_boxNS rfl rfl rfl hS ?_; intro p1 H1 hS; refine zw1 ?_; refine zns ?_; refine wp_seq ?_; refine zsr ?_; refine zw1 ?_; refine wpO_cons ?_; refine op1_bin_false rfl (by (conv => lhs; whnf) <;> rfl) (by (conv => lhs; whnf) <;> rfl) rfl ?_; refine zns ?_; refine wp_false rfl ?_; refine wp_skip ?_; refine seq_normal ?_; refine wp_seq ?_; refine zsr ?_; refine zw1 ?_; refine wpO_cons ?_; refine op1_call1 rfl (by (conv => lhs; whnf) <;> rfl) ?_
  refine wpF_mono L68 ?_
  rintro _ H2 ⟨rfl, rfl⟩
  by_cases h1 : 0 ≤ now ∧ now ≤ 1099511627776
  rotate_left
  · have e : s.inputE g now = 34 := by unfold Cn.inputE; rw [if_pos h1]
    have e2 : s.input g now = s := by unfold Cn.input; rw [e, if_pos (by decide)]
    rw [decide_eq_false h1, e, e2]
    refine wpO_cons ?_; refine op1_not_f rfl rfl ?_; refine zns ?_; refine wp_true rfl ?_; refine zsr ?_; refine zw1 ?_; refine zns ?_; refine wp_ret ?_; refine seq_ret ?_; refine ret_of ?_; refine zr ?_; refine rk_nil ?_
    exact ⟨rfl, S.drop hS⟩
  rw [decide_eq_true h1]
  refine wpO_cons ?_; refine op1_not_t rfl rfl ?_; refine zns ?_; refine wp_false rfl ?_; refine wp_skip ?_; refine seq_normal ?_; refine wp_seq ?_; refine zsr ?_; refine wpO_cons ?_; refine op1_load_5 rfl rfl (by exact S.g0 hS) rfl rfl ?_; refine wpO_cons ?_; refine op1_call1 rfl (by (conv => lhs; whnf) <;> rfl) ?_
  refine wpF_mono (L12 (g := g) hS) ?_
  clear hS
  rintro _ H2 ⟨rfl, hS⟩
  refine zw1 ?_; refine zns ?_; refine zsr ?_; refine zw1 ?_; refine wpO_cons ?_; refine op1_neqI rfl rfl rfl ?_; refine zns ?_
  refine wp_ndec rfl (fun h2 => ?_) (fun h2 => ?_)
  · have e : s.inputE g now = validE g := by unfold Cn.inputE; rw [if_neg (fun h => h h1), if_pos h2]
    have e2 : s.input g now = s := by unfold Cn.input; rw [e, if_pos h2]
    rw [e, e2]
    refine zsr ?_; refine zw1 ?_; refine zw1 ?_; refine zns ?_; refine wp_ret ?_; refine seq_ret ?_; refine ret_of ?_; refine zr ?_; refine rk_nil ?_
    exact ⟨rfl, S.drop hS⟩
  obtain ⟨ao, co, ai, ci, ho, hi, hO⟩ := openC (S.up1 hS)
  have hS0 := hS
  clear hS
  have hS := hO
  clear hO
  unfold cnC at hS
  refine wp_skip ?_; refine seq_normal ?_; refine wp_seq ?_; refine wp_block ?_; refine zsr ?_; refine zw1 ?_; refine zw1 ?_; refine zn ?_; refine zf ?_; refine zh (S.g0 hS) ?_; refine wpO_cons ?_; refine op1_lss rfl rfl rfl ?_; refine zw1 ?_; refine zns ?_
  refine wp_dec rfl (fun h3 => ?_) (fun h3 => ?_)
  · have e : s.inputE g now = 30 := by unfold Cn.inputE; rw [if_neg (fun h => h h1), if_neg (fun h => h h2), if_pos h3]
    have e2 : s.input g now = s := by unfold Cn.input; rw [e, if_pos (by decide)]
    rw [e, e2]
    refine zsr ?_; refine zw1 ?_; refine zns ?_; refine wp_ret ?_; refine block_ret ?_; refine seq_ret ?_; refine ret_of ?_; refine zr ?_; refine rk_nil ?_
    exact ⟨rfl, S.drop hS0⟩
  refine zsr ?_; refine zw1 ?_; refine zn ?_; refine zf ?_; refine zh (S.g0 hS) ?_; refine wpO_cons ?_; refine op1_eqlI rfl rfl rfl ?_; refine zw1 ?_; refine zns ?_
  refine wp_dec rfl (fun h4 => ?_) (fun h4 => ?_)
  · have e : s.inputE g now = 4 := by unfold Cn.inputE; rw [if_neg (fun h => h h1), if_neg (fun h => h h2), if_neg h3, if_pos h4]
    have e2 : s.input g now = s := by unfold Cn.input; rw [e, if_pos (by decide)]
    rw [e, e2]
    refine zsr ?_; refine zw1 ?_; refine zns ?_; refine wp_ret ?_; refine block_ret ?_; refine seq_ret ?_; refine ret_of ?_; refine zr ?_; refine rk_nil ?_
    exact ⟨rfl, S.drop hS0⟩
  refine zsr ?_; refine zw1 ?_; refine zn ?_; refine zf ?_; refine zh (S.g0 hS) ?_; refine wpO_cons ?_; refine op1_eqlI rfl rfl rfl ?_; refine zw1 ?_; refine zns ?_
  refine wp_dec rfl (fun h5 => ?_) (fun h5 => ?_)
  · have e : s.inputE g now = 35 := by unfold Cn.inputE; rw [if_neg (fun h => h h1), if_neg (fun h => h h2), if_neg h3, if_neg h4, if_pos h5]
    have e2 : s.input g now = s := by unfold Cn.input; rw [e, if_pos (by decide)]
    rw [e, e2]
    refine zsr ?_; refine zw1 ?_; refine zns ?_; refine wp_ret ?_; refine block_ret ?_; refine seq_ret ?_; refine ret_of ?_; refine zr ?_; refine rk_nil ?_
    exact ⟨rfl, S.drop hS0⟩
  have e : s.inputE g now = 0 := by unfold Cn.inputE; rw [if_neg (fun h => h h1), if_neg (fun h => h h2), if_neg h3, if_neg h4, if_neg h5]
  obtain ⟨c, hc⟩ : ∃ c : Cn, c = { s with clock := now } := ⟨_, rfl⟩
  have e2 : s.input g now = c.inp g now := by unfold Cn.input; rw [e, if_neg (by decide), hc]
  have hg : SgOk g := by
    have hv : validE g = 0 := h2
    unfold validE at hv
    split at hv
    · omega
    split at hv
    · omega
    split at hv
    · omega
    exact ⟨by omega, hnb.1, hnb.2, by omega, by omega⟩
  have hokc : Ok c := by
    rw [hc]
    exact ⟨hok.first, hok.una, hok.nxt, hok.rcv, hok.size, hok.window, hok.out, hok.inc, hok.pat, hok.tmo, hok.since, by show 0 ≤ now ∧ _; omega, hok.reps, hok.st, hok.syn⟩
  rw [e, e2]
  unfold Cn.inp
  have hst : c.st = s.st := by rw [hc]
  rw [hst]
  refine wp_skip ?_; refine block_normal ?_; refine seq_normal ?_; refine zsr ?_; refine zw1 ?_; refine zw1 ?_; refine zn ?_; refine zf ?_; refine wpO_cons ?_; (refine op1_store1S rfl rfl (by (conv => lhs; whnf) <;> rfl) rfl rfl (S.up0 hS) rfl ?_; intro H3 hS; replace hS := S.dn0 hS); refine zns ?_; refine wp_seq ?_; refine zsr ?_; refine zw1 ?_; refine zn ?_; refine zf ?_; refine zh (S.g0 hS) ?_; refine zns ?_; refine wp_block ?_; refine zsr ?_; refine wpO_cons ?_; refine op1_eqlI rfl rfl rfl ?_; refine zw1 ?_; refine zns ?_
  have hS1 := closeC (s := { s with clock := now }) hS
  rw [← hc] at hS1
  clear hS0
  refine wp_dec rfl (fun h6 => ?_) (fun h6 => ?_)
  · rw [if_pos h6]
    refine zsr ?_; refine zf ?_; refine zh (S.g1 hS1) ?_; refine wpO_cons ?_; refine op1_eqlI rfl rfl rfl ?_; refine zns ?_
    refine wp_dec rfl (fun h7 => ?_) (fun h7 => ?_)
    · rw [if_pos h7]
      refine wp_region ?_; refine zw1 ?_; refine wpO_cons ?_; refine op1_load_5 rfl rfl (by exact S.g1 hS1) rfl rfl ?_; refine wpO_cons ?_; refine op1_call2 rfl (by (conv => lhs; whnf) <;> rfl) (by (conv => lhs; whnf) <;> rfl) ?_
      refine wpF_mono (L69 (g := g) hS1) ?_
      clear hS1 hS
      intro v4 H4 hS
      refine wpO_nil ?_; refine block_normal ?_; refine seq_normal ?_; refine zsr ?_; refine zw1 ?_; refine zns ?_; refine wp_ret ?_; refine ret_of ?_; refine zr ?_; refine rk_nil ?_
      exact ⟨rfl, S.drop (S.up1 hS)⟩
    · rw [if_neg h7]
      refine wp_skip ?_; refine block_normal ?_; refine seq_normal ?_; refine zsr ?_; refine zw1 ?_; refine zns ?_; refine wp_ret ?_; refine ret_of ?_; refine zr ?_; refine rk_nil ?_
      exact ⟨rfl, S.drop (S.up1 hS1)⟩
  rw [if_neg h6]
  refine zsr ?_; refine wpO_cons ?_; refine op1_eqlI rfl rfl rfl ?_; refine zw1 ?_; refine zns ?_
  refine wp_dec rfl (fun h7 => ?_) (fun h7 => ?_)
  · rw [if_pos h7]
    refine wp_region ?_; refine zw1 ?_; refine wpO_cons ?_; refine op1_load_5 rfl rfl (by exact S.g1 hS1) rfl rfl ?_; refine zw1 ?_; refine wpO_cons ?_; refine op1_call3 rfl (by (conv => lhs; whnf) <;> rfl) (by (conv => lhs; whnf) <;> rfl) (by (conv => lhs; whnf) <;> rfl) ?_
    refine wpF_mono (L70 (g := g) (now := now) hokc hg (by rw [hst]; exact h7) hS1) ?_
    clear hS1 hS
    intro v4 H4 hS
    refine wpO_nil ?_; refine block_normal ?_; refine seq_normal ?_; refine zsr ?_; refine zw1 ?_; refine zns ?_; refine wp_ret ?_; refine ret_of ?_; refine zr ?_; refine rk_nil ?_
    exact ⟨rfl, S.drop (S.up1 hS)⟩
  rw [if_neg h7]
  refine zsr ?_; refine wpO_cons ?_; refine op1_eqlI rfl rfl rfl ?_; refine zw1 ?_; refine zns ?_
  refine wp_dec rfl (fun h8 => ?_) (fun h8 => ?_)
  · rw [if_pos h8]
    refine wp_region ?_; refine zw1 ?_; refine zw1 ?_; refine zn ?_; refine zf ?_; refine wpO_cons ?_; refine op1_faddr rfl rfl ?_; refine zh (S.g0 hS) ?_; refine zw1 ?_; refine wpO_cons ?_
    obtain ⟨du, hdu⟩ : ∃ z, z = s.due := ⟨_, rfl⟩
    have hcd : c.due = du := by rw [hc, hdu]
    rw [hcd, ← hdu]
    cases du
    · refine op1_load_5 rfl rfl (by exact S.g1 hS1) rfl rfl ?_; refine wpO_cons ?_; refine op1_call1 rfl (by (conv => lhs; whnf) <;> rfl) ?_
      refine wpF_mono (L71 (g := g) (by have := hg.data; omega) hS) ?_
      clear hS hS1
      rintro _ H4 ⟨rfl, hS⟩
      refine wpO_cons ?_; refine op1_gtr rfl rfl rfl ?_; refine zu ?_; refine zn ?_; refine zf ?_; refine wpO_cons ?_; refine op1_faddr rfl rfl ?_; refine wpO_cons ?_; (refine op1_store1S rfl rfl (by (conv => lhs; whnf) <;> rfl) rfl rfl (S.up0 hS) rfl ?_; intro H5 hS; replace hS := S.dn0 hS); refine wpO_nil ?_; refine block_normal ?_; refine seq_normal ?_; refine zsr ?_; refine zw1 ?_; refine zns ?_; refine wp_ret ?_; refine ret_of ?_; refine zr ?_; refine rk_nil ?_
      rw [hc, Bool.false_or]
      exact ⟨rfl, S.drop (S.up1 (closeC (s := { s with clock := now, due := decide (0 < lenS g) }) hS))⟩
    · refine op1_skip rfl ?_; refine zk ?_; refine zk ?_; refine zt ?_; refine zn ?_; refine zf ?_; refine wpO_cons ?_; refine op1_faddr rfl rfl ?_; refine wpO_cons ?_; (refine op1_store1S rfl rfl (by (conv => lhs; whnf) <;> rfl) rfl rfl (S.up0 hS) rfl ?_; intro H4 hS; replace hS := S.dn0 hS); refine wpO_nil ?_; refine block_normal ?_; refine seq_normal ?_; refine zsr ?_; refine zw1 ?_; refine zns ?_; refine wp_ret ?_; refine ret_of ?_; refine zr ?_; refine rk_nil ?_
      rw [hc, Bool.true_or]
      exact ⟨rfl, S.drop (S.up1 (closeC (s := { s with clock := now, due := true }) hS))⟩
  rw [if_neg h8]
  refine wp_region ?_; refine zw1 ?_; refine wpO_cons ?_; refine op1_load_5 rfl rfl (by exact S.g1 hS1) rfl rfl ?_; refine zw1 ?_; refine wpO_cons ?_; refine op1_call3 rfl (by (conv => lhs; whnf) <;> rfl) (by (conv => lhs; whnf) <;> rfl) (by (conv => lhs; whnf) <;> rfl) ?_
  refine wpF_mono (L72 (g := g) (now := now) hokc hg (RD.cons hd) hS1) ?_
  clear hS1 hS
  intro v4 H4 hS
  refine wpO_nil ?_; refine block_normal ?_; refine seq_normal ?_; refine zsr ?_; refine zw1 ?_; refine zns ?_; refine wp_ret ?_; refine ret_of ?_; refine zr ?_; refine rk_nil ?_
  exact ⟨rfl, S.drop (S.up1 hS)⟩
end
end Go.E.St
