/- A connection: segments: flags, lengths, what is acknowledged. -/
import Derived.Test.YtamcfhhcmjagnaaStC1
namespace Go.E.St
open Go Go.E Go.Proofs.Ytamcfhhcmjagnaa Go.Proofs
set_option linter.unusedVariables false
set_option linter.unusedSimpArgs false
set_option maxRecDepth 100000
structure Sg where
  fl : Int
  seq : Int
  num : Int
  win : Int
  data : List Int
def sgC (g : Sg) (vd : Value) : List Value := [.int .i64 g.fl, .int .u32 g.seq, .int .u32 g.num, .int .i64 g.win, vd]
def has (f k : Int) : Bool := !decide (bitAnd .i64 f k = 0)
def badF (f : Int) : Bool := (has f 1 && has f 12) || !has f 11
def validE (g : Sg) : Int := if g.fl < 0 ∨ 15 < g.fl then 17 else if g.win < 0 ∨ 4096 < g.win then 34 else if 256 < g.data.length then 20 else if badF g.fl = true then 14 else 0
def b2n (b : Bool) : Int := if b = true then 1 else 0
def lenS (g : Sg) : Int := g.data.length + b2n (has g.fl 1) + b2n (has g.fl 4)
def before (a b : Int) : Bool := decide (IntKind.i32.wrap (IntKind.u32.wrap (a - b)) < 0)
structure SgOk (g : Sg) : Prop where
  fl : 0 ≤ g.fl ∧ g.fl ≤ 15
  seq : 0 ≤ g.seq ∧ g.seq ≤ 4294967295
  num : 0 ≤ g.num ∧ g.num ≤ 4294967295
  win : 0 ≤ g.win ∧ g.win ≤ 4096
  data : g.data.length ≤ 256
theorem b2n_b (b : Bool) : 0 ≤ b2n b ∧ b2n b ≤ 1 := by cases b <;> decide
def Cn.greeted (s : Cn) (g : Sg) : Cn := { s with st := 3, rcv := IntKind.u32.wrap (g.seq + 1), synced := true, window := g.win }
def Cn.estab (s : Cn) : Cn := { s with st := if s.asked = true then 5 else 4 }
def Cn.ackN (s : Cn) (num : Int) : Int := if s.una = s.first then IntKind.u32.wrap (num - s.una) - 1 else IntKind.u32.wrap (num - s.una)
def Cn.ackF (s : Cn) (num : Int) : Bool := s.finGone || decide ((s.out.length : Int) < s.ackN num)
def Cn.acked (s : Cn) (num now : Int) : Cn := { s with out := s.out.drop (min (s.ackN num) s.out.length).toNat, una := num, reps := 0, tmo := s.pat, run := (!decide (num = s.nxt)), since := now, finGone := s.ackF num, st := if s.ackF num = true ∧ s.st = 7 then 8 else s.st }
section
variable {B H : AHeap} {As : List Asn} {p : Nat} {s : Cn} {g : Sg}
theorem L10 {a b : Int} : wpF C 10 [.int .u32 a, .int .u32 b] H fun v H' => v = .bool (before a b) ∧ H = H' := by
  refine wpF_ofW o10 rfl rfl ?_
  unfold before
  refine zsr ?_; refine zw1 ?_; refine zns ?_; refine zsr ?_; refine zw1 ?_; refine zw1 ?_; refine wpO_cons ?_
  refine op1_subW rfl rfl rfl ?_
  refine wpO_cons ?_
  refine op1_convIntW rfl rfl ?_
  refine wpO_cons ?_; refine op1_lss rfl rfl rfl ?_; refine zw1 ?_; refine zns ?_; refine wp_ret ?_; refine ret_of ?_; refine zr ?_; refine rk_nil ?_
  exact ⟨rfl, rfl⟩
theorem L39 {ad : Option Addr} {ld cd : Nat} {k : Int} (hS : S B H As) : wpF C 39 [.agg ⟨sgC g (.slice ad ld cd)⟩, .int .i64 k] H fun v H' => v = .bool (has g.fl k) ∧ S B H' As := by
  refine wpF_ofW o39 rfl rfl ?_
  unfold has sgC
  refine zsr ?_; refine wpO_cons ?_; refine op1_boxNS rfl rfl rfl hS ?_; intro p1 H1 hS; refine zw1 ?_; refine zns ?_; refine zsr ?_; refine zf ?_; refine zh (S.g0 hS) ?_; refine zw1 ?_; refine wpO_cons ?_; refine op1_and rfl rfl rfl ?_; refine wpO_cons ?_; refine op1_neqI rfl rfl rfl ?_; refine zw1 ?_; refine zns ?_; refine wp_ret ?_; refine ret_of ?_; refine zr ?_; refine rk_nil ?_
  exact ⟨rfl, S.drop hS⟩
theorem L71 {ad : Option Addr} {cd : Nat} (hl : g.data.length ≤ 4096) (hS : S B H As) : wpF C 71 [.agg ⟨sgC g (.slice ad g.data.length cd)⟩] H fun v H' => v = .int .u32 (lenS g) ∧ S B H' As := by
  refine wpF_ofW o71 rfl rfl ?_
  unfold lenS sgC
  refine zsr ?_; refine wpO_cons ?_; refine op1_boxNS rfl rfl rfl hS ?_; intro p1 H1 hS; refine zw1 ?_; refine zns ?_; refine zsr ?_; refine zf ?_; refine zh (S.g0 hS) ?_; refine wpO_cons ?_; refine op1_len rfl rfl ?_; refine wpO_cons ?_
  refine op1_convInt rfl rfl (by rw [wrap_u32]; omega) ?_
  refine zw1 ?_; refine zns ?_; refine wp_seq ?_; refine zsr ?_; refine wpO_cons ?_; refine op1_load_5 rfl rfl (by exact S.g0 hS) rfl rfl ?_; refine wpO_cons ?_; refine op1_call2 rfl (by (conv => lhs; whnf) <;> rfl) (by (conv => lhs; whnf) <;> rfl) ?_
  refine wpF_mono (L39 (g := g) hS) ?_
  clear hS
  rintro _ H2 ⟨rfl, hS⟩
  obtain ⟨h1, hh1⟩ : ∃ z, z = has g.fl 1 := ⟨_, rfl⟩
  obtain ⟨h4, hh4⟩ : ∃ z, z = has g.fl 4 := ⟨_, rfl⟩
  rw [← hh1, ← hh4]
  cases h1 <;> cases h4
  · refine zns ?_; refine wp_false rfl ?_; refine wp_skip ?_; refine seq_normal ?_; refine wp_seq ?_; refine zsr ?_; refine wpO_cons ?_; refine op1_load_5 rfl rfl (by exact S.g0 hS) rfl rfl ?_; refine wpO_cons ?_; refine op1_call2 rfl (by (conv => lhs; whnf) <;> rfl) (by (conv => lhs; whnf) <;> rfl) ?_
    refine wpF_mono (L39 (g := g) hS) ?_
    rw [← hh4]
    clear hS
    rintro _ H3 ⟨rfl, hS⟩
    refine zns ?_; refine wp_false rfl ?_; refine wp_skip ?_; refine seq_normal ?_; refine zsr ?_; refine zw1 ?_; refine zw1 ?_; refine zns ?_; refine wp_ret ?_; refine ret_of ?_; refine zr ?_; refine rk_nil ?_
    exact ⟨rfl, S.drop hS⟩
  · refine zns ?_; refine wp_false rfl ?_; refine wp_skip ?_; refine seq_normal ?_; refine wp_seq ?_; refine zsr ?_; refine wpO_cons ?_; refine op1_load_5 rfl rfl (by exact S.g0 hS) rfl rfl ?_; refine wpO_cons ?_; refine op1_call2 rfl (by (conv => lhs; whnf) <;> rfl) (by (conv => lhs; whnf) <;> rfl) ?_
    refine wpF_mono (L39 (g := g) hS) ?_
    rw [← hh4]
    clear hS
    rintro _ H3 ⟨rfl, hS⟩
    refine zns ?_; refine wp_true rfl ?_; refine wp_region ?_; refine zw1 ?_; refine wpO_cons ?_
    refine op1_add rfl rfl rfl (by rw [wrap_u32]; omega) ?_
    refine zw1 ?_; refine zns ?_; refine zsr ?_; refine zw1 ?_; refine zw1 ?_; refine zns ?_; refine wp_ret ?_; refine ret_of ?_; refine zr ?_; refine rk_nil ?_
    exact ⟨rfl, S.drop hS⟩
  · refine zns ?_; refine wp_true rfl ?_; refine wp_region ?_; refine zw1 ?_; refine wpO_cons ?_
    refine op1_add rfl rfl rfl (by rw [wrap_u32]; omega) ?_
    refine zw1 ?_; refine zns ?_; refine wp_seq ?_; refine zsr ?_; refine wpO_cons ?_; refine op1_load_5 rfl rfl (by exact S.g0 hS) rfl rfl ?_; refine wpO_cons ?_; refine op1_call2 rfl (by (conv => lhs; whnf) <;> rfl) (by (conv => lhs; whnf) <;> rfl) ?_
    refine wpF_mono (L39 (g := g) hS) ?_
    rw [← hh4]
    clear hS
    rintro _ H3 ⟨rfl, hS⟩
    refine zns ?_; refine wp_false rfl ?_; refine wp_skip ?_; refine seq_normal ?_; refine zsr ?_; refine zw1 ?_; refine zw1 ?_; refine zns ?_; refine wp_ret ?_; refine ret_of ?_; refine zr ?_; refine rk_nil ?_
    exact ⟨rfl, S.drop hS⟩
  · refine zns ?_; refine wp_true rfl ?_; refine wp_region ?_; refine zw1 ?_; refine wpO_cons ?_
    refine op1_add rfl rfl rfl (by rw [wrap_u32]; omega) ?_
    refine zw1 ?_; refine zns ?_; refine wp_seq ?_; refine zsr ?_; refine wpO_cons ?_; refine op1_load_5 rfl rfl (by exact S.g0 hS) rfl rfl ?_; refine wpO_cons ?_; refine op1_call2 rfl (by (conv => lhs; whnf) <;> rfl) (by (conv => lhs; whnf) <;> rfl) ?_
    refine wpF_mono (L39 (g := g) hS) ?_
    rw [← hh4]
    clear hS
    rintro _ H3 ⟨rfl, hS⟩
    refine zns ?_; refine wp_true rfl ?_; refine wp_region ?_; refine zw1 ?_; refine wpO_cons ?_
    refine op1_add rfl rfl rfl (by rw [wrap_u32]; omega) ?_
    refine zw1 ?_; refine zns ?_; refine zsr ?_; refine zw1 ?_; refine zw1 ?_; refine zns ?_; refine wp_ret ?_; refine ret_of ?_; refine zr ?_; refine rk_nil ?_
    exact ⟨rfl, S.drop hS⟩
theorem L12 {ad : Option Addr} {cd : Nat} (hS : S B H As) : wpF C 12 [.agg ⟨sgC g (.slice ad g.data.length cd)⟩] H fun v H' => v = .int .i64 (validE g) ∧ S B H' As := by
  refine wpF_ofW o12 rfl rfl ?_
  unfold validE sgC
  refine zsr ?_; refine wpO_cons ?_; refine op1_boxNS rfl rfl rfl hS ?_; intro p1 H1 hS; refine zw1 ?_; refine zns ?_; refine wp_seq ?_; refine wp_block ?_; refine zsr ?_; refine zf ?_; refine zh (S.g0 hS) ?_; refine wpO_cons ?_; refine op1_lss rfl rfl rfl ?_; refine zw1 ?_; refine wpO_cons ?_
  refine op1_dec rfl (fun h1 => ?_) (fun h1 => ?_)
  · rw [if_pos (.inl h1)]
    refine op1_skip rfl ?_; refine zk ?_; refine zk ?_; refine zt ?_; refine zw1 ?_; refine zns ?_; refine wp_true rfl ?_; refine zsr ?_; refine zw1 ?_; refine zns ?_; refine wp_ret ?_; refine block_ret ?_; refine seq_ret ?_; refine ret_of ?_; refine zr ?_; refine rk_nil ?_
    exact ⟨rfl, S.drop hS⟩
  refine op1_faddr0 rfl rfl ?_; refine zh (S.g0 hS) ?_; refine wpO_cons ?_; refine op1_gtr rfl rfl rfl ?_; refine zu ?_; refine zw1 ?_; refine zns ?_
  refine wp_dec rfl (fun h2 => ?_) (fun h2 => ?_)
  · rw [if_pos (.inr h2)]
    refine zsr ?_; refine zw1 ?_; refine zns ?_; refine wp_ret ?_; refine block_ret ?_; refine seq_ret ?_; refine ret_of ?_; refine zr ?_; refine rk_nil ?_
    exact ⟨rfl, S.drop hS⟩
  rw [if_neg (by omega)]
  refine zsr ?_; refine zf ?_; refine zh (S.g0 hS) ?_; refine wpO_cons ?_; refine op1_lss rfl rfl rfl ?_; refine zw1 ?_; refine wpO_cons ?_
  refine op1_dec rfl (fun h3 => ?_) (fun h3 => ?_)
  · rw [if_pos (.inl h3)]
    refine op1_skip rfl ?_; refine zk ?_; refine zk ?_; refine zt ?_; refine zw1 ?_; refine zns ?_; refine wp_true rfl ?_; refine zsr ?_; refine zw1 ?_; refine zns ?_; refine wp_ret ?_; refine block_ret ?_; refine seq_ret ?_; refine ret_of ?_; refine zr ?_; refine rk_nil ?_
    exact ⟨rfl, S.drop hS⟩
  refine op1_faddr0 rfl rfl ?_; refine zh (S.g0 hS) ?_; refine wpO_cons ?_; refine op1_gtr rfl rfl rfl ?_; refine zu ?_; refine zw1 ?_; refine zns ?_
  refine wp_dec rfl (fun h4 => ?_) (fun h4 => ?_)
  · rw [if_pos (.inr h4)]
    refine zsr ?_; refine zw1 ?_; refine zns ?_; refine wp_ret ?_; refine block_ret ?_; refine seq_ret ?_; refine ret_of ?_; refine zr ?_; refine rk_nil ?_
    exact ⟨rfl, S.drop hS⟩
  rw [if_neg (by omega)]
  refine zsr ?_; refine zf ?_; refine zh (S.g0 hS) ?_; refine wpO_cons ?_; refine op1_len rfl rfl ?_; refine wpO_cons ?_; refine op1_gtr rfl rfl rfl ?_; refine zw1 ?_; refine zns ?_
  refine wp_dec rfl (fun h5 => ?_) (fun h5 => ?_)
  · rw [if_pos (by omega)]
    refine zsr ?_; refine zw1 ?_; refine zns ?_; refine wp_ret ?_; refine block_ret ?_; refine seq_ret ?_; refine ret_of ?_; refine zr ?_; refine rk_nil ?_
    exact ⟨rfl, S.drop hS⟩
  rw [if_neg (by omega)]
  unfold badF
  refine zsr ?_; refine wpO_cons ?_; refine op1_load_5 rfl rfl (by exact S.g0 hS) rfl rfl ?_; refine wpO_cons ?_; refine op1_call2 rfl (by (conv => lhs; whnf) <;> rfl) (by (conv => lhs; whnf) <;> rfl) ?_
  refine wpF_mono (L39 (g := g) hS) ?_
  clear hS
  rintro _ H2 ⟨rfl, hS⟩
  obtain ⟨k1, hk1⟩ : ∃ z, z = has g.fl 1 := ⟨_, rfl⟩
  obtain ⟨k12, hk12⟩ : ∃ z, z = has g.fl 12 := ⟨_, rfl⟩
  obtain ⟨k11, hk11⟩ : ∃ z, z = has g.fl 11 := ⟨_, rfl⟩
  rw [← hk1, ← hk12, ← hk11]
  unfold has at hk12 hk11
  cases k1
  · refine zw1 ?_; (iterate 4 refine zk ?_); refine zu ?_; refine zw1 ?_; refine zf ?_; refine zh (S.g0 hS) ?_; refine wpO_cons ?_; refine op1_and rfl rfl rfl ?_; refine wpO_cons ?_; refine op1_eqlI rfl rfl rfl ?_; refine zu ?_; refine zw1 ?_; refine zns ?_
    rw [show decide (bitAnd .i64 g.fl 11 = 0) = !k11 by rw [hk11, Bool.not_not]]
    cases k11
    · refine wp_true rfl ?_; refine zsr ?_; refine zw1 ?_; refine zns ?_; refine wp_ret ?_; refine block_ret ?_; refine seq_ret ?_; refine ret_of ?_; refine zr ?_; refine rk_nil ?_
      exact ⟨rfl, S.drop hS⟩
    · refine wp_false rfl ?_; refine wp_skip ?_; refine block_normal ?_; refine seq_normal ?_; refine zsr ?_; refine zw1 ?_; refine zns ?_; refine wp_ret ?_; refine ret_of ?_; refine zr ?_; refine rk_nil ?_
      exact ⟨rfl, S.drop hS⟩
  · refine zw1 ?_; refine zf ?_; refine zh (S.g0 hS) ?_; refine wpO_cons ?_; refine op1_and rfl rfl rfl ?_; refine wpO_cons ?_; refine op1_neqI rfl rfl rfl ?_; refine zt ?_; refine zw1 ?_; refine wpO_cons ?_
    refine op1_ndec rfl (fun h6 => ?_) (fun h6 => ?_)
    · rw [decide_eq_false h6] at hk12
      rw [hk12]
      refine op1_skip rfl ?_; (iterate 3 refine zk ?_); refine zt ?_; refine zw1 ?_; refine zns ?_; refine wp_true rfl ?_; refine zsr ?_; refine zw1 ?_; refine zns ?_; refine wp_ret ?_; refine block_ret ?_; refine seq_ret ?_; refine ret_of ?_; refine zr ?_; refine rk_nil ?_
      exact ⟨rfl, S.drop hS⟩
    · rw [decide_eq_true h6] at hk12
      rw [hk12]
      refine op1_faddr0 rfl rfl ?_; refine zh (S.g0 hS) ?_; refine wpO_cons ?_; refine op1_and rfl rfl rfl ?_; refine wpO_cons ?_; refine op1_eqlI rfl rfl rfl ?_; refine zu ?_; refine zw1 ?_; refine zns ?_
      rw [show decide (bitAnd .i64 g.fl 11 = 0) = !k11 by rw [hk11, Bool.not_not]]
      cases k11
      · refine wp_true rfl ?_; refine zsr ?_; refine zw1 ?_; refine zns ?_; refine wp_ret ?_; refine block_ret ?_; refine seq_ret ?_; refine ret_of ?_; refine zr ?_; refine rk_nil ?_
        exact ⟨rfl, S.drop hS⟩
      · refine wp_false rfl ?_; refine wp_skip ?_; refine block_normal ?_; refine seq_normal ?_; refine zsr ?_; refine zw1 ?_; refine zns ?_; refine wp_ret ?_; refine ret_of ?_; refine zr ?_; refine rk_nil ?_
        exact ⟨rfl, S.drop hS⟩
theorem L87 (hS : S B H (repC p s :: As)) : wpF C 87 [ptC p] H fun v H' => S B H' (repC p s.estab :: As) := by
  obtain ⟨ao, co, ai, ci, ho, hi, hO⟩ := openC hS
  refine wpF_ofW o87 rfl rfl ?_
  clear hS
  have hS := hO
  clear hO
  unfold cnC at hS
  unfold ptC
  refine zsr ?_; refine zw1 ?_; refine zn ?_; refine zf ?_; refine wpO_cons ?_; (refine op1_store1S rfl rfl (by (conv => lhs; whnf) <;> rfl) rfl rfl (S.up0 hS) rfl ?_; intro H1 hS; replace hS := S.dn0 hS); refine zns ?_; refine zsr ?_; refine zw1 ?_; refine zn ?_; refine zf ?_; refine zf ?_; refine zh (S.g0 hS) ?_; refine zns ?_
  obtain ⟨as_, has⟩ : ∃ z, z = s.asked := ⟨_, rfl⟩
  rw [← has]
  cases as_
  · refine wp_false rfl ?_; refine wp_skip ?_; refine nrm_of ?_; refine rk_nil ?_
    have e : s.estab = { s with st := 4 } := by unfold Cn.estab; rw [← has]; rfl
    rw [e]
    exact closeC (s := { s with st := 4 }) hS
  · refine wp_true rfl ?_; refine wp_region ?_; refine zw1 ?_; refine zn ?_; refine zf ?_; refine wpO_cons ?_; (refine op1_store1S rfl rfl (by (conv => lhs; whnf) <;> rfl) rfl rfl (S.up0 hS) rfl ?_; intro H2 hS; replace hS := S.dn0 hS); refine wpO_nil ?_; refine nrm_of ?_; refine rk_nil ?_
    have e : s.estab = { s with st := 5 } := by unfold Cn.estab; rw [← has]; rfl
    rw [e]
    exact closeC (s := { s with st := 5 }) hS
theorem L69 {ad : Option Addr} {ld cd : Nat} (hS : S B H (repC p s :: As)) : wpF C 69 [ptC p, .agg ⟨sgC g (.slice ad ld cd)⟩] H fun v H' => S B H' (repC p (s.greeted g) :: As) := by
  obtain ⟨ao, co, ai, ci, ho, hi, hO⟩ := openC hS
  refine wpF_ofW o69 rfl rfl ?_
  clear hS
  have hS := hO
  clear hO
  unfold cnC at hS
  unfold ptC sgC
  refine zsr ?_; refine wpO_cons ?_; refine op1_boxNS rfl rfl rfl hS ?_; intro p1 H1 hS; refine zns ?_; refine wp_regionD ?_; (iterate 4 refine zd1 ?_); refine zg ?_; refine zj (S.g0 hS) ?_; refine wpD_cons ?_
  refine op1_addW rfl rfl rfl ?_
  refine zg ?_; refine zj (S.g0 hS) ?_; refine zm ?_; refine zg ?_; refine wpD_cons ?_; (refine op1_store1S rfl rfl (by (conv => lhs; whnf) <;> rfl) rfl rfl (S.up1 hS) rfl ?_; intro H2 hS; replace hS := S.dn1 hS); refine zm ?_; refine zg ?_; refine wpD_cons ?_; refine op1_faddr rfl rfl ?_; refine wpD_cons ?_; (refine op1_store1S rfl rfl (by (conv => lhs; whnf) <;> rfl) rfl rfl (S.up1 hS) rfl ?_; intro H3 hS; replace hS := S.dn1 hS); refine zm ?_; refine zg ?_; refine wpD_cons ?_; refine op1_faddr rfl rfl ?_; refine wpD_cons ?_; (refine op1_store1S rfl rfl (by (conv => lhs; whnf) <;> rfl) rfl rfl (S.up1 hS) rfl ?_; intro H4 hS; replace hS := S.dn1 hS); refine zm ?_; refine zg ?_; refine zg ?_; refine wpD_cons ?_; (refine op1_store1S rfl rfl (by (conv => lhs; whnf) <;> rfl) rfl rfl (S.up1 hS) rfl ?_; intro H5 hS; replace hS := S.dn1 hS); refine wpD_nil ?_; refine dk_of ?_ ?_; (iterate 5 refine chk_skip ?_); refine zx 19 ?_ ?_; refine zy 13 ?_ ?_; exact chk_load rfl (by exact S.g0 (by assumption)) rfl rfl; refine zy 9 ?_ ?_; exact chk_load rfl (by exact S.g0 (by assumption)) rfl rfl; exact chkFs_nil; (iterate 2 refine chk_skip ?_); refine zx 16 ?_ ?_; refine zy 13 ?_ ?_; exact chk_load rfl (by exact S.g0 (by assumption)) rfl rfl; refine zy 9 ?_ ?_; exact chk_load rfl (by exact S.g0 (by assumption)) rfl rfl; refine zy 5 ?_ ?_; exact chk_load rfl (by exact S.g0 (by assumption)) rfl rfl; refine zy 1 ?_ ?_; exact chk_load rfl (by exact S.g0 (by assumption)) rfl rfl; exact chkFs_nil; (iterate 15 refine chk_skip ?_); exact chk_end; refine nrm_of ?_; refine rk_nil ?_
  exact closeC (s := s.greeted g) (S.drop hS)
theorem L88 {num now : Int} (hol : s.out.length ≤ 4096) (hil : s.inc.length ≤ 4096) (hn : 0 ≤ num ∧ num ≤ 4294967295) (hk : 0 ≤ s.ackN num) (hS : S B H (repC p s :: As)) : wpF C 88 [ptC p, .int .u32 num, .int .i64 now] H fun v H' => S B H' (repC p (s.acked num now) :: As) := by
  obtain ⟨ao, co, ai, ci, ho, hi, hO⟩ := openC hS
  have hone : (u8s s.out).all (·.oneCell') = true := u8s_one _
  refine wpF_ofW o88 rfl rfl ?_
  clear hS
  have hS := hO
  clear hO
  unfold cnC at hS
  unfold ptC
  refine zsr ?_; refine zw1 ?_; refine zw1 ?_; refine zn ?_; refine zf ?_; refine zf ?_; refine zh (S.g0 hS) ?_; refine wpO_cons ?_
  refine op1_subW rfl rfl rfl ?_
  refine wpO_cons ?_
  obtain ⟨n0, hn0⟩ : ∃ z, z = IntKind.u32.wrap (num - s.una) := ⟨_, rfl⟩
  have hn0b : 0 ≤ n0 ∧ n0 ≤ 4294967295 := by rw [hn0, wrap_u32]; omega
  have hak : s.ackN num = if s.una = s.first then n0 - 1 else n0 := by unfold Cn.ackN; rw [← hn0]
  rw [← hn0]
  obtain ⟨n1, hn1⟩ : ∃ z, z = s.ackN num := ⟨_, rfl⟩
  rw [← hn1] at hak hk
  refine op1_convInt rfl rfl (by rw [wrap_i64 (by omega) (by omega)]) ?_
  refine zw1 ?_; refine zns ?_
  refine wp_cut [6] (fun vs H' => vs = [.int .i64 n1] ∧ H = H') ?_ ?_
  · refine wp_seq ?_; refine wp_regionD ?_; refine zd1 ?_; refine zm ?_; refine zg ?_; refine zg ?_; refine zj (S.g0 hS) ?_; refine zd1 ?_; refine zm ?_; refine zg ?_; refine zg ?_; refine zj (S.g0 hS) ?_; refine wpD_cons ?_; refine op1_eqlI rfl rfl rfl ?_; refine wpD_nil ?_; refine dk_of ?_ ?_; (iterate 4 refine chk_skip ?_); refine zx 7 ?_ ?_; refine zy 0 ?_ ?_; exact zq (S.g0 hS); exact chkFs_nil; (iterate 4 refine chk_skip ?_); refine zx 2 ?_ ?_; refine zy 0 ?_ ?_; exact zq (S.g0 hS); exact chkFs_nil; refine chk_skip ?_; exact chk_end; refine seq_normal ?_
    refine wp_dec rfl (fun h1 => ?_) (fun h1 => ?_)
    · rw [if_pos h1] at hak
      refine wp_region ?_; refine zw1 ?_; refine wpO_cons ?_; refine op1_sub rfl rfl rfl (by exact wrap_i64 (by omega) (by omega)) ?_; refine zw1 ?_; refine wpO_nil ?_; refine cut1 (by (conv => lhs; whnf) <;> rfl) ?_
      exact ⟨by rw [hak], rfl⟩
    · rw [if_neg h1] at hak
      refine wp_skip ?_; refine cut1 (by (conv => lhs; whnf) <;> rfl) ?_
      exact ⟨by rw [hak], rfl⟩
  rintro vs2 T2 H2 ⟨rfl, rfl⟩
  obtain ⟨m, hm⟩ : ∃ z : Nat, z = (min n1 s.out.length).toNat := ⟨_, rfl⟩
  have hmi : (m : Int) = min n1 s.out.length := by omega
  have hmo : m ≤ s.out.length := by omega
  obtain ⟨fg, hfg⟩ : ∃ z, z = s.ackF num := ⟨_, rfl⟩
  have hfg2 : fg = (s.finGone || decide ((s.out.length : Int) < n1)) := by rw [hfg]; unfold Cn.ackF; rw [← hn1]
  have he : s.acked num now = { s with out := s.out.drop m, una := num, reps := 0, tmo := s.pat, run := (!decide (num = s.nxt)), since := now, finGone := fg, st := if fg = true ∧ s.st = 7 then 8 else s.st } := by
    unfold Cn.acked; rw [← hfg, ← hn1, ← hm]
  skip
  refine wp_cut [6] (fun vs H' => vs = [.int .i64 m] ∧ S B H' (pto p (.cells (cnC { s with finGone := fg } (.slice ao s.out.length co) (.slice ai s.inc.length ci)) 0 false) :: sl 1 (.slice ao s.out.length co) (u8s s.out) :: sl 1 (.slice ai s.inc.length ci) (u8s s.inc) :: As)) ?_ ?_
  · refine zsr ?_; refine zw1 ?_; refine zw1 ?_; refine zn ?_; refine zf ?_; refine zf ?_; refine zh (S.g0 hS) ?_; refine wpO_cons ?_; refine op1_len rfl rfl ?_; refine wpO_cons ?_; refine op1_gtr rfl rfl rfl ?_; refine zns ?_
    refine wp_dec rfl (fun h1 => ?_) (fun h1 => ?_)
    · have e1 : fg = true := by rw [hfg2, decide_eq_true h1, Bool.or_true]
      rw [e1]
      refine wp_region ?_; refine zw1 ?_; refine zw1 ?_; refine zn ?_; refine zf ?_; refine zf ?_; refine zh (S.g0 hS) ?_; refine wpO_cons ?_; refine op1_len rfl rfl ?_; refine zw1 ?_; refine zn ?_; refine zf ?_; refine zf ?_; refine wpO_cons ?_; (refine op1_store1S rfl rfl (by (conv => lhs; whnf) <;> rfl) rfl rfl (S.up0 hS) rfl ?_; intro H1 hS; replace hS := S.dn0 hS); refine wpO_nil ?_; refine cut1 (by (conv => lhs; whnf) <;> rfl) ?_
      exact ⟨by rw [show (m : Int) = s.out.length by omega], hS⟩
    · have e1 : fg = s.finGone := by rw [hfg2, decide_eq_false h1, Bool.or_false]
      rw [e1]
      refine wp_skip ?_; refine cut1 (by (conv => lhs; whnf) <;> rfl) ?_
      exact ⟨by rw [show (m : Int) = n1 by omega], hS⟩
  clear hS
  rintro vs3 T3 H3 ⟨rfl, hS⟩
  unfold cnC at hS
  dsimp only at hS
  refine zsr ?_; refine zw1 ?_; refine zw1 ?_; refine zn ?_; refine zf ?_; refine zf ?_; refine zh (S.g0 hS) ?_; refine zw1 ?_; refine wpO_cons ?_; refine op1_call3 rfl (by (conv => lhs; whnf) <;> rfl) (by (conv => lhs; whnf) <;> rfl) (by (conv => lhs; whnf) <;> rfl) ?_
  refine wpF_mono (L67 0 m (S.up1 hS) hone (by omega) hmo (by omega)) ?_
  clear hS
  rintro _ H6 ⟨a6, c6, rfl, hS⟩
  rw [Nat.zero_mul, List.take_zero, List.nil_append, Nat.mul_one, u8s_drop, Nat.sub_zero] at hS
  rw [Nat.sub_zero]
  rw [he]
  clear he hfg hfg2
  cases fg
  · refine zn ?_; refine zf ?_; refine zf ?_; refine wpO_cons ?_; (refine op1_store1S rfl rfl (by (conv => lhs; whnf) <;> rfl) rfl rfl (S.up1 hS) rfl ?_; intro H1 hS; replace hS := S.dn1 hS); refine zns ?_; refine zsr ?_; (iterate 5 refine zw1 ?_); refine zn ?_; refine zf ?_; refine zf ?_; refine zh (S.g1 hS) ?_; refine zn ?_; refine zf ?_; refine zf ?_; refine wpO_cons ?_; (refine op1_store1S rfl rfl (by (conv => lhs; whnf) <;> rfl) rfl rfl (S.up1 hS) rfl ?_; intro H2 hS; replace hS := S.dn1 hS); refine zn ?_; refine zf ?_; refine zf ?_; refine wpO_cons ?_; (refine op1_store1S rfl rfl (by (conv => lhs; whnf) <;> rfl) rfl rfl (S.up1 hS) rfl ?_; intro H4 hS; replace hS := S.dn1 hS); refine zn ?_; refine zf ?_; refine zf ?_; refine wpO_cons ?_; (refine op1_store1S rfl rfl (by (conv => lhs; whnf) <;> rfl) rfl rfl (S.up1 hS) rfl ?_; intro H5 hS; replace hS := S.dn1 hS); refine zns ?_; refine wp_seq ?_; refine wp_regionD ?_; refine zd1 ?_; refine zd1 ?_; refine zd1 ?_; refine zm ?_; refine zg ?_; refine zg ?_; refine zj (S.g1 hS) ?_; refine zd1 ?_; refine zm ?_; refine zg ?_; refine zg ?_; refine zj (S.g1 hS) ?_; refine wpD_cons ?_; refine op1_neqI rfl rfl rfl ?_; refine zd1 ?_; refine zm ?_; refine zg ?_; refine zg ?_; refine wpD_cons ?_; (refine op1_store1S rfl rfl (by (conv => lhs; whnf) <;> rfl) rfl rfl (S.up1 hS) rfl ?_; intro H7 hS; replace hS := S.dn1 hS); refine zm ?_; refine zg ?_; refine zg ?_; refine wpD_cons ?_; (refine op1_store1S rfl rfl (by (conv => lhs; whnf) <;> rfl) rfl rfl (S.up1 hS) rfl ?_; intro H8 hS; replace hS := S.dn1 hS); refine wpD_nil ?_; refine dk_of ?_ ?_; (iterate 6 refine chk_skip ?_); refine zx 16 ?_ ?_; refine zy 5 ?_ ?_; exact chk_load rfl (by exact S.g1 (by assumption)) rfl rfl; exact chkFs_nil; (iterate 4 refine chk_skip ?_); refine zx 11 ?_ ?_; refine zy 5 ?_ ?_; exact chk_load rfl (by exact S.g1 (by assumption)) rfl rfl; exact chkFs_nil; (iterate 10 refine chk_skip ?_); exact chk_end; refine seq_normal ?_; refine zsr ?_; refine zw1 ?_; refine zn ?_; refine zf ?_; refine zf ?_; refine zh (S.g1 hS) ?_; refine zw1 ?_; (iterate 5 refine zk ?_); refine zu ?_; refine zns ?_; refine wp_false rfl ?_; refine wp_skip ?_; refine nrm_of ?_; refine rk_nil ?_
    exact closeC (s := { s with out := s.out.drop m, una := num, reps := 0, tmo := s.pat, run := (!decide (num = s.nxt)), since := now, finGone := false }) (S.up1 hS)
  · refine zn ?_; refine zf ?_; refine zf ?_; refine wpO_cons ?_; (refine op1_store1S rfl rfl (by (conv => lhs; whnf) <;> rfl) rfl rfl (S.up1 hS) rfl ?_; intro H1 hS; replace hS := S.dn1 hS); refine zns ?_; refine zsr ?_; (iterate 5 refine zw1 ?_); refine zn ?_; refine zf ?_; refine zf ?_; refine zh (S.g1 hS) ?_; refine zn ?_; refine zf ?_; refine zf ?_; refine wpO_cons ?_; (refine op1_store1S rfl rfl (by (conv => lhs; whnf) <;> rfl) rfl rfl (S.up1 hS) rfl ?_; intro H2 hS; replace hS := S.dn1 hS); refine zn ?_; refine zf ?_; refine zf ?_; refine wpO_cons ?_; (refine op1_store1S rfl rfl (by (conv => lhs; whnf) <;> rfl) rfl rfl (S.up1 hS) rfl ?_; intro H4 hS; replace hS := S.dn1 hS); refine zn ?_; refine zf ?_; refine zf ?_; refine wpO_cons ?_; (refine op1_store1S rfl rfl (by (conv => lhs; whnf) <;> rfl) rfl rfl (S.up1 hS) rfl ?_; intro H5 hS; replace hS := S.dn1 hS); refine zns ?_; refine wp_seq ?_; refine wp_regionD ?_; refine zd1 ?_; refine zd1 ?_; refine zd1 ?_; refine zm ?_; refine zg ?_; refine zg ?_; refine zj (S.g1 hS) ?_; refine zd1 ?_; refine zm ?_; refine zg ?_; refine zg ?_; refine zj (S.g1 hS) ?_; refine wpD_cons ?_; refine op1_neqI rfl rfl rfl ?_; refine zd1 ?_; refine zm ?_; refine zg ?_; refine zg ?_; refine wpD_cons ?_; (refine op1_store1S rfl rfl (by (conv => lhs; whnf) <;> rfl) rfl rfl (S.up1 hS) rfl ?_; intro H7 hS; replace hS := S.dn1 hS); refine zm ?_; refine zg ?_; refine zg ?_; refine wpD_cons ?_; (refine op1_store1S rfl rfl (by (conv => lhs; whnf) <;> rfl) rfl rfl (S.up1 hS) rfl ?_; intro H8 hS; replace hS := S.dn1 hS); refine wpD_nil ?_; refine dk_of ?_ ?_; (iterate 6 refine chk_skip ?_); refine zx 16 ?_ ?_; refine zy 5 ?_ ?_; exact chk_load rfl (by exact S.g1 (by assumption)) rfl rfl; exact chkFs_nil; (iterate 4 refine chk_skip ?_); refine zx 11 ?_ ?_; refine zy 5 ?_ ?_; exact chk_load rfl (by exact S.g1 (by assumption)) rfl rfl; exact chkFs_nil; (iterate 10 refine chk_skip ?_); exact chk_end; refine seq_normal ?_; refine zsr ?_; refine zw1 ?_; refine zn ?_; refine zf ?_; refine zf ?_; refine zh (S.g1 hS) ?_; refine zw1 ?_; refine zw1 ?_; refine zn ?_; refine zf ?_; refine zh (S.g1 hS) ?_; refine wpO_cons ?_; refine op1_eqlI rfl rfl rfl ?_; refine zt ?_; refine zns ?_
    refine wp_dec rfl (fun h1 => ?_) (fun h1 => ?_)
    · refine wp_region ?_; refine zw1 ?_; refine zn ?_; refine zf ?_; refine wpO_cons ?_; (refine op1_store1S rfl rfl (by (conv => lhs; whnf) <;> rfl) rfl rfl (S.up1 hS) rfl ?_; intro H9 hS; replace hS := S.dn1 hS); refine wpO_nil ?_; refine nrm_of ?_; refine rk_nil ?_
      rw [if_pos ⟨rfl, h1⟩]
      exact closeC (s := { s with out := s.out.drop m, una := num, reps := 0, tmo := s.pat, run := (!decide (num = s.nxt)), since := now, finGone := true, st := 8 }) (S.up1 hS)
    · refine wp_skip ?_; refine nrm_of ?_; refine rk_nil ?_
      rw [if_neg (fun h => h1 h.2)]
      exact closeC (s := { s with out := s.out.drop m, una := num, reps := 0, tmo := s.pat, run := (!decide (num = s.nxt)), since := now, finGone := true }) (S.up1 hS)
end
end Go.E.St
/- A connection: what a segment brings. -/
namespace Go.E.St
open Go Go.E Go.Proofs.Ytamcfhhcmjagnaa Go.Proofs
set_option linter.unusedVariables false
set_option linter.unusedSimpArgs false
set_option maxRecDepth 100000
def Cn.skip0 (s : Cn) (g : Sg) : Int := IntKind.u32.wrap (s.rcv - g.seq)
def Cn.tRcv (s : Cn) (g : Sg) : Int := if has g.fl 1 = true ∧ s.skip0 g = 0 then IntKind.u32.wrap (s.rcv + 1) else s.rcv
def Cn.tSkip (s : Cn) (g : Sg) : Int := if has g.fl 1 = true ∧ s.skip0 g ≠ 0 then s.skip0 g - 1 else s.skip0 g
def Cn.tDat (s : Cn) (g : Sg) : List Int := g.data.drop (min (s.tSkip g) g.data.length).toNat
def Cn.tN (s : Cn) (g : Sg) : Nat := min (s.tDat g).length (4096 - s.inc.length)
def Cn.tMid (s : Cn) (g : Sg) : Cn := { s with rcv := IntKind.u32.wrap (s.tRcv g + s.tN g), inc := s.inc ++ (s.tDat g).take (s.tN g) }
def Cn.finSt (s : Cn) : Int := if s.st = 4 then 6 else if s.st = 5 then (if s.finGone = true then 8 else 7) else s.st
def Cn.fin (s : Cn) : Cn := { s with rcv := IntKind.u32.wrap (s.rcv + 1), ended := true, st := s.finSt }
def Cn.take (s : Cn) (g : Sg) : Cn :=
  if s.ended = true ∨ before s.rcv g.seq = true ∨ lenS g ≤ s.skip0 g then s
  else if s.tN g < (s.tDat g).length ∨ has g.fl 4 = false then s.tMid g else (s.tMid g).fin
theorem fin_of (M : Cn) {x : Int} (h : M.finSt = x) : M.fin = { M with rcv := IntKind.u32.wrap (M.rcv + 1), ended := true, st := x } := by subst h; rfl
section
variable {B H : AHeap} {As : List Asn} {p : Nat} {s : Cn} {g : Sg}
theorem L89 {ad : Option Addr} {cd : Nat} (hol : s.out.length ≤ 4096) (hil : s.inc.length ≤ 4096) (hrc : 0 ≤ s.rcv ∧ s.rcv ≤ 4294967295) (hg : SgOk g) (hd : RD B As 1 (.slice ad g.data.length cd) (u8s g.data)) (hS : S B H (repC p s :: As)) :
    wpF C 89 [ptC p, .agg ⟨sgC g (.slice ad g.data.length cd)⟩] H fun v H' => S B H' (repC p (s.take g) :: As) := by
  have hS0 := hS
  obtain ⟨ao, co, ai, ci, ho, hi, hO⟩ := openC hS
  have hsq := hg.seq
  have hdl := hg.data
  refine wpF_ofW o89 rfl rfl ?_
  clear hS
  have hS := hO
  clear hO
  unfold cnC at hS
  unfold ptC sgC
  obtain ⟨k0, hk0⟩ : ∃ z, z = s.skip0 g := ⟨_, rfl⟩
  have hk0b : 0 ≤ k0 ∧ k0 ≤ 4294967295 := by rw [hk0]; unfold Cn.skip0; rw [wrap_u32]; omega
  have hln : 0 ≤ lenS g ∧ lenS g ≤ 258 := by
    have := b2n_b (has g.fl 1)
    have := b2n_b (has g.fl 4)
    unfold lenS; omega
  refine zsr ?_; refine wpO_cons ?_; refine op1_boxNS rfl rfl rfl hS ?_; intro p1 H1 hS; refine zns ?_; refine wp_seq ?_; refine wp_regionD ?_; refine zd1 ?_; refine zm ?_; refine zg ?_; refine wpD_cons ?_; refine op1_faddr rfl rfl ?_; refine zj (S.g1 hS) ?_; refine zg ?_; refine zj (S.g0 hS) ?_; refine wpD_cons ?_
  refine op1_subW rfl rfl rfl ?_
  rw [show IntKind.u32.wrap (s.rcv - g.seq) = k0 from hk0.symm]
  have htk : ∀ h : s.ended = true ∨ before s.rcv g.seq = true ∨ lenS g ≤ k0, s.take g = s := fun h => by unfold Cn.take; rw [← hk0, if_pos h]
  have htn : ∀ h : ¬ (s.ended = true ∨ before s.rcv g.seq = true ∨ lenS g ≤ k0), s.take g = if s.tN g < (s.tDat g).length ∨ has g.fl 4 = false then s.tMid g else (s.tMid g).fin := fun h => by unfold Cn.take; rw [← hk0, if_neg h]
  refine zd1 ?_; refine wpD_nil ?_; refine dk_of ?_ ?_; (iterate 4 refine chk_skip ?_); refine zx 5 ?_ ?_; refine zy 0 ?_ ?_; exact zq (S.g1 hS); exact chkFs_nil; refine chk_skip ?_; refine zx 3 ?_ ?_; refine zy 0 ?_ ?_; exact zq (S.g0 hS); exact chkFs_nil; (iterate 2 refine chk_skip ?_); exact chk_end; refine seq_normal ?_
  refine wp_cutR [] (fun vs H' => vs = [] ∧ ¬ (s.ended = true ∨ before s.rcv g.seq = true ∨ lenS g ≤ k0) ∧ S B H' (pto p1 (.cells [.int .i64 g.fl, .int .u32 g.seq, .int .u32 g.num, .int .i64 g.win, .slice ad g.data.length cd] 0 false) :: pto p (.cells (cnC s (.slice ao s.out.length co) (.slice ai s.inc.length ci)) 0 false) :: sl 1 (.slice ao s.out.length co) (u8s s.out) :: sl 1 (.slice ai s.inc.length ci) (u8s s.inc) :: As)) ?_ ?_
  · have hS1 := hS
    refine wp_seq ?_; refine wp_regionD ?_; refine zd1 ?_; refine zm ?_; refine zg ?_; refine wpD_cons ?_; refine op1_faddr rfl rfl ?_; refine zj (S.g1 hS1) ?_; refine zd1 ?_; refine wpD_cons ?_
    obtain ⟨en, hen⟩ : ∃ z, z = s.ended := ⟨_, rfl⟩
    rw [← hen]
    cases en
    · refine op1_mov rfl (by (conv => lhs; whnf) <;> rfl) ?_; refine zm ?_; refine zg ?_; refine wpD_cons ?_; refine op1_faddr rfl rfl ?_; refine zj (S.g1 hS1) ?_; refine zg ?_; refine zj (S.g0 hS1) ?_; refine wpD_cons ?_; refine op1_call2 rfl (by (conv => lhs; whnf) <;> rfl) (by (conv => lhs; whnf) <;> rfl) ?_
      refine wpF_mono L10 ?_
      rintro _ H2 ⟨rfl, rfl⟩
      obtain ⟨bf, hbf⟩ : ∃ z, z = before s.rcv g.seq := ⟨_, rfl⟩
      rw [← hbf]
      cases bf
      · refine wpD_cons ?_; refine op1_pick_f rfl rfl (by (conv => lhs; whnf) <;> rfl) ?_; refine zd1 ?_; refine zd1 ?_; refine wpD_cons ?_; refine op1_load_5 rfl rfl (by exact S.g0 hS1) rfl rfl ?_; refine wpD_cons ?_; refine op1_call1 rfl (by (conv => lhs; whnf) <;> rfl) ?_
        refine wpF_mono (L71 (g := g) (by omega) hS) ?_
        clear hS
        rintro _ H3 ⟨rfl, hS⟩
        refine wpD_cons ?_; refine op1_geq rfl rfl rfl ?_; refine wpD_cons ?_; refine op1_pick_f rfl rfl (by (conv => lhs; whnf) <;> rfl) ?_; refine wpD_nil ?_; refine dk_of ?_ ?_; (iterate 4 refine chk_skip ?_); refine zx 17 ?_ ?_; refine zy 8 ?_ ?_
        · exact chk_load rfl (S.g1 hS1) rfl (by show Value.bool false = Value.bool s.ended; rw [← hen])
        exact chkFs_nil; (iterate 5 refine chk_skip ?_); refine zx 11 ?_ ?_; refine zy 8 ?_ ?_; exact zq (S.g1 hS1); exact chkFs_nil; refine chk_skip ?_; refine zx 9 ?_ ?_; refine zy 8 ?_ ?_; exact zq (S.g0 hS1); exact chkFs_nil; (iterate 4 refine chk_skip ?_); refine zx 4 ?_ ?_; refine zy 3 ?_ ?_; exact chk_loadN rfl (by exact S.g0 hS1) rfl rfl rfl; exact chkFs_nil; (iterate 3 refine chk_skip ?_); exact chk_end; refine seq_normal ?_
        refine wp_dec rfl (fun h1 => ?_) (fun h1 => ?_)
        · rw [htk (.inr (.inr (by omega)))]
          refine wp_ret ?_
          refine cutR_ret ?_
          refine ret_of ?_; refine rk_nil ?_
          exact closeC (S.drop hS)
        · refine wp_skip ?_
          exact cutR0 ⟨rfl, (by rintro (h | h | h); cases h; cases h; omega), hS⟩
      · rw [htk (.inr (.inl hbf.symm))]
        refine wpD_cons ?_; refine op1_pick_f rfl rfl (by (conv => lhs; whnf) <;> rfl) ?_; refine zd1 ?_; (iterate 4 refine zl ?_); refine wpD_cons ?_; refine op1_pick_t rfl rfl (by (conv => lhs; whnf) <;> rfl) ?_; refine wpD_nil ?_; refine dk_of ?_ ?_; (iterate 4 refine chk_skip ?_); refine zx 17 ?_ ?_; refine zy 8 ?_ ?_
        · exact chk_load rfl (S.g1 hS1) rfl (by show Value.bool false = Value.bool s.ended; rw [← hen])
        exact chkFs_nil; (iterate 5 refine chk_skip ?_); refine zx 11 ?_ ?_; refine zy 8 ?_ ?_; exact zq (S.g1 hS1); exact chkFs_nil; refine chk_skip ?_; refine zx 9 ?_ ?_; refine zy 8 ?_ ?_; exact zq (S.g0 hS1); exact chkFs_nil; (iterate 4 refine chk_skip ?_); refine chk_unw 4 rfl rfl rfl ?_; (iterate 3 refine chk_skip ?_); exact chk_end; refine seq_normal ?_; refine wp_true rfl ?_; refine wp_ret ?_
        refine cutR_ret ?_
        refine ret_of ?_; refine rk_nil ?_
        exact closeC (S.drop hS)
    · rw [htk (.inl hen.symm)]
      refine op1_skip rfl ?_; (iterate 7 refine zl ?_); refine wpD_cons ?_; refine op1_pick_t rfl rfl (by (conv => lhs; whnf) <;> rfl) ?_; refine zd1 ?_; (iterate 4 refine zl ?_); refine wpD_cons ?_; refine op1_pick_t rfl rfl (by (conv => lhs; whnf) <;> rfl) ?_; refine wpD_nil ?_; refine dk_of ?_ ?_; (iterate 4 refine chk_skip ?_); refine zx 17 ?_ ?_; refine zy 8 ?_ ?_
      · exact chk_load rfl (S.g1 hS1) rfl (by show Value.bool true = Value.bool s.ended; rw [← hen])
      exact chkFs_nil; (iterate 5 refine chk_skip ?_); refine chk_unw 11 rfl rfl rfl ?_; refine chk_skip ?_; refine chk_unw 9 rfl rfl rfl ?_; (iterate 4 refine chk_skip ?_); refine chk_unw 4 rfl rfl rfl ?_; (iterate 3 refine chk_skip ?_); exact chk_end; refine seq_normal ?_; refine wp_true rfl ?_; refine wp_ret ?_
      refine cutR_ret ?_
      refine ret_of ?_; refine rk_nil ?_
      exact closeC (S.drop hS)
  clear hS htk
  rintro vs2 T2 H2 ⟨rfl, hno, hS⟩
  rw [htn hno]
  clear htn
  unfold cnC at hS
  obtain ⟨r1, hr1⟩ : ∃ z, z = s.tRcv g := ⟨_, rfl⟩
  obtain ⟨k1, hk1⟩ : ∃ z, z = s.tSkip g := ⟨_, rfl⟩
  skip
  refine wp_cut [4] (fun vs H' => vs = [.int .u32 k1] ∧ S B H' (pto p1 (.cells [.int .i64 g.fl, .int .u32 g.seq, .int .u32 g.num, .int .i64 g.win, .slice ad g.data.length cd] 0 false) :: pto p (.cells (cnC { s with rcv := r1 } (.slice ao s.out.length co) (.slice ai s.inc.length ci)) 0 false) :: sl 1 (.slice ao s.out.length co) (u8s s.out) :: sl 1 (.slice ai s.inc.length ci) (u8s s.inc) :: As)) ?_ ?_
  · have hr2 : r1 = if has g.fl 1 = true ∧ k0 = 0 then IntKind.u32.wrap (s.rcv + 1) else s.rcv := by rw [hr1]; unfold Cn.tRcv; rw [← hk0]
    have hk2 : k1 = if has g.fl 1 = true ∧ k0 ≠ 0 then k0 - 1 else k0 := by rw [hk1]; unfold Cn.tSkip; rw [← hk0]
    refine wp_block ?_; refine zsr ?_; refine wpO_cons ?_; refine op1_load_5 rfl rfl (by exact S.g0 hS) rfl rfl ?_; refine wpO_cons ?_; refine op1_call2 rfl (by (conv => lhs; whnf) <;> rfl) (by (conv => lhs; whnf) <;> rfl) ?_
    refine wpF_mono (L39 (g := g) hS) ?_
    clear hS
    rintro _ H3 ⟨rfl, hS⟩
    obtain ⟨f1, hf1⟩ : ∃ z, z = has g.fl 1 := ⟨_, rfl⟩
    rw [← hf1] at hr2 hk2 ⊢
    cases f1
    · rw [if_neg (by simp)] at hr2 hk2
      refine zw1 ?_; refine zk ?_; refine zk ?_; refine zu ?_; refine zw1 ?_; refine zns ?_; refine wp_false rfl ?_; refine zsr ?_; refine wpO_cons ?_; refine op1_load_5 rfl rfl (by exact S.g0 hS) rfl rfl ?_; refine wpO_cons ?_; refine op1_call2 rfl (by (conv => lhs; whnf) <;> rfl) (by (conv => lhs; whnf) <;> rfl) ?_
      refine wpF_mono (L39 (g := g) hS) ?_
      rw [← hf1]
      clear hS
      rintro _ H3 ⟨rfl, hS⟩
      refine zw1 ?_; refine zns ?_; refine wp_false rfl ?_; refine wp_skip ?_; refine block_normal ?_; refine cut1 (by (conv => lhs; whnf) <;> rfl) ?_
      rw [hr2, hk2]
      exact ⟨rfl, hS⟩
    · refine zw1 ?_; refine zw1 ?_; refine wpO_cons ?_; refine op1_eqlI rfl rfl rfl ?_; refine zt ?_; refine zw1 ?_; refine zns ?_
      refine wp_dec rfl (fun h1 => ?_) (fun h1 => ?_)
      · rw [if_pos ⟨rfl, h1⟩] at hr2
        rw [if_neg (by simp [h1])] at hk2
        refine wp_region ?_; refine zw1 ?_; refine zn ?_; refine zf ?_; refine wpO_cons ?_; refine op1_faddr rfl rfl ?_; refine zh (S.g1 hS) ?_; refine wpO_cons ?_
        refine op1_addW rfl rfl rfl ?_
        refine zn ?_; refine zf ?_; refine wpO_cons ?_; refine op1_faddr rfl rfl ?_; refine wpO_cons ?_; (refine op1_store1S rfl rfl (by (conv => lhs; whnf) <;> rfl) rfl rfl (S.up1 hS) rfl ?_; intro H4 hS; replace hS := S.dn1 hS); refine wpO_nil ?_; refine block_normal ?_; refine cut1 (by (conv => lhs; whnf) <;> rfl) ?_
        rw [hr2, hk2]
        exact ⟨rfl, hS⟩
      · rw [if_neg (by simp [h1])] at hr2
        rw [if_pos ⟨rfl, h1⟩] at hk2
        refine zsr ?_; refine wpO_cons ?_; refine op1_load_5 rfl rfl (by exact S.g0 hS) rfl rfl ?_; refine wpO_cons ?_; refine op1_call2 rfl (by (conv => lhs; whnf) <;> rfl) (by (conv => lhs; whnf) <;> rfl) ?_
        refine wpF_mono (L39 (g := g) hS) ?_
        rw [← hf1]
        clear hS
        rintro _ H3 ⟨rfl, hS⟩
        refine zw1 ?_; refine zns ?_; refine wp_true rfl ?_; refine wp_region ?_; refine zw1 ?_; refine wpO_cons ?_
        refine op1_sub rfl rfl rfl (by rw [wrap_u32]; omega) ?_
        refine zw1 ?_; refine wpO_nil ?_; refine block_normal ?_; refine cut1 (by (conv => lhs; whnf) <;> rfl) ?_
        rw [hr2, hk2]
        exact ⟨rfl, hS⟩
  clear hS
  rintro vs3 T3 H3 ⟨rfl, hS⟩
  unfold cnC at hS
  dsimp only at hS
  have hk1b : 0 ≤ k1 ∧ k1 ≤ 4294967295 := by
    rw [hk1]; unfold Cn.tSkip; rw [← hk0]
    split <;> omega
  have hcap : g.data.length ≤ cd := by obtain ⟨_, hz, _⟩ := hd _ (S.drop (S.drop (S.drop (S.drop hS)))); exact hz.le_cap
  refine zsr ?_; refine zf ?_; refine zh (S.g0 hS) ?_; refine zw1 ?_; refine wpO_cons ?_; refine op1_convInt rfl rfl (by exact wrap_i64 (by omega) (by omega)) ?_; refine zf ?_; refine zh (S.g0 hS) ?_; refine wpO_cons ?_; refine op1_len rfl rfl ?_; refine wpO_cons ?_; refine op1_min rfl rfl rfl ?_; refine wpO_cons ?_
  obtain ⟨m, hm⟩ : ∃ z : Nat, z = (min k1 g.data.length).toNat := ⟨_, rfl⟩
  have hmi : min k1 (g.data.length : Int) = m := by omega
  rw [hmi]
  refine op1_sliceD rfl rfl hd (S.drop (S.drop (S.drop (S.drop hS)))) (bnds_lo (by omega) (by omega) hcap) (by simp only [Int.toNat_natCast]; omega) (Nat.le_refl _) ?_
  simp only [Int.toNat_natCast, Nat.mul_one]
  intro a5 c5 hd5 hck5
  have hdt : s.tDat g = g.data.drop m := by unfold Cn.tDat; rw [← hk1, hm]
  have hd6 : RD B As 1 (.slice a5 (g.data.length - m) c5) (u8s (s.tDat g)) := by
    have := hd5
    rw [u8s_drop, u8s_take, List.take_of_length_le (by rw [List.length_drop]; omega), ← hdt] at this
    exact this
  obtain ⟨dl, hdl2⟩ : ∃ z, z = (s.tDat g).length := ⟨_, rfl⟩
  have hdl3 : g.data.length - m = dl := by rw [hdl2, hdt, List.length_drop]
  rw [hdl3] at hd6 ⊢
  have hcap5 : dl ≤ c5 := by obtain ⟨_, hz, _⟩ := hd6 _ (S.drop (S.drop (S.drop (S.drop hS)))); exact hz.le_cap
  clear hd5 hck5
  refine zw1 ?_; refine zns ?_; refine zsr ?_; refine zw1 ?_; refine wpO_cons ?_; refine op1_len rfl rfl ?_; refine zw1 ?_; refine zn ?_; refine zf ?_; refine wpO_cons ?_; refine op1_call1 rfl (by (conv => lhs; whnf) <;> rfl) ?_
  refine wpF_mono (L66 (s := { s with rcv := r1 }) (by omega) (S.up1 hS)) ?_
  rintro _ H4 ⟨rfl, rfl⟩
  refine wpO_cons ?_; refine op1_min rfl rfl rfl ?_; refine zw1 ?_; refine zns ?_; refine wp_seq ?_; refine wp_regionD ?_; refine zd1 ?_; refine zd1 ?_; refine zm ?_; refine zg ?_; refine wpD_cons ?_; refine op1_faddr rfl rfl ?_; refine zj (S.g1 hS) ?_; refine zd1 ?_; refine zd1 ?_; refine zd1 ?_; refine wpD_cons ?_
  obtain ⟨n, hn⟩ : ∃ z : Nat, z = s.tN g := ⟨_, rfl⟩
  have hni : min (dl : Int) (4096 - (s.inc.length : Int)) = n := by rw [hn]; unfold Cn.tN; rw [← hdl2]; omega
  rw [hni]
  skip
  refine op1_slice3D rfl rfl hd6 (S.drop (S.drop (S.drop (S.drop hS)))) (bnds_cap (by omega) (by omega)) (by omega) (by simp only [Int.toNat_natCast]; omega) (Nat.le_refl _) (by simp only [Int.toNat_natCast]; omega) ?_
  simp only [Int.toNat_natCast, Nat.zero_mul, List.drop_zero, Nat.sub_zero, Nat.mul_one]
  intro a7 c7 hd7 hck
  rw [u8s_take] at hd7
  have hnl : n ≤ dl := by omega
  have hml : ((s.tDat g).take n).length = n := by rw [List.length_take, ← hdl2]; omega
  obtain ⟨r7, hr7, _⟩ := hd7 _ (S.drop (S.drop (S.drop (S.drop hS))))
  have hT := (S.drop (S.drop (S.drop (S.drop hS))))
  refine wpD_cons ?_
  refine op1_appRS rfl rfl (by (conv => lhs; whnf) <;> rfl) rfl hr7 (by simp [hml]) (u8s_one _) (S.up3 hS) (by omega) ?_
  intro a2 c2 H5 hS
  rw [← u8s_append] at hS
  refine zm ?_; refine zg ?_; refine wpD_cons ?_; refine op1_faddr rfl rfl ?_; refine wpD_cons ?_; (refine op1_store1S rfl rfl (by (conv => lhs; whnf) <;> rfl) rfl rfl (S.up2 hS) rfl ?_; intro H4 hS; replace hS := S.dn2 hS); refine wpD_nil ?_; refine dk_of ?_ ?_; (iterate 5 refine chk_skip ?_); refine zx 10 ?_ ?_; refine zy 5 ?_ ?_; exact chk_load rfl (by exact S.g1 (by assumption)) rfl rfl; exact chkFs_nil; (iterate 3 refine chk_skip ?_); refine zx 6 ?_ ?_; refine zy 5 ?_ ?_
  · exact hck _ _ hT rfl
  exact chkFs_nil; (iterate 5 refine chk_skip ?_); exact chk_end; refine seq_normal ?_; refine zsr ?_; refine zw1 ?_; refine zn ?_; refine zf ?_; refine wpO_cons ?_; refine op1_faddr rfl rfl ?_; refine zh (S.g2 hS) ?_; refine zw1 ?_; refine wpO_cons ?_
  refine op1_convInt rfl rfl (by rw [wrap_u32]; omega) ?_
  refine wpO_cons ?_
  refine op1_addW rfl rfl rfl ?_
  have hmid : s.tMid g = { s with rcv := IntKind.u32.wrap (r1 + n), inc := s.inc ++ (s.tDat g).take n } := by unfold Cn.tMid; rw [← hr1, ← hn]
  rw [← hn, ← hdl2, hmid]
  clear hck hT hd7 hr7 hd6 hmid
  have hil2 : (s.inc ++ (s.tDat g).take n).length = s.inc.length + n := by rw [List.length_append, hml]
  refine zn ?_; refine zf ?_; refine wpO_cons ?_; refine op1_faddr rfl rfl ?_; refine wpO_cons ?_; (refine op1_store1S rfl rfl (by (conv => lhs; whnf) <;> rfl) rfl rfl (S.up2 hS) rfl ?_; intro H6 hS; replace hS := S.dn2 hS); refine zns ?_; refine wp_seq ?_; refine zsr ?_; refine zw1 ?_; refine zw1 ?_; refine wpO_cons ?_; refine op1_len rfl rfl ?_; refine wpO_cons ?_; refine op1_lss rfl rfl rfl ?_; refine zw1 ?_; refine wpO_cons ?_
  refine op1_dec rfl (fun h1 => ?_) (fun h1 => ?_)
  · rw [if_pos (.inl (by omega))]
    refine op1_skip rfl ?_; refine zk ?_; refine zk ?_; refine zt ?_; refine zns ?_; refine wp_true rfl ?_; refine wp_ret ?_; refine seq_ret ?_; refine ret_of ?_; refine rk_nil ?_
    exact closeC (s := { s with rcv := IntKind.u32.wrap (r1 + n), inc := s.inc ++ (s.tDat g).take n }) (S.up2 (S.up2 (S.drop (S.up1 hS))))
  refine op1_load_5 rfl rfl (by exact S.g1 hS) rfl rfl ?_; refine wpO_cons ?_; refine op1_call2 rfl (by (conv => lhs; whnf) <;> rfl) (by (conv => lhs; whnf) <;> rfl) ?_
  refine wpF_mono (L39 (g := g) hS) ?_
  clear hS
  rintro _ H6 ⟨rfl, hS⟩
  obtain ⟨f4, hf4⟩ : ∃ z, z = has g.fl 4 := ⟨_, rfl⟩
  rw [← hf4]
  cases f4
  · rw [if_pos (.inr rfl)]
    refine wpO_cons ?_; refine op1_not_f rfl rfl ?_; refine zu ?_; refine zns ?_; refine wp_true rfl ?_; refine wp_ret ?_; refine seq_ret ?_; refine ret_of ?_; refine rk_nil ?_
    exact closeC (s := { s with rcv := IntKind.u32.wrap (r1 + n), inc := s.inc ++ (s.tDat g).take n }) (S.up2 (S.up2 (S.drop (S.up1 hS))))
  rw [if_neg (by rintro (h | h); omega; cases h)]
  obtain ⟨M, hM⟩ : ∃ M : Cn, M = { s with rcv := IntKind.u32.wrap (r1 + n), inc := s.inc ++ (s.tDat g).take n } := ⟨_, rfl⟩
  rw [← hM]
  refine wpO_cons ?_; refine op1_not_t rfl rfl ?_; refine zu ?_; refine zns ?_; refine wp_false rfl ?_; refine wp_skip ?_; refine seq_normal ?_; refine zsr ?_; refine zw1 ?_; refine zn ?_; refine zf ?_; refine wpO_cons ?_; refine op1_faddr rfl rfl ?_; refine zh (S.g2 hS) ?_; refine wpO_cons ?_
  refine op1_addW rfl rfl rfl ?_
  refine zn ?_; refine zf ?_; refine wpO_cons ?_; refine op1_faddr rfl rfl ?_; refine wpO_cons ?_; (refine op1_store1S rfl rfl (by (conv => lhs; whnf) <;> rfl) rfl rfl (S.up2 hS) rfl ?_; intro H7 hS; replace hS := S.dn2 hS); refine zns ?_; refine zsr ?_; refine zw1 ?_; refine zn ?_; refine zf ?_; refine wpO_cons ?_; refine op1_faddr rfl rfl ?_; refine wpO_cons ?_; (refine op1_store1S rfl rfl (by (conv => lhs; whnf) <;> rfl) rfl rfl (S.up2 hS) rfl ?_; intro H8 hS; replace hS := S.dn2 hS); refine zns ?_; refine wp_block ?_; refine zsr ?_; refine zw1 ?_; refine zn ?_; refine zf ?_; refine zh (S.g2 hS) ?_; refine wpO_cons ?_; refine op1_eqlI rfl rfl rfl ?_; refine zw1 ?_; refine zns ?_
  refine wp_dec rfl (fun h2 => ?_) (fun h2 => ?_)
  · refine wp_region ?_; refine zw1 ?_; refine zn ?_; refine zf ?_; refine wpO_cons ?_; (refine op1_store1S rfl rfl (by (conv => lhs; whnf) <;> rfl) rfl rfl (S.up2 hS) rfl ?_; intro H9 hS; replace hS := S.dn2 hS); refine wpO_nil ?_; refine block_normal ?_; refine nrm_of ?_; refine rk_nil ?_
    rw [fin_of M (x := 6) (by rw [hM]; unfold Cn.finSt; exact if_pos h2), hM]
    exact closeC (s := { s with rcv := IntKind.u32.wrap (IntKind.u32.wrap (r1 + n) + 1), inc := s.inc ++ (s.tDat g).take n, ended := true, st := 6 }) (S.up2 (S.up2 (S.drop (S.up1 hS))))
  refine zsr ?_; refine zw1 ?_; refine zn ?_; refine zf ?_; refine zh (S.g2 hS) ?_; refine wpO_cons ?_; refine op1_eqlI rfl rfl rfl ?_; refine zw1 ?_; refine wpO_cons ?_
  refine op1_dec rfl (fun h3 => ?_) (fun h3 => ?_)
  · refine op1_mov rfl (by (conv => lhs; whnf) <;> rfl) ?_; refine zn ?_; refine zf ?_; refine zf ?_; refine zh (S.g2 hS) ?_; refine zt ?_; refine zw1 ?_; refine zns ?_
    obtain ⟨fg, hfg⟩ : ∃ z, z = s.finGone := ⟨_, rfl⟩
    rw [← hfg]
    cases fg
    · refine wp_false rfl ?_; refine zsr ?_; refine zw1 ?_; refine zn ?_; refine zf ?_; refine zh (S.g2 hS) ?_; refine wpO_cons ?_; refine op1_eqlI rfl rfl rfl ?_; refine zw1 ?_; refine zns ?_
      rw [decide_eq_true h3]
      refine wp_true rfl ?_; refine wp_region ?_; refine zw1 ?_; refine zn ?_; refine zf ?_; refine wpO_cons ?_; (refine op1_store1S rfl rfl (by (conv => lhs; whnf) <;> rfl) rfl rfl (S.up2 hS) rfl ?_; intro H9 hS; replace hS := S.dn2 hS); refine wpO_nil ?_; refine block_normal ?_; refine nrm_of ?_; refine rk_nil ?_
      rw [fin_of M (x := 7) (by rw [hM]; unfold Cn.finSt; simp only; rw [if_neg h2, if_pos h3, ← hfg]; rfl), hM]
      exact closeC (s := { s with rcv := IntKind.u32.wrap (IntKind.u32.wrap (r1 + n) + 1), inc := s.inc ++ (s.tDat g).take n, ended := true, st := 7 }) (S.up2 (S.up2 (S.drop (S.up1 hS))))
    · refine wp_true rfl ?_; refine wp_region ?_; refine zw1 ?_; refine zn ?_; refine zf ?_; refine wpO_cons ?_; (refine op1_store1S rfl rfl (by (conv => lhs; whnf) <;> rfl) rfl rfl (S.up2 hS) rfl ?_; intro H9 hS; replace hS := S.dn2 hS); refine wpO_nil ?_; refine block_normal ?_; refine nrm_of ?_; refine rk_nil ?_
      rw [fin_of M (x := 8) (by rw [hM]; unfold Cn.finSt; simp only; rw [if_neg h2, if_pos h3, ← hfg]; rfl), hM]
      exact closeC (s := { s with rcv := IntKind.u32.wrap (IntKind.u32.wrap (r1 + n) + 1), inc := s.inc ++ (s.tDat g).take n, ended := true, st := 8 }) (S.up2 (S.up2 (S.drop (S.up1 hS))))
  · refine op1_skip rfl ?_; (iterate 4 refine zk ?_); refine zu ?_; refine zw1 ?_; refine zns ?_; refine wp_false rfl ?_; refine zsr ?_; refine zw1 ?_; refine zn ?_; refine zf ?_; refine zh (S.g2 hS) ?_; refine wpO_cons ?_; refine op1_eqlI rfl rfl rfl ?_; refine zw1 ?_; refine zns ?_
    rw [decide_eq_false h3]
    refine wp_false rfl ?_; refine wp_skip ?_; refine block_normal ?_; refine nrm_of ?_; refine rk_nil ?_
    rw [fin_of M (x := s.st) (by rw [hM]; unfold Cn.finSt; simp only; rw [if_neg h2, if_neg h3]), hM]
    exact closeC (s := { s with rcv := IntKind.u32.wrap (IntKind.u32.wrap (r1 + n) + 1), inc := s.inc ++ (s.tDat g).take n, ended := true, st := s.st }) (S.up2 (S.up2 (S.drop (S.up1 hS))))
end
end Go.E.St
