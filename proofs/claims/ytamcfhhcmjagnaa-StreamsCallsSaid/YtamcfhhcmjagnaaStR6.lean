/- The reference's connection: Output, Next. -/
import Derived.Test.YtamcfhhcmjagnaaStCy
import Derived.Test.YtamcfhhcmjagnaaStR2
import Derived.Test.YtamcfhhcmjagnaaStR5
namespace Go.E.St
open Go Go.E Go.Proofs.Ytamcfhhcmjagnaa Go.Proofs
set_option linter.unusedVariables false
set_option linter.unusedSimpArgs false
set_option maxRecDepth 100000
def Cn.oA (s : Cn) : List Sg × Cn := if s.st = 2 ∧ s.nxt = s.first then ([⟨1, s.first, 0, 4096 - s.inc.length, []⟩], { s with nxt := IntKind.u32.wrap (s.nxt + 1) }) else ([], s)
def Cn.oB (s : Cn) : List Sg × Cn := if s.st = 3 ∧ s.nxt = s.first then ([s.sgm 3 s.first []], { s with nxt := IntKind.u32.wrap (s.nxt + 1) }) else ([], s)
def Cn.oD (s : Cn) : List Sg × Cn := if s.st = 4 ∨ s.st = 5 ∨ s.st = 6 ∨ s.st = 7 then s.dat else ([], s)
theorem oA_segs {s : Cn} (h : s.st = 2) : s.segs = s.oA := by
  unfold Cn.segs Cn.oA Cn.hello
  rw [if_pos (.inl h), if_pos h]
  by_cases h1 : s.nxt = s.first
  · rw [if_neg (fun k => k h1), if_pos ⟨h, h1⟩]
  · rw [if_pos h1, if_neg (fun k => h1 k.2)]
theorem oB_segs {s : Cn} (h : s.st = 3) : s.segs = s.oB := by
  by_cases h1 : s.nxt = s.first
  · unfold Cn.segs Cn.oB Cn.hello
    rw [if_pos (.inr h), if_neg (fun k => k h1), if_neg (by omega), if_pos ⟨h, h1⟩]
  · unfold Cn.segs Cn.oB
    rw [if_pos (.inr h), if_pos h1, if_neg (fun k => h1 k.2)]
theorem le15 {a : Int} (b : Int) (h : a = b) (hb : 0 ≤ b ∧ b ≤ 15) : 0 ≤ a ∧ a ≤ 15 := h ▸ hb
theorem oD_segs {s : Cn} (h : s.st ≠ 2) (h' : s.st ≠ 3) : s.segs = s.oD := by
  unfold Cn.segs Cn.oD
  rw [if_neg (by omega)]
theorem segs_fl {s : Cn} : ∀ g ∈ s.segs.1, 0 ≤ g.fl ∧ g.fl ≤ 15 := by
  have haf : ∀ (c : Cn) (nx : Int) (l : List Sg), (∀ g ∈ l, g.fl = 2) → ∀ g ∈ addFin c nx l, 0 ≤ g.fl ∧ g.fl ≤ 15 := by
    intro c nx l
    induction l with
    | nil =>
      intro _ g h
      rw [addFin, List.mem_singleton] at h
      rw [h]; exact le15 6 rfl (by decide)
    | cons a l ih =>
      intro hl g h
      cases l with
      | nil =>
        rw [addFin, List.mem_singleton] at h
        rw [h]; exact le15 6 rfl (by decide)
      | cons b l =>
        rw [addFin] at h
        · rcases List.mem_cons.1 h with h | h
          · rw [h, hl a (by simp)]; exact ⟨by decide, by decide⟩
          · exact ih (fun x hx => hl x (by simp at hx ⊢; right; exact hx)) g h
        · intro h; cases h
  intro g hg
  unfold Cn.segs at hg
  split at hg
  · split at hg
    · simp at hg
    · rw [List.mem_singleton] at hg
      rw [hg]; unfold Cn.hello; split
      · exact le15 1 rfl (by decide)
      · exact le15 3 rfl (by decide)
  split at hg
  · unfold Cn.dat at hg
    split at hg
    · exact haf s _ _ (dl_fl s _ _ _ _) g hg
    · rw [dl_fl s _ _ _ _ g hg]; exact ⟨by decide, by decide⟩
  · simp at hg
theorem ackd_fl {s : Cn} {l : List Sg} (h : ∀ g ∈ l, 0 ≤ g.fl ∧ g.fl ≤ 15) : ∀ g ∈ s.ackd l, 0 ≤ g.fl ∧ g.fl ≤ 15 := by
  intro g hg
  unfold Cn.ackd at hg
  split at hg
  · rw [List.mem_singleton] at hg
    rw [hg]; exact ⟨by show (0 : Int) ≤ 2; decide, by show (2 : Int) ≤ 15; decide⟩
  · exact h g hg
section
variable {B H : AHeap} {As : List Asn} {p : Nat} {s : Cn} {g : Sg}
theorem sg_nil {b : Nat} (h : S B H (pto b (.cells [] 5 false) :: As)) : S B H (arr 5 sgA (.slice (some ⟨b, 0, none⟩) 0 0) [] :: As) :=
  S.arrI (E := sgA) (xs := []) (css := []) (S.up1 (S.many_nil (S.slNew (l := 0) (es := 5) h rfl))) (by simp)
theorem L56 {now : Int} (hok : Ok s) (hS : S B H (repD p s :: As)) :
    wpF C 56 [ptC p, .int .i64 now] H fun v H' => ∃ a c, v = .tuple ⟨[.slice a (s.output now).2.1.length c, .int .i64 (s.output now).1]⟩ ∧ S B H' (arr 5 sgA (.slice a (s.output now).2.1.length c) (s.output now).2.1 :: repD p (s.output now).2.2 :: As) := by
  have hcl := hok.clock
  have htm := hok.tmo
  have hsi := hok.since
  have hrp := hok.reps
  refine wpF_ofW o56 rfl rfl ?_
  have hS0 := hS
  obtain ⟨ao, co, ai, ci, ho, hi, hO⟩ := openD hS
  clear hS
  have hS := hO
  clear hO
  unfold rfC at hS
  unfold ptC
  refine zsr ?_; refine zw1 ?_; refine zw1 ?_; refine zns ?_; refine wp_seq ?_; refine zsr ?_; refine zw1 ?_; refine wpO_cons ?_; refine op1_call1 rfl (by (conv => lhs; whnf) <;> rfl) ?_
  refine wpF_mono L79 ?_
  rintro _ H2 ⟨rfl, rfl⟩
  by_cases h1 : 0 ≤ now ∧ now ≤ 1099511627776
  rotate_left
  · have e : s.output now = (34, [], s) := by unfold Cn.output; rw [if_pos h1]
    rw [decide_eq_false h1, e]
    refine wpO_cons ?_; refine op1_not_f rfl rfl ?_; refine zns ?_; refine wp_true rfl ?_; refine zsr ?_; refine zw1 ?_; refine zw1 ?_; refine zns ?_; refine wp_ret ?_; refine seq_ret ?_; refine ret_of ?_; refine rk_tmp (by (conv => lhs; whnf) <;> rfl) ?_; refine rk_tmp (by (conv => lhs; whnf) <;> rfl) ?_; refine rk_nil ?_
    exact ⟨none, 0, rfl, S.arrNil hS0⟩
  rw [decide_eq_true h1]
  refine wpO_cons ?_; refine op1_not_t rfl rfl ?_; refine zns ?_; refine wp_false rfl ?_; refine wp_skip ?_; refine seq_normal ?_; refine wp_seq ?_; refine zsr ?_; refine zw1 ?_; refine zw1 ?_; refine wpO_cons ?_; refine op1_nilchk rfl rfl ?_; refine wpO_cons ?_; refine op1_faddr0 rfl rfl ?_; refine wpO_cons ?_; refine op1_load rfl rfl (by exact S.g0 hS) rfl ?_; refine wpO_cons ?_; refine op1_lss rfl rfl rfl ?_; refine zns ?_
  refine wp_dec rfl (fun h2 => ?_) (fun h2 => ?_)
  · have e : s.output now = (30, [], s) := by unfold Cn.output; rw [if_neg (fun h => h h1), if_pos h2]
    rw [e]
    refine zsr ?_; refine zw1 ?_; refine zw1 ?_; refine zns ?_; refine wp_ret ?_; refine seq_ret ?_; refine ret_of ?_; refine rk_tmp (by (conv => lhs; whnf) <;> rfl) ?_; refine rk_tmp (by (conv => lhs; whnf) <;> rfl) ?_; refine rk_nil ?_
    exact ⟨none, 0, rfl, S.arrNil hS0⟩
  refine wp_skip ?_; refine seq_normal ?_; refine wp_seq ?_; refine zsr ?_; refine zw1 ?_; refine wpO_cons ?_; refine op1_nilchk rfl rfl ?_; refine wpO_cons ?_; refine op1_faddr0 rfl rfl ?_; refine wpO_cons ?_; refine op1_load rfl rfl (by exact S.g0 hS) rfl ?_; refine zns ?_
  obtain ⟨rs, hrs⟩ : ∃ z, z = s.rst := ⟨_, rfl⟩
  rw [← hrs]
  cases rs
  rotate_left
  · have e : s.output now = (0, [⟨10, s.nxt, s.rcv, 0, []⟩], { s with clock := now, rst := false }) := by unfold Cn.output; rw [if_neg (fun h => h h1), if_neg h2, ← hrs, if_pos rfl]
    rw [e]
    refine wp_true rfl ?_; refine zsr ?_; refine zw1 ?_; refine zw1 ?_; refine zw1 ?_; refine wpO_cons ?_; refine op1_nilchk rfl rfl ?_; refine wpO_cons ?_; refine op1_faddr0 rfl rfl ?_; refine wpO_cons ?_; (refine op1_store1S rfl rfl (by (conv => lhs; whnf) <;> rfl) rfl rfl (S.up0 hS) rfl ?_; intro H1 hS; replace hS := S.dn0 hS); refine wpO_cons ?_; refine op1_nilchk rfl rfl ?_; refine wpO_cons ?_; refine op1_faddr0 rfl rfl ?_; refine wpO_cons ?_; (refine op1_store1S rfl rfl (by (conv => lhs; whnf) <;> rfl) rfl rfl (S.up0 hS) rfl ?_; intro H2 hS; replace hS := S.dn0 hS); refine zns ?_; refine wp_seq ?_; refine wp_regionD ?_; refine zd1 ?_; refine wpD_cons ?_; refine op1_nilchk rfl rfl ?_; refine wpD_cons ?_; refine op1_faddr0 rfl rfl ?_; refine wpD_cons ?_; refine op1_load rfl rfl (by exact S.g0 hS) rfl ?_; refine zd1 ?_; refine wpD_cons ?_; refine op1_nilchk rfl rfl ?_; refine wpD_cons ?_; refine op1_faddr0 rfl rfl ?_; refine wpD_cons ?_; refine op1_load rfl rfl (by exact S.g0 hS) rfl ?_; refine wpD_cons ?_; refine op1_build rfl ?_; refine bk_one (by (conv => lhs; whnf) <;> rfl) rfl rfl rfl ?_; refine bk_one (by (conv => lhs; whnf) <;> rfl) rfl rfl rfl ?_; refine bk_one (by (conv => lhs; whnf) <;> rfl) rfl rfl rfl ?_; refine bk_nil ?_; refine wpD_cons ?_; refine op1_bsliceS rfl hS ?_; refine bk_agg rfl rfl rfl rfl ?_; refine bk_nil ?_; intro p1 H3 hS; refine zd1 ?_; refine zd1 ?_; refine wpD_nil ?_; refine dk_of ?_ ?_; (iterate 3 refine chk_skip ?_); refine chk_cons 9 rfl rfl rfl ?_ ?_; refine chkFs_cons 0 rfl rfl ?_ ?_; exact chk_load rfl (by exact S.g1 hS) rfl rfl; exact chkFs_nil; (iterate 3 refine chk_skip ?_); refine chk_cons 5 rfl rfl rfl ?_ ?_; refine chkFs_cons 0 rfl rfl ?_ ?_; exact chk_load rfl (by exact S.g1 hS) rfl rfl; exact chkFs_nil; (iterate 4 refine chk_skip ?_); exact chk_end; refine seq_normal ?_; refine wp_ret ?_; refine seq_ret ?_; refine ret_of ?_; refine rk_tmp (by (conv => lhs; whnf) <;> rfl) ?_; refine rk_tmp (by (conv => lhs; whnf) <;> rfl) ?_; refine rk_nil ?_
    exact ⟨some ⟨p1, 0, none⟩, 1, rfl, sg_single (g := ⟨10, s.nxt, s.rcv, 0, []⟩) (vd := .slice none 0 0) (S.up1 (S.slNil (S.up1 (closeD (s := { s with clock := now, rst := false }) (S.up3 (S.up3 (S.up3 hS)))))))⟩
  refine wp_false rfl ?_; refine wp_skip ?_; refine seq_normal ?_; refine wp_seq ?_; refine zsr ?_; refine zw1 ?_; refine wpO_cons ?_; refine op1_nilchk rfl rfl ?_; refine wpO_cons ?_; refine op1_faddr0 rfl rfl ?_; refine wpO_cons ?_; refine op1_load rfl rfl (by exact S.g0 hS) rfl ?_; refine wpO_cons ?_; refine op1_eqlI rfl rfl rfl ?_; refine zns ?_
  refine wp_dec rfl (fun h3 => ?_) (fun h3 => ?_)
  · have e : s.output now = (4, [], s) := by unfold Cn.output; rw [if_neg (fun h => h h1), if_neg h2, ← hrs, if_neg (by simp), if_pos h3]
    rw [e]
    refine zsr ?_; refine zw1 ?_; refine zw1 ?_; refine zns ?_; refine wp_ret ?_; refine seq_ret ?_; refine ret_of ?_; refine rk_tmp (by (conv => lhs; whnf) <;> rfl) ?_; refine rk_tmp (by (conv => lhs; whnf) <;> rfl) ?_; refine rk_nil ?_
    exact ⟨none, 0, rfl, S.arrNil hS0⟩
  refine wp_skip ?_; refine seq_normal ?_; refine wp_seq ?_; refine zsr ?_; refine zw1 ?_; refine wpO_cons ?_; refine op1_nilchk rfl rfl ?_; refine wpO_cons ?_; refine op1_faddr0 rfl rfl ?_; refine wpO_cons ?_; refine op1_load rfl rfl (by exact S.g0 hS) rfl ?_; refine wpO_cons ?_; refine op1_eqlI rfl rfl rfl ?_; refine zns ?_
  refine wp_dec rfl (fun h4 => ?_) (fun h4 => ?_)
  · have e : s.output now = (35, [], s) := by unfold Cn.output; rw [if_neg (fun h => h h1), if_neg h2, ← hrs, if_neg (by simp), if_neg h3, if_pos h4]
    rw [e]
    refine zsr ?_; refine zw1 ?_; refine zw1 ?_; refine zns ?_; refine wp_ret ?_; refine seq_ret ?_; refine ret_of ?_; refine rk_tmp (by (conv => lhs; whnf) <;> rfl) ?_; refine rk_tmp (by (conv => lhs; whnf) <;> rfl) ?_; refine rk_nil ?_
    exact ⟨none, 0, rfl, S.arrNil hS0⟩
  have eo : s.output now = if s.lateB now = true then (4, [], s.late now) else (0, ({ s.late now with clock := now } : Cn).sent now) := by unfold Cn.output; rw [if_neg (fun h => h h1), if_neg h2, ← hrs, if_neg (by simp), if_neg h3, if_neg h4]
  refine wp_skip ?_; refine seq_normal ?_
  refine wp_cutR [] (fun vs H' => vs = [] ∧ s.output now = (0, ({ s.late now with clock := now } : Cn).sent now) ∧ S B H' (repD p (s.late now) :: As)) ?_ ?_
  · obtain ⟨ru, hru⟩ : ∃ z, z = s.run := ⟨_, rfl⟩
    have hw : s.waits now = (!ru || decide (now - s.since < s.tmo)) := by rw [hru]; rfl
    refine wp_seq ?_; refine wp_regionD ?_; refine zd1 ?_; refine wpD_cons ?_; refine op1_nilchk rfl rfl ?_; refine wpD_cons ?_; refine op1_faddr0 rfl rfl ?_; refine wpD_cons ?_; refine op1_load rfl rfl (by exact S.g0 hS) rfl ?_; refine zd1 ?_; refine wpD_cons ?_
    rw [← hru]
    cases ru
    · have e1 : s.lateB now = false := by unfold Cn.lateB; rw [hw]; rfl
      have e2 : s.late now = s := by unfold Cn.late; rw [hw]; rfl
      rw [eo, e1, if_neg (by simp), e2]
      refine op1_skip rfl ?_; refine wpD_cons ?_; refine op1_skip rfl ?_; refine wpD_cons ?_; refine op1_skip rfl ?_; refine wpD_cons ?_; refine op1_skip rfl ?_; refine wpD_cons ?_; refine op1_skip rfl ?_; refine wpD_cons ?_; refine op1_skip rfl ?_; refine wpD_cons ?_; refine op1_skip rfl ?_; refine wpD_cons ?_; refine op1_skip rfl ?_; refine wpD_cons ?_; refine op1_skip rfl ?_; refine wpD_cons ?_; refine op1_skip rfl ?_; refine wpD_cons ?_; refine op1_skip rfl ?_; refine wpD_cons ?_; refine op1_pick_f rfl rfl (by (conv => lhs; whnf) <;> rfl) ?_; refine wpD_nil ?_; refine dk_of ?_ ?_; (iterate 3 refine chk_skip ?_); refine chk_cons 14 rfl rfl rfl ?_ ?_; refine chkFs_cons 0 rfl rfl ?_ ?_
      · exact chk_load rfl (S.g0 hS) rfl (by show Value.bool false = Value.bool s.run; rw [← hru])
      exact chkFs_nil; (iterate 5 refine chk_skip ?_); refine chk_unw 8 rfl rfl rfl ?_; (iterate 4 refine chk_skip ?_); refine chk_unw 3 rfl rfl rfl ?_; (iterate 2 refine chk_skip ?_); exact chk_end; refine seq_normal ?_; refine wp_false rfl ?_; refine wp_skip ?_
      exact cutR0 ⟨rfl, rfl, hS0⟩
    refine op1_mov rfl (by (conv => lhs; whnf) <;> rfl) ?_; refine zd1 ?_; refine wpD_cons ?_; refine op1_nilchk rfl rfl ?_; refine wpD_cons ?_; refine op1_faddr0 rfl rfl ?_; refine wpD_cons ?_; refine op1_load rfl rfl (by exact S.g0 hS) rfl ?_; refine wpD_cons ?_; refine op1_sub rfl rfl rfl (by exact wrap_i64 (by omega) (by omega)) ?_; refine zd1 ?_; refine wpD_cons ?_; refine op1_nilchk rfl rfl ?_; refine wpD_cons ?_; refine op1_faddr0 rfl rfl ?_; refine wpD_cons ?_; refine op1_load rfl rfl (by exact S.g0 hS) rfl ?_; refine wpD_cons ?_; refine op1_geq rfl rfl rfl ?_; refine wpD_cons ?_; refine op1_pick_t rfl rfl (by (conv => lhs; whnf) <;> rfl) ?_; refine wpD_nil ?_; refine dk_of ?_ ?_; (iterate 3 refine chk_skip ?_); refine chk_cons 14 rfl rfl rfl ?_ ?_; refine chkFs_cons 0 rfl rfl ?_ ?_
    · exact chk_load rfl (S.g0 hS) rfl (by show Value.bool true = Value.bool s.run; rw [← hru])
    exact chkFs_nil; (iterate 5 refine chk_skip ?_); refine chk_cons 8 rfl rfl rfl ?_ ?_; refine chkFs_cons 0 rfl rfl ?_ ?_; exact chk_load rfl (by exact S.g0 hS) rfl rfl; exact chkFs_nil; (iterate 4 refine chk_skip ?_); refine chk_cons 3 rfl rfl rfl ?_ ?_; refine chkFs_cons 0 rfl rfl ?_ ?_; exact chk_load rfl (by exact S.g0 hS) rfl rfl; exact chkFs_nil; (iterate 2 refine chk_skip ?_); exact chk_end; refine seq_normal ?_
    refine wp_dec rfl (fun h5 => ?_) (fun h5 => ?_)
    rotate_left
    · have e1 : s.lateB now = false := by unfold Cn.lateB; rw [hw, decide_eq_true (by omega)]; rfl
      have e2 : s.late now = s := by unfold Cn.late; rw [hw, decide_eq_true (by omega)]; rfl
      rw [eo, e1, if_neg (by simp), e2]
      refine wp_skip ?_
      exact cutR0 ⟨rfl, rfl, hS0⟩
    rw [decide_eq_false (by omega)] at hw
    refine wp_seq ?_; refine zsr ?_; refine zw1 ?_; refine wpO_cons ?_; refine op1_nilchk rfl rfl ?_; refine wpO_cons ?_; refine op1_faddr0 rfl rfl ?_; refine wpO_cons ?_; refine op1_load rfl rfl (by exact S.g0 hS) rfl ?_; refine wpO_cons ?_; refine op1_eqlI rfl rfl rfl ?_; refine zns ?_
    refine wp_dec rfl (fun h6 => ?_) (fun h6 => ?_)
    · have e1 : s.lateB now = true := by unfold Cn.lateB; rw [hw, decide_eq_true h6]; rfl
      have e2 : s.late now = { s with st := 9 } := by unfold Cn.late; rw [hw, if_neg (by simp), if_pos h6]
      rw [eo, e1, if_pos rfl, e2]
      refine zsr ?_; refine zw1 ?_; refine wpO_cons ?_; refine op1_nilchk rfl rfl ?_; refine wpO_cons ?_; refine op1_faddr0 rfl rfl ?_; refine wpO_cons ?_; (refine op1_store1S rfl rfl (by (conv => lhs; whnf) <;> rfl) rfl rfl (S.up0 hS) rfl ?_; intro H1 hS; replace hS := S.dn0 hS); refine zns ?_; refine zsr ?_; refine zw1 ?_; refine zw1 ?_; refine zns ?_; refine wp_ret ?_; refine seq_ret ?_
      refine cutR_ret ?_
      refine ret_of ?_; refine rk_tmp (by (conv => lhs; whnf) <;> rfl) ?_; refine rk_tmp (by (conv => lhs; whnf) <;> rfl) ?_; refine rk_nil ?_
      exact ⟨none, 0, rfl, S.arrNil (closeD (s := { s with st := 9 }) hS)⟩
    · have e1 : s.lateB now = false := by unfold Cn.lateB; rw [hw, decide_eq_false h6]; rfl
      have e2 : s.late now = s.back now := by unfold Cn.late; rw [hw, if_neg (by simp), if_neg h6]
      rw [eo, e1, if_neg (by simp), e2]
      refine wp_skip ?_; refine seq_normal ?_; refine zsr ?_; refine zw1 ?_; refine zw1 ?_; refine zw1 ?_; refine wpO_cons ?_; refine op1_nilchk rfl rfl ?_; refine wpO_cons ?_; refine op1_faddr0 rfl rfl ?_; refine wpO_cons ?_; refine op1_load rfl rfl (by exact S.g0 hS) rfl ?_; refine wpO_cons ?_; refine op1_nilchk rfl rfl ?_; refine wpO_cons ?_; refine op1_faddr0 rfl rfl ?_; refine wpO_cons ?_; (refine op1_store1S rfl rfl (by (conv => lhs; whnf) <;> rfl) rfl rfl (S.up0 hS) rfl ?_; intro H1 hS; replace hS := S.dn0 hS); refine wpO_cons ?_; refine op1_nilchk rfl rfl ?_; refine wpO_cons ?_; refine op1_faddr0 rfl rfl ?_; refine wpO_cons ?_; (refine op1_store1S rfl rfl (by (conv => lhs; whnf) <;> rfl) rfl rfl (S.up0 hS) rfl ?_; intro H2 hS; replace hS := S.dn0 hS); refine zns ?_; refine zsr ?_; refine zw1 ?_; refine zw1 ?_; refine wpO_cons ?_; refine op1_nilchk rfl rfl ?_; refine wpO_cons ?_; refine op1_faddr0 rfl rfl ?_; refine wpO_cons ?_; refine op1_load rfl rfl (by exact S.g0 hS) rfl ?_; refine wpO_cons ?_; refine op1_mul rfl rfl rfl (by exact wrap_i64 (by omega) (by omega)) ?_; refine wpO_cons ?_; refine op1_min rfl rfl rfl ?_; refine wpO_cons ?_; refine op1_nilchk rfl rfl ?_; refine wpO_cons ?_; refine op1_faddr0 rfl rfl ?_; refine wpO_cons ?_; (refine op1_store1S rfl rfl (by (conv => lhs; whnf) <;> rfl) rfl rfl (S.up0 hS) rfl ?_; intro H3 hS; replace hS := S.dn0 hS); refine zns ?_; refine zsr ?_; refine zw1 ?_; refine wpO_cons ?_; refine op1_nilchk rfl rfl ?_; refine wpO_cons ?_; refine op1_faddr0 rfl rfl ?_; refine wpO_cons ?_; refine op1_load rfl rfl (by exact S.g0 hS) rfl ?_; refine wpO_cons ?_; refine op1_add rfl rfl rfl (by exact wrap_i64 (by omega) (by omega)) ?_; refine wpO_cons ?_; refine op1_nilchk rfl rfl ?_; refine wpO_cons ?_; refine op1_faddr0 rfl rfl ?_; refine wpO_cons ?_; (refine op1_store1S rfl rfl (by (conv => lhs; whnf) <;> rfl) rfl rfl (S.up0 hS) rfl ?_; intro H4 hS; replace hS := S.dn0 hS); refine zns ?_; refine wp_region ?_; refine zw1 ?_; refine zw1 ?_; refine wpO_cons ?_; refine op1_nilchk rfl rfl ?_; refine wpO_cons ?_; refine op1_faddr0 rfl rfl ?_; refine wpO_cons ?_; (refine op1_store1S rfl rfl (by (conv => lhs; whnf) <;> rfl) rfl rfl (S.up0 hS) rfl ?_; intro H5 hS; replace hS := S.dn0 hS); refine wpO_nil ?_
      exact cutR0 ⟨rfl, rfl, closeD (s := s.back now) hS⟩
  clear hS hS0 eo
  rintro vs2 T2 H2 ⟨rfl, hout, hS⟩
  rw [hout]
  clear hout
  have hok1 := hok.late (now := now) h1
  obtain ⟨s1, hs1⟩ : ∃ z : Cn, z = { s.late now with clock := now } := ⟨_, rfl⟩
  have hok2 : Ok s1 := by
    rw [hs1]
    exact ⟨hok1.first, hok1.una, hok1.nxt, hok1.rcv, hok1.size, hok1.window, hok1.out, hok1.inc, hok1.pat, hok1.tmo, hok1.since, h1, hok1.reps, hok1.st, hok1.syn⟩
  rw [← hs1]
  obtain ⟨ao, co, ai, ci, ho, hi, hO⟩ := openD hS
  clear hS
  have hS := hO
  clear hO
  unfold rfC at hS
  refine zsr ?_; refine zw1 ?_; refine zw1 ?_; refine wpO_cons ?_; refine op1_nilchk rfl rfl ?_; refine wpO_cons ?_; refine op1_faddr0 rfl rfl ?_; refine wpO_cons ?_; (refine op1_store1S rfl rfl (by (conv => lhs; whnf) <;> rfl) rfl rfl (S.up0 hS) rfl ?_; intro H1 hS; replace hS := S.dn0 hS); refine zns ?_; refine zsr ?_; refine wpO_cons ?_; refine op1_bsliceS rfl hS ?_; refine bk_nil ?_; intro p1 H3 hS; refine zw1 ?_; refine zns ?_
  have hS1 := closeD (s := { s.late now with clock := now }) (S.up3 (S.up3 (S.up3 hS)))
  rw [← hs1] at hS1
  clear hS hok1 hs1
  have hS := S.up1 (sg_nil (S.up1 hS1))
  clear hS1
  have hok3 := hok2.segs
  have hsd := segs_data hok2.size.2
  have hsf := segs_fl (s := s1)
  have hsl := segs_len hok2
  have hil1 := hok2.inc
  refine wp_cut [6] (fun vs H' => ∃ (l : List Sg) (c : Cn) (n : Nat) (al : Option Addr) (cl : Nat), vs = [.slice al n cl] ∧ n = l.length ∧ ((s1.segs = (l, c) ∧ c.st = 2) ∨ (s1.st ≠ 2 ∧ l = [] ∧ c = s1)) ∧ S B H' (repD p c :: arr 5 sgA (.slice al n cl) l :: As)) ?_ ?_
  · have hS0 := hS
    obtain ⟨ao, co, ai, ci, ho, hi, hO⟩ := openD hS
    clear hS
    have hS := hO
    clear hO
    unfold rfC at hS
    refine wp_seq ?_; refine wp_regionD ?_; refine zd1 ?_; refine wpD_cons ?_; refine op1_nilchk rfl rfl ?_; refine wpD_cons ?_; refine op1_faddr0 rfl rfl ?_; refine wpD_cons ?_; refine op1_load rfl rfl (by exact S.g0 hS) rfl ?_; refine wpD_cons ?_; refine op1_eqlI rfl rfl rfl ?_; refine zd1 ?_; refine wpD_cons ?_
    refine op1_dec rfl (fun h5 => ?_) (fun h5 => ?_)
    rotate_left
    · refine op1_skip rfl ?_; refine wpD_cons ?_; refine op1_skip rfl ?_; refine wpD_cons ?_; refine op1_skip rfl ?_; refine wpD_cons ?_; refine op1_skip rfl ?_; refine wpD_cons ?_; refine op1_skip rfl ?_; refine wpD_cons ?_; refine op1_skip rfl ?_; refine wpD_cons ?_; refine op1_skip rfl ?_; refine wpD_cons ?_; refine op1_skip rfl ?_; refine wpD_cons ?_; refine op1_skip rfl ?_; refine wpD_cons ?_; refine op1_pick_f rfl rfl (by (conv => lhs; whnf) <;> rfl) ?_; refine wpD_nil ?_; refine dk_of ?_ ?_; (iterate 3 refine chk_skip ?_); refine chk_cons 13 rfl rfl rfl ?_ ?_; refine chkFs_cons 0 rfl rfl ?_ ?_; exact chk_load rfl (by exact S.g0 hS) rfl rfl; exact chkFs_nil; (iterate 5 refine chk_skip ?_); refine chk_unw 7 rfl rfl rfl ?_; (iterate 3 refine chk_skip ?_); refine chk_unw 3 rfl rfl rfl ?_; (iterate 2 refine chk_skip ?_); exact chk_end; refine seq_normal ?_; refine wp_false rfl ?_; refine wp_skip ?_; refine cut1 (by (conv => lhs; whnf) <;> rfl) ?_
      exact ⟨[], s1, 0, _, _, rfl, rfl, .inr ⟨h5, rfl, rfl⟩, hS0⟩
    have es := oA_segs h5
    unfold Cn.oA at es
    refine op1_mov rfl (by (conv => lhs; whnf) <;> rfl) ?_; refine wpD_cons ?_; refine op1_nilchk rfl rfl ?_; refine wpD_cons ?_; refine op1_faddr0 rfl rfl ?_; refine wpD_cons ?_; refine op1_load rfl rfl (by exact S.g0 hS) rfl ?_; refine zd1 ?_; refine wpD_cons ?_; refine op1_nilchk rfl rfl ?_; refine wpD_cons ?_; refine op1_faddr0 rfl rfl ?_; refine wpD_cons ?_; refine op1_load rfl rfl (by exact S.g0 hS) rfl ?_; refine wpD_cons ?_; refine op1_eqlI rfl rfl rfl ?_; refine wpD_cons ?_; refine op1_pick_t rfl rfl (by (conv => lhs; whnf) <;> rfl) ?_; refine wpD_nil ?_; refine dk_of ?_ ?_; (iterate 3 refine chk_skip ?_); refine chk_cons 13 rfl rfl rfl ?_ ?_; refine chkFs_cons 0 rfl rfl ?_ ?_; exact chk_load rfl (by exact S.g0 hS) rfl rfl; exact chkFs_nil; (iterate 5 refine chk_skip ?_); refine chk_cons 7 rfl rfl rfl ?_ ?_; refine chkFs_cons 0 rfl rfl ?_ ?_; exact chk_load rfl (by exact S.g0 hS) rfl rfl; exact chkFs_nil; (iterate 3 refine chk_skip ?_); refine chk_cons 3 rfl rfl rfl ?_ ?_; refine chkFs_cons 0 rfl rfl ?_ ?_; exact chk_load rfl (by exact S.g0 hS) rfl rfl; exact chkFs_nil; (iterate 2 refine chk_skip ?_); exact chk_end; refine seq_normal ?_
    refine wp_dec rfl (fun h6 => ?_) (fun h6 => ?_)
    rotate_left
    · rw [if_neg (fun h => h6 h.2)] at es
      refine wp_skip ?_; refine cut1 (by (conv => lhs; whnf) <;> rfl) ?_
      exact ⟨[], s1, 0, _, _, rfl, rfl, .inl ⟨es, h5⟩, hS0⟩
    rw [if_pos ⟨h5, h6⟩] at es
    refine wp_seq ?_; refine wp_regionD ?_; refine zd1 ?_; refine zd1 ?_; refine wpD_cons ?_; refine op1_nilchk rfl rfl ?_; refine wpD_cons ?_; refine op1_faddr0 rfl rfl ?_; refine wpD_cons ?_; refine op1_load rfl rfl (by exact S.g0 hS) rfl ?_; refine zd1 ?_; refine wpD_cons ?_; refine op1_call1 rfl (by (conv => lhs; whnf) <;> rfl) ?_
    refine wpF_mono (L78 (s := s1) (by omega) hS) ?_
    rintro _ H5 ⟨rfl, rfl⟩
    have hT := hS
    obtain ⟨css, hcss, hcl', hS⟩ := S.unarr (S.up3 hS)
    have hone := sg_one (S.up1 hS)
    refine wpD_cons ?_; refine op1_build rfl ?_; refine bk_one (by (conv => lhs; whnf) <;> rfl) rfl rfl rfl ?_; refine bk_one (by (conv => lhs; whnf) <;> rfl) rfl rfl rfl ?_; refine bk_one (by (conv => lhs; whnf) <;> rfl) rfl rfl rfl ?_; refine bk_nil ?_; refine wpD_cons ?_; refine op1_bsliceS rfl hS ?_; refine bk_agg rfl rfl rfl rfl ?_; refine bk_nil ?_; intro p2 H4 hS; refine wpD_cons ?_; (refine op1_appBS rfl rfl (by (conv => lhs; whnf) <;> rfl) rfl (S.g0 hS) rfl rfl (S.up1 hS) (by omega) ?_; intro a1 c1 H5 hS; replace hS := S.dn1 hS; replace hS := S.drop hS); refine zd1 ?_; refine wpD_nil ?_; refine dk_of ?_ ?_; (iterate 4 refine chk_skip ?_); refine chk_cons 7 rfl rfl rfl ?_ ?_; refine chkFs_cons 5 rfl rfl ?_ ?_; exact chk_load rfl (by exact S.g2 (by assumption)) rfl rfl; refine chkFs_cons 2 rfl rfl ?_ ?_; exact chk_load rfl (by exact S.g3 (by assumption)) rfl rfl; exact chkFs_nil; (iterate 6 refine chk_skip ?_); exact chk_end; refine seq_normal ?_; refine wp_region ?_; refine zw1 ?_; refine wpO_cons ?_; refine op1_nilchk rfl rfl ?_; refine wpO_cons ?_; refine op1_faddr0 rfl rfl ?_; refine wpO_cons ?_; refine op1_load rfl rfl (by exact S.g2 hS) rfl ?_; refine wpO_cons ?_
    refine op1_addW rfl rfl rfl ?_
    refine wpO_cons ?_; refine op1_nilchk rfl rfl ?_; refine wpO_cons ?_; refine op1_faddr0 rfl rfl ?_; refine wpO_cons ?_; (refine op1_store1S rfl rfl (by (conv => lhs; whnf) <;> rfl) rfl rfl (S.up2 hS) rfl ?_; intro H6 hS; replace hS := S.dn2 hS); refine wpO_nil ?_; refine cut1 (by (conv => lhs; whnf) <;> rfl) ?_
    have h9 := sg_snoc (g := ⟨1, s1.first, 0, 4096 - s1.inc.length, []⟩) (l := []) (n := 0) (ad := none) (cd := 0) hcss rfl (S.up1 (S.slNil hS))
    exact ⟨_, _, 1, _, _, rfl, rfl, .inl ⟨es, h5⟩, closeD (s := { s1 with nxt := IntKind.u32.wrap (s1.nxt + 1) }) (S.up3 (S.up3 (S.up3 h9)))⟩
  clear hS
  rintro vs3 T3 H3 ⟨l, c, n, al, cl, rfl, hn, hlc, hS⟩
  skip
  refine wp_cut [6] (fun vs H' => ∃ (l : List Sg) (c : Cn) (n : Nat) (al : Option Addr) (cl : Nat), vs = [.slice al n cl] ∧ n = l.length ∧ ((s1.segs = (l, c) ∧ (c.st = 2 ∨ c.st = 3)) ∨ (s1.segs = s1.oD ∧ l = [] ∧ c = s1)) ∧ S B H' (repD p c :: arr 5 sgA (.slice al n cl) l :: As)) ?_ ?_
  · have hS0 := hS
    obtain ⟨ao, co, ai, ci, ho, hi, hO⟩ := openD hS
    clear hS
    have hS := hO
    clear hO
    unfold rfC at hS
    refine wp_seq ?_; refine wp_regionD ?_; refine zd1 ?_; refine wpD_cons ?_; refine op1_nilchk rfl rfl ?_; refine wpD_cons ?_; refine op1_faddr0 rfl rfl ?_; refine wpD_cons ?_; refine op1_load rfl rfl (by exact S.g0 hS) rfl ?_; refine wpD_cons ?_; refine op1_eqlI rfl rfl rfl ?_; refine zd1 ?_; refine wpD_cons ?_
    refine op1_dec rfl (fun h5 => ?_) (fun h5 => ?_)
    rotate_left
    · refine op1_skip rfl ?_; refine wpD_cons ?_; refine op1_skip rfl ?_; refine wpD_cons ?_; refine op1_skip rfl ?_; refine wpD_cons ?_; refine op1_skip rfl ?_; refine wpD_cons ?_; refine op1_skip rfl ?_; refine wpD_cons ?_; refine op1_skip rfl ?_; refine wpD_cons ?_; refine op1_skip rfl ?_; refine wpD_cons ?_; refine op1_skip rfl ?_; refine wpD_cons ?_; refine op1_skip rfl ?_; refine wpD_cons ?_; refine op1_pick_f rfl rfl (by (conv => lhs; whnf) <;> rfl) ?_; refine wpD_nil ?_; refine dk_of ?_ ?_; (iterate 3 refine chk_skip ?_); refine chk_cons 13 rfl rfl rfl ?_ ?_; refine chkFs_cons 0 rfl rfl ?_ ?_; exact chk_load rfl (by exact S.g0 hS) rfl rfl; exact chkFs_nil; (iterate 5 refine chk_skip ?_); refine chk_unw 7 rfl rfl rfl ?_; (iterate 3 refine chk_skip ?_); refine chk_unw 3 rfl rfl rfl ?_; (iterate 2 refine chk_skip ?_); exact chk_end; refine seq_normal ?_; refine wp_false rfl ?_; refine wp_skip ?_; refine cut1 (by (conv => lhs; whnf) <;> rfl) ?_
      refine ⟨l, c, n, _, _, rfl, hn, ?_, hS0⟩
      rcases hlc with ⟨k1, k2⟩ | ⟨k1, k2, k3⟩
      · exact .inl ⟨k1, .inl k2⟩
      · exact .inr ⟨oD_segs k1 (by rw [← k3]; exact h5), k2, k3⟩
    obtain ⟨k1, rfl, rfl⟩ : s1.st ≠ 2 ∧ l = [] ∧ c = s1 := by
      rcases hlc with ⟨k1, k2⟩ | k
      · omega
      · exact k
    obtain rfl : n = 0 := hn
    have es := oB_segs h5
    unfold Cn.oB at es
    refine op1_mov rfl (by (conv => lhs; whnf) <;> rfl) ?_; refine wpD_cons ?_; refine op1_nilchk rfl rfl ?_; refine wpD_cons ?_; refine op1_faddr0 rfl rfl ?_; refine wpD_cons ?_; refine op1_load rfl rfl (by exact S.g0 hS) rfl ?_; refine zd1 ?_; refine wpD_cons ?_; refine op1_nilchk rfl rfl ?_; refine wpD_cons ?_; refine op1_faddr0 rfl rfl ?_; refine wpD_cons ?_; refine op1_load rfl rfl (by exact S.g0 hS) rfl ?_; refine wpD_cons ?_; refine op1_eqlI rfl rfl rfl ?_; refine wpD_cons ?_; refine op1_pick_t rfl rfl (by (conv => lhs; whnf) <;> rfl) ?_; refine wpD_nil ?_; refine dk_of ?_ ?_; (iterate 3 refine chk_skip ?_); refine chk_cons 13 rfl rfl rfl ?_ ?_; refine chkFs_cons 0 rfl rfl ?_ ?_; exact chk_load rfl (by exact S.g0 hS) rfl rfl; exact chkFs_nil; (iterate 5 refine chk_skip ?_); refine chk_cons 7 rfl rfl rfl ?_ ?_; refine chkFs_cons 0 rfl rfl ?_ ?_; exact chk_load rfl (by exact S.g0 hS) rfl rfl; exact chkFs_nil; (iterate 3 refine chk_skip ?_); refine chk_cons 3 rfl rfl rfl ?_ ?_; refine chkFs_cons 0 rfl rfl ?_ ?_; exact chk_load rfl (by exact S.g0 hS) rfl rfl; exact chkFs_nil; (iterate 2 refine chk_skip ?_); exact chk_end; refine seq_normal ?_
    refine wp_dec rfl (fun h6 => ?_) (fun h6 => ?_)
    rotate_left
    · rw [if_neg (fun h => h6 h.2)] at es
      refine wp_skip ?_; refine cut1 (by (conv => lhs; whnf) <;> rfl) ?_
      exact ⟨[], c, 0, _, _, rfl, rfl, .inl ⟨es, .inr h5⟩, hS0⟩
    rw [if_pos ⟨h5, h6⟩] at es
    refine wp_seq ?_; refine wp_regionD ?_; refine zd1 ?_; refine zd1 ?_; refine wpD_cons ?_; refine op1_nilchk rfl rfl ?_; refine wpD_cons ?_; refine op1_faddr0 rfl rfl ?_; refine wpD_cons ?_; refine op1_load rfl rfl (by exact S.g0 hS) rfl ?_; refine zd1 ?_; refine wpD_cons ?_; refine op1_nilchk rfl rfl ?_; refine wpD_cons ?_; refine op1_faddr0 rfl rfl ?_; refine wpD_cons ?_; refine op1_load rfl rfl (by exact S.g0 hS) rfl ?_; refine zd1 ?_; refine wpD_cons ?_; refine op1_call1 rfl (by (conv => lhs; whnf) <;> rfl) ?_
    refine wpF_mono (L78 (s := c) (by omega) hS) ?_
    rintro _ H5 ⟨rfl, rfl⟩
    have hT := hS
    obtain ⟨css, hcss, hcl', hS⟩ := S.unarr (S.up3 hS)
    have hone := sg_one (S.up1 hS)
    refine wpD_cons ?_; refine op1_build rfl ?_; refine bk_one (by (conv => lhs; whnf) <;> rfl) rfl rfl rfl ?_; refine bk_one (by (conv => lhs; whnf) <;> rfl) rfl rfl rfl ?_; refine bk_one (by (conv => lhs; whnf) <;> rfl) rfl rfl rfl ?_; refine bk_one (by (conv => lhs; whnf) <;> rfl) rfl rfl rfl ?_; refine bk_nil ?_; refine wpD_cons ?_; refine op1_bsliceS rfl hS ?_; refine bk_agg rfl rfl rfl rfl ?_; refine bk_nil ?_; intro p2 H4 hS; refine wpD_cons ?_; (refine op1_appBS rfl rfl (by (conv => lhs; whnf) <;> rfl) rfl (S.g0 hS) rfl rfl (S.up1 hS) (by omega) ?_; intro a1 c1 H5 hS; replace hS := S.dn1 hS; replace hS := S.drop hS); refine zd1 ?_; refine wpD_nil ?_; refine dk_of ?_ ?_; (iterate 4 refine chk_skip ?_); refine chk_cons 11 rfl rfl rfl ?_ ?_; refine chkFs_cons 5 rfl rfl ?_ ?_; exact chk_load rfl (by exact S.g2 (by assumption)) rfl rfl; refine chkFs_cons 2 rfl rfl ?_ ?_; exact chk_load rfl (by exact S.g3 (by assumption)) rfl rfl; exact chkFs_nil; (iterate 3 refine chk_skip ?_); refine chk_cons 7 rfl rfl rfl ?_ ?_; refine chkFs_cons 5 rfl rfl ?_ ?_; exact chk_load rfl (by exact S.g2 (by assumption)) rfl rfl; refine chkFs_cons 2 rfl rfl ?_ ?_; exact chk_load rfl (by exact S.g3 (by assumption)) rfl rfl; exact chkFs_nil; (iterate 6 refine chk_skip ?_); exact chk_end; refine seq_normal ?_; refine wp_region ?_; refine zw1 ?_; refine wpO_cons ?_; refine op1_nilchk rfl rfl ?_; refine wpO_cons ?_; refine op1_faddr0 rfl rfl ?_; refine wpO_cons ?_; refine op1_load rfl rfl (by exact S.g2 hS) rfl ?_; refine wpO_cons ?_
    refine op1_addW rfl rfl rfl ?_
    refine wpO_cons ?_; refine op1_nilchk rfl rfl ?_; refine wpO_cons ?_; refine op1_faddr0 rfl rfl ?_; refine wpO_cons ?_; (refine op1_store1S rfl rfl (by (conv => lhs; whnf) <;> rfl) rfl rfl (S.up2 hS) rfl ?_; intro H6 hS; replace hS := S.dn2 hS); refine wpO_nil ?_; refine cut1 (by (conv => lhs; whnf) <;> rfl) ?_
    have h9 := sg_snoc (g := c.sgm 3 c.first []) (l := []) (n := 0) (ad := none) (cd := 0) hcss rfl (S.up1 (S.slNil hS))
    exact ⟨_, _, 1, _, _, rfl, rfl, .inl ⟨es, .inr h5⟩, closeD (s := { c with nxt := IntKind.u32.wrap (c.nxt + 1) }) (S.up3 (S.up3 (S.up3 h9)))⟩
  clear hS hlc
  rintro vs4 T4 H4 ⟨l, c, n, al, cl, rfl, hn, hlc, hS⟩
  skip
  refine wp_cut [6] (fun vs H' => ∃ (al : Option Addr) (cl : Nat), vs = [.slice al s1.segs.1.length cl] ∧ S B H' (repD p s1.segs.2 :: arr 5 sgA (.slice al s1.segs.1.length cl) s1.segs.1 :: As)) ?_ ?_
  · have hS0 := hS
    obtain ⟨ao, co, ai, ci, ho, hi, hO⟩ := openD hS
    clear hS
    have hS := hO
    clear hO
    unfold rfC at hS
    skip
    refine wp_cut [203] (fun vs H' => vs = [.bool (decide (c.st = 4 ∨ c.st = 5 ∨ c.st = 6 ∨ c.st = 7))] ∧ H4 = H') ?_ ?_
    · refine wp_region ?_; refine zw1 ?_; refine wpO_cons ?_; refine op1_nilchk rfl rfl ?_; refine wpO_cons ?_; refine op1_faddr0 rfl rfl ?_; refine wpO_cons ?_; refine op1_load rfl rfl (by exact S.g0 hS) rfl ?_; refine wpO_cons ?_; refine op1_eqlI rfl rfl rfl ?_; refine zw1 ?_; refine wpO_cons ?_
      refine op1_dec rfl (fun h4 => ?_) (fun h4 => ?_)
      · refine op1_skip rfl ?_; refine wpO_cons ?_; refine op1_skip rfl ?_; refine wpO_cons ?_; refine op1_skip rfl ?_; refine wpO_cons ?_; refine op1_skip rfl ?_; refine wpO_cons ?_; refine op1_skip rfl ?_; refine wpO_cons ?_; refine op1_pick_t rfl rfl (by (conv => lhs; whnf) <;> rfl) ?_; refine zw1 ?_; refine wpO_cons ?_; refine op1_skip rfl ?_; refine wpO_cons ?_; refine op1_skip rfl ?_; refine wpO_cons ?_; refine op1_skip rfl ?_; refine wpO_cons ?_; refine op1_skip rfl ?_; refine wpO_cons ?_; refine op1_skip rfl ?_; refine wpO_cons ?_; refine op1_pick_t rfl rfl (by (conv => lhs; whnf) <;> rfl) ?_; refine zw1 ?_; refine wpO_cons ?_; refine op1_skip rfl ?_; refine wpO_cons ?_; refine op1_skip rfl ?_; refine wpO_cons ?_; refine op1_skip rfl ?_; refine wpO_cons ?_; refine op1_skip rfl ?_; refine wpO_cons ?_; refine op1_skip rfl ?_; refine wpO_cons ?_; refine op1_pick_t rfl rfl (by (conv => lhs; whnf) <;> rfl) ?_; refine wpO_nil ?_; refine cut1 (by (conv => lhs; whnf) <;> rfl) ?_
        exact ⟨bool_leaf (by simp [h4]), rfl⟩
      refine op1_mov rfl (by (conv => lhs; whnf) <;> rfl) ?_; refine wpO_cons ?_; refine op1_nilchk rfl rfl ?_; refine wpO_cons ?_; refine op1_faddr0 rfl rfl ?_; refine wpO_cons ?_; refine op1_load rfl rfl (by exact S.g0 hS) rfl ?_; refine wpO_cons ?_; refine op1_eqlI rfl rfl rfl ?_; refine wpO_cons ?_; refine op1_pick_f rfl rfl (by (conv => lhs; whnf) <;> rfl) ?_; refine zw1 ?_; refine wpO_cons ?_
      refine op1_dec rfl (fun h5 => ?_) (fun h5 => ?_)
      · refine op1_skip rfl ?_; refine wpO_cons ?_; refine op1_skip rfl ?_; refine wpO_cons ?_; refine op1_skip rfl ?_; refine wpO_cons ?_; refine op1_skip rfl ?_; refine wpO_cons ?_; refine op1_skip rfl ?_; refine wpO_cons ?_; refine op1_pick_t rfl rfl (by (conv => lhs; whnf) <;> rfl) ?_; refine zw1 ?_; refine wpO_cons ?_; refine op1_skip rfl ?_; refine wpO_cons ?_; refine op1_skip rfl ?_; refine wpO_cons ?_; refine op1_skip rfl ?_; refine wpO_cons ?_; refine op1_skip rfl ?_; refine wpO_cons ?_; refine op1_skip rfl ?_; refine wpO_cons ?_; refine op1_pick_t rfl rfl (by (conv => lhs; whnf) <;> rfl) ?_; refine wpO_nil ?_; refine cut1 (by (conv => lhs; whnf) <;> rfl) ?_
        exact ⟨bool_leaf (by simp [h5]), rfl⟩
      refine op1_mov rfl (by (conv => lhs; whnf) <;> rfl) ?_; refine wpO_cons ?_; refine op1_nilchk rfl rfl ?_; refine wpO_cons ?_; refine op1_faddr0 rfl rfl ?_; refine wpO_cons ?_; refine op1_load rfl rfl (by exact S.g0 hS) rfl ?_; refine wpO_cons ?_; refine op1_eqlI rfl rfl rfl ?_; refine wpO_cons ?_; refine op1_pick_f rfl rfl (by (conv => lhs; whnf) <;> rfl) ?_; refine zw1 ?_; refine wpO_cons ?_
      refine op1_dec rfl (fun h6 => ?_) (fun h6 => ?_)
      · refine op1_skip rfl ?_; refine wpO_cons ?_; refine op1_skip rfl ?_; refine wpO_cons ?_; refine op1_skip rfl ?_; refine wpO_cons ?_; refine op1_skip rfl ?_; refine wpO_cons ?_; refine op1_skip rfl ?_; refine wpO_cons ?_; refine op1_pick_t rfl rfl (by (conv => lhs; whnf) <;> rfl) ?_; refine wpO_nil ?_; refine cut1 (by (conv => lhs; whnf) <;> rfl) ?_
        exact ⟨bool_leaf (by simp [h6]), rfl⟩
      · refine op1_mov rfl (by (conv => lhs; whnf) <;> rfl) ?_; refine wpO_cons ?_; refine op1_nilchk rfl rfl ?_; refine wpO_cons ?_; refine op1_faddr0 rfl rfl ?_; refine wpO_cons ?_; refine op1_load rfl rfl (by exact S.g0 hS) rfl ?_; refine wpO_cons ?_; refine op1_eqlI rfl rfl rfl ?_; refine wpO_cons ?_; refine op1_pick_f rfl rfl (by (conv => lhs; whnf) <;> rfl) ?_; refine wpO_nil ?_; refine cut1 (by (conv => lhs; whnf) <;> rfl) ?_
        exact ⟨bool_leaf (by simp [h4, h5, h6]), rfl⟩
    rintro vs5 T5 H5 ⟨rfl, rfl⟩
    refine wp_dec rfl (fun h5 => ?_) (fun h5 => ?_)
    rotate_left
    · refine wp_skip ?_; refine cut1 (by (conv => lhs; whnf) <;> rfl) ?_
      subst hn
      rcases hlc with ⟨k1, k2⟩ | ⟨k1, rfl, rfl⟩
      · rw [k1]
        exact ⟨_, _, rfl, hS0⟩
      · have e : c.segs = ([], c) := by rw [k1]; unfold Cn.oD; rw [if_neg h5]
        rw [e]
        exact ⟨_, _, rfl, hS0⟩
    obtain ⟨k1, rfl, rfl⟩ : s1.segs = s1.oD ∧ l = [] ∧ c = s1 := by
      rcases hlc with ⟨k1, k2⟩ | k
      · omega
      · exact k
    obtain rfl : n = 0 := hn
    have e : c.segs = c.dat := by rw [k1]; unfold Cn.oD; rw [if_pos h5]
    have hdl5 : c.dat.1.length ≤ 5000 := by rw [← e]; exact hsl
    rw [e]
    clear k1 e hlc
    refine wp_region ?_; refine zw1 ?_; refine zw1 ?_; refine wpO_cons ?_; refine op1_call1 rfl (by (conv => lhs; whnf) <;> rfl) ?_
    refine wpF_mono (L85 hok2 hS0) ?_
    clear hS hS0
    rintro _ H6 ⟨a6, c6, rfl, hS⟩
    obtain ⟨css, hcss, hcl', hS⟩ := S.unarr hS
    have hone := sg_one (S.up1 hS)
    have hlen := flat_len5 css hcss
    rw [hcl'] at hlen
    obtain ⟨r6, hr6, _⟩ := S.rd hS
    obtain ⟨cs0, hcs0, hcl0, hS⟩ := S.unarr (S.up3 hS)
    obtain rfl : cs0 = [] := List.eq_nil_of_length_eq_zero hcl0
    refine wpO_cons ?_
    refine op1_appRS rfl rfl (by (conv => lhs; whnf) <;> rfl) rfl hr6 hlen hone hS (by show 0 + _ ≤ _; omega) ?_
    rw [Nat.zero_add, List.flatten_nil, List.nil_append]
    intro a7 c7 H7 hS
    refine zw1 ?_; refine wpO_nil ?_; refine cut1 (by (conv => lhs; whnf) <;> rfl) ?_
    exact ⟨_, _, rfl, S.up1 (S.arrI (S.drop (S.up1 (S.drop (S.up2 hS)))) hcss)⟩
  clear hS hlc
  rintro vs5 T5 H5 ⟨al, cl, rfl, hS⟩
  unfold Cn.sent
  obtain ⟨l, hl⟩ : ∃ z, z = s1.segs.1 := ⟨_, rfl⟩
  obtain ⟨s2, hs2⟩ : ∃ z, z = s1.segs.2 := ⟨_, rfl⟩
  rw [← hl, ← hs2] at hS
  rw [← hl] at hsd hsl hsf
  rw [← hs2] at hok3
  rw [← hl, ← hs2]
  clear hl hs2
  have hil2 := hok3.inc
  have hd2 := ackd_data (s := s2) hsd
  have hf2 := ackd_fl (s := s2) hsf
  have hl2l : (s2.ackd l).length ≤ 5001 := by unfold Cn.ackd; split; simp; omega
  obtain ⟨l2, hl2⟩ : ∃ z, z = s2.ackd l := ⟨_, rfl⟩
  skip
  refine wp_cut [6] (fun vs H' => ∃ (al : Option Addr) (cl : Nat), vs = [.slice al l2.length cl] ∧ S B H' (repD p s2 :: arr 5 sgA (.slice al l2.length cl) l2 :: As)) ?_ ?_
  · rw [hl2]
    unfold Cn.ackd
    obtain ⟨f1, hf1⟩ : ∃ z, z = s2.due := ⟨_, rfl⟩
    obtain ⟨f3, hf3⟩ : ∃ z, z = s2.synced := ⟨_, rfl⟩
    rw [← hf1, ← hf3]
    have hS0 := hS
    obtain ⟨ao, co, ai, ci, ho, hi, hO⟩ := openD hS
    clear hS
    have hS := hO
    clear hO
    unfold rfC at hS
    have hT := hS
    rw [← hf1, ← hf3] at hS
    cases f1
    · rw [if_neg (by simp)]
      refine zsr ?_; refine zw1 ?_; refine wpO_cons ?_; refine op1_nilchk rfl rfl ?_; refine wpO_cons ?_; refine op1_faddr0 rfl rfl ?_; refine wpO_cons ?_; refine op1_load rfl rfl (by exact S.g0 hS) rfl ?_; refine zw1 ?_; refine wpO_cons ?_; refine op1_skip rfl ?_; refine wpO_cons ?_; refine op1_skip rfl ?_; refine wpO_cons ?_; refine op1_skip rfl ?_; refine wpO_cons ?_; refine op1_pick_f rfl rfl (by (conv => lhs; whnf) <;> rfl) ?_; refine zw1 ?_; refine wpO_cons ?_; refine op1_skip rfl ?_; refine wpO_cons ?_; refine op1_skip rfl ?_; refine wpO_cons ?_; refine op1_skip rfl ?_; refine wpO_cons ?_; refine op1_skip rfl ?_; refine wpO_cons ?_; refine op1_pick_f rfl rfl (by (conv => lhs; whnf) <;> rfl) ?_; refine zns ?_; refine wp_false rfl ?_; refine wp_skip ?_; refine cut1 (by (conv => lhs; whnf) <;> rfl) ?_
      exact ⟨al, cl, rfl, hS0⟩
    refine zsr ?_; refine zw1 ?_; refine wpO_cons ?_; refine op1_nilchk rfl rfl ?_; refine wpO_cons ?_; refine op1_faddr0 rfl rfl ?_; refine wpO_cons ?_; refine op1_load rfl rfl (by exact S.g0 hS) rfl ?_; refine zw1 ?_; refine zw1 ?_; refine wpO_cons ?_; refine op1_len rfl rfl ?_; refine wpO_cons ?_; refine op1_eqlI rfl rfl rfl ?_; refine wpO_cons ?_; refine op1_pick_t rfl rfl (by (conv => lhs; whnf) <;> rfl) ?_; refine zw1 ?_; refine wpO_cons ?_
    refine op1_dec rfl (fun h1 => ?_) (fun h1 => ?_)
    rotate_left
    · rw [if_neg (fun h => h1 (by omega))]
      refine op1_skip rfl ?_; refine wpO_cons ?_; refine op1_skip rfl ?_; refine wpO_cons ?_; refine op1_skip rfl ?_; refine wpO_cons ?_; refine op1_skip rfl ?_; refine wpO_cons ?_; refine op1_pick_f rfl rfl (by (conv => lhs; whnf) <;> rfl) ?_; refine zns ?_; refine wp_false rfl ?_; refine wp_skip ?_; refine cut1 (by (conv => lhs; whnf) <;> rfl) ?_
      exact ⟨al, cl, rfl, hS0⟩
    refine op1_mov rfl (by (conv => lhs; whnf) <;> rfl) ?_; refine wpO_cons ?_; refine op1_nilchk rfl rfl ?_; refine wpO_cons ?_; refine op1_faddr0 rfl rfl ?_; refine wpO_cons ?_; refine op1_load rfl rfl (by exact S.g0 hS) rfl ?_; refine wpO_cons ?_; refine op1_pick_t rfl rfl (by (conv => lhs; whnf) <;> rfl) ?_; refine zns ?_
    cases f3
    · rw [if_neg (by simp)]
      refine wp_false rfl ?_; refine wp_skip ?_; refine cut1 (by (conv => lhs; whnf) <;> rfl) ?_
      exact ⟨al, cl, rfl, hS0⟩
    rw [if_pos ⟨rfl, by omega, rfl⟩]
    obtain rfl : l = [] := List.eq_nil_of_length_eq_zero (by omega)
    refine wp_true rfl ?_; refine wp_regionD ?_; refine zd1 ?_; refine zd1 ?_; refine wpD_cons ?_; refine op1_nilchk rfl rfl ?_; refine wpD_cons ?_; refine op1_faddr0 rfl rfl ?_; refine wpD_cons ?_; refine op1_load rfl rfl (by exact S.g0 hS) rfl ?_; refine zd1 ?_; refine wpD_cons ?_; refine op1_nilchk rfl rfl ?_; refine wpD_cons ?_; refine op1_faddr0 rfl rfl ?_; refine wpD_cons ?_; refine op1_load rfl rfl (by exact S.g0 hS) rfl ?_; refine zd1 ?_; refine wpD_cons ?_; refine op1_call1 rfl (by (conv => lhs; whnf) <;> rfl) ?_
    refine wpF_mono (L78 (s := s2) (by omega) hT) ?_
    rintro _ H6 ⟨rfl, rfl⟩
    obtain ⟨css, hcss, hcl', hS⟩ := S.unarr (S.up3 hT)
    have hone := sg_one (S.up1 hS)
    refine wpD_cons ?_; refine op1_build rfl ?_; refine bk_one (by (conv => lhs; whnf) <;> rfl) rfl rfl rfl ?_; refine bk_one (by (conv => lhs; whnf) <;> rfl) rfl rfl rfl ?_; refine bk_one (by (conv => lhs; whnf) <;> rfl) rfl rfl rfl ?_; refine bk_one (by (conv => lhs; whnf) <;> rfl) rfl rfl rfl ?_; refine bk_nil ?_; refine wpD_cons ?_; refine op1_bsliceS rfl hS ?_; refine bk_agg rfl rfl rfl rfl ?_; refine bk_nil ?_; intro p2 H6 hS; refine wpD_cons ?_; (refine op1_appBS rfl rfl (by (conv => lhs; whnf) <;> rfl) rfl (S.g0 hS) rfl rfl (S.up1 hS) (by omega) ?_; intro a1 c1 H7 hS; replace hS := S.dn1 hS; replace hS := S.drop hS); refine zd1 ?_; refine wpD_nil ?_; refine dk_of ?_ ?_; (iterate 4 refine chk_skip ?_); refine chk_cons 11 rfl rfl rfl ?_ ?_; refine chkFs_cons 5 rfl rfl ?_ ?_; exact chk_load rfl (by exact S.g2 (by assumption)) rfl rfl; refine chkFs_cons 2 rfl rfl ?_ ?_; exact chk_load rfl (by exact S.g3 (by assumption)) rfl rfl; exact chkFs_nil; (iterate 3 refine chk_skip ?_); refine chk_cons 7 rfl rfl rfl ?_ ?_; refine chkFs_cons 5 rfl rfl ?_ ?_; exact chk_load rfl (by exact S.g2 (by assumption)) rfl rfl; refine chkFs_cons 2 rfl rfl ?_ ?_; exact chk_load rfl (by exact S.g3 (by assumption)) rfl rfl; exact chkFs_nil; (iterate 6 refine chk_skip ?_); exact chk_end; refine cut1 (by (conv => lhs; whnf) <;> rfl) ?_
    have h9 := sg_snoc (g := s2.sgm 2 s2.nxt []) (l := []) (n := 0) (ad := none) (cd := 0) hcss rfl (S.up1 (S.slNil hS))
    exact ⟨_, _, rfl, closeD (S.up3 (S.up3 (S.up3 h9)))⟩
  rw [← hl2] at hd2 hl2l hf2 ⊢
  clear hS
  rintro vs6 T6 H6 ⟨al, cl, rfl, hS⟩
  refine wp_seq ?_; refine zsr ?_; refine zw1 ?_; refine zns ?_; refine wp_block ?_
  refine wp_loop [7] (fun k vs H' => ∃ i : Nat, vs = [.int .i64 i] ∧ k = l2.length - i ∧ i ≤ l2.length ∧ S B H' (arr 5 sgA (.slice al l2.length cl) l2 :: repD p ((l2.take i).foldl (Cn.mark now) s2) :: As)) ⟨_, 0, rfl, rfl, by omega, S.up1 hS⟩ ?_
  clear hS
  rintro k vs T7 H7 ⟨i, rfl, rfl, hi, hS⟩
  refine wp_seq ?_; refine zsr ?_; refine zw1 ?_; refine zw1 ?_; refine wpO_cons ?_; refine op1_len rfl rfl ?_; refine wpO_cons ?_; refine op1_lss rfl rfl rfl ?_; refine zns ?_
  refine wp_dec rfl (fun h1 => ?_) (fun h1 => ?_)
  rotate_left
  · obtain rfl : i = l2.length := by omega
    rw [List.take_length] at hS
    refine wp_exit ?_; refine seq_exit ?_; refine iter_exit ?_; refine block_exit ?_; refine seq_normal ?_; refine zsr ?_; refine zw1 ?_; refine zw1 ?_; refine zw1 ?_; refine zns ?_; refine wp_ret ?_; refine ret_of ?_; refine rk_tmp (by (conv => lhs; whnf) <;> rfl) ?_; refine rk_tmp (by (conv => lhs; whnf) <;> rfl) ?_; refine rk_nil ?_
    exact ⟨al, cl, rfl, hS⟩
  obtain ⟨g, hg⟩ : ∃ g, l2[i]? = some g := ⟨l2[i]'(by omega), by simp⟩
  have hgd := hd2 g (List.mem_of_getElem? hg)
  have hgf := hf2 g (List.mem_of_getElem? hg)
  have htk : (l2.take (i + 1)).foldl (Cn.mark now) s2 = Cn.mark now ((l2.take i).foldl (Cn.mark now) s2) g := by rw [List.take_add_one, hg, Option.toList_some, List.foldl_append]; rfl
  obtain ⟨s3, hs3⟩ : ∃ z, z = (l2.take i).foldl (Cn.mark now) s2 := ⟨_, rfl⟩
  rw [← hs3] at hS htk
  obtain ⟨css, hcss, hcl', hS⟩ := S.unarr hS
  obtain ⟨cs, og, hcs, hA, _⟩ := S.many_at (S.up1 hS) hg
  obtain ⟨ag, cg, rfl⟩ := sgA_at hA
  have hcut := flatten_cut hcss hcs
  have hat : css.flatten[i * 5]? = some (.int .i64 g.fl) := flatten_get (j := 0) hcss hcs (by decide)
  obtain ⟨lb, lo, lcs, rfl, _⟩ := S.slBlk hS (by omega)
  replace hS := S.up2 hS
  obtain ⟨ao, co, ai, ci, ho, hi, hO⟩ := openD hS
  clear hS
  have hS := hO
  clear hO
  unfold rfC at hS
  unfold sgC at hcut
  obtain ⟨f2, hf2'⟩ : ∃ z, z = has g.fl 2 := ⟨_, rfl⟩
  obtain ⟨du, hdu⟩ : ∃ z, z = (s3.due && !has g.fl 2) := ⟨_, rfl⟩
  have hdu2 : du = (s3.due && !f2) := by rw [hdu, hf2']
  refine wp_skip ?_; refine seq_normal ?_; refine wp_seq ?_; refine wp_block ?_
  refine wp_cut [] (fun vs H' => vs = [] ∧ S B H' (pto p (.cells (rfC { s3 with due := du } (.slice ao s3.out.length co) (.slice ai s3.inc.length ci)) 0 false) :: sl 1 (.slice ao s3.out.length co) (u8s s3.out) :: sl 1 (.slice ai s3.inc.length ci) (u8s s3.inc) :: sl 5 (.slice (some ⟨lb, lo, none⟩) l2.length cl) css.flatten :: many sgA l2 css :: As)) ?_ ?_
  · refine zsr ?_; refine zw1 ?_; refine zw1 ?_; refine wpO_cons ?_; refine op1_iaddr rfl rfl rfl (by omega) (by omega) ?_; refine wpO_cons ?_; refine op1_faddr rfl rfl ?_; refine wpO_cons ?_
    refine op1_loadL (k := i * 5) rfl rfl (S.up3 hS) (by simp) (by omega) hat ?_
    refine wpO_cons ?_; refine op1_call2 rfl (by (conv => lhs; whnf) <;> rfl) (by (conv => lhs; whnf) <;> rfl) ?_
    refine wpF_mono (L40 (k := 2) hgf (by decide)) ?_
    rw [← hf2']
    rintro _ H8 ⟨rfl, rfl⟩
    cases f2
    · have e1 : du = s3.due := by rw [hdu2]; simp
      rw [e1]
      refine zns ?_; refine wp_false rfl ?_; refine wp_skip ?_; refine cut0  ?_
      exact ⟨rfl, hS⟩
    · have e1 : du = false := by rw [hdu2]; simp
      rw [e1]
      refine zns ?_; refine wp_true rfl ?_; refine wp_region ?_; refine zw1 ?_; refine wpO_cons ?_; refine op1_nilchk rfl rfl ?_; refine wpO_cons ?_; refine op1_faddr0 rfl rfl ?_; refine wpO_cons ?_; (refine op1_store1S rfl rfl (by (conv => lhs; whnf) <;> rfl) rfl rfl (S.up0 hS) rfl ?_; intro H8 hS; replace hS := S.dn0 hS); refine wpO_nil ?_; refine cut0  ?_
      exact ⟨rfl, hS⟩
  clear hS
  rintro vs8 T8 H8 ⟨rfl, hS⟩
  unfold rfC at hS
  dsimp only at hS
  have hmk : Cn.mark now s3 g = { s3 with due := du, run := s3.run || decide (0 < lenS g), since := if 0 < lenS g ∧ s3.run = false then now else s3.since } := by unfold Cn.mark; rw [← hdu]
  have hb1 := b2n_b (has g.fl 1)
  have hb4 := b2n_b (has g.fl 4)
  have hlsb : 0 ≤ lenS g ∧ lenS g ≤ 300 := by unfold lenS; omega
  refine zsr ?_; refine zw1 ?_; refine zw1 ?_; refine wpO_cons ?_; refine op1_iaddr rfl rfl rfl (by omega) (by omega) ?_; refine wpO_cons ?_; refine op1_loadNL rfl rfl (S.up3 hS) rfl rfl (by omega) rfl ?_; refine wpO_cons ?_; refine op1_call1 rfl (by (conv => lhs; whnf) <;> rfl) ?_
  rw [show (i : Int).toNat = i from rfl, hcut]
  skip
  refine wpF_mono (L81 (g := g) hgf (by omega) hS) ?_
  clear hS
  rintro _ H9 ⟨rfl, hS⟩
  rw [hmk] at htk
  clear hmk hdu
  refine wpO_cons ?_; refine op1_gtr rfl rfl rfl ?_; refine zw1 ?_; refine wpO_cons ?_
  refine op1_dec rfl (fun h2 => ?_) (fun h2 => ?_)
  rotate_left
  · rw [decide_eq_false h2, Bool.or_false, if_neg (fun h => h2 h.1)] at htk
    refine op1_skip rfl ?_; refine wpO_cons ?_; refine op1_skip rfl ?_; refine wpO_cons ?_; refine op1_skip rfl ?_; refine wpO_cons ?_; refine op1_skip rfl ?_; refine wpO_cons ?_; refine op1_skip rfl ?_; refine wpO_cons ?_; refine op1_pick_f rfl rfl (by (conv => lhs; whnf) <;> rfl) ?_; refine zns ?_; refine wp_false rfl ?_; refine wp_skip ?_; refine block_normal ?_; refine seq_normal ?_; refine wp_region ?_; refine zw1 ?_; refine wpO_cons ?_; refine op1_add rfl rfl rfl (by exact wrap_i64 (by omega) (by omega)) ?_; refine zw1 ?_; refine wpO_nil ?_
    refine ⟨l2.length - (i + 1), by omega, i + 1, rfl, rfl, by omega, ?_⟩
    rw [htk]
    have h9 := closeD (s := { s3 with due := du }) hS
    exact S.arrI (S.dn2 h9) hcss
  rw [decide_eq_true h2, Bool.or_true] at htk
  obtain ⟨ru, hru⟩ : ∃ z, z = s3.run := ⟨_, rfl⟩
  rw [← hru] at htk
  refine op1_mov rfl (by (conv => lhs; whnf) <;> rfl) ?_; refine wpO_cons ?_; refine op1_nilchk rfl rfl ?_; refine wpO_cons ?_; refine op1_faddr0 rfl rfl ?_; refine wpO_cons ?_; refine op1_load rfl rfl (by exact S.g0 hS) rfl ?_; refine wpO_cons ?_; refine op1_not rfl rfl ?_; refine wpO_cons ?_; refine op1_pick_t rfl rfl (by (conv => lhs; whnf) <;> rfl) ?_; refine zns ?_
  rw [← hru]
  cases ru
  · rw [if_pos ⟨h2, rfl⟩] at htk
    refine wp_true rfl ?_; refine wp_region ?_; refine zw1 ?_; refine zw1 ?_; refine zw1 ?_; refine wpO_cons ?_; refine op1_nilchk rfl rfl ?_; refine wpO_cons ?_; refine op1_faddr0 rfl rfl ?_; refine wpO_cons ?_; (refine op1_store1S rfl rfl (by (conv => lhs; whnf) <;> rfl) rfl rfl (S.up0 hS) rfl ?_; intro H10 hS; replace hS := S.dn0 hS); refine wpO_cons ?_; refine op1_nilchk rfl rfl ?_; refine wpO_cons ?_; refine op1_faddr0 rfl rfl ?_; refine wpO_cons ?_; (refine op1_store1S rfl rfl (by (conv => lhs; whnf) <;> rfl) rfl rfl (S.up0 hS) rfl ?_; intro H11 hS; replace hS := S.dn0 hS); refine wpO_nil ?_; refine block_normal ?_; refine seq_normal ?_; refine wp_region ?_; refine zw1 ?_; refine wpO_cons ?_; refine op1_add rfl rfl rfl (by exact wrap_i64 (by omega) (by omega)) ?_; refine zw1 ?_; refine wpO_nil ?_
    refine ⟨l2.length - (i + 1), by omega, i + 1, rfl, rfl, by omega, ?_⟩
    rw [htk]
    have h9 := closeD (s := { s3 with due := du, run := true, since := now }) hS
    exact S.arrI (S.dn2 h9) hcss
  · rw [if_neg (by simp)] at htk
    refine wp_false rfl ?_; refine wp_skip ?_; refine block_normal ?_; refine seq_normal ?_; refine wp_region ?_; refine zw1 ?_; refine wpO_cons ?_; refine op1_add rfl rfl rfl (by exact wrap_i64 (by omega) (by omega)) ?_; refine zw1 ?_; refine wpO_nil ?_
    refine ⟨l2.length - (i + 1), by omega, i + 1, rfl, rfl, by omega, ?_⟩
    rw [htk]
    have e9 : ({ s3 with due := du, run := true, since := s3.since } : Cn) = { s3 with due := du } := by rw [hru]
    rw [e9]
    have h9 := closeD (s := { s3 with due := du }) hS
    exact S.arrI (S.dn2 h9) hcss
theorem L59 (hok : Ok s) (hS : S B H (repD p s :: As)) : wpF C 59 [ptC p] H fun v H' => v = .tuple ⟨[.int .i64 s.next.1, .bool s.next.2]⟩ ∧ S B H' (repD p s :: As) := by
  have hcl := hok.clock
  have hsi := hok.since
  have htm := hok.tmo
  refine wpF_ofW o59 rfl rfl ?_
  have hS0 := hS
  obtain ⟨ao, co, ai, ci, ho, hi, hO⟩ := openD hS
  clear hS
  have hS := hO
  clear hO
  unfold rfC at hS
  unfold ptC Cn.next
  obtain ⟨ol, hol⟩ : ∃ z, z = (s.output s.clock).2.1.length := ⟨_, rfl⟩
  rw [← hol]
  refine zsr ?_; refine zw1 ?_; refine zw1 ?_; refine zns ?_; refine zsr ?_; refine zw1 ?_; refine wpO_cons ?_; refine op1_call1 rfl (by (conv => lhs; whnf) <;> rfl) ?_
  refine wpF_mono (L86 hok hS0) ?_
  clear hS hS0
  rintro _ H2 ⟨q, rfl, hS⟩
  have hU := S.up1 hS
  obtain ⟨ao2, co2, ai2, ci2, ho2, hi2, hU⟩ := openD hU
  unfold rfC at hU
  unfold ptC
  refine zw1 ?_; refine zns ?_; refine wp_seq ?_; refine zsr ?_; refine zw1 ?_; refine zw1 ?_; refine wpO_cons ?_; refine op1_nilchk rfl rfl ?_; refine wpO_cons ?_; refine op1_faddr0 rfl rfl ?_; refine wpO_cons ?_; refine op1_load rfl rfl (by exact S.g0 hU) rfl ?_; refine wpO_cons ?_; refine op1_call2 rfl (by (conv => lhs; whnf) <;> rfl) (by (conv => lhs; whnf) <;> rfl) ?_
  refine wpF_mono (L56 (now := s.clock) hok hS) ?_
  clear hS hU
  rintro _ H3 ⟨a, c, rfl, hS⟩
  rw [← hol]
  have hS0 := S.drop (S.drop hS)
  clear hS
  have hS := hS0
  obtain ⟨ao, co, ai, ci, ho, hi, hO⟩ := openD hS
  clear hS
  have hS := hO
  clear hO
  unfold rfC at hS
  refine zw1 ?_; refine wpO_cons ?_; refine op1_extract rfl rfl rfl ?_; refine wpO_cons ?_; refine op1_extract rfl rfl rfl ?_; refine zw1 ?_; refine zw1 ?_; refine zns ?_; refine zsr ?_; refine zw1 ?_; refine wpO_cons ?_; refine op1_len rfl rfl ?_; refine wpO_cons ?_; refine op1_gtr rfl rfl rfl ?_; refine zns ?_
  refine wp_dec rfl (fun h1 => ?_) (fun h1 => ?_)
  · rw [if_pos (by omega)]
    refine zsr ?_; refine zw1 ?_; refine wpO_cons ?_; refine op1_nilchk rfl rfl ?_; refine wpO_cons ?_; refine op1_faddr0 rfl rfl ?_; refine wpO_cons ?_; refine op1_load rfl rfl (by exact S.g0 hS) rfl ?_; refine zw1 ?_; refine zw1 ?_; refine zns ?_; refine wp_ret ?_; refine seq_ret ?_; refine ret_of ?_; refine rk_tmp (by (conv => lhs; whnf) <;> rfl) ?_; refine rk_tmp (by (conv => lhs; whnf) <;> rfl) ?_; refine rk_nil ?_
    exact ⟨rfl, hS0⟩
  rw [if_neg (by omega)]
  refine wp_skip ?_; refine seq_normal ?_
  obtain ⟨ru, hru⟩ : ∃ z, z = s.run := ⟨_, rfl⟩
  rw [← hru]
  refine wp_seq ?_; refine zsr ?_; refine zw1 ?_; refine wpO_cons ?_; refine op1_nilchk rfl rfl ?_; refine wpO_cons ?_; refine op1_faddr0 rfl rfl ?_; refine wpO_cons ?_; refine op1_load rfl rfl (by exact S.g0 hS) rfl ?_; refine wpO_cons ?_; refine op1_neqI rfl rfl rfl ?_; refine zw1 ?_; refine wpO_cons ?_
  refine op1_ndec rfl (fun h2 => ?_) (fun h2 => ?_)
  · refine op1_mov rfl (by (conv => lhs; whnf) <;> rfl) ?_; refine wpO_cons ?_; refine op1_nilchk rfl rfl ?_; refine wpO_cons ?_; refine op1_faddr0 rfl rfl ?_; refine wpO_cons ?_; refine op1_load rfl rfl (by exact S.g0 hS) rfl ?_; refine wpO_cons ?_; refine op1_pick_t rfl rfl (by (conv => lhs; whnf) <;> rfl) ?_; refine zns ?_
    rw [← hru]
    cases ru
    · rw [if_neg (by simp)]
      refine wp_false rfl ?_; refine wp_skip ?_; refine seq_normal ?_; refine zsr ?_; refine zw1 ?_; refine zw1 ?_; refine zns ?_; refine wp_ret ?_; refine ret_of ?_; refine rk_tmp (by (conv => lhs; whnf) <;> rfl) ?_; refine rk_tmp (by (conv => lhs; whnf) <;> rfl) ?_; refine rk_nil ?_
      exact ⟨rfl, hS0⟩
    · rw [if_pos ⟨h2, rfl⟩]
      refine wp_true rfl ?_; refine wp_seq ?_; refine wp_regionD ?_; refine zd1 ?_; refine wpD_cons ?_; refine op1_nilchk rfl rfl ?_; refine wpD_cons ?_; refine op1_faddr0 rfl rfl ?_; refine wpD_cons ?_; refine op1_load rfl rfl (by exact S.g0 hS) rfl ?_; refine zd1 ?_; refine wpD_cons ?_; refine op1_nilchk rfl rfl ?_; refine wpD_cons ?_; refine op1_faddr0 rfl rfl ?_; refine wpD_cons ?_; refine op1_load rfl rfl (by exact S.g0 hS) rfl ?_; refine zd1 ?_; refine wpD_cons ?_; refine op1_nilchk rfl rfl ?_; refine wpD_cons ?_; refine op1_faddr0 rfl rfl ?_; refine wpD_cons ?_; refine op1_load rfl rfl (by exact S.g0 hS) rfl ?_; refine wpD_cons ?_; refine op1_add rfl rfl rfl (by exact wrap_i64 (by omega) (by omega)) ?_; refine wpD_cons ?_; refine op1_max rfl rfl rfl ?_; refine zd1 ?_; refine zd1 ?_; refine wpD_nil ?_; refine dk_of ?_ ?_; (iterate 3 refine chk_skip ?_); refine chk_cons 13 rfl rfl rfl ?_ ?_; refine chkFs_cons 0 rfl rfl ?_ ?_; exact chk_load rfl (by exact S.g0 hS) rfl rfl; exact chkFs_nil; (iterate 3 refine chk_skip ?_); refine chk_cons 9 rfl rfl rfl ?_ ?_; refine chkFs_cons 0 rfl rfl ?_ ?_; exact chk_load rfl (by exact S.g0 hS) rfl rfl; exact chkFs_nil; (iterate 3 refine chk_skip ?_); refine chk_cons 5 rfl rfl rfl ?_ ?_; refine chkFs_cons 0 rfl rfl ?_ ?_; exact chk_load rfl (by exact S.g0 hS) rfl rfl; exact chkFs_nil; (iterate 4 refine chk_skip ?_); exact chk_end; refine seq_normal ?_; refine wp_ret ?_; refine seq_ret ?_; refine ret_of ?_; refine rk_tmp (by (conv => lhs; whnf) <;> rfl) ?_; refine rk_tmp (by (conv => lhs; whnf) <;> rfl) ?_; refine rk_nil ?_
      exact ⟨rfl, hS0⟩
  · rw [if_neg (fun h => h.1 h2)]
    refine op1_skip rfl ?_; refine wpO_cons ?_; refine op1_skip rfl ?_; refine wpO_cons ?_; refine op1_skip rfl ?_; refine wpO_cons ?_; refine op1_skip rfl ?_; refine wpO_cons ?_; refine op1_pick_f rfl rfl (by (conv => lhs; whnf) <;> rfl) ?_; refine zns ?_; refine wp_false rfl ?_; refine wp_skip ?_; refine seq_normal ?_; refine zsr ?_; refine zw1 ?_; refine zw1 ?_; refine zns ?_; refine wp_ret ?_; refine ret_of ?_; refine rk_tmp (by (conv => lhs; whnf) <;> rfl) ?_; refine rk_tmp (by (conv => lhs; whnf) <;> rfl) ?_; refine rk_nil ?_
    exact ⟨rfl, hS0⟩
end
end Go.E.St
