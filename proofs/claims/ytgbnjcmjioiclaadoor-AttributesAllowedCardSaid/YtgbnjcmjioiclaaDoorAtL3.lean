/- Attributes: the laws' arguments; AttributesAllowed. -/
import Derived.Test.YtgbnjcmjioiclaaDoorAtF2
namespace Go.E.At
open Go Go.E Go.ChangeShapes Go.WideShapes Go.ChangeAt Go.RowKit Go.Proofs.YtgbnjcmjioiclaaDoor.base Go.Proofs.YtgbnjcmjioiclaaDoor Go.Proofs
set_option linter.unusedVariables false
set_option linter.unusedSimpArgs false
set_option maxRecDepth 100000
theorem ut2 : Tryd.prog.underlying 2 = some (.int .i64) := by kernel_rfl
theorem ut3 : Tryd.prog.underlying 3 = some (.int .i64) := by kernel_rfl
theorem ut4 : Tryd.prog.underlying 4 = some .bool := by kernel_rfl
theorem ut23 : fieldsOf Tryd.prog 23 = some [(3,0),(3,1),(3,2),(2,3),(3,4),(4,5)] := by kernel_rfl
theorem ut24 : Tryd.prog.underlying 24 = some (.slice 3) := by kernel_rfl
theorem ut26 : fieldsOf Tryd.prog 26 = some [(3,0),(3,1),(24,2)] := by kernel_rfl
theorem co2 : Tryd.prog.cellsOf 2 = 1 := by kernel_rfl
theorem co3 : Tryd.prog.cellsOf 3 = 1 := by kernel_rfl
theorem co4 : Tryd.prog.cellsOf 4 = 1 := by kernel_rfl
theorem co23 : Tryd.prog.cellsOf 23 = 6 := by kernel_rfl
theorem co24 : Tryd.prog.cellsOf 24 = 1 := by kernel_rfl
theorem co26 : Tryd.prog.cellsOf 26 = 3 := by kernel_rfl
theorem ga23 : aggT Tryd.prog 23 = true := by kernel_rfl
theorem ga26 : aggT Tryd.prog 26 = true := by kernel_rfl
theorem ga3 : aggT Tryd.prog 3 = false := by kernel_rfl
abbrev I64 (x : Int) : Prop := -9223372036854775808 ≤ x ∧ x ≤ 9223372036854775807
structure ObN (x : Ob) : Prop where
  mode : I64 x.mode
  user : I64 x.user
  group : I64 x.group
  size : I64 x.size
  links : I64 x.links
structure CrA (B : AHeap) (x : Cr) (r : List Nat) : Prop where
  user : I64 x.user
  group : I64 x.group
  len : x.gs.length ≤ 9223372036854775807
  rd : RdS B 1 (.slice x.a x.gs.length x.c) (i64s x.gs) r
  lt : ∀ b ∈ r, b < B.next
theorem CrA.ok {B : AHeap} {x : Cr} {r : List Nat} (h : CrA B x r) (hl : x.gs.length ≤ 1000) : CrOk B x r := ⟨hl, h.rd, h.lt⟩
theorem ob_of {gs : List AObj} {us : List Value} {n : Nat} (h : OkA Tryd.prog gs (n + 2) 23 us) : ∃ x : Ob, us = x.cells ∧ ObN x := by
  obtain ⟨hl, hf⟩ := h.struct ut23 co23
  match us, hl with
  | [v0, v1, v2, v3, v4, v5], _ =>
    obtain ⟨a0, e0, h0⟩ := (hf (3, 0) (by simp)).i64 ut3
    obtain ⟨a1, e1, h1⟩ := (hf (3, 1) (by simp)).i64 ut3
    obtain ⟨a2, e2, h2⟩ := (hf (3, 2) (by simp)).i64 ut3
    obtain ⟨a3, e3, h3⟩ := (hf (2, 3) (by simp)).i64 ut2
    obtain ⟨a4, e4, h4⟩ := (hf (3, 4) (by simp)).i64 ut3
    obtain ⟨a5, e5⟩ := (hf (4, 5) (by simp)).bool ut4
    simp only [co2, co3, co4, List.drop_zero, List.take_succ_cons, List.take_zero, List.drop_succ_cons] at e0 e1 e2 e3 e4 e5
    cases e0; cases e1; cases e2; cases e3; cases e4; cases e5
    exact ⟨⟨a0, a1, a2, a3, a4, a5⟩, rfl, h0, h1, h2, h3, h4⟩
theorem cr_of {gs : List AObj} {us : List Value} {n : Nat} (h : OkA Tryd.prog gs (n + 3) 26 us) : ∃ x : Cr, us = x.cells ∧ ∃ r, CrA (startH gs) x r := by
  obtain ⟨hl, hf⟩ := h.struct ut26 co26
  match us, hl with
  | [v0, v1, v2], _ =>
    obtain ⟨a0, e0, h0⟩ := (hf (3, 0) (by simp)).i64 ut3
    obtain ⟨a1, e1, h1⟩ := (hf (3, 1) (by simp)).i64 ut3
    obtain ⟨a, xs, c, r, e2, h2, h3, h4, _⟩ := (hf (24, 2) (by simp)).intS ut24 co3 ut3
    simp only [co3, co24, List.drop_zero, List.take_succ_cons, List.take_zero, List.drop_succ_cons] at e0 e1 e2
    cases e0; cases e1; cases e2
    exact ⟨⟨a0, a1, xs, a, c⟩, rfl, r, h0, h1, h2, h3, h4⟩
theorem arg_ob {gs : List AObj} {n : Nat} {a : Value} (h : ∃ cells, a = argV Tryd.prog 23 cells ∧ OkA Tryd.prog gs (n + 2) 23 cells) : ∃ x : Ob, a = .agg ⟨x.cells⟩ ∧ ObN x := by
  obtain ⟨cells, rfl, h⟩ := h
  obtain ⟨x, rfl, hx⟩ := ob_of h
  exact ⟨x, by unfold argV; rw [ga23]; rfl, hx⟩
theorem arg_cr {gs : List AObj} {n : Nat} {a : Value} (h : ∃ cells, a = argV Tryd.prog 26 cells ∧ OkA Tryd.prog gs (n + 3) 26 cells) : ∃ x : Cr, a = .agg ⟨x.cells⟩ ∧ ∃ r, CrA (startH gs) x r := by
  obtain ⟨cells, rfl, h⟩ := h
  obtain ⟨x, rfl, hx⟩ := cr_of h
  exact ⟨x, by unfold argV; rw [ga26]; rfl, hx⟩
theorem arg_i64 {gs : List AObj} {n : Nat} {a : Value} (h : ∃ cells, a = argV Tryd.prog 3 cells ∧ OkA Tryd.prog gs (n + 1) 3 cells) : ∃ x, a = .int .i64 x ∧ I64 x := by
  obtain ⟨cells, rfl, h⟩ := h
  obtain ⟨x, rfl, hx⟩ := h.i64 ut3
  exact ⟨x, by unfold argV; rw [ga3]; rfl, hx⟩
theorem globS (gs' : List AObj) : Glob objs (startH (objs ++ gs')) := ⟨fun b hb => by
  rw [get_startH]
  simp only [List.getD_eq_getElem?_getD, List.getElem?_append_left hb], by rw [next_startH]; simp⟩
theorem glob_of {B H : AHeap} {As : List Asn} (hB : Glob objs B) (hS : S B H As) : Glob objs H :=
  ⟨fun b hb => (hS.base b (Nat.lt_of_lt_of_le hb hB.le)).trans (hB.get b hb), Nat.le_trans hB.le hS.le⟩

theorem L3 {B : AHeap} {x : Ob} {c : Cr} {r : List Nat} {want : Int} (hB : Glob objs B) (hx : ObN x) (hc : CrA B c r) : wpF C 3 [.agg ⟨x.cells⟩, .agg ⟨c.cells⟩, .int .i64 want] B fun v _ => v = .bool true := by
  have hS := S.start B
  have hlen := hc.len
  refine wpF_ofW o3 rfl rfl ?_
  unfold Ob.cells Cr.cells
  refine zsr ?_; refine wpO_cons ?_; refine op1_boxNS rfl rfl rfl hS ?_; intro p1 H1 hS; refine wpO_cons ?_; refine op1_boxNS rfl rfl rfl hS ?_; intro p2 H2 hS; refine zw1 ?_; refine zns ?_; refine wp_seq ?_; refine zsr ?_; refine zf ?_; refine zh (S.g0 hS) ?_; refine wpO_cons ?_; refine op1_len rfl rfl ?_; refine wpO_cons ?_; refine op1_gtr rfl rfl rfl ?_; refine zns ?_
  refine wp_dec rfl (fun h1 => ?_) (fun h1 => ?_)
  · refine zsr ?_; refine wpO_cons ?_; refine op1_call0 rfl  ?_; refine wpF_known rfl (glob_of hB hS) ?_; refine zw1 ?_; refine zns ?_; refine wp_ret ?_; refine seq_ret ?_; refine ret_of ?_; refine zr ?_; refine rk_nil ?_
    rfl
  refine wp_skip ?_; refine seq_normal ?_; refine wp_seq ?_; refine wp_regionD ?_; refine wpD_cons ?_; refine op1_call0 rfl  ?_; refine wpF_known rfl (glob_of hB hS) ?_; refine zd1 ?_; refine wpD_cons ?_; refine op1_load_6 rfl rfl (by exact S.g1 hS) rfl rfl ?_; refine wpD_cons ?_; refine op1_load_3 rfl rfl (by exact S.g0 hS) rfl rfl ?_; refine zd1 ?_; refine wpD_cons ?_; refine op1_load_6 rfl rfl (by exact S.g1 hS) rfl rfl ?_; refine wpD_cons ?_; refine op1_load_3 rfl rfl (by exact S.g0 hS) rfl rfl ?_; refine zd1 ?_; refine wpD_cons ?_; refine op1_call3 rfl (by (conv => lhs; whnf) <;> rfl) (by (conv => lhs; whnf) <;> rfl) (by (conv => lhs; whnf) <;> rfl) ?_
  have hT := hS
  refine wpF_mono (L10 (x := x) hB (hc.ok (by omega)) hS) ?_
  clear hS
  rintro _ H3 ⟨rfl, hS⟩
  refine wpD_cons ?_; refine op1_call3 rfl (by (conv => lhs; whnf) <;> rfl) (by (conv => lhs; whnf) <;> rfl) (by (conv => lhs; whnf) <;> rfl) ?_
  have hT2 := hS
  refine wpF_mono (L11 (x := x) hx.mode (hc.ok (by omega)) hS) ?_
  clear hS
  rintro _ H4 ⟨rfl, hS⟩
  refine wpD_cons ?_; refine op1_eqlB_s rfl rfl rfl rfl ?_; refine wpD_cons ?_; refine op1_pick_t rfl rfl (by (conv => lhs; whnf) <;> rfl) ?_; refine zd1 ?_; refine wpD_nil ?_; refine dk_of ?_ ?_; (iterate 2 refine chk_skip ?_); refine zx 11 ?_ ?_; refine zy 5 ?_ ?_; exact chk_loadN rfl (by exact S.g1 hT) rfl rfl rfl; exact chkFs_nil; refine zx 10 ?_ ?_; refine zy 5 ?_ ?_; exact chk_loadN rfl (by exact S.g0 hT) rfl rfl rfl; exact chkFs_nil; refine chk_skip ?_; refine zx 8 ?_ ?_; refine zy 5 ?_ ?_; exact chk_loadN rfl (by exact S.g1 hT) rfl rfl rfl; refine zy 4 ?_ ?_; exact chk_loadN rfl (by exact S.g1 hT2) rfl rfl rfl; exact chkFs_nil; refine zx 7 ?_ ?_; refine zy 5 ?_ ?_; exact chk_loadN rfl (by exact S.g0 hT) rfl rfl rfl; refine zy 4 ?_ ?_; exact chk_loadN rfl (by exact S.g0 hT2) rfl rfl rfl; exact chkFs_nil; (iterate 6 refine chk_skip ?_); exact chk_end; refine seq_normal ?_; refine wp_ret ?_; refine ret_of ?_; refine zr ?_; refine rk_nil ?_
  simp [resultV]
end Go.E.At
