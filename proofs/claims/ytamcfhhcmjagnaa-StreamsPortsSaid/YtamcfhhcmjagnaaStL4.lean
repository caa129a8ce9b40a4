/- StreamsPorts. -/
import Derived.Test.YtamcfhhcmjagnaaStP
import Derived.Test.YtamcfhhcmjagnaaStActs
import Derived.Test.YtamcfhhcmjagnaaEhZl
namespace Go.E.St
open Go Go.E Go.ChangeShapes Go.WideShapes Go.ChangeAt Go.RowKit Go.Proofs.Ytamcfhhcmjagnaa Go.Proofs
set_option linter.unusedVariables false
set_option linter.unusedSimpArgs false
set_option maxRecDepth 100000
theorem ut3 : Try.prog.underlying 3 = some (.int .i64) := by kernel_rfl
theorem ut4 : Try.prog.underlying 4 = some .bool := by kernel_rfl
theorem ut5 : Try.prog.underlying 5 = some (.int .u8) := by kernel_rfl
theorem ut23 : Try.prog.underlying 23 = some (.slice 5) := by kernel_rfl
theorem ut34 : Try.prog.underlying 34 = some (.slice 39) := by kernel_rfl
theorem ut35 : Try.prog.underlying 35 = some (.slice 4) := by kernel_rfl
theorem ut37 : fieldsOf Try.prog 37 = some [(3,0),(3,1),(34,2),(35,3)] := by kernel_rfl
theorem ut39 : fieldsOf Try.prog 39 = some [(3,0),(3,1),(23,2)] := by kernel_rfl
theorem co3 : Try.prog.cellsOf 3 = 1 := by kernel_rfl
theorem co4 : Try.prog.cellsOf 4 = 1 := by kernel_rfl
theorem co5 : Try.prog.cellsOf 5 = 1 := by kernel_rfl
theorem co23 : Try.prog.cellsOf 23 = 1 := by kernel_rfl
theorem co34 : Try.prog.cellsOf 34 = 1 := by kernel_rfl
theorem co35 : Try.prog.cellsOf 35 = 1 := by kernel_rfl
theorem co37 : Try.prog.cellsOf 37 = 4 := by kernel_rfl
theorem co39 : Try.prog.cellsOf 39 = 3 := by kernel_rfl
theorem ag37 : aggT Try.prog 37 = true := by kernel_rfl

structure DgF where
  d : Dg
  a : Option Addr
  c : Nat
  r : List Nat
def DgF.cells (x : DgF) : List Value := [.int .i64 x.d.fr, .int .i64 x.d.to, .slice x.a x.d.data.length x.c]
structure DgOk (B : AHeap) (x : DgF) : Prop where
  fr : -9223372036854775808 ≤ x.d.fr ∧ x.d.fr ≤ 9223372036854775807
  to : -9223372036854775808 ≤ x.d.to ∧ x.d.to ≤ 9223372036854775807
  l : x.d.data.length ≤ 9223372036854775807
  rd : RdS B 1 (.slice x.a x.d.data.length x.c) (u8s x.d.data) x.r
  lt : ∀ b ∈ x.r, b < B.next
theorem dg_of {gs : List AObj} {us : List Value} (h : OkA Try.prog gs 3 39 us) : ∃ x : DgF, us = x.cells ∧ DgOk (startH gs) x := by
  obtain ⟨hl, hf⟩ := h.struct ut39 co39
  match us, hl with
  | [v0, v1, v2], _ =>
    obtain ⟨f, e0, h0⟩ := (hf (3, 0) (by simp)).i64 ut3
    obtain ⟨t, e1, h1⟩ := (hf (3, 1) (by simp)).i64 ut3
    obtain ⟨a, xs, c, r, e2, hl, hr, hlt, _⟩ := (hf (23, 2) (by simp)).byteS ut23 co5 ut5
    simp only [co3, co23, List.drop_zero, List.take_succ_cons, List.take_zero, List.drop_succ_cons] at e0 e1 e2
    cases e0; cases e1; cases e2
    exact ⟨⟨⟨f, t, xs⟩, a, c, r⟩, rfl, ⟨h0, h1, hl, hr, hlt⟩⟩
structure PortsF (B : AHeap) where
  num : Int
  lim : Int
  ds : List DgF
  da : Option Addr
  dc : Nat
  dr : List Nat
  ts : List Bool
  ta : Option Addr
  tc : Nat
  tr : List Nat
  hn : -9223372036854775808 ≤ num ∧ num ≤ 9223372036854775807
  hm : -9223372036854775808 ≤ lim ∧ lim ≤ 9223372036854775807
  hd : ds.length ≤ 9223372036854775807
  ht : ts.length ≤ 9223372036854775807
  drd : RdS B 3 (.slice da ds.length dc) (ds.flatMap DgF.cells) dr
  dlt : ∀ b ∈ dr, b < B.next
  dok : ∀ x ∈ ds, DgOk B x
  trd : RdS B 1 (.slice ta ts.length tc) (ts.flatMap fun b => [Value.bool b]) tr
  tlt : ∀ b ∈ tr, b < B.next
theorem arg_ports {gs : List AObj} {a : Value} (h : ∃ cells, a = argV Try.prog 37 cells ∧ OkA Try.prog gs 5 37 cells) :
    ∃ x : PortsF (startH gs), a = .agg ⟨[.int .i64 x.num, .int .i64 x.lim, .slice x.da x.ds.length x.dc, .slice x.ta x.ts.length x.tc]⟩ := by
  obtain ⟨us, rfl, h⟩ := h
  obtain ⟨hl, hf⟩ := h.struct ut37 co37
  match us, hl with
  | [v0, v1, v2, v3], _ =>
    obtain ⟨f, e0, h0⟩ := (hf (3, 0) (by simp)).i64 ut3
    obtain ⟨t, e1, h1⟩ := (hf (3, 1) (by simp)).i64 ut3
    obtain ⟨da, ds, dc, dr, e2, hdl, hdr, hdlt, hdo⟩ := (hf (34, 2) (by simp)).slice (f := DgF.cells) (Q := DgOk (startH gs)) ut34 co39 (fun _ => rfl) fun us h => dg_of h
    obtain ⟨ta, ts, tc, tr, e3, htl, htr, htlt, _⟩ := (hf (35, 3) (by simp)).slice (f := fun b : Bool => [Value.bool b]) (Q := fun _ => True) ut35 co4 (fun _ => rfl) fun us h => by
      obtain ⟨b, rfl⟩ := h.bool ut4
      exact ⟨b, rfl, trivial⟩
    simp only [co3, co34, co35, List.drop_zero, List.take_succ_cons, List.take_zero, List.drop_succ_cons] at e0 e1 e2 e3
    cases e0; cases e1; cases e2; cases e3
    exact ⟨⟨f, t, ds, da, dc, dr, ts, ta, tc, tr, h0, h1, hdl, htl, hdr, hdlt, hdo, htr, htlt⟩, by unfold argV; rw [ag37]; rfl⟩
theorem put_len {s : Po} {d : Dg} (h : s.q.length ≤ s.lim) : (s.put d).lim = s.lim ∧ (s.put d).q.length ≤ s.lim := by
  unfold Po.put
  split
  · rename_i h1
    refine ⟨rfl, ?_⟩
    have : ¬ s.lim ≤ s.q.length := fun h2 => by
      unfold Po.putR at h1
      rw [if_pos h2] at h1
      repeat' split at h1
      all_goals cases h1
    show ((s.q ++ [d]).length : Int) ≤ s.lim
    rw [List.length_append]
    simp
    omega
  · exact ⟨rfl, h⟩
theorem put_data {s : Po} {d : Dg} (h : ∀ d ∈ s.q, d.data.length ≤ 4096) : ∀ x ∈ (s.put d).q, x.data.length ≤ 4096 := by
  unfold Po.put
  split
  · rename_i h1
    have h2 : ¬ 4096 < d.data.length := fun h2 => by
      unfold Po.putR at h1
      rw [if_pos h2] at h1
      split at h1 <;> cases h1
    intro x hx
    rcases List.mem_append.1 (show x ∈ s.q ++ [d] from hx) with hx | hx
    · exact h x hx
    · rw [List.mem_singleton.1 hx]; omega
  · exact h
theorem fst_len {s : Po} (h : ∀ d ∈ s.q, d.data.length ≤ 4096) : s.fst.data.length ≤ 4096 := by
  unfold Po.fst
  cases hq : s.q with
  | nil => exact Nat.zero_le _
  | cons d q => exact h d (by rw [hq]; simp)
theorem L4 {B : AHeap} (x : PortsF B) : wpF C 4 [.agg ⟨[.int .i64 x.num, .int .i64 x.lim, .slice x.da x.ds.length x.dc, .slice x.ta x.ts.length x.tc]⟩] B fun v _ => v = .bool true := by
  obtain ⟨num, lim, ds, da, dc, dr, ts, ta, tc, tr, hn, hm, hd, ht, drd, dlt, dok, trd, tlt⟩ := x
  dsimp only
  have hS := S.start B
  refine wpF_ofW o4 rfl rfl ?_
  refine zsr ?_; refine wpO_cons ?_; refine op1_boxNS rfl rfl rfl hS ?_; intro p1 H1 hS; refine zw1 ?_; refine zns ?_; refine wp_seq ?_; refine wp_regionD ?_; refine wpD_cons ?_; refine op1_faddr0 rfl rfl ?_; refine wpD_cons ?_; refine op1_load rfl rfl (by exact S.g0 hS) rfl ?_; refine wpD_cons ?_; refine op1_faddr0 rfl rfl ?_; refine wpD_cons ?_; refine op1_load rfl rfl (by exact S.g0 hS) rfl ?_; refine wpD_cons ?_; refine op1_faddr0 rfl rfl ?_; refine wpD_cons ?_; refine op1_load rfl rfl (by exact S.g0 hS) rfl ?_; refine wpD_cons ?_; refine op1_faddr0 rfl rfl ?_; refine wpD_cons ?_; refine op1_load rfl rfl (by exact S.g0 hS) rfl ?_; (iterate 4 refine zd1 ?_); refine wpD_nil ?_; refine dk_of ?_ ?_; refine chk_skip ?_; refine chk_cons 11 rfl rfl rfl ?_ ?_; refine chkFs_cons 0 rfl rfl ?_ ?_; exact chk_load rfl (by exact S.g0 hS) rfl rfl; exact chkFs_nil; refine chk_skip ?_; refine chk_cons 9 rfl rfl rfl ?_ ?_; refine chkFs_cons 0 rfl rfl ?_ ?_; exact chk_load rfl (by exact S.g0 hS) rfl rfl; exact chkFs_nil; refine chk_skip ?_; refine chk_cons 7 rfl rfl rfl ?_ ?_; refine chkFs_cons 0 rfl rfl ?_ ?_; exact chk_load rfl (by exact S.g0 hS) rfl rfl; exact chkFs_nil; refine chk_skip ?_; refine chk_cons 5 rfl rfl rfl ?_ ?_; refine chkFs_cons 0 rfl rfl ?_ ?_; exact chk_load rfl (by exact S.g0 hS) rfl rfl; exact chkFs_nil; (iterate 4 refine chk_skip ?_); exact chk_end; refine seq_normal ?_; refine zsr ?_; refine zw1 ?_; refine zns ?_; refine wp_seq ?_; refine zsr ?_; refine zw1 ?_; refine wpO_cons ?_; refine op1_len rfl rfl ?_; refine zw1 ?_; refine zns ?_; refine wp_block ?_
  refine wp_loop [7, 33] (fun k vs H' => ∃ (i : Nat) (n : Int), vs = [.int .i64 n, .int .i64 i] ∧ k = ds.length - i ∧ i ≤ ds.length ∧ S B H' [pto p1 (.cells [.int .i64 num, .int .i64 lim, .slice da ds.length dc, .slice ta ts.length tc] 0 false)]) ⟨_, 0, 0, rfl, rfl, by omega, hS⟩ ?_
  clear hS
  rintro k vs T' H5 ⟨i, n, rfl, rfl, hi, hS⟩
  refine zsr ?_; refine wpO_cons ?_; refine op1_lss rfl rfl rfl ?_; refine zns ?_; refine wp_seq ?_
  refine wp_dec rfl (fun hlt2 => ?_) (fun hlt2 => ?_)
  · obtain ⟨d, hdx⟩ : ∃ d, ds[i]? = some d := ⟨ds[i]'(by omega), by simp⟩
    obtain ⟨b, off, cs, e1, ro, rfl, hg, hle, hrow⟩ := RdS.row (f := DgF.cells) (fun _ => rfl) (hS.rdB drd dlt) rfl hdx
    refine wp_skip ?_; refine seq_normal ?_; refine wp_seq ?_; refine wp_block ?_; refine zsr ?_; refine wpO_cons ?_; refine op1_iaddr rfl rfl rfl (by omega) (by omega) ?_; refine wpO_cons ?_
    refine op1_loadN rfl rfl hg hle hrow ?_
    unfold DgF.cells
    refine wpO_cons ?_; refine op1_allocS rfl hS ?_; intro p2 H2 hS; refine wpO_cons ?_; (refine op1_storeNS rfl rfl (by (conv => lhs; whnf) <;> rfl) rfl rfl (S.up0 hS) (Nat.le_of_ble_eq_true rfl) ?_; intro H3 hS; replace hS := S.dn0 hS); refine zns ?_; refine wp_region ?_; refine zw1 ?_; refine wpO_cons ?_; refine op1_faddr0 rfl rfl ?_; refine wpO_cons ?_; refine op1_load rfl rfl (by exact S.g0 hS) rfl ?_; refine wpO_cons ?_; refine op1_len rfl rfl ?_; refine wpO_cons ?_
    refine op1_addW rfl rfl rfl ?_
    refine zw1 ?_; refine wpO_nil ?_; refine block_normal ?_; refine seq_normal ?_; refine wp_region ?_; refine wpO_cons ?_; refine op1_add rfl rfl rfl (by exact wrap_i64 (by omega) (by omega)) ?_; refine zw1 ?_; refine wpO_nil ?_
    exact ⟨ds.length - (i + 1), by omega, i + 1, _, rfl, rfl, by omega, S.drop hS⟩
  obtain rfl : i = ds.length := by omega
  refine wp_exit ?_; refine seq_exit ?_; refine iter_exit ?_; refine block_exit ?_; refine seq_normal ?_; refine wp_seq ?_; refine zsr ?_; refine zw1 ?_; refine wpO_cons ?_; refine op1_len rfl rfl ?_; refine wpO_cons ?_; refine op1_gtr rfl rfl rfl ?_; refine zw1 ?_; refine wpO_cons ?_
  refine op1_dec rfl (fun h1 => ?_) (fun h1 => ?_)
  · refine op1_skip rfl ?_; refine wpO_cons ?_; refine op1_skip rfl ?_; refine wpO_cons ?_; refine op1_pick_t rfl rfl (by (conv => lhs; whnf) <;> rfl) ?_; refine zns ?_; refine wp_true rfl ?_; refine zsr ?_; refine wpO_cons ?_; refine op1_call0 rfl  ?_; refine wpF_known rfl (globAll _) ?_; refine zw1 ?_; refine zns ?_; refine wp_ret ?_; refine seq_ret ?_; refine ret_of ?_; refine rk_tmp (by (conv => lhs; whnf) <;> rfl) ?_; refine rk_nil ?_
    rfl
  refine op1_mov rfl (by (conv => lhs; whnf) <;> rfl) ?_; refine wpO_cons ?_; refine op1_gtr rfl rfl rfl ?_; refine wpO_cons ?_; refine op1_pick_f rfl rfl (by (conv => lhs; whnf) <;> rfl) ?_; refine zns ?_
  refine wp_dec rfl (fun h2 => ?_) (fun h2 => ?_)
  · refine zsr ?_; refine wpO_cons ?_; refine op1_call0 rfl  ?_; refine wpF_known rfl (globAll _) ?_; refine zw1 ?_; refine zns ?_; refine wp_ret ?_; refine seq_ret ?_; refine ret_of ?_; refine rk_tmp (by (conv => lhs; whnf) <;> rfl) ?_; refine rk_nil ?_
    rfl
  refine wp_skip ?_; refine seq_normal ?_; refine zsr ?_; refine zw1 ?_; refine zw1 ?_; refine wpO_cons ?_; refine op1_call2 rfl (by (conv => lhs; whnf) <;> rfl) (by (conv => lhs; whnf) <;> rfl) ?_
  refine wpF_mono (L16 hS) ?_
  clear hS
  by_cases hP : PoOk num lim
  case neg =>
    rintro _ H6 ⟨h, _⟩
    obtain ⟨rfl, hS⟩ := h hP
    refine zw1 ?_; refine wpO_cons ?_; refine op1_extract rfl rfl rfl ?_; refine wpO_cons ?_; refine op1_extract rfl rfl rfl ?_; refine zw1 ?_; refine zw1 ?_; refine zns ?_; refine zsr ?_; refine zw1 ?_; refine zw1 ?_; refine wpO_cons ?_; refine op1_call2 rfl (by (conv => lhs; whnf) <;> rfl) (by (conv => lhs; whnf) <;> rfl) ?_
    refine wpF_mono (L17 hS) ?_
    clear hS h
    rintro _ H7 ⟨h, _⟩
    obtain ⟨rfl, hS⟩ := h hP
    refine zw1 ?_; refine wpO_cons ?_; refine op1_extract rfl rfl rfl ?_; refine wpO_cons ?_; refine op1_extract rfl rfl rfl ?_; refine zw1 ?_; refine zw1 ?_; refine zns ?_; refine wp_seq ?_; refine zsr ?_; refine zw1 ?_; refine zw1 ?_; refine wpO_cons ?_; refine op1_neqI_s rfl rfl rfl ?_; refine zw1 ?_; refine zw1 ?_; refine wpO_cons ?_; refine op1_bin_true rfl (by (conv => lhs; whnf) <;> rfl) (by (conv => lhs; whnf) <;> rfl) rfl ?_; refine zw1 ?_; refine wpO_cons ?_; refine op1_neqI rfl rfl rfl ?_; refine wpO_cons ?_; refine op1_neqB_s rfl rfl rfl rfl ?_; refine wpO_cons ?_; refine op1_pick_f rfl rfl (by (conv => lhs; whnf) <;> rfl) ?_; refine zns ?_; refine wp_false rfl ?_; refine wp_skip ?_; refine seq_normal ?_; refine wp_seq ?_; refine zsr ?_; refine zw1 ?_; refine zns ?_; refine wp_block ?_
    refine wp_loop [14] (fun k vs H' => ∃ i : Nat, vs = [.int .i64 i] ∧ k = 0 ∧ S B H' []) ⟨_, 0, rfl, rfl, S.drop hS⟩ ?_
    clear hS
    rintro k vs T2 H8 ⟨i, rfl, rfl, hS⟩
    refine wp_seq ?_; refine zsr ?_; refine zw1 ?_; refine zw1 ?_; refine wpO_cons ?_; refine op1_len rfl rfl ?_; refine wpO_cons ?_; refine op1_lss rfl rfl rfl ?_; refine zw1 ?_; refine wpO_cons ?_
    refine op1_dec rfl (fun hlt2 => ?_) (fun hlt2 => ?_)
    · refine op1_mov rfl (by (conv => lhs; whnf) <;> rfl) ?_; refine wpO_cons ?_; refine op1_eqlI rfl rfl rfl ?_; refine wpO_cons ?_; refine op1_pick_t rfl rfl (by (conv => lhs; whnf) <;> rfl) ?_; refine zns ?_; refine wp_false rfl ?_; refine wp_exit ?_; refine seq_exit ?_; refine iter_exit ?_; refine block_exit ?_; refine seq_normal ?_; refine zsr ?_; refine wpO_cons ?_; refine op1_call0 rfl  ?_; refine wpF_known rfl (globAll _) ?_; refine zw1 ?_; refine zns ?_; refine wp_ret ?_; refine ret_of ?_; refine rk_tmp (by (conv => lhs; whnf) <;> rfl) ?_; refine rk_nil ?_
      rfl
    · refine op1_skip rfl ?_; refine wpO_cons ?_; refine op1_skip rfl ?_; refine wpO_cons ?_; refine op1_pick_f rfl rfl (by (conv => lhs; whnf) <;> rfl) ?_; refine zns ?_; refine wp_false rfl ?_; refine wp_exit ?_; refine seq_exit ?_; refine iter_exit ?_; refine block_exit ?_; refine seq_normal ?_; refine zsr ?_; refine wpO_cons ?_; refine op1_call0 rfl  ?_; refine wpF_known rfl (globAll _) ?_; refine zw1 ?_; refine zns ?_; refine wp_ret ?_; refine ret_of ?_; refine rk_tmp (by (conv => lhs; whnf) <;> rfl) ?_; refine rk_nil ?_
      rfl
  rintro _ H6 ⟨_, h⟩
  obtain ⟨p, rfl, hS⟩ := h hP
  refine zw1 ?_; refine wpO_cons ?_; refine op1_extract rfl rfl rfl ?_; refine wpO_cons ?_; refine op1_extract rfl rfl rfl ?_; refine zw1 ?_; refine zw1 ?_; refine zns ?_; refine zsr ?_; refine zw1 ?_; refine zw1 ?_; refine wpO_cons ?_; refine op1_call2 rfl (by (conv => lhs; whnf) <;> rfl) (by (conv => lhs; whnf) <;> rfl) ?_
  refine wpF_mono (L17 hS) ?_
  clear hS
  rintro _ H7 ⟨_, h⟩
  obtain ⟨q, rfl, hS⟩ := h hP
  refine zw1 ?_; refine wpO_cons ?_; refine op1_extract rfl rfl rfl ?_; refine wpO_cons ?_; refine op1_extract rfl rfl rfl ?_; refine zw1 ?_; refine zw1 ?_; refine zns ?_; refine wp_seq ?_; refine zsr ?_; refine zw1 ?_; refine zw1 ?_; refine wpO_cons ?_; refine op1_neqI_s rfl rfl rfl ?_; refine zw1 ?_; refine zw1 ?_; refine wpO_cons ?_; refine op1_bin_false rfl (by (conv => lhs; whnf) <;> rfl) (by (conv => lhs; whnf) <;> rfl) rfl ?_; refine zw1 ?_; refine wpO_cons ?_; refine op1_neqI_s rfl rfl rfl ?_; refine wpO_cons ?_; refine op1_neqB_s rfl rfl rfl rfl ?_; refine wpO_cons ?_; refine op1_pick_f rfl rfl (by (conv => lhs; whnf) <;> rfl) ?_; refine zns ?_; refine wp_false rfl ?_; refine wp_skip ?_; refine seq_normal ?_; refine wp_seq ?_; refine zsr ?_; refine zw1 ?_; refine zns ?_; refine wp_block ?_
  refine wp_loop [14] (fun k vs H' => ∃ (i : Nat) (s : Po), vs = [.int .i64 i] ∧ k = ds.length - i ∧ i ≤ ds.length ∧ s.lim = lim ∧ s.q.length ≤ lim ∧ (∀ d ∈ s.q, d.data.length ≤ 4096) ∧ S B H' [repPo q s, repPo p s]) ⟨_, 0, _, rfl, rfl, by omega, rfl, by unfold PoOk at hP; simp; omega, by simp, S.drop (S.up2 hS)⟩ ?_
  clear hS
  rintro k vs T2 H8 ⟨i, s, rfl, rfl, hi, hsl, hsq, hqd, hS⟩
  have hl100 : lim ≤ 100 := hP.2.2
  refine wp_seq ?_; refine zsr ?_; refine zw1 ?_; refine zw1 ?_; refine wpO_cons ?_; refine op1_len rfl rfl ?_; refine wpO_cons ?_; refine op1_lss rfl rfl rfl ?_; refine zw1 ?_; refine wpO_cons ?_
  refine op1_dec rfl (fun hlt2 => ?_) (fun hlt2 => ?_)
  rotate_left
  · refine op1_skip rfl ?_; refine wpO_cons ?_; refine op1_skip rfl ?_; refine wpO_cons ?_; refine op1_pick_f rfl rfl (by (conv => lhs; whnf) <;> rfl) ?_; refine zns ?_; refine wp_false rfl ?_; refine wp_exit ?_; refine seq_exit ?_; refine iter_exit ?_; refine block_exit ?_; refine seq_normal ?_; refine zsr ?_; refine wpO_cons ?_; refine op1_call0 rfl  ?_; refine wpF_known rfl (globAll _) ?_; refine zw1 ?_; refine zns ?_; refine wp_ret ?_; refine ret_of ?_; refine rk_tmp (by (conv => lhs; whnf) <;> rfl) ?_; refine rk_nil ?_
    rfl
  obtain ⟨d, hdx⟩ : ∃ d, ds[i]? = some d := ⟨ds[i]'(by omega), by simp⟩
  have hdo := dok d (List.mem_of_getElem? hdx)
  obtain ⟨b, off, cs, e1, ro, rfl, hg, hle, hrow⟩ := RdS.row (f := DgF.cells) (fun _ => rfl) (hS.rdB drd dlt) rfl hdx
  refine op1_mov rfl (by (conv => lhs; whnf) <;> rfl) ?_; refine wpO_cons ?_; refine op1_eqlI_s rfl rfl rfl ?_; refine wpO_cons ?_; refine op1_pick_t rfl rfl (by (conv => lhs; whnf) <;> rfl) ?_; refine zns ?_; refine wp_true rfl ?_; refine wp_skip ?_; refine seq_normal ?_; refine wp_seq ?_; refine wp_block ?_; refine zsr ?_; refine zw1 ?_; refine zw1 ?_; refine zw1 ?_; refine wpO_cons ?_; refine op1_iaddr rfl rfl rfl (by omega) (by omega) ?_; refine wpO_cons ?_
  refine op1_loadN rfl rfl hg hle hrow ?_
  unfold DgF.cells
  refine wpO_cons ?_; refine op1_call2 rfl (by (conv => lhs; whnf) <;> rfl) (by (conv => lhs; whnf) <;> rfl) ?_
  refine wpF_mono (L18 (s := s) (d := d.d) (RD.base hdo.rd hdo.lt) (by omega) (S.up1 hS)) ?_
  clear hS
  rintro _ H9 ⟨rfl, hS⟩
  obtain ⟨b', off', cs', e1', ro', eq1, hg', hle', hrow'⟩ := RdS.row (f := DgF.cells) (fun _ => rfl) (hS.rdB drd dlt) rfl hdx
  cases eq1
  refine zw1 ?_; refine wpO_cons ?_; refine op1_extract rfl rfl rfl ?_; refine wpO_cons ?_; refine op1_extract rfl rfl rfl ?_; refine zw1 ?_; refine zw1 ?_; refine zns ?_; refine zsr ?_; refine zw1 ?_; refine zw1 ?_; refine zw1 ?_; refine wpO_cons ?_; refine op1_iaddr rfl rfl rfl (by omega) (by omega) ?_; refine wpO_cons ?_
  refine op1_loadN rfl rfl hg' hle' hrow' ?_
  unfold DgF.cells
  refine wpO_cons ?_; refine op1_call2 rfl (by (conv => lhs; whnf) <;> rfl) (by (conv => lhs; whnf) <;> rfl) ?_
  refine wpF_mono (L19 (s := s) (d := d.d) hdo.rd hdo.lt (by omega) (by omega) (S.up1 hS)) ?_
  clear hS
  rintro _ H10 ⟨rfl, hS⟩
  obtain ⟨s2, hs2⟩ : ∃ z, z = s.put d.d := ⟨_, rfl⟩
  obtain ⟨hl2, hq2⟩ := put_len (d := d.d) (s := s) (by omega)
  have hqd2 := put_data (d := d.d) hqd
  rw [← hs2] at hS hl2 hq2 hqd2
  refine zw1 ?_; refine wpO_cons ?_; refine op1_extract rfl rfl rfl ?_; refine wpO_cons ?_; refine op1_extract rfl rfl rfl ?_; refine zw1 ?_; refine zw1 ?_; refine zns ?_; refine wp_seq ?_; refine zsr ?_; refine zw1 ?_; refine zw1 ?_; refine wpO_cons ?_; refine op1_neqB_s rfl rfl rfl rfl ?_; refine zw1 ?_; refine zw1 ?_; refine zw1 ?_; refine wpO_cons ?_; refine op1_neqI_s rfl rfl rfl ?_; refine wpO_cons ?_; refine op1_pick_f rfl rfl (by (conv => lhs; whnf) <;> rfl) ?_; refine zns ?_; refine wp_false rfl ?_; refine wp_skip ?_; refine seq_normal ?_; refine zsr ?_; refine zw1 ?_; refine zw1 ?_; refine wpO_cons ?_; refine op1_len rfl rfl ?_; refine wpO_cons ?_; refine op1_lss rfl rfl rfl ?_; refine zw1 ?_; refine wpO_cons ?_
  refine op1_dec rfl (fun hlt3 => ?_) (fun hlt3 => ?_)
  rotate_left
  · refine op1_skip rfl ?_; refine wpO_cons ?_; refine op1_skip rfl ?_; refine wpO_cons ?_; refine op1_skip rfl ?_; refine wpO_cons ?_; refine op1_skip rfl ?_; refine wpO_cons ?_; refine op1_pick_f rfl rfl (by (conv => lhs; whnf) <;> rfl) ?_; refine zns ?_; refine wp_false rfl ?_; refine wp_skip ?_; refine block_normal ?_; refine seq_normal ?_; refine wp_region ?_; refine zw1 ?_; refine wpO_cons ?_; refine op1_add rfl rfl rfl (by exact wrap_i64 (by omega) (by omega)) ?_; refine zw1 ?_; refine wpO_nil ?_
    exact ⟨ds.length - (i + 1), by omega, i + 1, s2, rfl, rfl, by omega, by omega, by omega, hqd2, hS⟩
  obtain ⟨t, htx⟩ : ∃ t, ts[i]? = some t := ⟨ts[i]'(by omega), by simp⟩
  obtain ⟨tb, toff, tcs, te, tro, rfl, tg, tle, trow⟩ := RdS.row (f := fun b => [Value.bool b]) (fun _ => rfl) (hS.rdB trd tlt) rfl htx
  have trow1 : tcs[toff + i * 1]? = some (.bool t) := by
    have := congrArg (fun z => z[0]?) trow
    simp only [List.getElem?_take, List.getElem?_drop, Nat.add_zero] at this
    simpa using this
  refine op1_mov rfl (by (conv => lhs; whnf) <;> rfl) ?_; refine zw1 ?_; refine wpO_cons ?_; refine op1_iaddr rfl rfl rfl (by omega) (by omega) ?_; refine wpO_cons ?_
  refine op1_load rfl rfl tg trow1 ?_
  refine wpO_cons ?_; refine op1_pick_t rfl rfl (by (conv => lhs; whnf) <;> rfl) ?_; refine zns ?_
  cases t
  · refine wp_false rfl ?_; refine wp_skip ?_; refine block_normal ?_; refine seq_normal ?_; refine wp_region ?_; refine zw1 ?_; refine wpO_cons ?_; refine op1_add rfl rfl rfl (by exact wrap_i64 (by omega) (by omega)) ?_; refine zw1 ?_; refine wpO_nil ?_
    exact ⟨ds.length - (i + 1), by omega, i + 1, s2, rfl, rfl, by omega, by omega, by omega, hqd2, hS⟩
  refine wp_true rfl ?_; refine zsr ?_; refine zw1 ?_; refine wpO_cons ?_; refine op1_call1 rfl (by (conv => lhs; whnf) <;> rfl) ?_
  refine wpF_mono (L20 (s := s2) (by omega) (S.up1 hS)) ?_
  clear hS
  rintro _ H11 ⟨a1, c1, rfl, hS⟩
  refine zw1 ?_; refine wpO_cons ?_; refine op1_extract rfl rfl rfl ?_; refine wpO_cons ?_; refine op1_extract rfl rfl rfl ?_; refine wpO_cons ?_; refine op1_allocS rfl hS ?_; intro p2 H2 hS; refine wpO_cons ?_; (refine op1_storeNS rfl rfl (by (conv => lhs; whnf) <;> rfl) rfl rfl (S.up0 hS) (Nat.le_of_ble_eq_true rfl) ?_; intro H3 hS; replace hS := S.dn0 hS); refine zw1 ?_; refine zns ?_; refine zsr ?_; refine zw1 ?_; refine wpO_cons ?_; refine op1_call1 rfl (by (conv => lhs; whnf) <;> rfl) ?_
  refine wpF_mono (L21 (s := s2) (by omega) (S.up3 hS)) ?_
  clear hS
  rintro _ H12 ⟨a2, c2, rfl, hS⟩
  have hfl : s2.fst.data.length ≤ 4096 := fst_len hqd2
  refine zw1 ?_; refine wpO_cons ?_; refine op1_extract rfl rfl rfl ?_; refine wpO_cons ?_; refine op1_extract rfl rfl rfl ?_; refine wpO_cons ?_; refine op1_allocS rfl hS ?_; intro p3 H4 hS; refine wpO_cons ?_; (refine op1_storeNS rfl rfl (by (conv => lhs; whnf) <;> rfl) rfl rfl (S.up0 hS) (Nat.le_of_ble_eq_true rfl) ?_; intro H13 hS; replace hS := S.dn0 hS); refine zw1 ?_; refine zns ?_; refine zsr ?_; refine zw1 ?_; refine zw1 ?_; refine wpO_cons ?_; refine op1_neqB_s rfl rfl rfl rfl ?_; refine zw1 ?_; refine wpO_cons ?_; refine op1_faddr0 rfl rfl ?_; refine wpO_cons ?_; refine op1_load rfl rfl (by exact S.g3 hS) rfl ?_; refine wpO_cons ?_; refine op1_faddr0 rfl rfl ?_; refine wpO_cons ?_; refine op1_load rfl rfl (by exact S.g0 hS) rfl ?_; refine wpO_cons ?_; refine op1_neqI_s rfl rfl rfl ?_; refine wpO_cons ?_; refine op1_pick_f rfl rfl (by (conv => lhs; whnf) <;> rfl) ?_; refine zw1 ?_; refine wpO_cons ?_; refine op1_faddr0 rfl rfl ?_; refine wpO_cons ?_; refine op1_load rfl rfl (by exact S.g3 hS) rfl ?_; refine wpO_cons ?_; refine op1_faddr0 rfl rfl ?_; refine wpO_cons ?_; refine op1_load rfl rfl (by exact S.g0 hS) rfl ?_; refine wpO_cons ?_; refine op1_neqI_s rfl rfl rfl ?_; refine wpO_cons ?_; refine op1_pick_f rfl rfl (by (conv => lhs; whnf) <;> rfl) ?_; refine zw1 ?_; refine wpO_cons ?_; refine op1_faddr0 rfl rfl ?_; refine wpO_cons ?_; refine op1_load rfl rfl (by exact S.g3 hS) rfl ?_; refine wpO_cons ?_; refine op1_faddr0 rfl rfl ?_; refine wpO_cons ?_; refine op1_load rfl rfl (by exact S.g0 hS) rfl ?_; refine wpO_cons ?_; refine op1_call2 rfl (by (conv => lhs; whnf) <;> rfl) (by (conv => lhs; whnf) <;> rfl) ?_
  obtain ⟨r1, hr1, _⟩ := (S.up4 hS).rd
  obtain ⟨r2, hr2, _⟩ := (S.up1 hS).rd
  refine wpF_mono (L22 hr1 (by omega) hr2 (by omega)) ?_
  rintro _ H14 ⟨rfl, rfl⟩
  rw [decide_eq_true rfl]
  refine wpO_cons ?_; refine op1_not_t rfl rfl ?_; refine wpO_cons ?_; refine op1_pick_f rfl rfl (by (conv => lhs; whnf) <;> rfl) ?_; refine zns ?_; refine wp_false rfl ?_; refine wp_skip ?_; refine block_normal ?_; refine seq_normal ?_; refine wp_region ?_; refine zw1 ?_; refine wpO_cons ?_; refine op1_add rfl rfl rfl (by exact wrap_i64 (by omega) (by omega)) ?_; refine zw1 ?_; refine wpO_nil ?_
  exact ⟨ds.length - (i + 1), by omega, i + 1, s2.tl, rfl, rfl, by omega, hl2.trans hsl, by have : s2.tl.q.length ≤ s2.q.length := by (unfold Po.tl; simp)
                                                                                            omega, fun d hd => hqd2 d (List.mem_of_mem_tail hd), S.drop (S.up1 (S.drop (S.up1 (S.drop (S.up1 (S.drop (S.up1 (S.up2 hS))))))))⟩
end Go.E.St
