/- Attributes: membership, permission. -/
import Derived.Test.YtgbnjcmjioiclaaDoorAtCode
namespace Go.E.At
open Go Go.E Go.Proofs.YtgbnjcmjioiclaaDoor.base Go.Proofs.YtgbnjcmjioiclaaDoor Go.Proofs
set_option linter.unusedVariables false
set_option linter.unusedSimpArgs false
set_option maxRecDepth 100000
theorem L78 {H : AHeap} {v : Value} {l : List Int} {r : List Nat} {x : Int} (hd : RdS H 1 v (i64s l) r) (hl : l.length ≤ 1000000) : wpF C 78 [v, .int .i64 x] H fun u H' => (∃ k : Int, u = .int .i64 k ∧ (0 ≤ k ↔ x ∈ l)) ∧ H = H' := by
  obtain ⟨a, c, rfl⟩ := hd.i1
  refine wpF_ofW o78 rfl rfl ?_
  refine zsr ?_; refine zw1 ?_; refine zns ?_; refine wp_seq ?_; refine zsr ?_; refine zw1 ?_; refine wpO_cons ?_; refine op1_len rfl rfl ?_; refine zw1 ?_; refine zns ?_; refine wp_block ?_
  refine wp_loop [8] (fun k vs H' => ∃ i : Nat, vs = [.int .i64 i] ∧ k = l.length - i ∧ i ≤ l.length ∧ H = H' ∧ x ∉ l.take i) ⟨_, 0, rfl, rfl, by omega, rfl, by simp⟩ ?_
  rintro k vs T' H1 ⟨i, rfl, rfl, hi, rfl, hno⟩
  refine zsr ?_; refine wpO_cons ?_; refine op1_lss rfl rfl rfl ?_; refine zns ?_; refine wp_seq ?_
  refine wp_dec rfl (fun hc => ?_) (fun hc => ?_)
  · obtain ⟨b, off, cs, e, ro, v, rfl, _, hg, hv, hx⟩ := hd.at1 (i := i) (by omega)
    obtain ⟨y, hy, rfl⟩ := i64s_get hx
    refine wp_skip ?_; refine seq_normal ?_; refine wp_seq ?_; refine wp_block ?_; refine zsr ?_; refine zw1 ?_; refine zw1 ?_; refine zns ?_; refine zsr ?_; refine zw1 ?_; refine zw1 ?_; refine zw1 ?_; refine wpO_cons ?_; refine op1_iaddr rfl rfl rfl (by omega) (by omega) ?_; refine wpO_cons ?_
    refine op1_load rfl rfl hg hv ?_
    refine wpO_cons ?_; refine op1_eqlI rfl rfl rfl ?_; refine zns ?_
    refine wp_dec rfl (fun he => ?_) (fun he => ?_)
    · refine zsr ?_; refine zw1 ?_; refine zw1 ?_; refine zns ?_; refine wp_ret ?_; refine block_ret ?_; refine seq_ret ?_; refine iter_ret ?_; refine block_ret ?_; refine seq_ret ?_; refine ret_of ?_; refine zr ?_; refine rk_nil ?_
      refine ⟨⟨_, rfl, ⟨fun _ => ?_, fun _ => by omega⟩⟩, rfl⟩
      rw [he]
      exact List.mem_of_getElem? hy
    · refine wp_skip ?_; refine block_normal ?_; refine seq_normal ?_; refine wp_region ?_; refine wpO_cons ?_; refine op1_add rfl rfl rfl (by exact wrap_i64 (by omega) (by omega)) ?_; refine zw1 ?_; refine wpO_nil ?_
      refine ⟨l.length - (i + 1), by omega, i + 1, rfl, rfl, by omega, rfl, ?_⟩
      rw [List.take_add_one, hy]
      simp only [Option.toList_some, List.mem_append, List.mem_singleton, not_or]
      exact ⟨hno, he⟩
  · refine wp_exit ?_; refine seq_exit ?_; refine iter_exit ?_; refine block_exit ?_; refine seq_normal ?_; refine zsr ?_; refine zw1 ?_; refine zns ?_; refine wp_ret ?_; refine ret_of ?_; refine zr ?_; refine rk_nil ?_
    rw [List.take_of_length_le (by omega)] at hno
    exact ⟨⟨_, rfl, ⟨fun h => absurd h (by decide), fun h => absurd h hno⟩⟩, rfl⟩

theorem L75 {H : AHeap} {v : Value} {l : List Int} {r : List Nat} {x : Int} (hd : RdS H 1 v (i64s l) r) (hl : l.length ≤ 1000000) : wpF C 75 [v, .int .i64 x] H fun u H' => u = .bool (decide (x ∈ l)) ∧ H = H' := by
  refine wpF_ofW o75 rfl rfl ?_
  refine zsr ?_; refine zw1 ?_; refine zns ?_; refine zsr ?_; refine zw1 ?_; refine zw1 ?_; refine wpO_cons ?_; refine op1_call2 rfl (by (conv => lhs; whnf) <;> rfl) (by (conv => lhs; whnf) <;> rfl) ?_
  refine wpF_mono (L78 hd hl) ?_
  rintro _ _ ⟨⟨k, rfl, hk⟩, rfl⟩
  refine wpO_cons ?_; refine op1_geq rfl rfl rfl ?_; refine zw1 ?_; refine zns ?_; refine wp_ret ?_; refine ret_of ?_; refine zr ?_; refine rk_nil ?_
  exact ⟨by simp only [resultV]; congr 1; rw [decide_eq_decide]; exact hk, rfl⟩

structure Cr where
  user : Int
  group : Int
  gs : List Int
  a : Option Addr
  c : Nat
def Cr.cells (x : Cr) : List Value := [.int .i64 x.user, .int .i64 x.group, .slice x.a x.gs.length x.c]
structure CrOk (B : AHeap) (x : Cr) (r : List Nat) : Prop where
  len : x.gs.length ≤ 1000
  rd : RdS B 1 (.slice x.a x.gs.length x.c) (i64s x.gs) r
  lt : ∀ b ∈ r, b < B.next
def Cr.mem (x : Cr) (g : Int) : Prop := x.group = g ∨ g ∈ x.gs
instance (x : Cr) (g : Int) : Decidable (x.mem g) := by unfold Cr.mem; infer_instance
section
variable {B H : AHeap} {As : List Asn} {x : Cr} {r : List Nat} {g : Int}
theorem L66 (hx : CrOk B x r) (hS : S B H As) : wpF C 66 [.agg ⟨x.cells⟩, .int .i64 g] H fun v H' => v = .bool (decide (x.mem g)) ∧ S B H' As := by
  refine wpF_ofW o66 rfl rfl ?_
  unfold Cr.cells
  refine zsr ?_; refine wpO_cons ?_; refine op1_boxNS rfl rfl rfl hS ?_; intro p1 H1 hS; refine zw1 ?_; refine zns ?_; refine zsr ?_; refine zf ?_; refine zh (S.g0 hS) ?_; refine zw1 ?_; refine wpO_cons ?_; refine op1_eqlI rfl rfl rfl ?_; refine zw1 ?_; refine wpO_cons ?_
  refine op1_dec rfl (fun h1 => ?_) (fun h1 => ?_)
  · refine op1_skip rfl ?_; (iterate 3 refine zk ?_); refine zt ?_; refine zw1 ?_; refine zns ?_; refine wp_ret ?_; refine ret_of ?_; refine zr ?_; refine rk_nil ?_
    exact ⟨by simp [Cr.mem, h1, resultV], by exact S.drop hS⟩
  · refine op1_faddr0 rfl rfl ?_; refine zh (S.g0 hS) ?_; refine zw1 ?_; refine wpO_cons ?_; refine op1_call2 rfl (by (conv => lhs; whnf) <;> rfl) (by (conv => lhs; whnf) <;> rfl) ?_
    refine wpF_mono (L75 (hS.rdB hx.rd hx.lt) (by have := hx.len; omega)) ?_
    rintro _ H2 ⟨rfl, rfl⟩
    refine zu ?_; refine zw1 ?_; refine zns ?_; refine wp_ret ?_; refine ret_of ?_; refine zr ?_; refine rk_nil ?_
    exact ⟨by simp [Cr.mem, h1, resultV], by exact S.drop hS⟩
theorem L40 (hx : CrOk B x r) (hS : S B H As) : wpF C 40 [.agg ⟨x.cells⟩, .int .i64 g] H fun v H' => v = .bool (decide (x.mem g)) ∧ S B H' As := by
  refine wpF_ofW o40 rfl rfl ?_
  unfold Cr.cells
  refine zsr ?_; refine wpO_cons ?_; refine op1_boxNS rfl rfl rfl hS ?_; intro p1 H1 hS; refine zw1 ?_; refine zns ?_; refine wp_seq ?_; refine zsr ?_; refine zf ?_; refine zh (S.g0 hS) ?_; refine zw1 ?_; refine wpO_cons ?_; refine op1_eqlI rfl rfl rfl ?_; refine zns ?_
  refine wp_dec rfl (fun h1 => ?_) (fun h1 => ?_)
  · refine zsr ?_; refine zw1 ?_; refine zns ?_; refine wp_ret ?_; refine seq_ret ?_; refine ret_of ?_; refine zr ?_; refine rk_nil ?_
    exact ⟨by simp [Cr.mem, h1, resultV], by exact S.drop hS⟩
  have hlen := hx.len
  refine wp_skip ?_; refine seq_normal ?_; refine wp_seq ?_; refine zsr ?_; refine zw1 ?_; refine zns ?_; refine wp_block ?_
  refine wp_loop [5] (fun k vs H' => ∃ i : Nat, vs = [.int .i64 i] ∧ k = x.gs.length - i ∧ i ≤ x.gs.length ∧ H1 = H' ∧ g ∉ x.gs.take i) ⟨_, 0, rfl, rfl, by omega, rfl, by simp⟩ ?_
  rintro k vs T' H2 ⟨i, rfl, rfl, hi, rfl, hno⟩
  refine wp_seq ?_; refine zsr ?_; refine zw1 ?_; refine zf ?_; refine zh (S.g0 hS) ?_; refine wpO_cons ?_; refine op1_len rfl rfl ?_; refine wpO_cons ?_; refine op1_lss rfl rfl rfl ?_; refine zns ?_
  refine wp_dec rfl (fun hc => ?_) (fun hc => ?_)
  · obtain ⟨b, off, cs, e, ro, v, hb, _, hg, hv, hxx⟩ := (hS.rdB hx.rd hx.lt).at1 (i := i) (by omega)
    obtain ⟨y, hy, rfl⟩ := i64s_get hxx
    rw [hb] at hS
    refine wp_skip ?_; refine seq_normal ?_; refine wp_seq ?_; refine wp_block ?_; refine zsr ?_; refine zf ?_; refine zh (S.g0 hS) ?_; refine zw1 ?_; refine wpO_cons ?_; refine op1_iaddr rfl rfl rfl (by omega) (by omega) ?_; refine wpO_cons ?_
    refine op1_load rfl rfl hg hv ?_
    refine zw1 ?_; refine wpO_cons ?_; refine op1_eqlI rfl rfl rfl ?_; refine zns ?_
    refine wp_dec rfl (fun he => ?_) (fun he => ?_)
    · refine zsr ?_; refine zw1 ?_; refine zns ?_; refine wp_ret ?_; refine block_ret ?_; refine seq_ret ?_; refine iter_ret ?_; refine block_ret ?_; refine seq_ret ?_; refine ret_of ?_; refine zr ?_; refine rk_nil ?_
      refine ⟨?_, by exact S.drop hS⟩
      rw [decide_eq_true]
      · rfl
      · exact .inr (he ▸ List.mem_of_getElem? hy)
    · refine wp_skip ?_; refine block_normal ?_; refine seq_normal ?_; refine wp_region ?_; refine zw1 ?_; refine wpO_cons ?_; refine op1_add rfl rfl rfl (by exact wrap_i64 (by omega) (by omega)) ?_; refine zw1 ?_; refine wpO_nil ?_
      refine ⟨x.gs.length - (i + 1), by omega, i + 1, rfl, rfl, by omega, rfl, ?_⟩
      rw [List.take_add_one, hy]
      simp only [Option.toList_some, List.mem_append, List.mem_singleton, not_or]
      exact ⟨hno, fun h => he h.symm⟩
  · refine wp_exit ?_; refine seq_exit ?_; refine iter_exit ?_; refine block_exit ?_; refine seq_normal ?_; refine zsr ?_; refine zw1 ?_; refine zns ?_; refine wp_ret ?_; refine ret_of ?_; refine zr ?_; refine rk_nil ?_
    rw [List.take_of_length_le (by omega)] at hno
    exact ⟨by simp [Cr.mem, h1, hno, resultV], by exact S.drop hS⟩
end
end Go.E.At
