/- Attributes: membership, permission. -/
import Derived.Test.YtgbnjcmjioiclaaDoorAtCode
import Derived.Test.YtgbnjcmjioiclaaDoorEwZr
namespace Go.E.At
open Go Go.E Go.Proofs.YtgbnjcmjioiclaaDoor.base Go.Proofs.YtgbnjcmjioiclaaDoor Go.Proofs
set_option linter.unusedVariables false
set_option linter.unusedSimpArgs false
set_option maxRecDepth 100000
theorem L78 {H : AHeap} {v : Value} {l : List Int} {r : List Nat} {x : Int} (hd : RdS H 1 v (i64s l) r) (hl : l.length ≤ 1000000) : wpF C 78 [v, .int .i64 x] H fun u H' => (∃ k : Int, u = .int .i64 k ∧ (0 ≤ k ↔ x ∈ l)) ∧ H = H' := by
  obtain ⟨a, c, rfl⟩ := hd.i1
  refine wpF_ofW o78 rfl rfl ?_
  refine zsr ?_; refine zw1 ?_; refine zns ?_; refine wp_seq ?_; refine zsr ?_; refine zw1 ?_; refine wpO_cons ?_; refine op1_len rfl rfl ?_; refine zw1 ?_; refine zns ?_; refine wp_block ?_
  refine wp_loop [8] (fun k vs H' => ∃ i : Nat, vs = [.int .i64 i] ∧ k = l.length - i ∧ i ≤ l.length ∧ H = H' ∧ x ∉ l.take i) ⟨_, 0, rfl, rfl, by omega, rfl, by simp⟩ ?_
  rintro k vs T' H1 ⟨i, rfl, rfl, hi, rfl, hno⟩
  refine zsr ?_; refine wpO_cons ?_; refine op1_lss rfl rfl rfl ?_; refine zns ?_; refine wp_seq ?_
  refine wp_dec rfl (fun hc => ?_) (fun hc => ?_)
  · obtain ⟨b, off, cs, e, ro, v, rfl, _, hg, hv, hx⟩ := hd.at1 (i := i) (by omega)
    obtain ⟨y, hy, rfl⟩ := i64s_get hx
    refine wp_skip ?_; refine seq_normal ?_; refine wp_seq ?_; refine wp_block ?_; refine zsr ?_; refine zw1 ?_; refine zw1 ?_; refine zns ?_; refine zsr ?_; refine zw1 ?_; refine zw1 ?_; refine zw1 ?_; refine wpO_cons ?_; refine op1_iaddr rfl rfl rfl (by omega) (by omega) ?_; refine wpO_cons ?_
    refine op1_load rfl rfl hg hv ?_
    refine wpO_cons ?_; refine op1_eqlI rfl rfl rfl ?_; refine zns ?_
    refine wp_dec rfl (fun he => ?_) (fun he => ?_)
    · refine zsr ?_; refine zw1 ?_; refine zw1 ?_; refine zns ?_; refine wp_ret ?_; refine block_ret ?_; refine seq_ret ?_; refine iter_ret ?_; refine block_ret ?_; refine seq_ret ?_; refine ret_of ?_; refine zr ?_; refine rk_nil ?_
      refine ⟨⟨_, rfl, ⟨fun _ => ?_, fun _ => by omega⟩⟩, rfl⟩
      rw [he]
      exact List.mem_of_getElem? hy
    · refine wp_skip ?_; refine block_normal ?_; refine seq_normal ?_; refine wp_region ?_; refine wpO_cons ?_; refine op1_add rfl rfl rfl (by exact wrap_i64 (by omega) (by omega)) ?_; refine zw1 ?_; refine wpO_nil ?_
      refine ⟨l.length - (i + 1), by omega, i + 1, rfl, rfl, by omega, rfl, ?_⟩
      rw [List.take_add_one, hy]
      simp only [Option.toList_some, List.mem_append, List.mem_singleton, not_or]
      exact ⟨hno, he⟩
  · refine wp_exit ?_; refine seq_exit ?_; refine iter_exit ?_; refine block_exit ?_; refine seq_normal ?_; refine zsr ?_; refine zw1 ?_; refine zns ?_; refine wp_ret ?_; refine ret_of ?_; refine zr ?_; refine rk_nil ?_
    rw [List.take_of_length_le (by omega)] at hno
    exact ⟨⟨_, rfl, ⟨fun h => absurd h (by decide), fun h => absurd h hno⟩⟩, rfl⟩

theorem L75 {H : AHeap} {v : Value} {l : List Int} {r : List Nat} {x : Int} (hd : RdS H 1 v (i64s l) r) (hl : l.length ≤ 1000000) : wpF C 75 [v, .int .i64 x] H fun u H' => u = .bool (decide (x ∈ l)) ∧ H = H' := by
  refine wpF_ofW o75 rfl rfl ?_
  refine zsr ?_; refine zw1 ?_; refine zns ?_; refine zsr ?_; refine zw1 ?_; refine zw1 ?_; refine wpO_cons ?_; refine op1_call2 rfl (by (conv => lhs; whnf) <;> rfl) (by (conv => lhs; whnf) <;> rfl) ?_
  refine wpF_mono (L78 hd hl) ?_
  rintro _ _ ⟨⟨k, rfl, hk⟩, rfl⟩
  refine wpO_cons ?_; refine op1_geq rfl rfl rfl ?_; refine zw1 ?_; refine zns ?_; refine wp_ret ?_; refine ret_of ?_; refine zr ?_; refine rk_nil ?_
  exact ⟨by simp only [resultV]; congr 1; rw [decide_eq_decide]; exact hk, rfl⟩

structure Cr where
  user : Int
  group : Int
  gs : List Int
  a : Option Addr
  c : Nat
def Cr.cells (x : Cr) : List Value := [.int .i64 x.user, .int .i64 x.group, .slice x.a x.gs.length x.c]
structure CrOk (B : AHeap) (x : Cr) (r : List Nat) : Prop where
  len : x.gs.length ≤ 1000
  rd : RdS B 1 (.slice x.a x.gs.length x.c) (i64s x.gs) r
  lt : ∀ b ∈ r, b < B.next
def Cr.mem (x : Cr) (g : Int) : Prop := x.group = g ∨ g ∈ x.gs
instance (x : Cr) (g : Int) : Decidable (x.mem g) := by unfold Cr.mem; infer_instance
section
variable {B H : AHeap} {As : List Asn} {x : Cr} {r : List Nat} {g : Int}
theorem L66 (hx : CrOk B x r) (hS : S B H As) : wpF C 66 [.agg ⟨x.cells⟩, .int .i64 g] H fun v H' => v = .bool (decide (x.mem g)) ∧ S B H' As := by
  refine wpF_ofW o66 rfl rfl ?_
  unfold Cr.cells
  refine zsr ?_; refine wpO_cons ?_; refine op1_boxNS rfl rfl rfl hS ?_; intro p1 H1 hS; refine zw1 ?_; refine zns ?_; refine zsr ?_; refine zf ?_; refine zh (S.g0 hS) ?_; refine zw1 ?_; refine wpO_cons ?_; refine op1_eqlI rfl rfl rfl ?_; refine zw1 ?_; refine wpO_cons ?_
  refine op1_dec rfl (fun h1 => ?_) (fun h1 => ?_)
  · refine op1_skip rfl ?_; (iterate 3 refine zk ?_); refine zt ?_; refine zw1 ?_; refine zns ?_; refine wp_ret ?_; refine ret_of ?_; refine zr ?_; refine rk_nil ?_
    exact ⟨by simp [Cr.mem, h1, resultV], by exact S.drop hS⟩
  · refine op1_faddr0 rfl rfl ?_; refine zh (S.g0 hS) ?_; refine zw1 ?_; refine wpO_cons ?_; refine op1_call2 rfl (by (conv => lhs; whnf) <;> rfl) (by (conv => lhs; whnf) <;> rfl) ?_
    refine wpF_mono (L75 (hS.rdB hx.rd hx.lt) (by have := hx.len; omega)) ?_
    rintro _ H2 ⟨rfl, rfl⟩
    refine zu ?_; refine zw1 ?_; refine zns ?_; refine wp_ret ?_; refine ret_of ?_; refine zr ?_; refine rk_nil ?_
    exact ⟨by simp [Cr.mem, h1, resultV], by exact S.drop hS⟩
theorem L40 (hx : CrOk B x r) (hS : S B H As) : wpF C 40 [.agg ⟨x.cells⟩, .int .i64 g] H fun v H' => v = .bool (decide (x.mem g)) ∧ S B H' As := by
  refine wpF_ofW o40 rfl rfl ?_
  unfold Cr.cells
  refine zsr ?_; refine wpO_cons ?_; refine op1_boxNS rfl rfl rfl hS ?_; intro p1 H1 hS; refine zw1 ?_; refine zns ?_; refine wp_seq ?_; refine zsr ?_; refine zf ?_; refine zh (S.g0 hS) ?_; refine zw1 ?_; refine wpO_cons ?_; refine op1_eqlI rfl rfl rfl ?_; refine zns ?_
  refine wp_dec rfl (fun h1 => ?_) (fun h1 => ?_)
  · refine zsr ?_; refine zw1 ?_; refine zns ?_; refine wp_ret ?_; refine seq_ret ?_; refine ret_of ?_; refine zr ?_; refine rk_nil ?_
    exact ⟨by simp [Cr.mem, h1, resultV], by exact S.drop hS⟩
  have hlen := hx.len
  refine wp_skip ?_; refine seq_normal ?_; refine wp_seq ?_; refine zsr ?_; refine zw1 ?_; refine zns ?_; refine wp_block ?_
  refine wp_loop [5] (fun k vs H' => ∃ i : Nat, vs = [.int .i64 i] ∧ k = x.gs.length - i ∧ i ≤ x.gs.length ∧ H1 = H' ∧ g ∉ x.gs.take i) ⟨_, 0, rfl, rfl, by omega, rfl, by simp⟩ ?_
  rintro k vs T' H2 ⟨i, rfl, rfl, hi, rfl, hno⟩
  refine wp_seq ?_; refine zsr ?_; refine zw1 ?_; refine zf ?_; refine zh (S.g0 hS) ?_; refine wpO_cons ?_; refine op1_len rfl rfl ?_; refine wpO_cons ?_; refine op1_lss rfl rfl rfl ?_; refine zns ?_
  refine wp_dec rfl (fun hc => ?_) (fun hc => ?_)
  · obtain ⟨b, off, cs, e, ro, v, hb, _, hg, hv, hxx⟩ := (hS.rdB hx.rd hx.lt).at1 (i := i) (by omega)
    obtain ⟨y, hy, rfl⟩ := i64s_get hxx
    rw [hb] at hS
    refine wp_skip ?_; refine seq_normal ?_; refine wp_seq ?_; refine wp_block ?_; refine zsr ?_; refine zf ?_; refine zh (S.g0 hS) ?_; refine zw1 ?_; refine wpO_cons ?_; refine op1_iaddr rfl rfl rfl (by omega) (by omega) ?_; refine wpO_cons ?_
    refine op1_load rfl rfl hg hv ?_
    refine zw1 ?_; refine wpO_cons ?_; refine op1_eqlI rfl rfl rfl ?_; refine zns ?_
    refine wp_dec rfl (fun he => ?_) (fun he => ?_)
    · refine zsr ?_; refine zw1 ?_; refine zns ?_; refine wp_ret ?_; refine block_ret ?_; refine seq_ret ?_; refine iter_ret ?_; refine block_ret ?_; refine seq_ret ?_; refine ret_of ?_; refine zr ?_; refine rk_nil ?_
      refine ⟨?_, by exact S.drop hS⟩
      rw [decide_eq_true]
      · rfl
      · exact .inr (he ▸ List.mem_of_getElem? hy)
    · refine wp_skip ?_; refine block_normal ?_; refine seq_normal ?_; refine wp_region ?_; refine zw1 ?_; refine wpO_cons ?_; refine op1_add rfl rfl rfl (by exact wrap_i64 (by omega) (by omega)) ?_; refine zw1 ?_; refine wpO_nil ?_
      refine ⟨x.gs.length - (i + 1), by omega, i + 1, rfl, rfl, by omega, rfl, ?_⟩
      rw [List.take_add_one, hy]
      simp only [Option.toList_some, List.mem_append, List.mem_singleton, not_or]
      exact ⟨hno, fun h => he h.symm⟩
  · refine wp_exit ?_; refine seq_exit ?_; refine iter_exit ?_; refine block_exit ?_; refine seq_normal ?_; refine zsr ?_; refine zw1 ?_; refine zns ?_; refine wp_ret ?_; refine ret_of ?_; refine zr ?_; refine rk_nil ?_
    rw [List.take_of_length_le (by omega)] at hno
    exact ⟨by simp [Cr.mem, h1, hno, resultV], by exact S.drop hS⟩
end
end Go.E.At
/- Attributes: permission. -/
namespace Go.E.At
open Go Go.E Go.Proofs.YtgbnjcmjioiclaaDoor.base Go.Proofs.YtgbnjcmjioiclaaDoor Go.Proofs
set_option linter.unusedVariables false
set_option linter.unusedSimpArgs false
set_option maxRecDepth 100000
theorem bitAnd_mask (x : Int) (k : Nat) (hk : k ≤ 32) : bitAnd .i64 x ((2 ^ k - 1 : Nat) : Int) = x % (2 ^ k : Nat) := by
  have hp : 2 ^ k ≤ 2 ^ 32 := Nat.pow_le_pow_right (by decide) hk
  have hp0 : 0 < 2 ^ k := Nat.pow_pos (by decide)
  unfold bitAnd
  have e1 : (BitVec.ofInt 64 x &&& BitVec.ofInt 64 ((2 ^ k - 1 : Nat) : Int)).toNat = (x % (2 ^ 64 : Nat)).toNat % 2 ^ k := by
    rw [BitVec.toNat_and, BitVec.toNat_ofInt, BitVec.toNat_ofInt]
    have : ((((2 ^ k - 1 : Nat) : Int)) % (2 ^ 64 : Nat)).toNat = 2 ^ k - 1 := by
      rw [Int.emod_eq_of_lt (by omega) (by omega)]
      omega
    rw [this, Nat.and_two_pow_sub_one_eq_mod]
  show IntKind.i64.wrap ((BitVec.ofInt 64 x &&& BitVec.ofInt 64 ((2 ^ k - 1 : Nat) : Int)).toNat : Int) = _
  rw [e1]
  have hm : (x % (2 ^ 64 : Nat)).toNat % 2 ^ k < 2 ^ k := Nat.mod_lt _ hp0
  rw [wrap_i64 (by omega) (by omega)]
  have hd : (2 ^ k : Nat) ∣ 2 ^ 64 := Nat.pow_dvd_pow 2 (by omega)
  have h2 : x % (2 ^ 64 : Nat) % (2 ^ k : Nat) = x % (2 ^ k : Nat) := Int.emod_emod_of_dvd x (by exact_mod_cast hd)
  have h3 : 0 ≤ x % (2 ^ 64 : Nat) := Int.emod_nonneg _ (by decide)
  rw [← h2, Int.natCast_emod, Int.toNat_of_nonneg h3]
theorem and7 (x : Int) : bitAnd .i64 x 7 = x % 8 := bitAnd_mask x 3 (by decide)
theorem and4095 (x : Int) : bitAnd .i64 x 4095 = x % 4096 := bitAnd_mask x 12 (by decide)
theorem and73 (x : Int) : bitAnd .i64 (x % 4096) 73 = bitAnd .i64 x 73 := by
  rw [← and4095]
  unfold bitAnd
  have hx : ∀ n : Nat, n < 2 ^ 12 → BitVec.ofInt 64 (IntKind.i64.wrap (n : Int)) = BitVec.ofNat 64 n := fun n hn => by
    rw [wrap_i64 (by omega) (by omega)]
    rfl
  have hlt : (BitVec.ofInt 64 x &&& BitVec.ofInt 64 4095).toNat < 2 ^ 12 := by
    have := @Nat.and_le_right (BitVec.ofInt 64 x).toNat (BitVec.ofInt 64 4095).toNat
    rw [BitVec.toNat_and]
    have e : (BitVec.ofInt 64 4095).toNat = 4095 := by decide
    omega
  show IntKind.i64.wrap ((BitVec.ofInt 64 (IntKind.i64.wrap ((BitVec.ofInt 64 x &&& BitVec.ofInt 64 4095).toNat : Int)) &&& BitVec.ofInt 64 73).toNat : Int) = IntKind.i64.wrap ((BitVec.ofInt 64 x &&& BitVec.ofInt 64 73).toNat : Int)
  rw [hx _ hlt, BitVec.ofNat_toNat, BitVec.setWidth_eq, BitVec.and_assoc]
  rfl

theorem op1_idxArrN {C : Callees} {T : FEnv} {H : AHeap} {K : FEnv → AHeap → Prop} {m es s : Nat} {x i : NOpd} {vs ws : List Value} {ki : IntKind} {n : Int} {d : Nat} {g : Option (Nat × Bool)} (hw : wantedF g T = true) (hx : x.evF T = .agg ⟨vs⟩) (hi : i.evF T = .int ki n) (h0 : 0 ≤ n) (h1 : n < m)
    (hl : n.toNat * es + s ≤ vs.length) (hr : (vs.drop (n.toNat * es)).take s = ws) (k : K (upd T d (.agg ⟨ws⟩)) H) : op1 C ⟨some d, .idxArr m (some s) es x i, g⟩ T H K := by
  refine op1_val hw ?_ k
  subst hr
  simp only [NOp.sub, eop, ev_subF, hx, hi]
  rw [if_pos ⟨h0, h1⟩, if_pos hl]
structure Ob where
  mode : Int
  user : Int
  group : Int
  size : Int
  links : Int
  dir : Bool
def Ob.cells (x : Ob) : List Value := [.int .i64 x.mode, .int .i64 x.user, .int .i64 x.group, .int .i64 x.size, .int .i64 x.links, .bool x.dir]
def Ob.cls (x : Ob) (c : Cr) : Int := if c.user = x.user then x.mode / 64 % 8 else if c.mem x.group then x.mode / 8 % 8 else x.mode % 8
theorem Ob.cls_b (x : Ob) (c : Cr) : 0 ≤ x.cls c ∧ x.cls c ≤ 7 := by
  unfold Ob.cls
  split
  · omega
  split <;> omega
def okBits (b want : Int) : Bool := (decide (bitAnd .i64 want 1 = 0) || !decide (bitAnd .i64 b 4 = 0)) && (decide (bitAnd .i64 want 2 = 0) || !decide (bitAnd .i64 b 2 = 0)) && (decide (bitAnd .i64 want 4 = 0) || !decide (bitAnd .i64 b 1 = 0))
def Ob.allowed (x : Ob) (c : Cr) (want : Int) : Bool := decide (0 ≤ want ∧ want ≤ 7) && if c.user = 0 then (decide (bitAnd .i64 want 4 = 0) || x.dir || !decide (bitAnd .i64 x.mode 73 = 0)) else okBits (x.cls c) want
section
variable {B H : AHeap} {As : List Asn} {x : Ob} {c : Cr} {r : List Nat} {want : Int}
theorem L39 (hm : 0 ≤ x.mode ∧ x.mode ≤ 4095) (hc : CrOk B c r) (hS : S B H As) : wpF C 39 [.agg ⟨x.cells⟩, .agg ⟨c.cells⟩] H fun v H' => v = .int .i64 (x.cls c) ∧ S B H' As := by
  have e64 : x.mode.tdiv 64 = x.mode / 64 := Int.tdiv_eq_ediv_of_nonneg hm.1
  have e8 : x.mode.tdiv 8 = x.mode / 8 := Int.tdiv_eq_ediv_of_nonneg hm.1
  have er : ∀ z : Int, 0 ≤ z → z.tmod 8 = z % 8 := fun z hz => Int.tmod_eq_emod_of_nonneg hz
  refine wpF_ofW o39 rfl rfl ?_
  unfold Ob.cells Cr.cells
  refine zsr ?_; refine wpO_cons ?_; refine op1_boxNS rfl rfl rfl hS ?_; intro p1 H1 hS; refine wpO_cons ?_; refine op1_boxNS rfl rfl rfl hS ?_; intro p2 H2 hS; refine zw1 ?_; refine zns ?_; refine wp_seq ?_; refine wp_block ?_; refine zsr ?_; refine zf ?_; refine zh (S.g0 hS) ?_; refine zf ?_; refine zh (S.g1 hS) ?_; refine wpO_cons ?_; refine op1_eqlI rfl rfl rfl ?_; refine zw1 ?_; refine zns ?_
  refine wp_dec rfl (fun h1 => ?_) (fun h1 => ?_)
  · refine zsr ?_; refine zf ?_; refine zh (S.g1 hS) ?_; refine wpO_cons ?_
    refine op1_quo rfl rfl rfl (by omega) (by rw [e64]; exact wrap_i64 (by omega) (by omega)) ?_
    refine wpO_cons ?_; refine op1_rem rfl rfl rfl (by omega) ?_; refine zw1 ?_; refine zns ?_; refine wp_ret ?_; refine block_ret ?_; refine seq_ret ?_; refine ret_of ?_; refine zr ?_; refine rk_nil ?_
    exact ⟨by unfold Ob.cls; rw [if_pos h1, e64, er _ (by omega)]; rfl, S.drop (S.drop hS)⟩
  · refine zsr ?_; refine wpO_cons ?_; refine op1_load_3 rfl rfl (by exact S.g0 hS) rfl rfl ?_; refine zf ?_; refine zh (S.g1 hS) ?_; refine wpO_cons ?_; refine op1_call2 rfl (by (conv => lhs; whnf) <;> rfl) (by (conv => lhs; whnf) <;> rfl) ?_
    refine wpF_mono (L66 hc hS) ?_
    clear hS
    rintro _ H3 ⟨rfl, hS⟩
    refine zw1 ?_; refine zns ?_
    refine wp_dec rfl (fun h2 => ?_) (fun h2 => ?_)
    · refine zsr ?_; refine zf ?_; refine zh (S.g1 hS) ?_; refine wpO_cons ?_
      refine op1_quo rfl rfl rfl (by omega) (by rw [e8]; exact wrap_i64 (by omega) (by omega)) ?_
      refine wpO_cons ?_; refine op1_rem rfl rfl rfl (by omega) ?_; refine zw1 ?_; refine zns ?_; refine wp_ret ?_; refine block_ret ?_; refine seq_ret ?_; refine ret_of ?_; refine zr ?_; refine rk_nil ?_
      exact ⟨by unfold Ob.cls; rw [if_neg h1, if_pos h2, e8, er _ (by omega)]; rfl, S.drop (S.drop hS)⟩
    · refine wp_skip ?_; refine block_normal ?_; refine seq_normal ?_; refine zsr ?_; refine zf ?_; refine zh (S.g1 hS) ?_; refine wpO_cons ?_; refine op1_rem rfl rfl rfl (by omega) ?_; refine zw1 ?_; refine zns ?_; refine wp_ret ?_; refine ret_of ?_; refine zr ?_; refine rk_nil ?_
      exact ⟨by unfold Ob.cls; rw [if_neg h1, if_neg h2, er _ hm.1]; rfl, S.drop (S.drop hS)⟩
def pb (i : Nat) : Int := if i = 0 then 4 else if i = 1 then 2 else 1
def ac (i : Nat) : Int := if i = 0 then 1 else if i = 1 then 2 else 4
def perm (b : Int) : Nat → Int
  | 0 => 0
  | i + 1 => if bitAnd .i64 b (pb i) = 0 then perm b i else bitOr .i64 (perm b i) (ac i)
theorem permT {b : Int} {i : Nat} (h : ¬ bitAnd .i64 b (pb i) = 0) : perm b (i + 1) = bitOr .i64 (perm b i) (ac i) := by rw [perm, if_neg h]
theorem permF {b : Int} {i : Nat} (h : bitAnd .i64 b (pb i) = 0) : perm b (i + 1) = perm b i := by rw [perm, if_pos h]
theorem grant {b want : Int} (hb : 0 ≤ b ∧ b ≤ 7) (hw : 0 ≤ want ∧ want ≤ 7) : decide (bitAndNot .i64 want (perm b 3) = 0) = okBits b want := by
  have h1 : b = 0 ∨ b = 1 ∨ b = 2 ∨ b = 3 ∨ b = 4 ∨ b = 5 ∨ b = 6 ∨ b = 7 := by omega
  have h2 : want = 0 ∨ want = 1 ∨ want = 2 ∨ want = 3 ∨ want = 4 ∨ want = 5 ∨ want = 6 ∨ want = 7 := by omega
  rcases h1 with rfl | rfl | rfl | rfl | rfl | rfl | rfl | rfl <;> rcases h2 with rfl | rfl | rfl | rfl | rfl | rfl | rfl | rfl <;> decide
theorem grant0 {want : Int} {p : Bool} (hw : 0 ≤ want ∧ want ≤ 7) : decide (bitAndNot .i64 want (bif p then bitOr .i64 3 4 else 3) = 0) = (decide (bitAnd .i64 want 4 = 0) || p) := by
  have h2 : want = 0 ∨ want = 1 ∨ want = 2 ∨ want = 3 ∨ want = 4 ∨ want = 5 ∨ want = 6 ∨ want = 7 := by omega
  cases p <;> rcases h2 with rfl | rfl | rfl | rfl | rfl | rfl | rfl | rfl <;> decide
theorem glob0 (hB : Glob objs B) (hS : S B H As) : H.get 0 = .cells bitsV 0 true := (hS.base 0 (by have := hB.le; simp [objs] at this; omega)).trans (hB.get 0 (by decide))
theorem L10 (hB : Glob objs B) (hc : CrOk B c r) (hS : S B H As) : wpF C 10 [.agg ⟨x.cells⟩, .agg ⟨c.cells⟩, .int .i64 want] H fun v H' => v = .bool (x.allowed c want) ∧ S B H' As := by
  refine wpF_ofW o10 rfl rfl ?_
  unfold Ob.cells Cr.cells
  refine zsr ?_; refine wpO_cons ?_; refine op1_boxNS rfl rfl rfl hS ?_; intro p1 H1 hS; refine wpO_cons ?_; refine op1_boxNS rfl rfl rfl hS ?_; intro p2 H2 hS; refine zw1 ?_; refine zns ?_; refine wp_seq ?_; refine zsr ?_; refine zw1 ?_; refine wpO_cons ?_; refine op1_lss rfl rfl rfl ?_; refine zw1 ?_; refine wpO_cons ?_
  refine op1_dec rfl (fun h1 => ?_) (fun h1 => ?_)
  · refine op1_skip rfl ?_; refine zk ?_; refine zt ?_; refine zns ?_; refine wp_true rfl ?_; refine zsr ?_; refine zw1 ?_; refine zns ?_; refine wp_ret ?_; refine seq_ret ?_; refine ret_of ?_; refine zr ?_; refine rk_nil ?_
    exact ⟨by unfold Ob.allowed; rw [decide_eq_false (by omega)]; rfl, S.drop (S.drop hS)⟩
  refine op1_mov rfl (by (conv => lhs; whnf) <;> rfl) ?_; refine wpO_cons ?_; refine op1_gtr rfl rfl rfl ?_; refine zu ?_; refine zns ?_
  refine wp_dec rfl (fun h2 => ?_) (fun h2 => ?_)
  · refine zsr ?_; refine zw1 ?_; refine zns ?_; refine wp_ret ?_; refine seq_ret ?_; refine ret_of ?_; refine zr ?_; refine rk_nil ?_
    exact ⟨by unfold Ob.allowed; rw [decide_eq_false (by omega)]; rfl, S.drop (S.drop hS)⟩
  have hw : 0 ≤ want ∧ want ≤ 7 := by omega
  refine wp_skip ?_; refine seq_normal ?_; refine zsr ?_; refine zf ?_; refine zh (S.g1 hS) ?_; refine wpO_cons ?_; refine op1_and rfl rfl rfl ?_; refine zf ?_; refine wpO_cons ?_; (refine op1_store1S rfl rfl (by (conv => lhs; whnf) <;> rfl) rfl rfl (S.up1 hS) rfl ?_; intro H3 hS; replace hS := S.dn1 hS); refine zns ?_; refine zsr ?_; refine zw1 ?_; refine zns ?_; refine wp_seq ?_; refine zsr ?_; refine wpO_cons ?_
  obtain ⟨y, hy⟩ : ∃ y : Ob, y = { x with mode := bitAnd .i64 x.mode 4095 } := ⟨_, rfl⟩
  have hyc : y.cls c = x.cls c := by
    rw [hy]
    unfold Ob.cls
    simp only [and4095]
    split
    · omega
    split <;> omega
  have hym : y.mode = x.mode % 4096 := by rw [hy]; exact and4095 _
  have hS2 : S B H3 (pto p2 (.cells c.cells 0 false) :: pto p1 (.cells y.cells 0 false) :: As) := by rw [hy]; exact hS
  have hyd : y.dir = x.dir := by rw [hy]
  clear hy hS
  have hS := hS2
  clear hS2
  refine op1_loadN rfl rfl (glob0 hB hS) (by decide) rfl ?_
  refine zw1 ?_; refine zns ?_; refine wp_block ?_
  refine wp_loop [7, 21] (fun k vs H' => ∃ (i : Nat), vs = [.int .i64 (perm (x.cls c) i), .int .i64 i] ∧ k = 3 - i ∧ i ≤ 3 ∧ S B H' (pto p2 (.cells c.cells 0 false) :: pto p1 (.cells y.cells 0 false) :: As)) ⟨_, 0, rfl, rfl, by omega, hS⟩ ?_
  clear hS
  rintro k vs T2 H4 ⟨i, rfl, rfl, hi, hS⟩
  unfold Ob.cells Cr.cells at hS
  refine zsr ?_; refine wpO_cons ?_; refine op1_lss rfl rfl rfl ?_; refine zns ?_; refine wp_seq ?_
  refine wp_dec rfl (fun hc3 => ?_) (fun hc3 => ?_)
  · have h3 : i = 0 ∨ i = 1 ∨ i = 2 := by omega
    rcases h3 with rfl | rfl | rfl
    · refine wp_skip ?_; refine seq_normal ?_; refine wp_seq ?_; refine wp_block ?_; refine zsr ?_; refine wpO_cons ?_
      refine op1_idxArrN (ws := [.int .i64 4, .int .i64 1]) rfl rfl rfl (by decide) (by decide) (by decide) rfl ?_
      refine wpO_cons ?_; refine op1_allocS rfl hS ?_; intro p3 H5 hS; refine wpO_cons ?_; (refine op1_storeNS rfl rfl (by (conv => lhs; whnf) <;> rfl) rfl rfl (S.up0 hS) (Nat.le_of_ble_eq_true rfl) ?_; intro H6 hS; replace hS := S.dn0 hS); refine zns ?_; refine wp_seq ?_; refine wp_regionD ?_; refine wpD_cons ?_; refine op1_load_6 rfl rfl (by exact S.g2 hS) rfl rfl ?_; refine wpD_cons ?_; refine op1_load_3 rfl rfl (by exact S.g1 hS) rfl rfl ?_; refine zg ?_; refine zj (S.g0 hS) ?_; refine wpD_cons ?_; refine op1_call2 rfl (by (conv => lhs; whnf) <;> rfl) (by (conv => lhs; whnf) <;> rfl) ?_
      have hT := hS
      refine wpF_mono (L39 (x := y) (by omega) hc hS) ?_
      clear hS
      rintro _ H6 ⟨rfl, hS⟩
      rw [hyc]
      refine wpD_cons ?_; refine op1_and rfl rfl rfl ?_; refine wpD_cons ?_; refine op1_neqI rfl rfl rfl ?_; refine wpD_nil ?_; refine dk_of ?_ ?_; refine zx 7 ?_ ?_; refine zy 3 ?_ ?_; exact chk_loadN rfl (by exact S.g2 hT) rfl rfl rfl; exact chkFs_nil; refine zx 6 ?_ ?_; refine zy 3 ?_ ?_; exact chk_loadN rfl (by exact S.g1 hT) rfl rfl rfl; exact chkFs_nil; refine chk_skip ?_; refine zx 4 ?_ ?_; refine zy 3 ?_ ?_; exact zq (S.g0 hT); refine zy 0 ?_ ?_; exact zq (S.g0 hS); exact chkFs_nil; (iterate 3 refine chk_skip ?_); exact chk_end; refine seq_normal ?_
      refine wp_ndec rfl (fun hb => ?_) (fun hb => ?_)
      · refine wp_region ?_; refine zw1 ?_; refine zf ?_; refine zh (S.g0 hS) ?_; refine wpO_cons ?_; refine op1_or rfl rfl rfl ?_; refine zw1 ?_; refine wpO_nil ?_; refine block_normal ?_; refine seq_normal ?_; refine wp_region ?_; refine wpO_cons ?_; refine op1_add rfl rfl rfl (by exact wrap_i64 (by omega) (by omega)) ?_; refine zw1 ?_; refine wpO_nil ?_
        exact ⟨3 - (0 + 1), by omega, 0 + 1, by rw [permT (i := 0) hb]; rfl, rfl, by omega, S.drop hS⟩
      · refine wp_skip ?_; refine block_normal ?_; refine seq_normal ?_; refine wp_region ?_; refine wpO_cons ?_; refine op1_add rfl rfl rfl (by exact wrap_i64 (by omega) (by omega)) ?_; refine zw1 ?_; refine wpO_nil ?_
        exact ⟨3 - (0 + 1), by omega, 0 + 1, by rw [permF (i := 0) hb]; rfl, rfl, by omega, S.drop hS⟩
    · refine wp_skip ?_; refine seq_normal ?_; refine wp_seq ?_; refine wp_block ?_; refine zsr ?_; refine wpO_cons ?_
      refine op1_idxArrN (ws := [.int .i64 2, .int .i64 2]) rfl rfl rfl (by decide) (by decide) (by decide) rfl ?_
      refine wpO_cons ?_; refine op1_allocS rfl hS ?_; intro p3 H5 hS; refine wpO_cons ?_; (refine op1_storeNS rfl rfl (by (conv => lhs; whnf) <;> rfl) rfl rfl (S.up0 hS) (Nat.le_of_ble_eq_true rfl) ?_; intro H6 hS; replace hS := S.dn0 hS); refine zns ?_; refine wp_seq ?_; refine wp_regionD ?_; refine wpD_cons ?_; refine op1_load_6 rfl rfl (by exact S.g2 hS) rfl rfl ?_; refine wpD_cons ?_; refine op1_load_3 rfl rfl (by exact S.g1 hS) rfl rfl ?_; refine zg ?_; refine zj (S.g0 hS) ?_; refine wpD_cons ?_; refine op1_call2 rfl (by (conv => lhs; whnf) <;> rfl) (by (conv => lhs; whnf) <;> rfl) ?_
      have hT := hS
      refine wpF_mono (L39 (x := y) (by omega) hc hS) ?_
      clear hS
      rintro _ H6 ⟨rfl, hS⟩
      rw [hyc]
      refine wpD_cons ?_; refine op1_and rfl rfl rfl ?_; refine wpD_cons ?_; refine op1_neqI rfl rfl rfl ?_; refine wpD_nil ?_; refine dk_of ?_ ?_; refine zx 7 ?_ ?_; refine zy 3 ?_ ?_; exact chk_loadN rfl (by exact S.g2 hT) rfl rfl rfl; exact chkFs_nil; refine zx 6 ?_ ?_; refine zy 3 ?_ ?_; exact chk_loadN rfl (by exact S.g1 hT) rfl rfl rfl; exact chkFs_nil; refine chk_skip ?_; refine zx 4 ?_ ?_; refine zy 3 ?_ ?_; exact zq (S.g0 hT); refine zy 0 ?_ ?_; exact zq (S.g0 hS); exact chkFs_nil; (iterate 3 refine chk_skip ?_); exact chk_end; refine seq_normal ?_
      refine wp_ndec rfl (fun hb => ?_) (fun hb => ?_)
      · refine wp_region ?_; refine zw1 ?_; refine zf ?_; refine zh (S.g0 hS) ?_; refine wpO_cons ?_; refine op1_or rfl rfl rfl ?_; refine zw1 ?_; refine wpO_nil ?_; refine block_normal ?_; refine seq_normal ?_; refine wp_region ?_; refine wpO_cons ?_; refine op1_add rfl rfl rfl (by exact wrap_i64 (by omega) (by omega)) ?_; refine zw1 ?_; refine wpO_nil ?_
        exact ⟨3 - (1 + 1), by omega, 1 + 1, by rw [permT (i := 1) hb]; rfl, rfl, by omega, S.drop hS⟩
      · refine wp_skip ?_; refine block_normal ?_; refine seq_normal ?_; refine wp_region ?_; refine wpO_cons ?_; refine op1_add rfl rfl rfl (by exact wrap_i64 (by omega) (by omega)) ?_; refine zw1 ?_; refine wpO_nil ?_
        exact ⟨3 - (1 + 1), by omega, 1 + 1, by rw [permF (i := 1) hb]; rfl, rfl, by omega, S.drop hS⟩
    · refine wp_skip ?_; refine seq_normal ?_; refine wp_seq ?_; refine wp_block ?_; refine zsr ?_; refine wpO_cons ?_
      refine op1_idxArrN (ws := [.int .i64 1, .int .i64 4]) rfl rfl rfl (by decide) (by decide) (by decide) rfl ?_
      refine wpO_cons ?_; refine op1_allocS rfl hS ?_; intro p3 H5 hS; refine wpO_cons ?_; (refine op1_storeNS rfl rfl (by (conv => lhs; whnf) <;> rfl) rfl rfl (S.up0 hS) (Nat.le_of_ble_eq_true rfl) ?_; intro H6 hS; replace hS := S.dn0 hS); refine zns ?_; refine wp_seq ?_; refine wp_regionD ?_; refine wpD_cons ?_; refine op1_load_6 rfl rfl (by exact S.g2 hS) rfl rfl ?_; refine wpD_cons ?_; refine op1_load_3 rfl rfl (by exact S.g1 hS) rfl rfl ?_; refine zg ?_; refine zj (S.g0 hS) ?_; refine wpD_cons ?_; refine op1_call2 rfl (by (conv => lhs; whnf) <;> rfl) (by (conv => lhs; whnf) <;> rfl) ?_
      have hT := hS
      refine wpF_mono (L39 (x := y) (by omega) hc hS) ?_
      clear hS
      rintro _ H6 ⟨rfl, hS⟩
      rw [hyc]
      refine wpD_cons ?_; refine op1_and rfl rfl rfl ?_; refine wpD_cons ?_; refine op1_neqI rfl rfl rfl ?_; refine wpD_nil ?_; refine dk_of ?_ ?_; refine zx 7 ?_ ?_; refine zy 3 ?_ ?_; exact chk_loadN rfl (by exact S.g2 hT) rfl rfl rfl; exact chkFs_nil; refine zx 6 ?_ ?_; refine zy 3 ?_ ?_; exact chk_loadN rfl (by exact S.g1 hT) rfl rfl rfl; exact chkFs_nil; refine chk_skip ?_; refine zx 4 ?_ ?_; refine zy 3 ?_ ?_; exact zq (S.g0 hT); refine zy 0 ?_ ?_; exact zq (S.g0 hS); exact chkFs_nil; (iterate 3 refine chk_skip ?_); exact chk_end; refine seq_normal ?_
      refine wp_ndec rfl (fun hb => ?_) (fun hb => ?_)
      · refine wp_region ?_; refine zw1 ?_; refine zf ?_; refine zh (S.g0 hS) ?_; refine wpO_cons ?_; refine op1_or rfl rfl rfl ?_; refine zw1 ?_; refine wpO_nil ?_; refine block_normal ?_; refine seq_normal ?_; refine wp_region ?_; refine wpO_cons ?_; refine op1_add rfl rfl rfl (by exact wrap_i64 (by omega) (by omega)) ?_; refine zw1 ?_; refine wpO_nil ?_
        exact ⟨3 - (2 + 1), by omega, 2 + 1, by rw [permT (i := 2) hb]; rfl, rfl, by omega, S.drop hS⟩
      · refine wp_skip ?_; refine block_normal ?_; refine seq_normal ?_; refine wp_region ?_; refine wpO_cons ?_; refine op1_add rfl rfl rfl (by exact wrap_i64 (by omega) (by omega)) ?_; refine zw1 ?_; refine wpO_nil ?_
        exact ⟨3 - (2 + 1), by omega, 2 + 1, by rw [permF (i := 2) hb]; rfl, rfl, by omega, S.drop hS⟩
  · obtain rfl : i = 3 := by omega
    refine wp_exit ?_; refine seq_exit ?_; refine iter_exit ?_; refine block_exit ?_; refine seq_normal ?_; refine wp_seq ?_; refine zsr ?_; refine zf ?_; refine zh (S.g0 hS) ?_; refine wpO_cons ?_; refine op1_eqlI rfl rfl rfl ?_; refine zns ?_
    refine wp_dec rfl (fun h0 => ?_) (fun h0 => ?_)
    · refine zsr ?_; refine zw1 ?_; refine zns ?_; refine zsr ?_; refine zf ?_; refine zh (S.g1 hS) ?_; refine zw1 ?_; refine wpO_cons ?_
      have e73 : bitAnd .i64 y.mode 73 = bitAnd .i64 x.mode 73 := by rw [hym, and73]
      refine op1_split rfl (fun hd => ?_) (fun hd => ?_)
      · refine op1_skip rfl ?_; (iterate 3 refine zk ?_); refine zt ?_; refine zns ?_; refine wp_true rfl ?_; refine wp_region ?_; refine zw1 ?_; refine wpO_cons ?_; refine op1_or rfl rfl rfl ?_; refine zw1 ?_; refine zns ?_; refine zsr ?_; refine zw1 ?_; refine zw1 ?_; refine wpO_cons ?_; refine op1_andNot rfl rfl rfl ?_; refine wpO_cons ?_; refine op1_eqlI rfl rfl rfl ?_; refine zw1 ?_; refine zns ?_; refine wp_ret ?_; refine ret_of ?_; refine zr ?_; refine rk_nil ?_
        have hg := grant0 (p := true) hw
        exact ⟨by unfold Ob.allowed; rw [decide_eq_true hw, if_pos h0, ← hyd, hd, Bool.or_assoc, Bool.true_or, ← hg]; rfl, S.drop (S.drop hS)⟩
      · refine op1_faddr0 rfl rfl ?_; refine zh (S.g1 hS) ?_; refine wpO_cons ?_; refine op1_and rfl rfl rfl ?_; refine wpO_cons ?_; refine op1_neqI rfl rfl rfl ?_; refine zu ?_; refine zns ?_
        refine wp_ndec rfl (fun hm => ?_) (fun hm => ?_)
        · refine wp_region ?_; refine zw1 ?_; refine wpO_cons ?_; refine op1_or rfl rfl rfl ?_; refine zw1 ?_; refine zns ?_; refine zsr ?_; refine zw1 ?_; refine zw1 ?_; refine wpO_cons ?_; refine op1_andNot rfl rfl rfl ?_; refine wpO_cons ?_; refine op1_eqlI rfl rfl rfl ?_; refine zw1 ?_; refine zns ?_; refine wp_ret ?_; refine ret_of ?_; refine zr ?_; refine rk_nil ?_
          have hg := grant0 (p := true) hw
          rw [e73] at hm
          exact ⟨by unfold Ob.allowed; rw [decide_eq_true hw, if_pos h0, ← hyd, hd, decide_eq_false hm, Bool.or_assoc, Bool.false_or, Bool.not_false, ← hg]; rfl, S.drop (S.drop hS)⟩
        · refine wp_skip ?_; refine seq_normal ?_; refine zsr ?_; refine zw1 ?_; refine zw1 ?_; refine wpO_cons ?_; refine op1_andNot rfl rfl rfl ?_; refine wpO_cons ?_; refine op1_eqlI rfl rfl rfl ?_; refine zw1 ?_; refine zns ?_; refine wp_ret ?_; refine ret_of ?_; refine zr ?_; refine rk_nil ?_
          have hg := grant0 (p := false) hw
          rw [e73] at hm
          exact ⟨by unfold Ob.allowed; rw [decide_eq_true hw, if_pos h0, ← hyd, hd, decide_eq_true hm, Bool.or_assoc, Bool.false_or, Bool.not_true, ← hg]; rfl, S.drop (S.drop hS)⟩
    · refine wp_skip ?_; refine seq_normal ?_; refine zsr ?_; refine zw1 ?_; refine zw1 ?_; refine wpO_cons ?_; refine op1_andNot rfl rfl rfl ?_; refine wpO_cons ?_; refine op1_eqlI rfl rfl rfl ?_; refine zw1 ?_; refine zns ?_; refine wp_ret ?_; refine ret_of ?_; refine zr ?_; refine rk_nil ?_
      have hg := grant (x.cls_b c) hw
      exact ⟨by unfold Ob.allowed; rw [decide_eq_true hw, if_neg h0, ← hg]; rfl, S.drop (S.drop hS)⟩
theorem L11 (hxm : -9223372036854775808 ≤ x.mode ∧ x.mode ≤ 9223372036854775807) (hc : CrOk B c r) (hS : S B H As) : wpF C 11 [.agg ⟨x.cells⟩, .agg ⟨c.cells⟩, .int .i64 want] H fun v H' => v = .bool (x.allowed c want) ∧ S B H' As := by
  refine wpF_ofW o11 rfl rfl ?_
  unfold Ob.cells Cr.cells
  refine zsr ?_; refine wpO_cons ?_; refine op1_boxNS rfl rfl rfl hS ?_; intro p1 H1 hS; refine wpO_cons ?_; refine op1_boxNS rfl rfl rfl hS ?_; intro p2 H2 hS; refine zw1 ?_; refine zns ?_; refine wp_seq ?_; refine zsr ?_; refine zw1 ?_; refine wpO_cons ?_; refine op1_lss rfl rfl rfl ?_; refine zw1 ?_; refine wpO_cons ?_
  refine op1_dec rfl (fun h1 => ?_) (fun h1 => ?_)
  · refine op1_skip rfl ?_; refine zk ?_; refine zt ?_; refine zns ?_; refine wp_true rfl ?_; refine zsr ?_; refine zw1 ?_; refine zns ?_; refine wp_ret ?_; refine seq_ret ?_; refine ret_of ?_; refine zr ?_; refine rk_nil ?_
    exact ⟨by unfold Ob.allowed; rw [decide_eq_false (by omega)]; rfl, S.drop (S.drop hS)⟩
  refine op1_mov rfl (by (conv => lhs; whnf) <;> rfl) ?_; refine wpO_cons ?_; refine op1_gtr rfl rfl rfl ?_; refine zu ?_; refine zns ?_
  refine wp_dec rfl (fun h2 => ?_) (fun h2 => ?_)
  · refine zsr ?_; refine zw1 ?_; refine zns ?_; refine wp_ret ?_; refine seq_ret ?_; refine ret_of ?_; refine zr ?_; refine rk_nil ?_
    exact ⟨by unfold Ob.allowed; rw [decide_eq_false (by omega)]; rfl, S.drop (S.drop hS)⟩
  have hw : 0 ≤ want ∧ want ≤ 7 := by omega
  refine wp_skip ?_; refine seq_normal ?_; refine wp_seq ?_; refine zsr ?_; refine zf ?_; refine zh (S.g0 hS) ?_; refine wpO_cons ?_; refine op1_eqlI rfl rfl rfl ?_; refine zns ?_
  refine wp_dec rfl (fun h0 => ?_) (fun h0 => ?_)
  · refine zsr ?_; refine zw1 ?_; refine wpO_cons ?_; refine op1_and rfl rfl rfl ?_; refine wpO_cons ?_; refine op1_eqlI rfl rfl rfl ?_; refine zw1 ?_; refine wpO_cons ?_; refine op1_split rfl (fun hc0 => ?_) (fun hc0 => ?_); (focus (refine op1_skip rfl ?_; refine zk ?_; refine zt ?_; refine zw1 ?_; (iterate 4 refine zk ?_); refine zt ?_; refine zw1 ?_; refine zns ?_; refine wp_ret ?_; refine seq_ret ?_; refine ret_of ?_; refine zr ?_; refine rk_nil ?_; (exact ⟨by unfold Ob.allowed; simp_all [resultV], S.drop (S.drop hS)⟩))); (focus (refine op1_faddr0 rfl rfl ?_; refine zh (S.g1 hS) ?_; refine zu ?_; refine zw1 ?_; refine wpO_cons ?_; refine op1_split rfl (fun hc1 => ?_) (fun hc1 => ?_); (focus (refine op1_skip rfl ?_; (iterate 3 refine zk ?_); refine zt ?_; refine zw1 ?_; refine zns ?_; refine wp_ret ?_; refine seq_ret ?_; refine ret_of ?_; refine zr ?_; refine rk_nil ?_; (exact ⟨by unfold Ob.allowed; simp_all [resultV], S.drop (S.drop hS)⟩))); (focus (refine op1_faddr0 rfl rfl ?_; refine zh (S.g1 hS) ?_; refine wpO_cons ?_; refine op1_and rfl rfl rfl ?_; refine wpO_cons ?_; refine op1_neqI rfl rfl rfl ?_; refine zu ?_; refine zw1 ?_; refine zns ?_; refine wp_ret ?_; refine seq_ret ?_; refine ret_of ?_; refine zr ?_; refine rk_nil ?_; (exact ⟨by unfold Ob.allowed; simp_all [resultV], S.drop (S.drop hS)⟩)))))
  · refine wp_skip ?_; refine seq_normal ?_; refine zsr ?_; refine zf ?_; refine zh (S.g1 hS) ?_; refine wpO_cons ?_; refine op1_and rfl rfl rfl ?_; refine zw1 ?_; refine zns ?_; refine wp_seq ?_; refine zsr ?_; refine zf ?_; refine zh (S.g0 hS) ?_; refine zf ?_; refine zh (S.g1 hS) ?_; refine wpO_cons ?_; refine op1_eqlI rfl rfl rfl ?_; refine zns ?_
    refine wp_dec rfl (fun hu => ?_) (fun hu => ?_)
    · refine wp_region ?_; refine zf ?_; refine zh (S.g1 hS) ?_; refine wpO_cons ?_
      refine op1_shr rfl rfl rfl (by decide) ?_
      rw [show x.mode.fdiv (2 ^ (min (6 : Int).toNat IntKind.i64.bits)) = x.mode / 64 from Int.fdiv_eq_ediv_of_nonneg _ (by decide)]
      refine wpO_cons ?_; refine op1_and rfl rfl rfl ?_; refine zw1 ?_; refine zns ?_; refine zsr ?_; refine zw1 ?_; refine wpO_cons ?_; refine op1_and rfl rfl rfl ?_; refine wpO_cons ?_; refine op1_eqlI rfl rfl rfl ?_; refine zw1 ?_; refine wpO_cons ?_
      obtain ⟨b, hb⟩ : ∃ b, b = x.cls c := ⟨_, rfl⟩
      have hbe : bitAnd .i64 (x.mode / 64) 7 = b := by
        rw [hb, and7]
        unfold Ob.cls
        simp only [h0, hu, hu, if_true, if_false]
        try rfl
      rw [hbe]
      refine op1_split rfl (fun hc0 => ?_) (fun hc0 => ?_); (focus (refine op1_skip rfl ?_; refine zk ?_; refine zk ?_; refine zt ?_; refine zw1 ?_; refine zw1 ?_; refine wpO_cons ?_; refine op1_and rfl rfl rfl ?_; refine wpO_cons ?_; refine op1_eqlI rfl rfl rfl ?_; refine zw1 ?_; refine wpO_cons ?_; refine op1_split rfl (fun hc1 => ?_) (fun hc1 => ?_); (focus (refine op1_skip rfl ?_; refine zk ?_; refine zk ?_; refine zt ?_; refine zt ?_; refine zw1 ?_; refine zw1 ?_; refine wpO_cons ?_; refine op1_and rfl rfl rfl ?_; refine wpO_cons ?_; refine op1_eqlI rfl rfl rfl ?_; refine zw1 ?_; refine wpO_cons ?_; refine op1_split rfl (fun hc2 => ?_) (fun hc2 => ?_); (focus (refine op1_skip rfl ?_; refine zk ?_; refine zk ?_; refine zt ?_; refine zt ?_; refine zw1 ?_; refine zns ?_; refine wp_ret ?_; refine ret_of ?_; refine zr ?_; refine rk_nil ?_; (exact ⟨by unfold Ob.allowed okBits; simp_all [resultV], S.drop (S.drop hS)⟩))); (focus (refine op1_mov rfl (by (conv => lhs; whnf) <;> rfl) ?_; refine wpO_cons ?_; refine op1_and rfl rfl rfl ?_; refine wpO_cons ?_; refine op1_neqI rfl rfl rfl ?_; refine zu ?_; refine zt ?_; refine zw1 ?_; refine zns ?_; refine wp_ret ?_; refine ret_of ?_; refine zr ?_; refine rk_nil ?_; (exact ⟨by unfold Ob.allowed okBits; simp_all [resultV], S.drop (S.drop hS)⟩))))); (focus (refine op1_mov rfl (by (conv => lhs; whnf) <;> rfl) ?_; refine wpO_cons ?_; refine op1_and rfl rfl rfl ?_; refine wpO_cons ?_; refine op1_neqI rfl rfl rfl ?_; refine zu ?_; refine zt ?_; refine zw1 ?_; refine wpO_cons ?_; refine op1_split rfl (fun hc2 => ?_) (fun hc2 => ?_); (focus (refine op1_mov rfl (by (conv => lhs; whnf) <;> rfl) ?_; refine wpO_cons ?_; refine op1_and rfl rfl rfl ?_; refine wpO_cons ?_; refine op1_eqlI rfl rfl rfl ?_; refine zw1 ?_; refine wpO_cons ?_; refine op1_split rfl (fun hc3 => ?_) (fun hc3 => ?_); (focus (refine op1_skip rfl ?_; refine zk ?_; refine zk ?_; refine zt ?_; refine zt ?_; refine zw1 ?_; refine zns ?_; refine wp_ret ?_; refine ret_of ?_; refine zr ?_; refine rk_nil ?_; (exact ⟨by unfold Ob.allowed okBits; simp_all [resultV], S.drop (S.drop hS)⟩))); (focus (refine op1_mov rfl (by (conv => lhs; whnf) <;> rfl) ?_; refine wpO_cons ?_; refine op1_and rfl rfl rfl ?_; refine wpO_cons ?_; refine op1_neqI rfl rfl rfl ?_; refine zu ?_; refine zt ?_; refine zw1 ?_; refine zns ?_; refine wp_ret ?_; refine ret_of ?_; refine zr ?_; refine rk_nil ?_; (exact ⟨by unfold Ob.allowed okBits; simp_all [resultV], S.drop (S.drop hS)⟩))))); (focus (refine op1_skip rfl ?_; (iterate 7 refine zk ?_); refine zu ?_; refine zw1 ?_; refine zns ?_; refine wp_ret ?_; refine ret_of ?_; refine zr ?_; refine rk_nil ?_; (exact ⟨by unfold Ob.allowed okBits; simp_all [resultV], S.drop (S.drop hS)⟩))))))); (focus (refine op1_mov rfl (by (conv => lhs; whnf) <;> rfl) ?_; refine wpO_cons ?_; refine op1_and rfl rfl rfl ?_; refine wpO_cons ?_; refine op1_neqI rfl rfl rfl ?_; refine zu ?_; refine zw1 ?_; refine wpO_cons ?_; refine op1_split rfl (fun hc1 => ?_) (fun hc1 => ?_); (focus (refine op1_mov rfl (by (conv => lhs; whnf) <;> rfl) ?_; refine wpO_cons ?_; refine op1_and rfl rfl rfl ?_; refine wpO_cons ?_; refine op1_eqlI rfl rfl rfl ?_; refine zw1 ?_; refine wpO_cons ?_; refine op1_split rfl (fun hc2 => ?_) (fun hc2 => ?_); (focus (refine op1_skip rfl ?_; refine zk ?_; refine zk ?_; refine zt ?_; refine zt ?_; refine zw1 ?_; refine zw1 ?_; refine wpO_cons ?_; refine op1_and rfl rfl rfl ?_; refine wpO_cons ?_; refine op1_eqlI rfl rfl rfl ?_; refine zw1 ?_; refine wpO_cons ?_; refine op1_split rfl (fun hc3 => ?_) (fun hc3 => ?_); (focus (refine op1_skip rfl ?_; refine zk ?_; refine zk ?_; refine zt ?_; refine zt ?_; refine zw1 ?_; refine zns ?_; refine wp_ret ?_; refine ret_of ?_; refine zr ?_; refine rk_nil ?_; (exact ⟨by unfold Ob.allowed okBits; simp_all [resultV], S.drop (S.drop hS)⟩))); (focus (refine op1_mov rfl (by (conv => lhs; whnf) <;> rfl) ?_; refine wpO_cons ?_; refine op1_and rfl rfl rfl ?_; refine wpO_cons ?_; refine op1_neqI rfl rfl rfl ?_; refine zu ?_; refine zt ?_; refine zw1 ?_; refine zns ?_; refine wp_ret ?_; refine ret_of ?_; refine zr ?_; refine rk_nil ?_; (exact ⟨by unfold Ob.allowed okBits; simp_all [resultV], S.drop (S.drop hS)⟩))))); (focus (refine op1_mov rfl (by (conv => lhs; whnf) <;> rfl) ?_; refine wpO_cons ?_; refine op1_and rfl rfl rfl ?_; refine wpO_cons ?_; refine op1_neqI rfl rfl rfl ?_; refine zu ?_; refine zt ?_; refine zw1 ?_; refine wpO_cons ?_; refine op1_split rfl (fun hc3 => ?_) (fun hc3 => ?_); (focus (refine op1_mov rfl (by (conv => lhs; whnf) <;> rfl) ?_; refine wpO_cons ?_; refine op1_and rfl rfl rfl ?_; refine wpO_cons ?_; refine op1_eqlI rfl rfl rfl ?_; refine zw1 ?_; refine wpO_cons ?_; refine op1_split rfl (fun hc4 => ?_) (fun hc4 => ?_); (focus (refine op1_skip rfl ?_; refine zk ?_; refine zk ?_; refine zt ?_; refine zt ?_; refine zw1 ?_; refine zns ?_; refine wp_ret ?_; refine ret_of ?_; refine zr ?_; refine rk_nil ?_; (exact ⟨by unfold Ob.allowed okBits; simp_all [resultV], S.drop (S.drop hS)⟩))); (focus (refine op1_mov rfl (by (conv => lhs; whnf) <;> rfl) ?_; refine wpO_cons ?_; refine op1_and rfl rfl rfl ?_; refine wpO_cons ?_; refine op1_neqI rfl rfl rfl ?_; refine zu ?_; refine zt ?_; refine zw1 ?_; refine zns ?_; refine wp_ret ?_; refine ret_of ?_; refine zr ?_; refine rk_nil ?_; (exact ⟨by unfold Ob.allowed okBits; simp_all [resultV], S.drop (S.drop hS)⟩))))); (focus (refine op1_skip rfl ?_; (iterate 7 refine zk ?_); refine zu ?_; refine zw1 ?_; refine zns ?_; refine wp_ret ?_; refine ret_of ?_; refine zr ?_; refine rk_nil ?_; (exact ⟨by unfold Ob.allowed okBits; simp_all [resultV], S.drop (S.drop hS)⟩))))))); (focus (refine op1_skip rfl ?_; (iterate 7 refine zk ?_); refine zu ?_; refine zw1 ?_; (iterate 8 refine zk ?_); refine zu ?_; refine zw1 ?_; refine zns ?_; refine wp_ret ?_; refine ret_of ?_; refine zr ?_; refine rk_nil ?_; (exact ⟨by unfold Ob.allowed okBits; simp_all [resultV], S.drop (S.drop hS)⟩)))))
    · refine zsr ?_; refine wpO_cons ?_; refine op1_load_3 rfl rfl (by exact S.g0 hS) rfl rfl ?_; refine zf ?_; refine zh (S.g1 hS) ?_; refine wpO_cons ?_; refine op1_call2 rfl (by (conv => lhs; whnf) <;> rfl) (by (conv => lhs; whnf) <;> rfl) ?_
      refine wpF_mono (L40 hc hS) ?_
      clear hS
      rintro _ H3 ⟨rfl, hS⟩
      refine zns ?_
      refine wp_dec rfl (fun hmm => ?_) (fun hmm => ?_)
      · refine wp_region ?_; refine zf ?_; refine zh (S.g1 hS) ?_; refine wpO_cons ?_
        refine op1_shr rfl rfl rfl (by decide) ?_
        rw [show x.mode.fdiv (2 ^ (min (3 : Int).toNat IntKind.i64.bits)) = x.mode / 8 from Int.fdiv_eq_ediv_of_nonneg _ (by decide)]
        refine wpO_cons ?_; refine op1_and rfl rfl rfl ?_; refine zw1 ?_; refine zns ?_; refine zsr ?_; refine zw1 ?_; refine wpO_cons ?_; refine op1_and rfl rfl rfl ?_; refine wpO_cons ?_; refine op1_eqlI rfl rfl rfl ?_; refine zw1 ?_; refine wpO_cons ?_
        obtain ⟨b, hb⟩ : ∃ b, b = x.cls c := ⟨_, rfl⟩
        have hbe : bitAnd .i64 (x.mode / 8) 7 = b := by
          rw [hb, and7]
          unfold Ob.cls
          simp only [h0, hu, hmm, if_true, if_false]
          try rfl
        rw [hbe]
        refine op1_split rfl (fun hc0 => ?_) (fun hc0 => ?_); (focus (refine op1_skip rfl ?_; refine zk ?_; refine zk ?_; refine zt ?_; refine zw1 ?_; refine zw1 ?_; refine wpO_cons ?_; refine op1_and rfl rfl rfl ?_; refine wpO_cons ?_; refine op1_eqlI rfl rfl rfl ?_; refine zw1 ?_; refine wpO_cons ?_; refine op1_split rfl (fun hc1 => ?_) (fun hc1 => ?_); (focus (refine op1_skip rfl ?_; refine zk ?_; refine zk ?_; refine zt ?_; refine zt ?_; refine zw1 ?_; refine zw1 ?_; refine wpO_cons ?_; refine op1_and rfl rfl rfl ?_; refine wpO_cons ?_; refine op1_eqlI rfl rfl rfl ?_; refine zw1 ?_; refine wpO_cons ?_; refine op1_split rfl (fun hc2 => ?_) (fun hc2 => ?_); (focus (refine op1_skip rfl ?_; refine zk ?_; refine zk ?_; refine zt ?_; refine zt ?_; refine zw1 ?_; refine zns ?_; refine wp_ret ?_; refine ret_of ?_; refine zr ?_; refine rk_nil ?_; (exact ⟨by unfold Ob.allowed okBits; simp_all [resultV], S.drop (S.drop hS)⟩))); (focus (refine op1_mov rfl (by (conv => lhs; whnf) <;> rfl) ?_; refine wpO_cons ?_; refine op1_and rfl rfl rfl ?_; refine wpO_cons ?_; refine op1_neqI rfl rfl rfl ?_; refine zu ?_; refine zt ?_; refine zw1 ?_; refine zns ?_; refine wp_ret ?_; refine ret_of ?_; refine zr ?_; refine rk_nil ?_; (exact ⟨by unfold Ob.allowed okBits; simp_all [resultV], S.drop (S.drop hS)⟩))))); (focus (refine op1_mov rfl (by (conv => lhs; whnf) <;> rfl) ?_; refine wpO_cons ?_; refine op1_and rfl rfl rfl ?_; refine wpO_cons ?_; refine op1_neqI rfl rfl rfl ?_; refine zu ?_; refine zt ?_; refine zw1 ?_; refine wpO_cons ?_; refine op1_split rfl (fun hc2 => ?_) (fun hc2 => ?_); (focus (refine op1_mov rfl (by (conv => lhs; whnf) <;> rfl) ?_; refine wpO_cons ?_; refine op1_and rfl rfl rfl ?_; refine wpO_cons ?_; refine op1_eqlI rfl rfl rfl ?_; refine zw1 ?_; refine wpO_cons ?_; refine op1_split rfl (fun hc3 => ?_) (fun hc3 => ?_); (focus (refine op1_skip rfl ?_; refine zk ?_; refine zk ?_; refine zt ?_; refine zt ?_; refine zw1 ?_; refine zns ?_; refine wp_ret ?_; refine ret_of ?_; refine zr ?_; refine rk_nil ?_; (exact ⟨by unfold Ob.allowed okBits; simp_all [resultV], S.drop (S.drop hS)⟩))); (focus (refine op1_mov rfl (by (conv => lhs; whnf) <;> rfl) ?_; refine wpO_cons ?_; refine op1_and rfl rfl rfl ?_; refine wpO_cons ?_; refine op1_neqI rfl rfl rfl ?_; refine zu ?_; refine zt ?_; refine zw1 ?_; refine zns ?_; refine wp_ret ?_; refine ret_of ?_; refine zr ?_; refine rk_nil ?_; (exact ⟨by unfold Ob.allowed okBits; simp_all [resultV], S.drop (S.drop hS)⟩))))); (focus (refine op1_skip rfl ?_; (iterate 7 refine zk ?_); refine zu ?_; refine zw1 ?_; refine zns ?_; refine wp_ret ?_; refine ret_of ?_; refine zr ?_; refine rk_nil ?_; (exact ⟨by unfold Ob.allowed okBits; simp_all [resultV], S.drop (S.drop hS)⟩))))))); (focus (refine op1_mov rfl (by (conv => lhs; whnf) <;> rfl) ?_; refine wpO_cons ?_; refine op1_and rfl rfl rfl ?_; refine wpO_cons ?_; refine op1_neqI rfl rfl rfl ?_; refine zu ?_; refine zw1 ?_; refine wpO_cons ?_; refine op1_split rfl (fun hc1 => ?_) (fun hc1 => ?_); (focus (refine op1_mov rfl (by (conv => lhs; whnf) <;> rfl) ?_; refine wpO_cons ?_; refine op1_and rfl rfl rfl ?_; refine wpO_cons ?_; refine op1_eqlI rfl rfl rfl ?_; refine zw1 ?_; refine wpO_cons ?_; refine op1_split rfl (fun hc2 => ?_) (fun hc2 => ?_); (focus (refine op1_skip rfl ?_; refine zk ?_; refine zk ?_; refine zt ?_; refine zt ?_; refine zw1 ?_; refine zw1 ?_; refine wpO_cons ?_; refine op1_and rfl rfl rfl ?_; refine wpO_cons ?_; refine op1_eqlI rfl rfl rfl ?_; refine zw1 ?_; refine wpO_cons ?_; refine op1_split rfl (fun hc3 => ?_) (fun hc3 => ?_); (focus (refine op1_skip rfl ?_; refine zk ?_; refine zk ?_; refine zt ?_; refine zt ?_; refine zw1 ?_; refine zns ?_; refine wp_ret ?_; refine ret_of ?_; refine zr ?_; refine rk_nil ?_; (exact ⟨by unfold Ob.allowed okBits; simp_all [resultV], S.drop (S.drop hS)⟩))); (focus (refine op1_mov rfl (by (conv => lhs; whnf) <;> rfl) ?_; refine wpO_cons ?_; refine op1_and rfl rfl rfl ?_; refine wpO_cons ?_; refine op1_neqI rfl rfl rfl ?_; refine zu ?_; refine zt ?_; refine zw1 ?_; refine zns ?_; refine wp_ret ?_; refine ret_of ?_; refine zr ?_; refine rk_nil ?_; (exact ⟨by unfold Ob.allowed okBits; simp_all [resultV], S.drop (S.drop hS)⟩))))); (focus (refine op1_mov rfl (by (conv => lhs; whnf) <;> rfl) ?_; refine wpO_cons ?_; refine op1_and rfl rfl rfl ?_; refine wpO_cons ?_; refine op1_neqI rfl rfl rfl ?_; refine zu ?_; refine zt ?_; refine zw1 ?_; refine wpO_cons ?_; refine op1_split rfl (fun hc3 => ?_) (fun hc3 => ?_); (focus (refine op1_mov rfl (by (conv => lhs; whnf) <;> rfl) ?_; refine wpO_cons ?_; refine op1_and rfl rfl rfl ?_; refine wpO_cons ?_; refine op1_eqlI rfl rfl rfl ?_; refine zw1 ?_; refine wpO_cons ?_; refine op1_split rfl (fun hc4 => ?_) (fun hc4 => ?_); (focus (refine op1_skip rfl ?_; refine zk ?_; refine zk ?_; refine zt ?_; refine zt ?_; refine zw1 ?_; refine zns ?_; refine wp_ret ?_; refine ret_of ?_; refine zr ?_; refine rk_nil ?_; (exact ⟨by unfold Ob.allowed okBits; simp_all [resultV], S.drop (S.drop hS)⟩))); (focus (refine op1_mov rfl (by (conv => lhs; whnf) <;> rfl) ?_; refine wpO_cons ?_; refine op1_and rfl rfl rfl ?_; refine wpO_cons ?_; refine op1_neqI rfl rfl rfl ?_; refine zu ?_; refine zt ?_; refine zw1 ?_; refine zns ?_; refine wp_ret ?_; refine ret_of ?_; refine zr ?_; refine rk_nil ?_; (exact ⟨by unfold Ob.allowed okBits; simp_all [resultV], S.drop (S.drop hS)⟩))))); (focus (refine op1_skip rfl ?_; (iterate 7 refine zk ?_); refine zu ?_; refine zw1 ?_; refine zns ?_; refine wp_ret ?_; refine ret_of ?_; refine zr ?_; refine rk_nil ?_; (exact ⟨by unfold Ob.allowed okBits; simp_all [resultV], S.drop (S.drop hS)⟩))))))); (focus (refine op1_skip rfl ?_; (iterate 7 refine zk ?_); refine zu ?_; refine zw1 ?_; (iterate 8 refine zk ?_); refine zu ?_; refine zw1 ?_; refine zns ?_; refine wp_ret ?_; refine ret_of ?_; refine zr ?_; refine rk_nil ?_; (exact ⟨by unfold Ob.allowed okBits; simp_all [resultV], S.drop (S.drop hS)⟩)))))
      · refine wp_skip ?_; refine seq_normal ?_; refine zsr ?_; refine zw1 ?_; refine wpO_cons ?_; refine op1_and rfl rfl rfl ?_; refine wpO_cons ?_; refine op1_eqlI rfl rfl rfl ?_; refine zw1 ?_; refine wpO_cons ?_
        obtain ⟨b, hb⟩ : ∃ b, b = x.cls c := ⟨_, rfl⟩
        have hbe : bitAnd .i64 x.mode 7 = b := by
          rw [hb, and7]
          unfold Ob.cls
          simp only [h0, hu, hmm, if_true, if_false]
          try rfl
        rw [hbe]
        refine op1_split rfl (fun hc0 => ?_) (fun hc0 => ?_); (focus (refine op1_skip rfl ?_; refine zk ?_; refine zk ?_; refine zt ?_; refine zw1 ?_; refine zw1 ?_; refine wpO_cons ?_; refine op1_and rfl rfl rfl ?_; refine wpO_cons ?_; refine op1_eqlI rfl rfl rfl ?_; refine zw1 ?_; refine wpO_cons ?_; refine op1_split rfl (fun hc1 => ?_) (fun hc1 => ?_); (focus (refine op1_skip rfl ?_; refine zk ?_; refine zk ?_; refine zt ?_; refine zt ?_; refine zw1 ?_; refine zw1 ?_; refine wpO_cons ?_; refine op1_and rfl rfl rfl ?_; refine wpO_cons ?_; refine op1_eqlI rfl rfl rfl ?_; refine zw1 ?_; refine wpO_cons ?_; refine op1_split rfl (fun hc2 => ?_) (fun hc2 => ?_); (focus (refine op1_skip rfl ?_; refine zk ?_; refine zk ?_; refine zt ?_; refine zt ?_; refine zw1 ?_; refine zns ?_; refine wp_ret ?_; refine ret_of ?_; refine zr ?_; refine rk_nil ?_; (exact ⟨by unfold Ob.allowed okBits; simp_all [resultV], S.drop (S.drop hS)⟩))); (focus (refine op1_mov rfl (by (conv => lhs; whnf) <;> rfl) ?_; refine wpO_cons ?_; refine op1_and rfl rfl rfl ?_; refine wpO_cons ?_; refine op1_neqI rfl rfl rfl ?_; refine zu ?_; refine zt ?_; refine zw1 ?_; refine zns ?_; refine wp_ret ?_; refine ret_of ?_; refine zr ?_; refine rk_nil ?_; (exact ⟨by unfold Ob.allowed okBits; simp_all [resultV], S.drop (S.drop hS)⟩))))); (focus (refine op1_mov rfl (by (conv => lhs; whnf) <;> rfl) ?_; refine wpO_cons ?_; refine op1_and rfl rfl rfl ?_; refine wpO_cons ?_; refine op1_neqI rfl rfl rfl ?_; refine zu ?_; refine zt ?_; refine zw1 ?_; refine wpO_cons ?_; refine op1_split rfl (fun hc2 => ?_) (fun hc2 => ?_); (focus (refine op1_mov rfl (by (conv => lhs; whnf) <;> rfl) ?_; refine wpO_cons ?_; refine op1_and rfl rfl rfl ?_; refine wpO_cons ?_; refine op1_eqlI rfl rfl rfl ?_; refine zw1 ?_; refine wpO_cons ?_; refine op1_split rfl (fun hc3 => ?_) (fun hc3 => ?_); (focus (refine op1_skip rfl ?_; refine zk ?_; refine zk ?_; refine zt ?_; refine zt ?_; refine zw1 ?_; refine zns ?_; refine wp_ret ?_; refine ret_of ?_; refine zr ?_; refine rk_nil ?_; (exact ⟨by unfold Ob.allowed okBits; simp_all [resultV], S.drop (S.drop hS)⟩))); (focus (refine op1_mov rfl (by (conv => lhs; whnf) <;> rfl) ?_; refine wpO_cons ?_; refine op1_and rfl rfl rfl ?_; refine wpO_cons ?_; refine op1_neqI rfl rfl rfl ?_; refine zu ?_; refine zt ?_; refine zw1 ?_; refine zns ?_; refine wp_ret ?_; refine ret_of ?_; refine zr ?_; refine rk_nil ?_; (exact ⟨by unfold Ob.allowed okBits; simp_all [resultV], S.drop (S.drop hS)⟩))))); (focus (refine op1_skip rfl ?_; (iterate 7 refine zk ?_); refine zu ?_; refine zw1 ?_; refine zns ?_; refine wp_ret ?_; refine ret_of ?_; refine zr ?_; refine rk_nil ?_; (exact ⟨by unfold Ob.allowed okBits; simp_all [resultV], S.drop (S.drop hS)⟩))))))); (focus (refine op1_mov rfl (by (conv => lhs; whnf) <;> rfl) ?_; refine wpO_cons ?_; refine op1_and rfl rfl rfl ?_; refine wpO_cons ?_; refine op1_neqI rfl rfl rfl ?_; refine zu ?_; refine zw1 ?_; refine wpO_cons ?_; refine op1_split rfl (fun hc1 => ?_) (fun hc1 => ?_); (focus (refine op1_mov rfl (by (conv => lhs; whnf) <;> rfl) ?_; refine wpO_cons ?_; refine op1_and rfl rfl rfl ?_; refine wpO_cons ?_; refine op1_eqlI rfl rfl rfl ?_; refine zw1 ?_; refine wpO_cons ?_; refine op1_split rfl (fun hc2 => ?_) (fun hc2 => ?_); (focus (refine op1_skip rfl ?_; refine zk ?_; refine zk ?_; refine zt ?_; refine zt ?_; refine zw1 ?_; refine zw1 ?_; refine wpO_cons ?_; refine op1_and rfl rfl rfl ?_; refine wpO_cons ?_; refine op1_eqlI rfl rfl rfl ?_; refine zw1 ?_; refine wpO_cons ?_; refine op1_split rfl (fun hc3 => ?_) (fun hc3 => ?_); (focus (refine op1_skip rfl ?_; refine zk ?_; refine zk ?_; refine zt ?_; refine zt ?_; refine zw1 ?_; refine zns ?_; refine wp_ret ?_; refine ret_of ?_; refine zr ?_; refine rk_nil ?_; (exact ⟨by unfold Ob.allowed okBits; simp_all [resultV], S.drop (S.drop hS)⟩))); (focus (refine op1_mov rfl (by (conv => lhs; whnf) <;> rfl) ?_; refine wpO_cons ?_; refine op1_and rfl rfl rfl ?_; refine wpO_cons ?_; refine op1_neqI rfl rfl rfl ?_; refine zu ?_; refine zt ?_; refine zw1 ?_; refine zns ?_; refine wp_ret ?_; refine ret_of ?_; refine zr ?_; refine rk_nil ?_; (exact ⟨by unfold Ob.allowed okBits; simp_all [resultV], S.drop (S.drop hS)⟩))))); (focus (refine op1_mov rfl (by (conv => lhs; whnf) <;> rfl) ?_; refine wpO_cons ?_; refine op1_and rfl rfl rfl ?_; refine wpO_cons ?_; refine op1_neqI rfl rfl rfl ?_; refine zu ?_; refine zt ?_; refine zw1 ?_; refine wpO_cons ?_; refine op1_split rfl (fun hc3 => ?_) (fun hc3 => ?_); (focus (refine op1_mov rfl (by (conv => lhs; whnf) <;> rfl) ?_; refine wpO_cons ?_; refine op1_and rfl rfl rfl ?_; refine wpO_cons ?_; refine op1_eqlI rfl rfl rfl ?_; refine zw1 ?_; refine wpO_cons ?_; refine op1_split rfl (fun hc4 => ?_) (fun hc4 => ?_); (focus (refine op1_skip rfl ?_; refine zk ?_; refine zk ?_; refine zt ?_; refine zt ?_; refine zw1 ?_; refine zns ?_; refine wp_ret ?_; refine ret_of ?_; refine zr ?_; refine rk_nil ?_; (exact ⟨by unfold Ob.allowed okBits; simp_all [resultV], S.drop (S.drop hS)⟩))); (focus (refine op1_mov rfl (by (conv => lhs; whnf) <;> rfl) ?_; refine wpO_cons ?_; refine op1_and rfl rfl rfl ?_; refine wpO_cons ?_; refine op1_neqI rfl rfl rfl ?_; refine zu ?_; refine zt ?_; refine zw1 ?_; refine zns ?_; refine wp_ret ?_; refine ret_of ?_; refine zr ?_; refine rk_nil ?_; (exact ⟨by unfold Ob.allowed okBits; simp_all [resultV], S.drop (S.drop hS)⟩))))); (focus (refine op1_skip rfl ?_; (iterate 7 refine zk ?_); refine zu ?_; refine zw1 ?_; refine zns ?_; refine wp_ret ?_; refine ret_of ?_; refine zr ?_; refine rk_nil ?_; (exact ⟨by unfold Ob.allowed okBits; simp_all [resultV], S.drop (S.drop hS)⟩))))))); (focus (refine op1_skip rfl ?_; (iterate 7 refine zk ?_); refine zu ?_; refine zw1 ?_; (iterate 8 refine zk ?_); refine zu ?_; refine zw1 ?_; refine zns ?_; refine wp_ret ?_; refine ret_of ?_; refine zr ?_; refine rk_nil ?_; (exact ⟨by unfold Ob.allowed okBits; simp_all [resultV], S.drop (S.drop hS)⟩)))))
end
end Go.E.At
/- Attributes: the laws' arguments; AttributesAllowed. -/
namespace Go.E.At
open Go Go.E Go.ChangeShapes Go.WideShapes Go.ChangeAt Go.RowKit Go.Proofs.YtgbnjcmjioiclaaDoor.base Go.Proofs.YtgbnjcmjioiclaaDoor Go.Proofs
set_option linter.unusedVariables false
set_option linter.unusedSimpArgs false
set_option maxRecDepth 100000
theorem ut2 : Tryd.prog.underlying 2 = some (.int .i64) := by kernel_rfl
theorem ut3 : Tryd.prog.underlying 3 = some (.int .i64) := by kernel_rfl
theorem ut4 : Tryd.prog.underlying 4 = some .bool := by kernel_rfl
theorem ut5 : Tryd.prog.underlying 5 = some (.int .u8) := by kernel_rfl
theorem ut23 : fieldsOf Tryd.prog 23 = some [(3,0),(3,1),(3,2),(2,3),(3,4),(4,5)] := by kernel_rfl
theorem ut24 : Tryd.prog.underlying 24 = some (.slice 3) := by kernel_rfl
theorem ut26 : fieldsOf Tryd.prog 26 = some [(3,0),(3,1),(24,2)] := by kernel_rfl
theorem co2 : Tryd.prog.cellsOf 2 = 1 := by kernel_rfl
theorem co3 : Tryd.prog.cellsOf 3 = 1 := by kernel_rfl
theorem co4 : Tryd.prog.cellsOf 4 = 1 := by kernel_rfl
theorem co5 : Tryd.prog.cellsOf 5 = 1 := by kernel_rfl
theorem co23 : Tryd.prog.cellsOf 23 = 6 := by kernel_rfl
theorem co24 : Tryd.prog.cellsOf 24 = 1 := by kernel_rfl
theorem co26 : Tryd.prog.cellsOf 26 = 3 := by kernel_rfl
theorem ga3 : aggT Tryd.prog 3 = false := by kernel_rfl
abbrev I64 (x : Int) : Prop := -9223372036854775808 ≤ x ∧ x ≤ 9223372036854775807
structure ObN (x : Ob) : Prop where
  mode : I64 x.mode
  user : I64 x.user
  group : I64 x.group
  size : I64 x.size
  links : I64 x.links
structure CrA (B : AHeap) (x : Cr) (r : List Nat) : Prop where
  user : I64 x.user
  group : I64 x.group
  len : x.gs.length ≤ 9223372036854775807
  rd : RdS B 1 (.slice x.a x.gs.length x.c) (i64s x.gs) r
  lt : ∀ b ∈ r, b < B.next
theorem CrA.ok {B : AHeap} {x : Cr} {r : List Nat} (h : CrA B x r) (hl : x.gs.length ≤ 1000) : CrOk B x r := ⟨hl, h.rd, h.lt⟩
theorem ob_of {gs : List AObj} {us : List Value} {n : Nat} (h : OkA Tryd.prog gs (n + 2) 23 us) : ∃ x : Ob, us = x.cells ∧ ObN x := by
  obtain ⟨hl, hf⟩ := h.struct ut23 co23
  match us, hl with
  | [v0, v1, v2, v3, v4, v5], _ =>
    obtain ⟨a0, e0, h0⟩ := (hf (3, 0) (by simp)).i64 ut3
    obtain ⟨a1, e1, h1⟩ := (hf (3, 1) (by simp)).i64 ut3
    obtain ⟨a2, e2, h2⟩ := (hf (3, 2) (by simp)).i64 ut3
    obtain ⟨a3, e3, h3⟩ := (hf (2, 3) (by simp)).i64 ut2
    obtain ⟨a4, e4, h4⟩ := (hf (3, 4) (by simp)).i64 ut3
    obtain ⟨a5, e5⟩ := (hf (4, 5) (by simp)).bool ut4
    simp only [co2, co3, co4, List.drop_zero, List.take_succ_cons, List.take_zero, List.drop_succ_cons] at e0 e1 e2 e3 e4 e5
    cases e0; cases e1; cases e2; cases e3; cases e4; cases e5
    exact ⟨⟨a0, a1, a2, a3, a4, a5⟩, rfl, h0, h1, h2, h3, h4⟩
theorem cr_of {gs : List AObj} {us : List Value} {n : Nat} (h : OkA Tryd.prog gs (n + 3) 26 us) : ∃ x : Cr, us = x.cells ∧ ∃ r, CrA (startH gs) x r := by
  obtain ⟨hl, hf⟩ := h.struct ut26 co26
  match us, hl with
  | [v0, v1, v2], _ =>
    obtain ⟨a0, e0, h0⟩ := (hf (3, 0) (by simp)).i64 ut3
    obtain ⟨a1, e1, h1⟩ := (hf (3, 1) (by simp)).i64 ut3
    obtain ⟨a, xs, c, r, e2, h2, h3, h4, _⟩ := (hf (24, 2) (by simp)).intS ut24 co3 ut3
    simp only [co3, co24, List.drop_zero, List.take_succ_cons, List.take_zero, List.drop_succ_cons] at e0 e1 e2
    cases e0; cases e1; cases e2
    exact ⟨⟨a0, a1, xs, a, c⟩, rfl, r, h0, h1, h2, h3, h4⟩
theorem arg_i64 {gs : List AObj} {n : Nat} {a : Value} (h : ∃ cells, a = argV Tryd.prog 3 cells ∧ OkA Tryd.prog gs (n + 1) 3 cells) : ∃ x, a = .int .i64 x ∧ I64 x := by
  obtain ⟨cells, rfl, h⟩ := h
  obtain ⟨x, rfl, hx⟩ := h.i64 ut3
  exact ⟨x, by unfold argV; rw [ga3]; rfl, hx⟩
theorem globS (gs' : List AObj) : Glob objs (startH (objs ++ gs')) := ⟨fun b hb => by
  rw [get_startH]
  simp only [List.getD_eq_getElem?_getD, List.getElem?_append_left hb], by rw [next_startH]; simp⟩
theorem glob_of {B H : AHeap} {As : List Asn} (hB : Glob objs B) (hS : S B H As) : Glob objs H :=
  ⟨fun b hb => (hS.base b (Nat.lt_of_lt_of_le hb hB.le)).trans (hB.get b hb), Nat.le_trans hB.le hS.le⟩

end Go.E.At
/- Attributes: the table in plain Lean and as an assertion. -/
namespace Go.E.At
open Go Go.E Go.Proofs.YtgbnjcmjioiclaaDoor.base Go.Proofs.YtgbnjcmjioiclaaDoor Go.Proofs
set_option linter.unusedVariables false
set_option linter.unusedSimpArgs false
set_option maxRecDepth 100000
structure Bk where
  obj : Int
  acc : Int
  deny : Int
  app : Bool
  off : Int
  refs : Int
def Bk.cells (k : Bk) : List Value := [.int .i64 k.obj, .int .i64 k.acc, .int .i64 k.deny, .bool k.app, .int .i64 k.off, .int .i64 k.refs]
structure Tb where
  bs : List (Int × Bk)
  lb : Int
  os : List (Int × Ob)
  lo : Int
structure ObR (x : Ob) : Prop where
  mode : 0 ≤ x.mode ∧ x.mode ≤ 4095
  user : 0 ≤ x.user ∧ x.user ≤ 9223372036854775807
  group : 0 ≤ x.group ∧ x.group ≤ 9223372036854775807
  size : 0 ≤ x.size ∧ x.size ≤ 16384
  links : 0 ≤ x.links ∧ x.links ≤ 9223372036854775807
structure BkR (k : Bk) : Prop where
  acc : 1 ≤ k.acc ∧ k.acc ≤ 3
  deny : 0 ≤ k.deny ∧ k.deny ≤ 3
  off : 0 ≤ k.off ∧ k.off ≤ 16384
  refs : 1 ≤ k.refs ∧ k.refs ≤ 200
structure TbOk (t : Tb) : Prop where
  os : (t.os.map (·.1)).Pairwise (· < ·)
  bs : (t.bs.map (·.1)).Pairwise (· < ·)
  osB : ∀ y ∈ t.os, 1 ≤ y.1 ∧ y.1 ≤ t.lo
  bsB : ∀ y ∈ t.bs, 1 ≤ y.1 ∧ y.1 ≤ t.lb
  lo : 0 ≤ t.lo ∧ t.lo ≤ 1000000
  lb : 0 ≤ t.lb ∧ t.lb ≤ 1000000
  osR : ∀ y ∈ t.os, ObR y.2
  bsR : ∀ y ∈ t.bs, BkR y.2
  has : ∀ y ∈ t.bs, ∃ x, gGet t.os y.2.obj = some x
  osL : t.os.length ≤ 1000
  bsL : t.bs.length ≤ 200
def tbC (t : Tb) (mo ma : Nat) : List Value := [.map (some mo), .int .i64 t.lb, .map (some ma), .int .i64 t.lo]
def repP (p : Nat) (t : Tb) : Asn := exA fun (x : Nat × Nat) => seps [pto p (.cells (tbC t x.1 x.2) 0 false), rg Bk.cells x.1 t.bs, rg Ob.cells x.2 t.os]
section
variable {B H : AHeap} {As : List Asn} {t : Tb} {p : Nat}
theorem openP (h : S B H (repP p t :: As)) : ∃ mo ma, S B H (pto p (.cells (tbC t mo ma) 0 false) :: rg Bk.cells mo t.bs :: rg Ob.cells ma t.os :: As) := by
  obtain ⟨x, h⟩ := S.unex h
  exact ⟨x.1, x.2, S.unseps h⟩
theorem closeP {mo ma : Nat} (h : S B H (pto p (.cells (tbC t mo ma) 0 false) :: rg Bk.cells mo t.bs :: rg Ob.cells ma t.os :: As)) : S B H (repP p t :: As) :=
  S.exI (X := Nat × Nat) (mo, ma) (S.seps (L := [_, _, _]) h)
theorem TbOk.noO (h : TbOk t) : gGet t.os (t.lo + 1) = none := by
  rw [gGet_none]
  intro hm
  obtain ⟨y, hy, e⟩ := List.mem_map.1 hm
  have := (h.osB y hy).2
  omega
theorem TbOk.noB (h : TbOk t) : gGet t.bs (t.lb + 1) = none := by
  rw [gGet_none]
  intro hm
  obtain ⟨y, hy, e⟩ := List.mem_map.1 hm
  have := (h.bsB y hy).2
  omega
theorem keyI : KeyEnc (.int .i64) encI := keyI64
/-! ### New, the registers -/
theorem L12 (hS : S B H As) : wpF C 12 [] H fun v H' => ∃ p, v = ptrB p ∧ S B H' (repP p ⟨[], 0, [], 0⟩ :: As) := by
  refine wpF_ofW o12 rfl rfl ?_
  refine zsr ?_; refine zw1 ?_; refine zns ?_; refine zsr ?_; refine wpO_cons ?_; refine op1_mkmapS rfl hS ?_; intro p1 H1 hS; refine wpO_cons ?_; refine op1_build rfl ?_; refine bk_one (by (conv => lhs; whnf) <;> rfl) rfl rfl rfl ?_; refine bk_nil ?_; refine wpO_cons ?_; refine op1_build rfl ?_; refine bk_agg rfl rfl rfl rfl ?_; refine bk_nil ?_; refine wpO_cons ?_; refine op1_mkmapS rfl hS ?_; intro p2 H2 hS; refine wpO_cons ?_; refine op1_build rfl ?_; refine bk_one (by (conv => lhs; whnf) <;> rfl) rfl rfl rfl ?_; refine bk_nil ?_; refine wpO_cons ?_; refine op1_build rfl ?_; refine bk_agg rfl rfl rfl rfl ?_; refine bk_agg rfl rfl rfl rfl ?_; refine bk_nil ?_; refine wpO_cons ?_; refine op1_boxNS rfl rfl rfl hS ?_; intro p3 H3 hS; refine zw1 ?_; refine zns ?_; refine wp_ret ?_; refine ret_of ?_; refine zr ?_; refine rk_nil ?_
  exact ⟨_, rfl, closeP (t := ⟨[], 0, [], 0⟩) (mo := p1) (ma := p2) (S.up2 (rgNew (S.up2 (rgNew (S.up1 hS)))))⟩
def Tb.addO (t : Tb) (x : Ob) : Tb := { t with os := t.os ++ [(t.lo + 1, x)], lo := t.lo + 1 }
def Tb.addB (t : Tb) (k : Bk) : Tb := { t with bs := t.bs ++ [(t.lb + 1, k)], lb := t.lb + 1 }
theorem L41 {x : Ob} (ht : TbOk t) (hS : S B H (repP p t :: As)) : wpF C 41 [.pointer (some ⟨p, 2, none⟩), .agg ⟨x.cells⟩] H fun v H' => v = .int .i64 (t.lo + 1) ∧ S B H' (repP p (t.addO x) :: As) := by
  have hlo := ht.lo
  obtain ⟨mo, ma, hS1⟩ := openP hS
  obtain ⟨kv, R, hk, _, hS2, _, hadd⟩ := rgNone (S.up2 hS1) ht.noO
  clear hS hS1
  have hS := S.up2 hS2
  clear hS2
  unfold tbC at hS
  refine wpF_ofW o41 rfl rfl ?_
  unfold Ob.cells
  refine zsr ?_; refine wpO_cons ?_; refine op1_boxNS rfl rfl rfl hS ?_; intro p1 H1 hS; refine zw1 ?_; refine zns ?_; refine zsr ?_; refine zw1 ?_; refine zn ?_; refine wpO_cons ?_; refine op1_faddr rfl rfl ?_; refine zh (S.g1 hS) ?_; refine wpO_cons ?_; refine op1_add rfl rfl rfl (by exact wrap_i64 (by omega) (by omega)) ?_; refine zn ?_; refine wpO_cons ?_; refine op1_faddr rfl rfl ?_; refine wpO_cons ?_; (refine op1_store1S rfl rfl (by (conv => lhs; whnf) <;> rfl) rfl rfl (S.up1 hS) rfl ?_; intro H2 hS; replace hS := S.dn1 hS); refine zns ?_; refine wp_seq ?_; refine wp_regionD ?_; refine zd1 ?_; refine zm ?_; refine wpD_cons ?_; refine op1_faddr rfl rfl ?_; refine zj (S.g1 hS) ?_; refine zd1 ?_; refine zm ?_; refine wpD_cons ?_; refine op1_faddr rfl rfl ?_; refine zj (S.g1 hS) ?_; refine wpD_cons ?_
  refine op1_mapS keyI (k := t.lo + 1) (v := ptrB p1) rfl rfl rfl rfl (S.up2 hS) ?_
  have hT := hS
  clear hS
  intro H3 hS
  refine wpD_nil ?_; refine dk_of ?_ ?_; (iterate 3 refine chk_skip ?_); refine zx 6 ?_ ?_; refine zy 1 ?_ ?_; exact zq (S.g1 hT); exact chkFs_nil; (iterate 3 refine chk_skip ?_); refine zx 2 ?_ ?_; refine zy 1 ?_ ?_; exact zq (S.g1 hT); exact chkFs_nil; refine chk_skip ?_; exact chk_end; refine seq_normal ?_; refine zsr ?_; refine zw1 ?_; refine zn ?_; refine wpO_cons ?_; refine op1_faddr rfl rfl ?_; refine zh (S.g2 hS) ?_; refine zw1 ?_; refine zns ?_; refine wp_ret ?_; refine ret_of ?_; refine zr ?_; refine rk_nil ?_
  have h1 := hadd _ _ _ x (S.up1 (S.up3 hS))
  exact ⟨rfl, closeP (t := t.addO x) (S.dn2 h1)⟩
theorem L45 {x : Bk} (ht : TbOk t) (hS : S B H (repP p t :: As)) : wpF C 45 [.pointer (some ⟨p, 0, none⟩), .agg ⟨x.cells⟩] H fun v H' => v = .int .i64 (t.lb + 1) ∧ S B H' (repP p (t.addB x) :: As) := by
  have hlo := ht.lb
  obtain ⟨mo, ma, hS1⟩ := openP hS
  obtain ⟨kv, R, hk, _, hS2, _, hadd⟩ := rgNone (S.up1 hS1) ht.noB
  clear hS hS1
  have hS := S.up2 hS2
  clear hS2
  unfold tbC at hS
  refine wpF_ofW o45 rfl rfl ?_
  unfold Bk.cells
  refine zsr ?_; refine wpO_cons ?_; refine op1_boxNS rfl rfl rfl hS ?_; intro p1 H1 hS; refine zw1 ?_; refine zns ?_; refine zsr ?_; refine zw1 ?_; refine zn ?_; refine zf ?_; refine zh (S.g1 hS) ?_; refine wpO_cons ?_; refine op1_add rfl rfl rfl (by exact wrap_i64 (by omega) (by omega)) ?_; refine zn ?_; refine zf ?_; refine wpO_cons ?_; (refine op1_store1S rfl rfl (by (conv => lhs; whnf) <;> rfl) rfl rfl (S.up1 hS) rfl ?_; intro H2 hS; replace hS := S.dn1 hS); refine zns ?_; refine wp_seq ?_; refine wp_regionD ?_; refine zd1 ?_; refine zm ?_; refine zg ?_; refine zj (S.g1 hS) ?_; refine zd1 ?_; refine zm ?_; refine zg ?_; refine zj (S.g1 hS) ?_; refine wpD_cons ?_
  refine op1_mapS keyI (k := t.lb + 1) (v := ptrB p1) rfl rfl rfl rfl (S.up2 hS) ?_
  have hT := hS
  clear hS
  intro H3 hS
  refine wpD_nil ?_; refine dk_of ?_ ?_; (iterate 3 refine chk_skip ?_); refine zx 6 ?_ ?_; refine zy 1 ?_ ?_; exact zq (S.g1 hT); exact chkFs_nil; (iterate 3 refine chk_skip ?_); refine zx 2 ?_ ?_; refine zy 1 ?_ ?_; exact zq (S.g1 hT); exact chkFs_nil; refine chk_skip ?_; exact chk_end; refine seq_normal ?_; refine zsr ?_; refine zw1 ?_; refine zn ?_; refine zf ?_; refine zh (S.g2 hS) ?_; refine zw1 ?_; refine zns ?_; refine wp_ret ?_; refine ret_of ?_; refine zr ?_; refine rk_nil ?_
  have h1 := hadd _ _ _ x (S.up1 (S.up3 hS))
  exact ⟨rfl, closeP (t := t.addB x) (S.up1 h1)⟩
end
end Go.E.At
/- Attributes: objects and blocks are looked up. -/
namespace Go.E.At
open Go Go.E Go.Proofs.YtgbnjcmjioiclaaDoor.base Go.Proofs.YtgbnjcmjioiclaaDoor Go.Proofs
set_option linter.unusedVariables false
set_option linter.unusedSimpArgs false
set_option maxRecDepth 100000
theorem chk_lookS1 {α : Type} [DecidableEq α] {B H : AHeap} {As : List Asn} {T Tf : FEnv} {kd : TypeDesc} {enc : α → Value} {m d : Nat} {kv : List (α × Value)} (hE : KeyEnc kd enc) {z : Value} {mm x : NOpd} {k : α} (hx : x.evF T = enc k) (hm : mm.evF T = .map (some m)) (hS : S B H (im enc m kv :: As)) (hd : Tf d = (kvGet kv k).getD z) : chkF1 (.lookup kd z mm x false) d Tf T H := by
  obtain ⟨es, clock, he, hS⟩ := hS.imOpen
  have hM : H.mapOf (.map (some m)) = some es := by simp only [AHeap.mapOf, hS.get]
  refine ⟨H, ?_⟩
  rcases kv_find (k := k) hE 0 he with ⟨a1, a2, _, _⟩ | ⟨j, v, a1, a2, _, _⟩
  · rw [a1] at hd
    simp only [NOp.sub, eop, ev_subF, hx, hm, hE.ok k, if_true, hM, a2, Option.bind_some, Option.map_some, hd]
    rfl
  · rw [a1] at hd
    simp only [NOp.sub, eop, ev_subF, hx, hm, hE.ok k, if_true, hM, a2, Option.bind_some, Option.map_some, hd]
    rfl
def Tb.setO (t : Tb) (id : Int) (x : Ob) : Tb := { t with os := gSet t.os id x }
def Tb.set2 (t : Tb) (id : Int) (k : Bk) (o : Int) (x : Ob) : Tb := { t with bs := gSet t.bs id k, os := gSet t.os o x }
theorem Tb.setO_self {t : Tb} {id : Int} {x : Ob} (h : gGet t.os id = some x) : t.setO id x = t := by unfold Tb.setO; rw [gSet_self h]
theorem Tb.set2_self {t : Tb} {id o : Int} {k : Bk} {x : Ob} (h : gGet t.bs id = some k) (h2 : gGet t.os o = some x) : t.set2 id k o x = t := by unfold Tb.set2; rw [gSet_self h, gSet_self h2]
def Back1 (B : AHeap) (p : Nat) (t : Tb) (id : Int) (pa : Nat) (R : Asn) : Prop := ∀ H2 As2 x', S B H2 (pto pa (.cells (Ob.cells x') 0 false) :: R :: As2) → S B H2 (repP p (t.setO id x') :: As2)
def Back2 (B : AHeap) (p : Nat) (t : Tb) (id o : Int) (pb pa : Nat) (R : Asn) : Prop := ∀ H2 As2 k' x', S B H2 (pto pb (.cells (Bk.cells k') 0 false) :: pto pa (.cells (Ob.cells x') 0 false) :: R :: As2) → S B H2 (repP p (t.set2 id k' o x') :: As2)
section
variable {B H : AHeap} {As : List Asn} {t : Tb} {p : Nat} {id : Int}
theorem takeO {x : Ob} (hx : gGet t.os id = some x) (h : S B H (repP p t :: As)) : ∃ mo ma pa kv R, kvGet kv id = some (ptrB pa) ∧ S B H (pto p (.cells (tbC t mo ma) 0 false) :: im encI ma kv :: pto pa (.cells x.cells 0 false) :: R :: rg Bk.cells mo t.bs :: As) ∧
    Back1 B p t id pa (seps [pto p (.cells (tbC t mo ma) 0 false), im encI ma kv, R, rg Bk.cells mo t.bs]) := by
  obtain ⟨mo, ma, h1⟩ := openP h
  obtain ⟨pa, kv, R, hk, _, h2, hb, _⟩ := rgBorrow (S.up2 h1) hx
  refine ⟨mo, ma, pa, kv, R, hk, ?_, ?_⟩
  · exact S.up1 (S.up2 (S.up3 h2))
  · intro H2 As2 x' h3
    have h4 := S.unseps (S.up1 h3)
    have h5 := hb H2 _ x' (S.dn3 (S.up1 (S.up4 h4)))
    exact closeP (t := t.setO id x') (S.dn2 h5)
theorem noneO (hx : gGet t.os id = none) (h : S B H (repP p t :: As)) : ∃ mo ma kv R, kvGet kv id = none ∧ S B H (pto p (.cells (tbC t mo ma) 0 false) :: im encI ma kv :: R :: rg Bk.cells mo t.bs :: As) ∧
    ∀ H2 As2, S B H2 (pto p (.cells (tbC t mo ma) 0 false) :: im encI ma kv :: R :: rg Bk.cells mo t.bs :: As2) → S B H2 (repP p t :: As2) := by
  obtain ⟨mo, ma, h1⟩ := openP h
  obtain ⟨kv, R, hk, _, h2, hb, _⟩ := rgNone (S.up2 h1) hx
  exact ⟨mo, ma, kv, R, hk, S.up2 h2, fun H2 As2 h3 => closeP (S.dn2 (hb H2 _ (S.dn2 h3)))⟩
theorem L42 (h : S B H (repP p t :: As)) : wpF C 42 [ptrB p, .int .i64 id] H fun v H' => (gGet t.os id = none ∧ v = .tuple ⟨[.pointer none, .int .i64 22]⟩ ∧ S B H' (repP p t :: As)) ∨
    ∃ x pa R, gGet t.os id = some x ∧ v = .tuple ⟨[ptrB pa, .int .i64 0]⟩ ∧ S B H' (pto pa (.cells x.cells 0 false) :: R :: As) ∧ Back1 B p t id pa R := by
  refine wpF_ofW o42 rfl rfl ?_
  unfold ptrB
  cases hx : gGet t.os id with
  | none =>
    obtain ⟨mo, ma, kv, R, hk, hS, hb⟩ := noneO hx h
    unfold tbC at hS
    refine zsr ?_; refine zw1 ?_; refine zw1 ?_; refine zns ?_; refine wp_seq ?_; refine zsr ?_; refine zw1 ?_; refine wpO_cons ?_; refine op1_bin_false rfl (by (conv => lhs; whnf) <;> rfl) (by (conv => lhs; whnf) <;> rfl) rfl ?_; refine zns ?_; refine wp_false rfl ?_; refine wp_skip ?_; refine seq_normal ?_; refine zsr ?_; refine zw1 ?_; refine zn ?_; refine zf ?_; refine wpO_cons ?_; refine op1_faddr rfl rfl ?_; refine zh (S.g0 hS) ?_; refine zw1 ?_; refine wpO_cons ?_
    refine op1_lookS keyI (k := id) rfl rfl rfl (S.up1 hS) ?_
    rw [hk]
    refine zw1 ?_; refine wpO_cons ?_; refine op1_extract rfl rfl rfl ?_; refine wpO_cons ?_; refine op1_extract rfl rfl rfl ?_; refine zw1 ?_; refine zw1 ?_; refine zns ?_; refine wp_seq ?_; refine zsr ?_; refine zw1 ?_; refine wpO_cons ?_; refine op1_not_f rfl rfl ?_; refine zns ?_; refine wp_true rfl ?_; refine zsr ?_; refine zw1 ?_; refine zw1 ?_; refine zns ?_; refine wp_ret ?_; refine seq_ret ?_; refine ret_of ?_; refine zr ?_; refine zr ?_; refine rk_nil ?_
    exact .inl ⟨rfl, rfl, hb _ _ hS⟩
  | some x =>
    obtain ⟨mo, ma, pa, kv, R, hk, hS, hb⟩ := takeO hx h
    unfold tbC at hS
    refine zsr ?_; refine zw1 ?_; refine zw1 ?_; refine zns ?_; refine wp_seq ?_; refine zsr ?_; refine zw1 ?_; refine wpO_cons ?_; refine op1_bin_false rfl (by (conv => lhs; whnf) <;> rfl) (by (conv => lhs; whnf) <;> rfl) rfl ?_; refine zns ?_; refine wp_false rfl ?_; refine wp_skip ?_; refine seq_normal ?_; refine zsr ?_; refine zw1 ?_; refine zn ?_; refine zf ?_; refine wpO_cons ?_; refine op1_faddr rfl rfl ?_; refine zh (S.g0 hS) ?_; refine zw1 ?_; refine wpO_cons ?_
    refine op1_lookS keyI (k := id) rfl rfl rfl (S.up1 hS) ?_
    rw [hk]
    refine zw1 ?_; refine wpO_cons ?_; refine op1_extract rfl rfl rfl ?_; refine wpO_cons ?_; refine op1_extract rfl rfl rfl ?_; refine zw1 ?_; refine zw1 ?_; refine zns ?_; refine wp_seq ?_; refine zsr ?_; refine zw1 ?_; refine wpO_cons ?_; refine op1_not_t rfl rfl ?_; refine zns ?_; refine wp_false rfl ?_; refine wp_skip ?_; refine seq_normal ?_; refine zsr ?_; refine zw1 ?_; refine zw1 ?_; refine zw1 ?_; refine zns ?_; refine wp_ret ?_; refine ret_of ?_; refine zr ?_; refine zr ?_; refine rk_nil ?_
    refine .inr ⟨x, pa, _, rfl, rfl, ?_, hb⟩
    exact S.up1 (S.seps (S.dn4 (S.up2 hS)))
theorem takeB {k : Bk} {x : Ob} (hk : gGet t.bs id = some k) (hx : gGet t.os k.obj = some x) (h : S B H (repP p t :: As)) : ∃ mo ma pb pa kb ka Rb Ra, kvGet kb id = some (ptrB pb) ∧ kvGet ka k.obj = some (ptrB pa) ∧
    S B H (pto p (.cells (tbC t mo ma) 0 false) :: pto pb (.cells k.cells 0 false) :: pto pa (.cells x.cells 0 false) :: im encI mo kb :: im encI ma ka :: Rb :: Ra :: As) ∧
    Back2 B p t id k.obj pb pa (seps [pto p (.cells (tbC t mo ma) 0 false), im encI mo kb, im encI ma ka, Rb, Ra]) := by
  obtain ⟨mo, ma, h1⟩ := openP h
  obtain ⟨pb, kb, Rb, hkb, _, h2, hb, _⟩ := rgBorrow (S.up1 h1) hk
  obtain ⟨pa, ka, Ra, hka, _, h3, hbb, _⟩ := rgBorrow (S.up4 h2) hx
  refine ⟨mo, ma, pb, pa, kb, ka, Rb, Ra, hkb, hka, ?_, ?_⟩
  · exact (S.up6 (S.up5 (S.up3 (S.up5 (S.up2 (S.up5 h3))))))
  · intro H2 As2 k' x' h4
    have h5 := S.unseps (S.up2 h4)
    have h6 := hbb H2 _ x' (S.up6 (S.up5 (S.up5 (S.up5 (S.up2 (S.up3 h5))))))
    have h7 := hb H2 _ k' (S.dn4 h6)
    exact closeP (t := t.set2 id k' k.obj x') (S.up1 h7)
theorem noneB (hx : gGet t.bs id = none) (h : S B H (repP p t :: As)) : ∃ mo ma kv R, kvGet kv id = none ∧ S B H (pto p (.cells (tbC t mo ma) 0 false) :: im encI mo kv :: R :: rg Ob.cells ma t.os :: As) ∧
    ∀ H2 As2, S B H2 (pto p (.cells (tbC t mo ma) 0 false) :: im encI mo kv :: R :: rg Ob.cells ma t.os :: As2) → S B H2 (repP p t :: As2) := by
  obtain ⟨mo, ma, h1⟩ := openP h
  obtain ⟨kv, R, hk, _, h2, hb, _⟩ := rgNone (S.up1 h1) hx
  exact ⟨mo, ma, kv, R, hk, S.up2 h2, fun H2 As2 h3 => closeP (S.up1 (hb H2 _ (S.dn2 h3)))⟩
theorem L64 (ht : TbOk t) (h : S B H (repP p t :: As)) : wpF C 64 [ptrB p, .int .i64 id] H fun v H' => (gGet t.bs id = none ∧ v = .tuple ⟨[.pointer none, .pointer none, .int .i64 3]⟩ ∧ S B H' (repP p t :: As)) ∨
    ∃ k x pb pa R, gGet t.bs id = some k ∧ gGet t.os k.obj = some x ∧ v = .tuple ⟨[ptrB pb, ptrB pa, .int .i64 0]⟩ ∧ S B H' (pto pb (.cells k.cells 0 false) :: pto pa (.cells x.cells 0 false) :: R :: As) ∧ Back2 B p t id k.obj pb pa R := by
  refine wpF_ofW o64 rfl rfl ?_
  unfold ptrB
  cases hx : gGet t.bs id with
  | none =>
    obtain ⟨mo, ma, kv, R, hk, hS, hb⟩ := noneB hx h
    unfold tbC at hS
    refine zsr ?_; refine zw1 ?_; refine zw1 ?_; refine zw1 ?_; refine zns ?_; refine wp_seq ?_; refine zsr ?_; refine zw1 ?_; refine wpO_cons ?_; refine op1_bin_false rfl (by (conv => lhs; whnf) <;> rfl) (by (conv => lhs; whnf) <;> rfl) rfl ?_; refine zns ?_; refine wp_false rfl ?_; refine wp_skip ?_; refine seq_normal ?_; refine zsr ?_; refine zw1 ?_; refine zn ?_; refine zf ?_; refine zf ?_; refine zf ?_; refine zh (S.g0 hS) ?_; refine zw1 ?_; refine wpO_cons ?_
    refine op1_lookS keyI (k := id) rfl rfl rfl (S.up1 hS) ?_
    rw [hk]
    refine zw1 ?_; refine wpO_cons ?_; refine op1_extract rfl rfl rfl ?_; refine wpO_cons ?_; refine op1_extract rfl rfl rfl ?_; refine zw1 ?_; refine zw1 ?_; refine zns ?_; refine wp_seq ?_; refine zsr ?_; refine zw1 ?_; refine wpO_cons ?_; refine op1_not_f rfl rfl ?_; refine zns ?_; refine wp_true rfl ?_; refine zsr ?_; refine zw1 ?_; refine zw1 ?_; refine zw1 ?_; refine zns ?_; refine wp_ret ?_; refine seq_ret ?_; refine ret_of ?_; refine zr ?_; refine zr ?_; refine zr ?_; refine rk_nil ?_
    exact .inl ⟨rfl, rfl, hb _ _ hS⟩
  | some k =>
    obtain ⟨x, hxo⟩ := ht.has (id, k) (gGet_mem hx)
    obtain ⟨mo, ma, pb, pa, kb, ka, Rb, Ra, hk, hka, hS, hb⟩ := takeB hx hxo h
    unfold tbC Bk.cells at hS
    refine zsr ?_; refine zw1 ?_; refine zw1 ?_; refine zw1 ?_; refine zns ?_; refine wp_seq ?_; refine zsr ?_; refine zw1 ?_; refine wpO_cons ?_; refine op1_bin_false rfl (by (conv => lhs; whnf) <;> rfl) (by (conv => lhs; whnf) <;> rfl) rfl ?_; refine zns ?_; refine wp_false rfl ?_; refine wp_skip ?_; refine seq_normal ?_; refine zsr ?_; refine zw1 ?_; refine zn ?_; refine zf ?_; refine zf ?_; refine zf ?_; refine zh (S.g0 hS) ?_; refine zw1 ?_; refine wpO_cons ?_
    refine op1_lookS keyI (k := id) rfl rfl rfl (S.up3 hS) ?_
    rw [hk]
    refine zw1 ?_; refine wpO_cons ?_; refine op1_extract rfl rfl rfl ?_; refine wpO_cons ?_; refine op1_extract rfl rfl rfl ?_; refine zw1 ?_; refine zw1 ?_; refine zns ?_; refine wp_seq ?_; refine zsr ?_; refine zw1 ?_; refine wpO_cons ?_; refine op1_not_t rfl rfl ?_; refine zns ?_; refine wp_false rfl ?_; refine wp_skip ?_; refine seq_normal ?_; refine wp_seq ?_; refine wp_regionD ?_; refine zd1 ?_; refine zd1 ?_; refine zm ?_; refine zg ?_; refine wpD_cons ?_; refine op1_faddr rfl rfl ?_; refine zj (S.g0 hS) ?_; refine zd1 ?_; refine zm ?_; refine zg ?_; refine zj (S.g1 hS) ?_; refine wpD_cons ?_
    refine op1_lookS1 keyI (k := k.obj) rfl rfl rfl (S.up4 hS) ?_
    rw [hka]
    refine zd1 ?_; refine zd1 ?_; refine zd1 ?_; refine wpD_nil ?_; refine dk_of ?_ ?_; (iterate 5 refine chk_skip ?_); refine zx 9 ?_ ?_; refine zy 0 ?_ ?_; exact zq (S.g0 hS); exact chkFs_nil; (iterate 3 refine chk_skip ?_); refine zx 5 ?_ ?_; refine zy 0 ?_ ?_; exact zq (S.g1 hS); exact chkFs_nil; refine zx 4 ?_ ?_; refine zy 0 ?_ ?_
    · exact chk_lookS1 keyI (k := k.obj) rfl rfl (S.up4 hS) (by rw [hka]; rfl)
    exact chkFs_nil; (iterate 3 refine chk_skip ?_); exact chk_end; refine seq_normal ?_; refine wp_ret ?_; refine ret_of ?_; refine zr ?_; refine zr ?_; refine zr ?_; refine rk_nil ?_
    refine .inr ⟨k, x, pb, pa, _, rfl, hxo, rfl, ?_, hb⟩
    exact S.dn2 (S.seps (L := [_, _, _, _, _]) (S.dn6 (S.up1 (S.dn6 (S.up1 hS)))))
theorem L46 {n access : Int} (ht : TbOk t) (h : S B H (repP p t :: As)) : wpF C 46 [ptrB p, .int .i64 id, .int .i64 n, .int .i64 access] H fun v H' =>
    (∃ e : Int, e = (match gGet t.bs id with | none => 3 | some k => if bitAnd .i64 k.acc access = 0 then 1 else if n < 0 then 34 else 0) ∧ e ≠ 0 ∧ v = .tuple ⟨[.pointer none, .pointer none, .int .i64 e]⟩ ∧ S B H' (repP p t :: As)) ∨
    ∃ k x pb pa R, gGet t.bs id = some k ∧ gGet t.os k.obj = some x ∧ ¬ bitAnd .i64 k.acc access = 0 ∧ 0 ≤ n ∧ v = .tuple ⟨[ptrB pb, ptrB pa, .int .i64 0]⟩ ∧ S B H' (pto pb (.cells k.cells 0 false) :: pto pa (.cells x.cells 0 false) :: R :: As) ∧ Back2 B p t id k.obj pb pa R := by
  refine wpF_ofW o46 rfl rfl ?_
  refine zsr ?_; refine zw1 ?_; refine zw1 ?_; refine zw1 ?_; refine zns ?_; refine zsr ?_; refine zw1 ?_; refine zw1 ?_; refine wpO_cons ?_; refine op1_call2 rfl (by (conv => lhs; whnf) <;> rfl) (by (conv => lhs; whnf) <;> rfl) ?_
  refine wpF_mono (L64 (id := id) ht h) ?_
  rintro _ H2 (⟨hx, rfl, hS⟩ | ⟨k, x, pb, pa, R, hx, hxo, rfl, hS, hb⟩)
  · rw [hx]
    refine zw1 ?_; refine wpO_cons ?_; refine op1_extract rfl rfl rfl ?_; refine wpO_cons ?_; refine op1_extract rfl rfl rfl ?_; refine wpO_cons ?_; refine op1_extract rfl rfl rfl ?_; refine zw1 ?_; refine zw1 ?_; refine zw1 ?_; refine zns ?_; refine wp_seq ?_; refine wp_block ?_; refine zsr ?_; refine zw1 ?_; refine wpO_cons ?_; refine op1_neqI rfl rfl rfl ?_; refine zw1 ?_; refine zns ?_; refine wp_true rfl ?_; refine zsr ?_; (iterate 4 refine zw1 ?_); refine zns ?_; refine wp_ret ?_; refine block_ret ?_; refine seq_ret ?_; refine ret_of ?_; refine zr ?_; refine zr ?_; refine zr ?_; refine rk_nil ?_
    exact .inl ⟨3, rfl, by decide, rfl, hS⟩
  · rw [hx]
    unfold Bk.cells at hS
    unfold ptrB
    refine zw1 ?_; refine wpO_cons ?_; refine op1_extract rfl rfl rfl ?_; refine wpO_cons ?_; refine op1_extract rfl rfl rfl ?_; refine wpO_cons ?_; refine op1_extract rfl rfl rfl ?_; refine zw1 ?_; refine zw1 ?_; refine zw1 ?_; refine zns ?_; refine wp_seq ?_; refine wp_block ?_; refine zsr ?_; refine zw1 ?_; refine wpO_cons ?_; refine op1_neqI_s rfl rfl rfl ?_; refine zw1 ?_; refine zns ?_; refine wp_false rfl ?_; refine zsr ?_; refine zw1 ?_; refine zn ?_; refine zf ?_; refine zh (S.g0 hS) ?_; refine zw1 ?_; refine wpO_cons ?_; refine op1_and rfl rfl rfl ?_; refine wpO_cons ?_; refine op1_eqlI rfl rfl rfl ?_; refine zw1 ?_; refine zns ?_
    refine wp_dec rfl (fun h1 => ?_) (fun h1 => ?_)
    · refine zsr ?_; refine zw1 ?_; refine zw1 ?_; refine zw1 ?_; refine zns ?_; refine wp_ret ?_; refine block_ret ?_; refine seq_ret ?_; refine ret_of ?_; refine zr ?_; refine zr ?_; refine zr ?_; refine rk_nil ?_
      refine .inl ⟨1, by simp [h1], by decide, rfl, ?_⟩
      have h2 := hb _ _ k x hS
      rwa [Tb.set2_self hx hxo] at h2
    · refine zsr ?_; refine zw1 ?_; refine wpO_cons ?_; refine op1_lss rfl rfl rfl ?_; refine zw1 ?_; refine zns ?_
      refine wp_dec rfl (fun h3 => ?_) (fun h3 => ?_)
      · refine zsr ?_; refine zw1 ?_; refine zw1 ?_; refine zw1 ?_; refine zns ?_; refine wp_ret ?_; refine block_ret ?_; refine seq_ret ?_; refine ret_of ?_; refine zr ?_; refine zr ?_; refine zr ?_; refine rk_nil ?_
        refine .inl ⟨34, by simp [h1, h3], by decide, rfl, ?_⟩
        have h2 := hb _ _ k x hS
        rwa [Tb.set2_self hx hxo] at h2
      · refine wp_skip ?_; refine block_normal ?_; refine seq_normal ?_; refine zsr ?_; (iterate 5 refine zw1 ?_); refine zns ?_; refine wp_ret ?_; refine ret_of ?_; refine zr ?_; refine zr ?_; refine zr ?_; refine rk_nil ?_
        exact .inr ⟨k, x, pb, pa, R, rfl, hxo, h1, by omega, rfl, hS, hb⟩
end
end Go.E.At
/- Attributes: the identifiers that are wanted, sorted. -/
namespace Go.E.At
open Go Go.E Go.Proofs.YtgbnjcmjioiclaaDoor.base Go.Proofs.YtgbnjcmjioiclaaDoor Go.Proofs
set_option linter.unusedVariables false
set_option linter.unusedSimpArgs false
set_option maxRecDepth 100000
theorem srt_of {L T : List Int} (hp : L.Perm T) (hs : T.Pairwise (· < ·)) : srtI L = T := by
  unfold srtI
  refine List.Perm.eq_of_pairwise (le := fun a b => a ≤ b) (fun a b _ _ h1 h2 => by omega) ?_ (hs.imp fun h => by omega) ((List.mergeSort_perm L _).trans hp)
  have := List.pairwise_mergeSort (le := fun x y : Int => decide (x ≤ y)) (fun a b c h1 h2 => by simp only [decide_eq_true_eq] at *; omega) (fun a b => by simp only [Bool.or_eq_true, decide_eq_true_eq]; omega) L
  exact this.imp fun h => by simpa using h
theorem srt_len (l : List Int) : (srtI l).length = l.length := List.length_mergeSort l
theorem sort_in (C : Callees) (g : Fid) (args : List Value) (H : AHeap) (R : Value → AHeap → Prop) (h : sortStep (α := Int) (fun n => .int .i64 n) srtI 71 g args H R) : X.step C g args H R := .inr h
section
variable {B H : AHeap} {As : List Asn} {t : Tb} {p : Nat}
theorem L44 {w : Bk → Bool} {f : Nat} {cs : List Value} {E : Asn} (ht : TbOk t)
    (hw : ∀ k b H1 As1, S B H1 (pto b (.cells (Bk.cells k) 0 false) :: E :: As1) → wpF C f (ptrB b :: cs) H1 fun v H' => v = .bool (w k) ∧ S B H' (pto b (.cells (Bk.cells k) 0 false) :: E :: As1))
    (hS : S B H (repP p t :: E :: As)) : wpF C 44 [.pointer (some ⟨p, 0, none⟩), .func (.func f) ⟨[]⟩ ⟨cs⟩] H fun v H' => S B H' (sl 1 v (i64s ((t.bs.filter fun y => w y.2).map (·.1))) :: repP p t :: E :: As) := by
  refine wpF_ofW o44 rfl rfl ?_
  obtain ⟨mo, ma, hS1⟩ := openP hS
  obtain ⟨q, hq, hS2⟩ := rgOpen (S.up1 hS1)
  clear hS hS1
  have hS := hS2
  clear hS2
  unfold tbC at hS
  refine zsr ?_; refine zw1 ?_; refine zns ?_; refine zsr ?_; refine zw1 ?_; refine zns ?_; refine wp_seq ?_; refine zsr ?_; refine zw1 ?_; refine zn ?_; refine zf ?_; refine zh (S.g2 hS) ?_; refine wpO_cons ?_
  refine op1_rangeMS rfl rfl hS ?_
  clear hS
  intro ip H1 hS
  refine zns ?_; refine wp_block ?_
  refine wp_loop [5] (fun k vs H' => ∃ (a : Option Addr) (c : Nat) (L : List Int) (q' : List (Int × Nat × Bk)) (cur : Option (Int × Value)), vs = [.slice a L.length c] ∧ k = q'.length ∧ (∀ y ∈ q', y ∈ q) ∧ L.length + q'.length ≤ q.length ∧
      (L ++ (q'.filter fun y => w y.2.2).map (·.1)).Perm ((q.filter fun y => w y.2.2).map (·.1)) ∧
      S B H' (sl 1 (.slice a L.length c) (i64s L) :: imr encI mo ip (q.map qK) (q'.map qK) cur :: seps (q.map (qB Bk.cells)) :: pto p (.cells [.map (some mo), .int .i64 t.lb, .map (some ma), .int .i64 t.lo] 0 false) :: rg Ob.cells ma t.os :: E :: As))
    ⟨_, none, 0, [], q, none, rfl, rfl, fun _ h => h, by simp, by simp, S.slNil hS⟩ ?_
  clear hS
  rintro k vs T2 H2 ⟨a, c, L, q', cur, rfl, rfl, hsub, hlen, hperm, hS⟩
  refine zsr ?_; refine wpO_cons ?_
  refine op1_nextMS (fun _ => rfl) rfl rfl rfl (S.up1 hS) (fun hr => ?_) (fun l1 key v l2 H3 hr hS3 => ?_)
  · refine wpO_cons ?_; refine op1_extract rfl rfl rfl ?_; refine zns ?_; refine wp_seq ?_; refine wp_false rfl ?_; refine wp_exit ?_; refine seq_exit ?_; refine iter_exit ?_; refine block_exit ?_; refine seq_normal ?_; refine zsr ?_; refine zw1 ?_; refine wpO_cons ?_; refine op1_call1 rfl (by (conv => lhs; whnf) <;> rfl) ?_
    have hq0 : q' = [] := by cases q' with | nil => rfl | cons _ _ => cases hr
    subst hq0
    have hql : q.length = t.bs.length := by rw [← hq, List.length_map]
    have htl := ht.bsL
    refine wpF_mono (wpF_sort sort_in srt_len (l := L) (by simp at hlen; omega) hS) ?_
    rintro _ H4 ⟨rfl, hS4⟩
    clear hS
    have hS := hS4
    clear hS4
    refine zns ?_; refine zsr ?_; refine zw1 ?_; refine zw1 ?_; refine zns ?_; refine wp_ret ?_; refine ret_of ?_; refine zr ?_; refine rk_nil ?_
    have h1 := S.imrEnd (S.up1 hS)
    rw [srt_of (T := (t.bs.filter fun y => w y.2).map (·.1)) ?_ ?_] at h1
    · have h2 := rgClose (S.up1 (S.up2 h1)) hq
      exact S.up1 (closeP (S.up3 (S.up1 (S.up3 h2))))
    · rw [← hq]
      refine (by simpa using hperm : L.Perm _).trans (List.Perm.of_eq ?_)
      rw [List.filter_map, List.map_map]
      rfl
    · exact (ht.bs.sublist (List.Sublist.map _ List.filter_sublist))
  · obtain ⟨a1, y1, rfl, rfl, e2⟩ := List.map_eq_append_iff.1 hr
    obtain ⟨y, b1, rfl, e2, rfl⟩ := List.map_eq_cons_iff.1 e2
    unfold qK at e2
    cases e2
    refine wpO_cons ?_; refine op1_extract rfl rfl rfl ?_; refine zns ?_; refine wp_seq ?_; refine wp_true rfl ?_; refine wp_skip ?_; refine seq_normal ?_; refine wp_block ?_; refine zsr ?_; refine wpO_cons ?_
    refine op1_entryMS (fun _ => rfl) rfl rfl hS3 ?_
    have hin := hsub y (by simp)
    have hql : (t.bs.length) = q.length := by rw [← hq, List.length_map]
    have htl := ht.bsL
    have hlb : L.length + 1 ≤ 1000 := by rw [List.length_append, List.length_cons] at hlen; omega
    obtain ⟨q1, q2, rfl⟩ := List.append_of_mem hin
    clear hS
    have hS := boxOut (S.up2 hS3)
    clear hS3
    refine wpO_cons ?_; refine op1_extract rfl rfl rfl ?_; refine wpO_cons ?_; refine op1_extract rfl rfl rfl ?_; refine zw1 ?_; refine zw1 ?_; refine zns ?_; refine zsr ?_; refine zw1 ?_; refine zw1 ?_; refine wpO_cons ?_; refine op1_dyn1 rfl rfl (by (conv => lhs; whnf) <;> rfl) ?_
    refine wpF_mono (hw y.2.2 y.2.1 _ _ (S.up1 (S.up6 hS))) ?_
    rintro _ H4 ⟨rfl, hS4⟩
    clear hS
    have hS := hS4
    clear hS4
    cases hw1 : w y.2.2 with
    | true =>
      refine zns ?_; refine wp_true rfl ?_; refine wp_region ?_; refine zw1 ?_; refine zw1 ?_; refine wpO_cons ?_; refine op1_bsliceS rfl hS ?_; refine bk_one (by (conv => lhs; whnf) <;> rfl) rfl rfl rfl ?_; refine bk_nil ?_; intro p1 H5 hS; refine wpO_cons ?_; (refine op1_appBS rfl rfl (by (conv => lhs; whnf) <;> rfl) rfl (S.g0 hS) rfl rfl (S.up5 hS) (by omega) ?_; intro a2 c1 H6 hS; replace hS := S.dn5 hS; replace hS := S.drop hS); refine zw1 ?_; refine wpO_nil ?_; refine block_normal ?_
      refine iter_normal ⟨(a1 ++ b1).length, by simp, a2, c1, L ++ [y.1], a1 ++ b1, some (y.1, ptrB y.2.1), by rw [List.length_append]; rfl, rfl, fun z hz => hsub z ?_, ?_, ?_, ?_⟩
      · rcases List.mem_append.1 hz with h | h
        · exact List.mem_append_left _ h
        · exact List.mem_append_right _ (List.mem_cons_of_mem _ h)
      · simp only [List.length_append, List.length_cons, List.length_nil] at hlen ⊢
        omega
      · refine List.Perm.trans ?_ hperm
        simp only [List.filter_append, List.filter_cons, hw1, if_true, List.map_append, List.map_cons, Bool.false_eq_true, if_false]
        rw [List.append_assoc]
        refine List.Perm.append_left _ ?_
        exact (List.perm_middle (l₁ := (a1.filter fun y => w y.2.2).map (·.1))).symm
      · have h1 := boxIn (y := y) (S.up1 (S.up2 hS))
        rw [show (L ++ [y.1]).length = L.length + 1 from by rw [List.length_append]; rfl, List.map_append (l₁ := a1), show i64s (L ++ [y.1]) = i64s L ++ [.int .i64 y.1] from List.map_append]
        exact (S.up5 (S.up4 (S.up2 (S.up5 (S.up5 h1)))))
    | false =>
      refine zns ?_; refine wp_false rfl ?_; refine wp_skip ?_; refine block_normal ?_
      refine iter_normal ⟨(a1 ++ b1).length, by simp, a, c, L, a1 ++ b1, some (y.1, ptrB y.2.1), rfl, rfl, fun z hz => hsub z ?_, ?_, ?_, ?_⟩
      · rcases List.mem_append.1 hz with h | h
        · exact List.mem_append_left _ h
        · exact List.mem_append_right _ (List.mem_cons_of_mem _ h)
      · simp only [List.length_append, List.length_cons, List.length_nil] at hlen ⊢
        omega
      · refine List.Perm.trans ?_ hperm
        simp only [List.filter_append, List.filter_cons, hw1, if_true, List.map_append, List.map_cons, Bool.false_eq_true, if_false]
        exact List.Perm.refl _
      · have h1 := boxIn (y := y) (S.up1 (S.up2 hS))
        rw [List.map_append (l₁ := a1)]
        exact (S.up5 (S.up4 (S.up2 (S.up5 (S.up5 h1)))))
end
end Go.E.At
/- Attributes: what is wanted, and the identifiers. -/
namespace Go.E.At
open Go Go.E Go.Proofs.YtgbnjcmjioiclaaDoor.base Go.Proofs.YtgbnjcmjioiclaaDoor Go.Proofs
set_option linter.unusedVariables false
set_option linter.unusedSimpArgs false
set_option maxRecDepth 100000
def conf (o acc deny : Int) (x : Bk) : Bool := decide (x.obj = o) && (decide (¬ bitAnd .i64 x.acc deny = 0) || decide (¬ bitAnd .i64 x.deny acc = 0))
def Tb.opens (t : Tb) (o : Int) : List Int := (t.bs.filter fun y => decide (y.2.obj = o)).map (·.1)
def Tb.objs (t : Tb) : List Int := t.os.map (·.1)
section
variable {B H : AHeap} {As : List Asn} {t : Tb} {p : Nat}
theorem L63 {k : Bk} {b q : Nat} {o : Int} (hS : S B H (pto b (.cells k.cells 0 false) :: pto q (.cells [.int .i64 o] 0 false) :: As)) : wpF C 63 [ptrB b, ptrB q] H fun v H' => v = .bool (decide (k.obj = o)) ∧ S B H' (pto b (.cells k.cells 0 false) :: pto q (.cells [.int .i64 o] 0 false) :: As) := by
  refine wpF_ofW o63 rfl rfl ?_
  unfold ptrB
  unfold Bk.cells at hS
  refine zsr ?_; refine zw1 ?_; refine zns ?_; refine wp_seq ?_; refine wp_regionD ?_; refine zd1 ?_; refine zm ?_; refine zg ?_; refine zj (S.g0 hS) ?_; refine zj (S.g1 hS) ?_; refine wpD_cons ?_; refine op1_eqlI rfl rfl rfl ?_; refine zd1 ?_; refine wpD_nil ?_; refine dk_of ?_ ?_; (iterate 3 refine chk_skip ?_); refine zx 4 ?_ ?_; refine zy 0 ?_ ?_; exact zq (S.g0 hS); exact chkFs_nil; refine zx 3 ?_ ?_; refine zy 0 ?_ ?_; exact zq (S.g1 hS); exact chkFs_nil; (iterate 2 refine chk_skip ?_); exact chk_end; refine seq_normal ?_; refine wp_ret ?_; refine ret_of ?_; refine zr ?_; refine rk_nil ?_
  exact ⟨rfl, hS⟩
theorem L43 {k y : Bk} {b q r : Nat} {o : Int} (hS : S B H (pto b (.cells k.cells 0 false) :: seps [pto q (.cells [.int .i64 o] 0 false), pto r (.cells y.cells 0 false)] :: As)) : wpF C 43 [ptrB b, ptrB q, ptrB r] H fun v H' => v = .bool (conf o y.acc y.deny k) ∧ S B H' (pto b (.cells k.cells 0 false) :: seps [pto q (.cells [.int .i64 o] 0 false), pto r (.cells y.cells 0 false)] :: As) := by
  refine wpF_ofW o43 rfl rfl ?_
  have h1 := S.unseps (S.up1 hS)
  clear hS
  have hS := S.up2 h1
  clear h1
  unfold ptrB
  unfold Bk.cells at hS
  refine zsr ?_; refine zw1 ?_; refine zns ?_; refine wp_seq ?_; refine wp_regionD ?_; refine zd1 ?_; refine zm ?_; refine zg ?_; refine zj (S.g0 hS) ?_; refine zj (S.g1 hS) ?_; refine wpD_cons ?_; refine op1_eqlI rfl rfl rfl ?_; refine zd1 ?_; refine wpD_cons ?_
  refine op1_dec rfl (fun h1 => ?_) (fun h1 => ?_)
  · refine op1_mov rfl (by (conv => lhs; whnf) <;> rfl) ?_; refine zm ?_; refine zg ?_; refine zj (S.g0 hS) ?_; refine zg ?_; refine zj (S.g2 hS) ?_; refine wpD_cons ?_; refine op1_and rfl rfl rfl ?_; refine wpD_cons ?_; refine op1_neqI rfl rfl rfl ?_; refine zd1 ?_; refine wpD_cons ?_
    refine op1_ndec rfl (fun h2 => ?_) (fun h2 => ?_)
    · refine op1_skip rfl ?_; (iterate 7 refine zl ?_); refine wpD_cons ?_; refine op1_pick_t rfl rfl (by (conv => lhs; whnf) <;> rfl) ?_; refine wpD_cons ?_; refine op1_pick_t rfl rfl (by (conv => lhs; whnf) <;> rfl) ?_; refine zd1 ?_; refine wpD_nil ?_; refine dk_of ?_ ?_; (iterate 3 refine chk_skip ?_); refine zx 24 ?_ ?_; refine zy 0 ?_ ?_; exact zq (S.g0 hS); exact chkFs_nil; refine zx 23 ?_ ?_; refine zy 0 ?_ ?_; exact zq (S.g1 hS); exact chkFs_nil; (iterate 5 refine chk_skip ?_); refine zx 17 ?_ ?_; refine zy 0 ?_ ?_; exact zq (S.g0 hS); exact chkFs_nil; refine chk_skip ?_; refine zx 15 ?_ ?_; refine zy 0 ?_ ?_; exact zq (S.g2 hS); exact chkFs_nil; (iterate 6 refine chk_skip ?_); refine chk_unw 8 rfl rfl rfl ?_; refine chk_skip ?_; refine chk_unw 6 rfl rfl rfl ?_; (iterate 5 refine chk_skip ?_); exact chk_end; refine seq_normal ?_; refine wp_ret ?_; refine ret_of ?_; refine zr ?_; refine rk_nil ?_
      exact ⟨by unfold conf; rw [decide_eq_true h1, decide_eq_true h2]; rfl, S.up1 (S.seps (L := [_, _]) (S.dn2 hS))⟩
    · refine op1_mov rfl (by (conv => lhs; whnf) <;> rfl) ?_; refine zm ?_; refine zg ?_; refine zj (S.g0 hS) ?_; refine zg ?_; refine zj (S.g2 hS) ?_; refine wpD_cons ?_; refine op1_and rfl rfl rfl ?_; refine wpD_cons ?_; refine op1_neqI rfl rfl rfl ?_; refine wpD_cons ?_; refine op1_pick_f rfl rfl (by (conv => lhs; whnf) <;> rfl) ?_; refine wpD_cons ?_; refine op1_pick_t rfl rfl (by (conv => lhs; whnf) <;> rfl) ?_; refine zd1 ?_; refine wpD_nil ?_; refine dk_of ?_ ?_; (iterate 3 refine chk_skip ?_); refine zx 24 ?_ ?_; refine zy 0 ?_ ?_; exact zq (S.g0 hS); exact chkFs_nil; refine zx 23 ?_ ?_; refine zy 0 ?_ ?_; exact zq (S.g1 hS); exact chkFs_nil; (iterate 5 refine chk_skip ?_); refine zx 17 ?_ ?_; refine zy 0 ?_ ?_; exact zq (S.g0 hS); exact chkFs_nil; refine chk_skip ?_; refine zx 15 ?_ ?_; refine zy 0 ?_ ?_; exact zq (S.g2 hS); exact chkFs_nil; (iterate 6 refine chk_skip ?_); refine zx 8 ?_ ?_; refine zy 0 ?_ ?_; exact zq (S.g0 hS); exact chkFs_nil; refine chk_skip ?_; refine zx 6 ?_ ?_; refine zy 0 ?_ ?_; exact zq (S.g2 hS); exact chkFs_nil; (iterate 5 refine chk_skip ?_); exact chk_end; refine seq_normal ?_; refine wp_ret ?_; refine ret_of ?_; refine zr ?_; refine rk_nil ?_
      exact ⟨by unfold conf; rw [decide_eq_true h1, decide_eq_false (show ¬ ¬ bitAnd .i64 k.acc y.deny = 0 from fun h => h h2), decide_not, Bool.false_or, Bool.true_and]; rfl, S.up1 (S.seps (L := [_, _]) (S.dn2 hS))⟩
  · refine op1_skip rfl ?_; (iterate 17 refine zl ?_); refine wpD_cons ?_; refine op1_pick_f rfl rfl (by (conv => lhs; whnf) <;> rfl) ?_; refine zd1 ?_; refine wpD_nil ?_; refine dk_of ?_ ?_; (iterate 3 refine chk_skip ?_); refine zx 24 ?_ ?_; refine zy 0 ?_ ?_; exact zq (S.g0 hS); exact chkFs_nil; refine zx 23 ?_ ?_; refine zy 0 ?_ ?_; exact zq (S.g1 hS); exact chkFs_nil; (iterate 5 refine chk_skip ?_); refine chk_unw 17 rfl rfl rfl ?_; refine chk_skip ?_; refine chk_unw 15 rfl rfl rfl ?_; (iterate 6 refine chk_skip ?_); refine chk_unw 8 rfl rfl rfl ?_; refine chk_skip ?_; refine chk_unw 6 rfl rfl rfl ?_; (iterate 5 refine chk_skip ?_); exact chk_end; refine seq_normal ?_; refine wp_ret ?_; refine ret_of ?_; refine zr ?_; refine rk_nil ?_
    exact ⟨by unfold conf; rw [decide_eq_false h1, Bool.false_and]; rfl, S.up1 (S.seps (L := [_, _]) (S.dn2 hS))⟩
theorem L21 {o : Int} (ht : TbOk t) (hS : S B H (repP p t :: As)) : wpF C 21 [ptrB p, .int .i64 o] H fun v H' => S B H' (sl 1 v (i64s (t.opens o)) :: repP p t :: As) := by
  refine wpF_ofW o21 rfl rfl ?_
  unfold ptrB
  refine zsr ?_; refine wpO_cons ?_; refine op1_box1S rfl (by (conv => lhs; whnf) <;> rfl) rfl rfl hS ?_; intro p1 H1 hS; refine zw1 ?_; refine zns ?_; refine wp_seq ?_; refine zsr ?_; refine zw1 ?_; refine wpO_cons ?_; refine op1_bin_false rfl (by (conv => lhs; whnf) <;> rfl) (by (conv => lhs; whnf) <;> rfl) rfl ?_; refine zns ?_; refine wp_false rfl ?_; refine wp_skip ?_; refine seq_normal ?_; refine zsr ?_; refine zw1 ?_; refine zn ?_; refine zf ?_; refine zf ?_; refine wpO_cons ?_; refine op1_mkfunc1 rfl (by (conv => lhs; whnf) <;> rfl) ?_; refine wpO_cons ?_; refine op1_call2 rfl (by (conv => lhs; whnf) <;> rfl) (by (conv => lhs; whnf) <;> rfl) ?_
  refine wpF_mono (L44 (w := fun k => decide (k.obj = o)) (E := pto p1 (.cells [.int .i64 o] 0 false)) ht (fun k b H1 As1 h => L63 h) (S.up1 hS)) ?_
  rintro v H2 hS2
  clear hS
  have hS := hS2
  clear hS2
  refine zw1 ?_; refine zns ?_; refine wp_ret ?_; refine ret_of ?_; refine zr ?_; refine rk_nil ?_
  exact S.drop (S.up2 hS)
end
end Go.E.At
