/- Attributes: membership, permission. -/
import Derived.Test.YtgbnjcmjioiclaaDoorAtCode
namespace Go.E.At
open Go Go.E Go.Proofs.YtgbnjcmjioiclaaDoor.base Go.Proofs.YtgbnjcmjioiclaaDoor Go.Proofs
set_option linter.unusedVariables false
set_option linter.unusedSimpArgs false
set_option maxRecDepth 100000
theorem L78 {H : AHeap} {v : Value} {l : List Int} {r : List Nat} {x : Int} (hd : RdS H 1 v (i64s l) r) (hl : l.length ≤ 1000000) : wpF C 78 [v, .int .i64 x] H fun u H' => (∃ k : Int, u = .int .i64 k ∧ (0 ≤ k ↔ x ∈ l)) ∧ H = H' := by
  obtain ⟨a, c, rfl⟩ := hd.i1
  refine wpF_ofW o78 rfl rfl ?_
  refine zsr ?_; refine zw1 ?_; refine zns ?_; refine wp_seq ?_; refine zsr ?_; refine zw1 ?_; refine wpO_cons ?_; refine op1_len rfl rfl ?_; refine zw1 ?_; refine zns ?_; refine wp_block ?_
  refine wp_loop [8] (fun k vs H' => ∃ i : Nat, vs = [.int .i64 i] ∧ k = l.length - i ∧ i ≤ l.length ∧ H = H' ∧ x ∉ l.take i) ⟨_, 0, rfl, rfl, by omega, rfl, by simp⟩ ?_
  rintro k vs T' H1 ⟨i, rfl, rfl, hi, rfl, hno⟩
  refine zsr ?_; refine wpO_cons ?_; refine op1_lss rfl rfl rfl ?_; refine zns ?_; refine wp_seq ?_
  refine wp_dec rfl (fun hc => ?_) (fun hc => ?_)
  · obtain ⟨b, off, cs, e, ro, v, rfl, _, hg, hv, hx⟩ := hd.at1 (i := i) (by omega)
    obtain ⟨y, hy, rfl⟩ := i64s_get hx
    refine wp_skip ?_; refine seq_normal ?_; refine wp_seq ?_; refine wp_block ?_; refine zsr ?_; refine zw1 ?_; refine zw1 ?_; refine zns ?_; refine zsr ?_; refine zw1 ?_; refine zw1 ?_; refine zw1 ?_; refine wpO_cons ?_; refine op1_iaddr rfl rfl rfl (by omega) (by omega) ?_; refine wpO_cons ?_
    refine op1_load rfl rfl hg hv ?_
    refine wpO_cons ?_; refine op1_eqlI rfl rfl rfl ?_; refine zns ?_
    refine wp_dec rfl (fun he => ?_) (fun he => ?_)
    · refine zsr ?_; refine zw1 ?_; refine zw1 ?_; refine zns ?_; refine wp_ret ?_; refine block_ret ?_; refine seq_ret ?_; refine iter_ret ?_; refine block_ret ?_; refine seq_ret ?_; refine ret_of ?_; refine zr ?_; refine rk_nil ?_
      refine ⟨⟨_, rfl, ⟨fun _ => ?_, fun _ => by omega⟩⟩, rfl⟩
      rw [he]
      exact List.mem_of_getElem? hy
    · refine wp_skip ?_; refine block_normal ?_; refine seq_normal ?_; refine wp_region ?_; refine wpO_cons ?_; refine op1_add rfl rfl rfl (by exact wrap_i64 (by omega) (by omega)) ?_; refine zw1 ?_; refine wpO_nil ?_
      refine ⟨l.length - (i + 1), by omega, i + 1, rfl, rfl, by omega, rfl, ?_⟩
      rw [List.take_add_one, hy]
      simp only [Option.toList_some, List.mem_append, List.mem_singleton, not_or]
      exact ⟨hno, he⟩
  · refine wp_exit ?_; refine seq_exit ?_; refine iter_exit ?_; refine block_exit ?_; refine seq_normal ?_; refine zsr ?_; refine zw1 ?_; refine zns ?_; refine wp_ret ?_; refine ret_of ?_; refine zr ?_; refine rk_nil ?_
    rw [List.take_of_length_le (by omega)] at hno
    exact ⟨⟨_, rfl, ⟨fun h => absurd h (by decide), fun h => absurd h hno⟩⟩, rfl⟩

theorem L75 {H : AHeap} {v : Value} {l : List Int} {r : List Nat} {x : Int} (hd : RdS H 1 v (i64s l) r) (hl : l.length ≤ 1000000) : wpF C 75 [v, .int .i64 x] H fun u H' => u = .bool (decide (x ∈ l)) ∧ H = H' := by
  refine wpF_ofW o75 rfl rfl ?_
  refine zsr ?_; refine zw1 ?_; refine zns ?_; refine zsr ?_; refine zw1 ?_; refine zw1 ?_; refine wpO_cons ?_; refine op1_call2 rfl (by (conv => lhs; whnf) <;> rfl) (by (conv => lhs; whnf) <;> rfl) ?_
  refine wpF_mono (L78 hd hl) ?_
  rintro _ _ ⟨⟨k, rfl, hk⟩, rfl⟩
  refine wpO_cons ?_; refine op1_geq rfl rfl rfl ?_; refine zw1 ?_; refine zns ?_; refine wp_ret ?_; refine ret_of ?_; refine zr ?_; refine rk_nil ?_
  exact ⟨by simp only [resultV]; congr 1; rw [decide_eq_decide]; exact hk, rfl⟩

structure Cr where
  user : Int
  group : Int
  gs : List Int
  a : Option Addr
  c : Nat
def Cr.cells (x : Cr) : List Value := [.int .i64 x.user, .int .i64 x.group, .slice x.a x.gs.length x.c]
structure CrOk (B : AHeap) (x : Cr) (r : List Nat) : Prop where
  len : x.gs.length ≤ 1000
  rd : RdS B 1 (.slice x.a x.gs.length x.c) (i64s x.gs) r
  lt : ∀ b ∈ r, b < B.next
def Cr.mem (x : Cr) (g : Int) : Prop := x.group = g ∨ g ∈ x.gs
instance (x : Cr) (g : Int) : Decidable (x.mem g) := by unfold Cr.mem; infer_instance
section
variable {B H : AHeap} {As : List Asn} {x : Cr} {r : List Nat} {g : Int}
theorem L66 (hx : CrOk B x r) (hS : S B H As) : wpF C 66 [.agg ⟨x.cells⟩, .int .i64 g] H fun v H' => v = .bool (decide (x.mem g)) ∧ S B H' As := by
  refine wpF_ofW o66 rfl rfl ?_
  unfold Cr.cells
  refine zsr ?_; refine wpO_cons ?_; refine op1_boxNS rfl rfl rfl hS ?_; intro p1 H1 hS; refine zw1 ?_; refine zns ?_; refine zsr ?_; refine zf ?_; refine zh (S.g0 hS) ?_; refine zw1 ?_; refine wpO_cons ?_; refine op1_eqlI rfl rfl rfl ?_; refine zw1 ?_; refine wpO_cons ?_
  refine op1_dec rfl (fun h1 => ?_) (fun h1 => ?_)
  · refine op1_skip rfl ?_; (iterate 3 refine zk ?_); refine zt ?_; refine zw1 ?_; refine zns ?_; refine wp_ret ?_; refine ret_of ?_; refine zr ?_; refine rk_nil ?_
    exact ⟨by simp [Cr.mem, h1, resultV], by exact S.drop hS⟩
  · refine op1_faddr0 rfl rfl ?_; refine zh (S.g0 hS) ?_; refine zw1 ?_; refine wpO_cons ?_; refine op1_call2 rfl (by (conv => lhs; whnf) <;> rfl) (by (conv => lhs; whnf) <;> rfl) ?_
    refine wpF_mono (L75 (hS.rdB hx.rd hx.lt) (by have := hx.len; omega)) ?_
    rintro _ H2 ⟨rfl, rfl⟩
    refine zu ?_; refine zw1 ?_; refine zns ?_; refine wp_ret ?_; refine ret_of ?_; refine zr ?_; refine rk_nil ?_
    exact ⟨by simp [Cr.mem, h1, resultV], by exact S.drop hS⟩
end
end Go.E.At
/- Attributes: permission. -/
namespace Go.E.At
open Go Go.E Go.Proofs.YtgbnjcmjioiclaaDoor.base Go.Proofs.YtgbnjcmjioiclaaDoor Go.Proofs
set_option linter.unusedVariables false
set_option linter.unusedSimpArgs false
set_option maxRecDepth 100000
theorem bitAnd_mask (x : Int) (k : Nat) (hk : k ≤ 32) : bitAnd .i64 x ((2 ^ k - 1 : Nat) : Int) = x % (2 ^ k : Nat) := by
  have hp : 2 ^ k ≤ 2 ^ 32 := Nat.pow_le_pow_right (by decide) hk
  have hp0 : 0 < 2 ^ k := Nat.pow_pos (by decide)
  unfold bitAnd
  have e1 : (BitVec.ofInt 64 x &&& BitVec.ofInt 64 ((2 ^ k - 1 : Nat) : Int)).toNat = (x % (2 ^ 64 : Nat)).toNat % 2 ^ k := by
    rw [BitVec.toNat_and, BitVec.toNat_ofInt, BitVec.toNat_ofInt]
    have : ((((2 ^ k - 1 : Nat) : Int)) % (2 ^ 64 : Nat)).toNat = 2 ^ k - 1 := by
      rw [Int.emod_eq_of_lt (by omega) (by omega)]
      omega
    rw [this, Nat.and_two_pow_sub_one_eq_mod]
  show IntKind.i64.wrap ((BitVec.ofInt 64 x &&& BitVec.ofInt 64 ((2 ^ k - 1 : Nat) : Int)).toNat : Int) = _
  rw [e1]
  have hm : (x % (2 ^ 64 : Nat)).toNat % 2 ^ k < 2 ^ k := Nat.mod_lt _ hp0
  rw [wrap_i64 (by omega) (by omega)]
  have hd : (2 ^ k : Nat) ∣ 2 ^ 64 := Nat.pow_dvd_pow 2 (by omega)
  have h2 : x % (2 ^ 64 : Nat) % (2 ^ k : Nat) = x % (2 ^ k : Nat) := Int.emod_emod_of_dvd x (by exact_mod_cast hd)
  have h3 : 0 ≤ x % (2 ^ 64 : Nat) := Int.emod_nonneg _ (by decide)
  rw [← h2, Int.natCast_emod, Int.toNat_of_nonneg h3]
theorem and4095 (x : Int) : bitAnd .i64 x 4095 = x % 4096 := bitAnd_mask x 12 (by decide)
theorem and73 (x : Int) : bitAnd .i64 (x % 4096) 73 = bitAnd .i64 x 73 := by
  rw [← and4095]
  unfold bitAnd
  have hx : ∀ n : Nat, n < 2 ^ 12 → BitVec.ofInt 64 (IntKind.i64.wrap (n : Int)) = BitVec.ofNat 64 n := fun n hn => by
    rw [wrap_i64 (by omega) (by omega)]
    rfl
  have hlt : (BitVec.ofInt 64 x &&& BitVec.ofInt 64 4095).toNat < 2 ^ 12 := by
    have := @Nat.and_le_right (BitVec.ofInt 64 x).toNat (BitVec.ofInt 64 4095).toNat
    rw [BitVec.toNat_and]
    have e : (BitVec.ofInt 64 4095).toNat = 4095 := by decide
    omega
  show IntKind.i64.wrap ((BitVec.ofInt 64 (IntKind.i64.wrap ((BitVec.ofInt 64 x &&& BitVec.ofInt 64 4095).toNat : Int)) &&& BitVec.ofInt 64 73).toNat : Int) = IntKind.i64.wrap ((BitVec.ofInt 64 x &&& BitVec.ofInt 64 73).toNat : Int)
  rw [hx _ hlt, BitVec.ofNat_toNat, BitVec.setWidth_eq, BitVec.and_assoc]
  rfl

theorem op1_idxArrN {C : Callees} {T : FEnv} {H : AHeap} {K : FEnv → AHeap → Prop} {m es s : Nat} {x i : NOpd} {vs ws : List Value} {ki : IntKind} {n : Int} {d : Nat} {g : Option (Nat × Bool)} (hw : wantedF g T = true) (hx : x.evF T = .agg ⟨vs⟩) (hi : i.evF T = .int ki n) (h0 : 0 ≤ n) (h1 : n < m)
    (hl : n.toNat * es + s ≤ vs.length) (hr : (vs.drop (n.toNat * es)).take s = ws) (k : K (upd T d (.agg ⟨ws⟩)) H) : op1 C ⟨some d, .idxArr m (some s) es x i, g⟩ T H K := by
  refine op1_val hw ?_ k
  subst hr
  simp only [NOp.sub, eop, ev_subF, hx, hi]
  rw [if_pos ⟨h0, h1⟩, if_pos hl]
structure Ob where
  mode : Int
  user : Int
  group : Int
  size : Int
  links : Int
  dir : Bool
def Ob.cells (x : Ob) : List Value := [.int .i64 x.mode, .int .i64 x.user, .int .i64 x.group, .int .i64 x.size, .int .i64 x.links, .bool x.dir]
def Ob.cls (x : Ob) (c : Cr) : Int := if c.user = x.user then x.mode / 64 % 8 else if c.mem x.group then x.mode / 8 % 8 else x.mode % 8
theorem Ob.cls_b (x : Ob) (c : Cr) : 0 ≤ x.cls c ∧ x.cls c ≤ 7 := by
  unfold Ob.cls
  split
  · omega
  split <;> omega
def okBits (b want : Int) : Bool := (decide (bitAnd .i64 want 1 = 0) || !decide (bitAnd .i64 b 4 = 0)) && (decide (bitAnd .i64 want 2 = 0) || !decide (bitAnd .i64 b 2 = 0)) && (decide (bitAnd .i64 want 4 = 0) || !decide (bitAnd .i64 b 1 = 0))
def Ob.allowed (x : Ob) (c : Cr) (want : Int) : Bool := decide (0 ≤ want ∧ want ≤ 7) && if c.user = 0 then (decide (bitAnd .i64 want 4 = 0) || x.dir || !decide (bitAnd .i64 x.mode 73 = 0)) else okBits (x.cls c) want
section
variable {B H : AHeap} {As : List Asn} {x : Ob} {c : Cr} {r : List Nat} {want : Int}
theorem L39 (hm : 0 ≤ x.mode ∧ x.mode ≤ 4095) (hc : CrOk B c r) (hS : S B H As) : wpF C 39 [.agg ⟨x.cells⟩, .agg ⟨c.cells⟩] H fun v H' => v = .int .i64 (x.cls c) ∧ S B H' As := by
  have e64 : x.mode.tdiv 64 = x.mode / 64 := Int.tdiv_eq_ediv_of_nonneg hm.1
  have e8 : x.mode.tdiv 8 = x.mode / 8 := Int.tdiv_eq_ediv_of_nonneg hm.1
  have er : ∀ z : Int, 0 ≤ z → z.tmod 8 = z % 8 := fun z hz => Int.tmod_eq_emod_of_nonneg hz
  refine wpF_ofW o39 rfl rfl ?_
  unfold Ob.cells Cr.cells
  refine zsr ?_; refine wpO_cons ?_; refine op1_boxNS rfl rfl rfl hS ?_; intro p1 H1 hS; refine wpO_cons ?_; refine op1_boxNS rfl rfl rfl hS ?_; intro p2 H2 hS; refine zw1 ?_; refine zns ?_; refine wp_seq ?_; refine wp_block ?_; refine zsr ?_; refine zf ?_; refine zh (S.g0 hS) ?_; refine zf ?_; refine zh (S.g1 hS) ?_; refine wpO_cons ?_; refine op1_eqlI rfl rfl rfl ?_; refine zw1 ?_; refine zns ?_
  refine wp_dec rfl (fun h1 => ?_) (fun h1 => ?_)
  · refine zsr ?_; refine zf ?_; refine zh (S.g1 hS) ?_; refine wpO_cons ?_
    refine op1_quo rfl rfl rfl (by omega) (by rw [e64]; exact wrap_i64 (by omega) (by omega)) ?_
    refine wpO_cons ?_; refine op1_rem rfl rfl rfl (by omega) ?_; refine zw1 ?_; refine zns ?_; refine wp_ret ?_; refine block_ret ?_; refine seq_ret ?_; refine ret_of ?_; refine zr ?_; refine rk_nil ?_
    exact ⟨by unfold Ob.cls; rw [if_pos h1, e64, er _ (by omega)]; rfl, S.drop (S.drop hS)⟩
  · refine zsr ?_; refine wpO_cons ?_; refine op1_load_3 rfl rfl (by exact S.g0 hS) rfl rfl ?_; refine zf ?_; refine zh (S.g1 hS) ?_; refine wpO_cons ?_; refine op1_call2 rfl (by (conv => lhs; whnf) <;> rfl) (by (conv => lhs; whnf) <;> rfl) ?_
    refine wpF_mono (L66 hc hS) ?_
    clear hS
    rintro _ H3 ⟨rfl, hS⟩
    refine zw1 ?_; refine zns ?_
    refine wp_dec rfl (fun h2 => ?_) (fun h2 => ?_)
    · refine zsr ?_; refine zf ?_; refine zh (S.g1 hS) ?_; refine wpO_cons ?_
      refine op1_quo rfl rfl rfl (by omega) (by rw [e8]; exact wrap_i64 (by omega) (by omega)) ?_
      refine wpO_cons ?_; refine op1_rem rfl rfl rfl (by omega) ?_; refine zw1 ?_; refine zns ?_; refine wp_ret ?_; refine block_ret ?_; refine seq_ret ?_; refine ret_of ?_; refine zr ?_; refine rk_nil ?_
      exact ⟨by unfold Ob.cls; rw [if_neg h1, if_pos h2, e8, er _ (by omega)]; rfl, S.drop (S.drop hS)⟩
    · refine wp_skip ?_; refine block_normal ?_; refine seq_normal ?_; refine zsr ?_; refine zf ?_; refine zh (S.g1 hS) ?_; refine wpO_cons ?_; refine op1_rem rfl rfl rfl (by omega) ?_; refine zw1 ?_; refine zns ?_; refine wp_ret ?_; refine ret_of ?_; refine zr ?_; refine rk_nil ?_
      exact ⟨by unfold Ob.cls; rw [if_neg h1, if_neg h2, er _ hm.1]; rfl, S.drop (S.drop hS)⟩
def pb (i : Nat) : Int := if i = 0 then 4 else if i = 1 then 2 else 1
def ac (i : Nat) : Int := if i = 0 then 1 else if i = 1 then 2 else 4
def perm (b : Int) : Nat → Int
  | 0 => 0
  | i + 1 => if bitAnd .i64 b (pb i) = 0 then perm b i else bitOr .i64 (perm b i) (ac i)
theorem permT {b : Int} {i : Nat} (h : ¬ bitAnd .i64 b (pb i) = 0) : perm b (i + 1) = bitOr .i64 (perm b i) (ac i) := by rw [perm, if_neg h]
theorem permF {b : Int} {i : Nat} (h : bitAnd .i64 b (pb i) = 0) : perm b (i + 1) = perm b i := by rw [perm, if_pos h]
theorem grant {b want : Int} (hb : 0 ≤ b ∧ b ≤ 7) (hw : 0 ≤ want ∧ want ≤ 7) : decide (bitAndNot .i64 want (perm b 3) = 0) = okBits b want := by
  have h1 : b = 0 ∨ b = 1 ∨ b = 2 ∨ b = 3 ∨ b = 4 ∨ b = 5 ∨ b = 6 ∨ b = 7 := by omega
  have h2 : want = 0 ∨ want = 1 ∨ want = 2 ∨ want = 3 ∨ want = 4 ∨ want = 5 ∨ want = 6 ∨ want = 7 := by omega
  rcases h1 with rfl | rfl | rfl | rfl | rfl | rfl | rfl | rfl <;> rcases h2 with rfl | rfl | rfl | rfl | rfl | rfl | rfl | rfl <;> decide
theorem grant0 {want : Int} {p : Bool} (hw : 0 ≤ want ∧ want ≤ 7) : decide (bitAndNot .i64 want (bif p then bitOr .i64 3 4 else 3) = 0) = (decide (bitAnd .i64 want 4 = 0) || p) := by
  have h2 : want = 0 ∨ want = 1 ∨ want = 2 ∨ want = 3 ∨ want = 4 ∨ want = 5 ∨ want = 6 ∨ want = 7 := by omega
  cases p <;> rcases h2 with rfl | rfl | rfl | rfl | rfl | rfl | rfl | rfl <;> decide
theorem glob0 (hB : Glob objs B) (hS : S B H As) : H.get 0 = .cells bitsV 0 true := (hS.base 0 (by have := hB.le; simp [objs] at this; omega)).trans (hB.get 0 (by decide))
theorem L10 (hB : Glob objs B) (hc : CrOk B c r) (hS : S B H As) : wpF C 10 [.agg ⟨x.cells⟩, .agg ⟨c.cells⟩, .int .i64 want] H fun v H' => v = .bool (x.allowed c want) ∧ S B H' As := by
  refine wpF_ofW o10 rfl rfl ?_
  unfold Ob.cells Cr.cells
  refine zsr ?_; refine wpO_cons ?_; refine op1_boxNS rfl rfl rfl hS ?_; intro p1 H1 hS; refine wpO_cons ?_; refine op1_boxNS rfl rfl rfl hS ?_; intro p2 H2 hS; refine zw1 ?_; refine zns ?_; refine wp_seq ?_; refine zsr ?_; refine zw1 ?_; refine wpO_cons ?_; refine op1_lss rfl rfl rfl ?_; refine zw1 ?_; refine wpO_cons ?_
  refine op1_dec rfl (fun h1 => ?_) (fun h1 => ?_)
  · refine op1_skip rfl ?_; refine zk ?_; refine zt ?_; refine zns ?_; refine wp_true rfl ?_; refine zsr ?_; refine zw1 ?_; refine zns ?_; refine wp_ret ?_; refine seq_ret ?_; refine ret_of ?_; refine zr ?_; refine rk_nil ?_
    exact ⟨by unfold Ob.allowed; rw [decide_eq_false (by omega)]; rfl, S.drop (S.drop hS)⟩
  refine op1_mov rfl (by (conv => lhs; whnf) <;> rfl) ?_; refine wpO_cons ?_; refine op1_gtr rfl rfl rfl ?_; refine zu ?_; refine zns ?_
  refine wp_dec rfl (fun h2 => ?_) (fun h2 => ?_)
  · refine zsr ?_; refine zw1 ?_; refine zns ?_; refine wp_ret ?_; refine seq_ret ?_; refine ret_of ?_; refine zr ?_; refine rk_nil ?_
    exact ⟨by unfold Ob.allowed; rw [decide_eq_false (by omega)]; rfl, S.drop (S.drop hS)⟩
  have hw : 0 ≤ want ∧ want ≤ 7 := by omega
  refine wp_skip ?_; refine seq_normal ?_; refine zsr ?_; refine zf ?_; refine zh (S.g1 hS) ?_; refine wpO_cons ?_; refine op1_and rfl rfl rfl ?_; refine zf ?_; refine wpO_cons ?_; (refine op1_store1S rfl rfl (by (conv => lhs; whnf) <;> rfl) rfl rfl (S.up1 hS) rfl ?_; intro H3 hS; replace hS := S.dn1 hS); refine zns ?_; refine zsr ?_; refine zw1 ?_; refine zns ?_; refine wp_seq ?_; refine zsr ?_; refine wpO_cons ?_
  obtain ⟨y, hy⟩ : ∃ y : Ob, y = { x with mode := bitAnd .i64 x.mode 4095 } := ⟨_, rfl⟩
  have hyc : y.cls c = x.cls c := by
    rw [hy]
    unfold Ob.cls
    simp only [and4095]
    split
    · omega
    split <;> omega
  have hym : y.mode = x.mode % 4096 := by rw [hy]; exact and4095 _
  have hS2 : S B H3 (pto p2 (.cells c.cells 0 false) :: pto p1 (.cells y.cells 0 false) :: As) := by rw [hy]; exact hS
  have hyd : y.dir = x.dir := by rw [hy]
  clear hy hS
  have hS := hS2
  clear hS2
  refine op1_loadN rfl rfl (glob0 hB hS) (by decide) rfl ?_
  refine zw1 ?_; refine zns ?_; refine wp_block ?_
  refine wp_loop [7, 21] (fun k vs H' => ∃ (i : Nat), vs = [.int .i64 (perm (x.cls c) i), .int .i64 i] ∧ k = 3 - i ∧ i ≤ 3 ∧ S B H' (pto p2 (.cells c.cells 0 false) :: pto p1 (.cells y.cells 0 false) :: As)) ⟨_, 0, rfl, rfl, by omega, hS⟩ ?_
  clear hS
  rintro k vs T2 H4 ⟨i, rfl, rfl, hi, hS⟩
  unfold Ob.cells Cr.cells at hS
  refine zsr ?_; refine wpO_cons ?_; refine op1_lss rfl rfl rfl ?_; refine zns ?_; refine wp_seq ?_
  refine wp_dec rfl (fun hc3 => ?_) (fun hc3 => ?_)
  · have h3 : i = 0 ∨ i = 1 ∨ i = 2 := by omega
    rcases h3 with rfl | rfl | rfl
    · refine wp_skip ?_; refine seq_normal ?_; refine wp_seq ?_; refine wp_block ?_; refine zsr ?_; refine wpO_cons ?_
      refine op1_idxArrN (ws := [.int .i64 4, .int .i64 1]) rfl rfl rfl (by decide) (by decide) (by decide) rfl ?_
      refine wpO_cons ?_; refine op1_allocS rfl hS ?_; intro p3 H5 hS; refine wpO_cons ?_; (refine op1_storeNS rfl rfl (by (conv => lhs; whnf) <;> rfl) rfl rfl (S.up0 hS) (Nat.le_of_ble_eq_true rfl) ?_; intro H6 hS; replace hS := S.dn0 hS); refine zns ?_; refine wp_seq ?_; refine wp_regionD ?_; refine wpD_cons ?_; refine op1_load_6 rfl rfl (by exact S.g2 hS) rfl rfl ?_; refine wpD_cons ?_; refine op1_load_3 rfl rfl (by exact S.g1 hS) rfl rfl ?_; refine zg ?_; refine zj (S.g0 hS) ?_; refine wpD_cons ?_; refine op1_call2 rfl (by (conv => lhs; whnf) <;> rfl) (by (conv => lhs; whnf) <;> rfl) ?_
      have hT := hS
      refine wpF_mono (L39 (x := y) (by omega) hc hS) ?_
      clear hS
      rintro _ H6 ⟨rfl, hS⟩
      rw [hyc]
      refine wpD_cons ?_; refine op1_and rfl rfl rfl ?_; refine wpD_cons ?_; refine op1_neqI rfl rfl rfl ?_; refine wpD_nil ?_; refine dk_of ?_ ?_; refine zx 7 ?_ ?_; refine zy 3 ?_ ?_; exact chk_loadN rfl (by exact S.g2 hT) rfl rfl rfl; exact chkFs_nil; refine zx 6 ?_ ?_; refine zy 3 ?_ ?_; exact chk_loadN rfl (by exact S.g1 hT) rfl rfl rfl; exact chkFs_nil; refine chk_skip ?_; refine zx 4 ?_ ?_; refine zy 3 ?_ ?_; exact zq (S.g0 hT); refine zy 0 ?_ ?_; exact zq (S.g0 hS); exact chkFs_nil; (iterate 3 refine chk_skip ?_); exact chk_end; refine seq_normal ?_
      refine wp_ndec rfl (fun hb => ?_) (fun hb => ?_)
      · refine wp_region ?_; refine zw1 ?_; refine zf ?_; refine zh (S.g0 hS) ?_; refine wpO_cons ?_; refine op1_or rfl rfl rfl ?_; refine zw1 ?_; refine wpO_nil ?_; refine block_normal ?_; refine seq_normal ?_; refine wp_region ?_; refine wpO_cons ?_; refine op1_add rfl rfl rfl (by exact wrap_i64 (by omega) (by omega)) ?_; refine zw1 ?_; refine wpO_nil ?_
        exact ⟨3 - (0 + 1), by omega, 0 + 1, by rw [permT (i := 0) hb]; rfl, rfl, by omega, S.drop hS⟩
      · refine wp_skip ?_; refine block_normal ?_; refine seq_normal ?_; refine wp_region ?_; refine wpO_cons ?_; refine op1_add rfl rfl rfl (by exact wrap_i64 (by omega) (by omega)) ?_; refine zw1 ?_; refine wpO_nil ?_
        exact ⟨3 - (0 + 1), by omega, 0 + 1, by rw [permF (i := 0) hb]; rfl, rfl, by omega, S.drop hS⟩
    · refine wp_skip ?_; refine seq_normal ?_; refine wp_seq ?_; refine wp_block ?_; refine zsr ?_; refine wpO_cons ?_
      refine op1_idxArrN (ws := [.int .i64 2, .int .i64 2]) rfl rfl rfl (by decide) (by decide) (by decide) rfl ?_
      refine wpO_cons ?_; refine op1_allocS rfl hS ?_; intro p3 H5 hS; refine wpO_cons ?_; (refine op1_storeNS rfl rfl (by (conv => lhs; whnf) <;> rfl) rfl rfl (S.up0 hS) (Nat.le_of_ble_eq_true rfl) ?_; intro H6 hS; replace hS := S.dn0 hS); refine zns ?_; refine wp_seq ?_; refine wp_regionD ?_; refine wpD_cons ?_; refine op1_load_6 rfl rfl (by exact S.g2 hS) rfl rfl ?_; refine wpD_cons ?_; refine op1_load_3 rfl rfl (by exact S.g1 hS) rfl rfl ?_; refine zg ?_; refine zj (S.g0 hS) ?_; refine wpD_cons ?_; refine op1_call2 rfl (by (conv => lhs; whnf) <;> rfl) (by (conv => lhs; whnf) <;> rfl) ?_
      have hT := hS
      refine wpF_mono (L39 (x := y) (by omega) hc hS) ?_
      clear hS
      rintro _ H6 ⟨rfl, hS⟩
      rw [hyc]
      refine wpD_cons ?_; refine op1_and rfl rfl rfl ?_; refine wpD_cons ?_; refine op1_neqI rfl rfl rfl ?_; refine wpD_nil ?_; refine dk_of ?_ ?_; refine zx 7 ?_ ?_; refine zy 3 ?_ ?_; exact chk_loadN rfl (by exact S.g2 hT) rfl rfl rfl; exact chkFs_nil; refine zx 6 ?_ ?_; refine zy 3 ?_ ?_; exact chk_loadN rfl (by exact S.g1 hT) rfl rfl rfl; exact chkFs_nil; refine chk_skip ?_; refine zx 4 ?_ ?_; refine zy 3 ?_ ?_; exact zq (S.g0 hT); refine zy 0 ?_ ?_; exact zq (S.g0 hS); exact chkFs_nil; (iterate 3 refine chk_skip ?_); exact chk_end; refine seq_normal ?_
      refine wp_ndec rfl (fun hb => ?_) (fun hb => ?_)
      · refine wp_region ?_; refine zw1 ?_; refine zf ?_; refine zh (S.g0 hS) ?_; refine wpO_cons ?_; refine op1_or rfl rfl rfl ?_; refine zw1 ?_; refine wpO_nil ?_; refine block_normal ?_; refine seq_normal ?_; refine wp_region ?_; refine wpO_cons ?_; refine op1_add rfl rfl rfl (by exact wrap_i64 (by omega) (by omega)) ?_; refine zw1 ?_; refine wpO_nil ?_
        exact ⟨3 - (1 + 1), by omega, 1 + 1, by rw [permT (i := 1) hb]; rfl, rfl, by omega, S.drop hS⟩
      · refine wp_skip ?_; refine block_normal ?_; refine seq_normal ?_; refine wp_region ?_; refine wpO_cons ?_; refine op1_add rfl rfl rfl (by exact wrap_i64 (by omega) (by omega)) ?_; refine zw1 ?_; refine wpO_nil ?_
        exact ⟨3 - (1 + 1), by omega, 1 + 1, by rw [permF (i := 1) hb]; rfl, rfl, by omega, S.drop hS⟩
    · refine wp_skip ?_; refine seq_normal ?_; refine wp_seq ?_; refine wp_block ?_; refine zsr ?_; refine wpO_cons ?_
      refine op1_idxArrN (ws := [.int .i64 1, .int .i64 4]) rfl rfl rfl (by decide) (by decide) (by decide) rfl ?_
      refine wpO_cons ?_; refine op1_allocS rfl hS ?_; intro p3 H5 hS; refine wpO_cons ?_; (refine op1_storeNS rfl rfl (by (conv => lhs; whnf) <;> rfl) rfl rfl (S.up0 hS) (Nat.le_of_ble_eq_true rfl) ?_; intro H6 hS; replace hS := S.dn0 hS); refine zns ?_; refine wp_seq ?_; refine wp_regionD ?_; refine wpD_cons ?_; refine op1_load_6 rfl rfl (by exact S.g2 hS) rfl rfl ?_; refine wpD_cons ?_; refine op1_load_3 rfl rfl (by exact S.g1 hS) rfl rfl ?_; refine zg ?_; refine zj (S.g0 hS) ?_; refine wpD_cons ?_; refine op1_call2 rfl (by (conv => lhs; whnf) <;> rfl) (by (conv => lhs; whnf) <;> rfl) ?_
      have hT := hS
      refine wpF_mono (L39 (x := y) (by omega) hc hS) ?_
      clear hS
      rintro _ H6 ⟨rfl, hS⟩
      rw [hyc]
      refine wpD_cons ?_; refine op1_and rfl rfl rfl ?_; refine wpD_cons ?_; refine op1_neqI rfl rfl rfl ?_; refine wpD_nil ?_; refine dk_of ?_ ?_; refine zx 7 ?_ ?_; refine zy 3 ?_ ?_; exact chk_loadN rfl (by exact S.g2 hT) rfl rfl rfl; exact chkFs_nil; refine zx 6 ?_ ?_; refine zy 3 ?_ ?_; exact chk_loadN rfl (by exact S.g1 hT) rfl rfl rfl; exact chkFs_nil; refine chk_skip ?_; refine zx 4 ?_ ?_; refine zy 3 ?_ ?_; exact zq (S.g0 hT); refine zy 0 ?_ ?_; exact zq (S.g0 hS); exact chkFs_nil; (iterate 3 refine chk_skip ?_); exact chk_end; refine seq_normal ?_
      refine wp_ndec rfl (fun hb => ?_) (fun hb => ?_)
      · refine wp_region ?_; refine zw1 ?_; refine zf ?_; refine zh (S.g0 hS) ?_; refine wpO_cons ?_; refine op1_or rfl rfl rfl ?_; refine zw1 ?_; refine wpO_nil ?_; refine block_normal ?_; refine seq_normal ?_; refine wp_region ?_; refine wpO_cons ?_; refine op1_add rfl rfl rfl (by exact wrap_i64 (by omega) (by omega)) ?_; refine zw1 ?_; refine wpO_nil ?_
        exact ⟨3 - (2 + 1), by omega, 2 + 1, by rw [permT (i := 2) hb]; rfl, rfl, by omega, S.drop hS⟩
      · refine wp_skip ?_; refine block_normal ?_; refine seq_normal ?_; refine wp_region ?_; refine wpO_cons ?_; refine op1_add rfl rfl rfl (by exact wrap_i64 (by omega) (by omega)) ?_; refine zw1 ?_; refine wpO_nil ?_
        exact ⟨3 - (2 + 1), by omega, 2 + 1, by rw [permF (i := 2) hb]; rfl, rfl, by omega, S.drop hS⟩
  · obtain rfl : i = 3 := by omega
    refine wp_exit ?_; refine seq_exit ?_; refine iter_exit ?_; refine block_exit ?_; refine seq_normal ?_; refine wp_seq ?_; refine zsr ?_; refine zf ?_; refine zh (S.g0 hS) ?_; refine wpO_cons ?_; refine op1_eqlI rfl rfl rfl ?_; refine zns ?_
    refine wp_dec rfl (fun h0 => ?_) (fun h0 => ?_)
    · refine zsr ?_; refine zw1 ?_; refine zns ?_; refine zsr ?_; refine zf ?_; refine zh (S.g1 hS) ?_; refine zw1 ?_; refine wpO_cons ?_
      have e73 : bitAnd .i64 y.mode 73 = bitAnd .i64 x.mode 73 := by rw [hym, and73]
      refine op1_split rfl (fun hd => ?_) (fun hd => ?_)
      · refine op1_skip rfl ?_; (iterate 3 refine zk ?_); refine zt ?_; refine zns ?_; refine wp_true rfl ?_; refine wp_region ?_; refine zw1 ?_; refine wpO_cons ?_; refine op1_or rfl rfl rfl ?_; refine zw1 ?_; refine zns ?_; refine zsr ?_; refine zw1 ?_; refine zw1 ?_; refine wpO_cons ?_; refine op1_andNot rfl rfl rfl ?_; refine wpO_cons ?_; refine op1_eqlI rfl rfl rfl ?_; refine zw1 ?_; refine zns ?_; refine wp_ret ?_; refine ret_of ?_; refine zr ?_; refine rk_nil ?_
        have hg := grant0 (p := true) hw
        exact ⟨by unfold Ob.allowed; rw [decide_eq_true hw, if_pos h0, ← hyd, hd, Bool.or_assoc, Bool.true_or, ← hg]; rfl, S.drop (S.drop hS)⟩
      · refine op1_faddr0 rfl rfl ?_; refine zh (S.g1 hS) ?_; refine wpO_cons ?_; refine op1_and rfl rfl rfl ?_; refine wpO_cons ?_; refine op1_neqI rfl rfl rfl ?_; refine zu ?_; refine zns ?_
        refine wp_ndec rfl (fun hm => ?_) (fun hm => ?_)
        · refine wp_region ?_; refine zw1 ?_; refine wpO_cons ?_; refine op1_or rfl rfl rfl ?_; refine zw1 ?_; refine zns ?_; refine zsr ?_; refine zw1 ?_; refine zw1 ?_; refine wpO_cons ?_; refine op1_andNot rfl rfl rfl ?_; refine wpO_cons ?_; refine op1_eqlI rfl rfl rfl ?_; refine zw1 ?_; refine zns ?_; refine wp_ret ?_; refine ret_of ?_; refine zr ?_; refine rk_nil ?_
          have hg := grant0 (p := true) hw
          rw [e73] at hm
          exact ⟨by unfold Ob.allowed; rw [decide_eq_true hw, if_pos h0, ← hyd, hd, decide_eq_false hm, Bool.or_assoc, Bool.false_or, Bool.not_false, ← hg]; rfl, S.drop (S.drop hS)⟩
        · refine wp_skip ?_; refine seq_normal ?_; refine zsr ?_; refine zw1 ?_; refine zw1 ?_; refine wpO_cons ?_; refine op1_andNot rfl rfl rfl ?_; refine wpO_cons ?_; refine op1_eqlI rfl rfl rfl ?_; refine zw1 ?_; refine zns ?_; refine wp_ret ?_; refine ret_of ?_; refine zr ?_; refine rk_nil ?_
          have hg := grant0 (p := false) hw
          rw [e73] at hm
          exact ⟨by unfold Ob.allowed; rw [decide_eq_true hw, if_pos h0, ← hyd, hd, decide_eq_true hm, Bool.or_assoc, Bool.false_or, Bool.not_true, ← hg]; rfl, S.drop (S.drop hS)⟩
    · refine wp_skip ?_; refine seq_normal ?_; refine zsr ?_; refine zw1 ?_; refine zw1 ?_; refine wpO_cons ?_; refine op1_andNot rfl rfl rfl ?_; refine wpO_cons ?_; refine op1_eqlI rfl rfl rfl ?_; refine zw1 ?_; refine zns ?_; refine wp_ret ?_; refine ret_of ?_; refine zr ?_; refine rk_nil ?_
      have hg := grant (x.cls_b c) hw
      exact ⟨by unfold Ob.allowed; rw [decide_eq_true hw, if_neg h0, ← hg]; rfl, S.drop (S.drop hS)⟩
end
end Go.E.At
