/- Combine: numbers as bytes. -/
import Derived.Test.YtnbjnjichhepiaaDoorCbCode
import Derived.Laws.Bits64
import Derived.Laws.BitsLemmas
import Derived.Test.YtnbjnjichhepiaaDoorCbCode2
namespace Go.E.Cb
open Go Go.E Go.Proofs.YtnbjnjichhepiaaDoor.base Go.Proofs.YtnbjnjichhepiaaDoor Go.Proofs
set_option linter.unusedVariables false
set_option linter.unusedSimpArgs false
set_option maxRecDepth 100000
abbrev I64 (x : Int) : Prop := -9223372036854775808 ≤ x ∧ x ≤ 9223372036854775807
abbrev U64 (x : Int) : Prop := 0 ≤ x ∧ x ≤ 18446744073709551615
def un (x : Int) : Int := x % 18446744073709551616
theorem un_b (x : Int) : U64 (un x) := by unfold un U64; omega
theorem wu64 (x : Int) : IntKind.u64.wrap x = un x := IntKind.wrap_u64 x
theorem wu8 (x : Int) : IntKind.u8.wrap x = x % 256 := IntKind.wrap_u8 x
def leB (x : Int) : Nat → List Int
  | 0 => []
  | k + 1 => leB x k ++ [x / 256 ^ k % 256]
def valB : List Int → Int
  | [] => 0
  | b :: l => b + 256 * valB l
theorem leB_len (x : Int) (k : Nat) : (leB x k).length = k := by
  induction k with
  | zero => rfl
  | succ k ih => rw [leB, List.length_append, ih]; rfl
theorem leB_byte (x : Int) (k : Nat) : ∀ b ∈ leB x k, 0 ≤ b ∧ b ≤ 255 := by
  induction k with
  | zero => intro b h; cases h
  | succ k ih =>
    intro b h
    rcases List.mem_append.1 h with h | h
    · exact ih b h
    · simp only [List.mem_singleton] at h
      omega
theorem valB_app (l : List Int) (b : Int) : valB (l ++ [b]) = valB l + b * 256 ^ l.length := by
  induction l with
  | nil => simp [valB]
  | cons c l ih =>
    rw [List.cons_append, valB, ih, valB, List.length_cons, Int.pow_succ]
    rw [Int.mul_add, ← Int.mul_assoc, Int.mul_comm 256 b, Int.mul_assoc b 256, Int.mul_comm 256 (256 ^ l.length)]
    omega
theorem p256 (k : Nat) : (0 : Int) < 256 ^ k := by
  induction k with
  | zero => decide
  | succ k ih => rw [Int.pow_succ]; omega
theorem valB_leB (x : Int) (k : Nat) : valB (leB x k) = x % 256 ^ k := by
  induction k with
  | zero => simp [leB, valB, Int.emod_one]
  | succ k ih =>
    rw [leB, valB_app, ih, leB_len, Int.pow_succ]
    have h1 := Int.emod_emod_of_dvd x (⟨256, rfl⟩ : (256 ^ k : Int) ∣ 256 ^ k * 256)
    have h2 : x % (256 ^ k * 256) = x - 256 ^ k * 256 * (x / (256 ^ k * 256)) := Int.emod_def _ _
    have h3 : x % 256 ^ k = x - 256 ^ k * (x / 256 ^ k) := Int.emod_def _ _
    have h4 : x / 256 ^ k % 256 = x / 256 ^ k - 256 * (x / 256 ^ k / 256) := Int.emod_def _ _
    have h5 : x / 256 ^ k / 256 = x / (256 ^ k * 256) := Int.ediv_ediv_of_nonneg (Int.le_of_lt (p256 k))
    rw [h2, h3, h4, h5]
    generalize x / 256 ^ k = a
    generalize x / (256 ^ k * 256) = c
    generalize (256 ^ k : Int) = m
    rw [Int.sub_mul, Int.mul_comm m a, Int.mul_assoc 256 c m, Int.mul_comm c m, ← Int.mul_assoc 256 m c, Int.mul_comm 256 m]
    omega
theorem valB_b (l : List Int) (h : ∀ b ∈ l, 0 ≤ b ∧ b ≤ 255) : 0 ≤ valB l ∧ valB l < 256 ^ l.length := by
  induction l with
  | nil => decide
  | cons c l ih =>
    have h1 := h c (by simp)
    have h2 := ih fun b hb => h b (by simp [hb])
    rw [valB, List.length_cons, Int.pow_succ]
    omega
theorem shr_byte (n : Int) (i : Nat) (h : i < 8) : IntKind.u8.wrap ((IntKind.u64.wrap n).fdiv (2 ^ (min (8 * (i : Int)).toNat IntKind.u64.bits))) = un n / 256 ^ i % 256 := by
  have e : min (8 * (i : Int)).toNat IntKind.u64.bits = 8 * i := by
    have : IntKind.u64.bits = 64 := rfl
    omega
  have e2 : (2 : Int) ^ (8 * i) = 256 ^ i := by rw [Int.pow_mul]; rfl
  rw [wu8, wu64, e, e2, Int.fdiv_eq_ediv_of_nonneg _ (Int.le_of_lt (p256 i))]
theorem or_byte {v y : Int} {i : Nat} (hv : 0 ≤ v ∧ v < 256 ^ i) (hy : 0 ≤ y ∧ y ≤ 255) (h : i < 8) : bitOr .u64 v (IntKind.u64.wrap (y * 2 ^ (min (8 * (i : Int)).toNat IntKind.u64.bits))) = v + y * 256 ^ i := by
  have e : min (8 * (i : Int)).toNat IntKind.u64.bits = 8 * i := by
    have : IntKind.u64.bits = 64 := rfl
    omega
  have e2 : (2 : Int) ^ (8 * i) = 256 ^ i := by rw [Int.pow_mul]; rfl
  have e3 : (256 : Int) ^ i * 256 ≤ 18446744073709551616 := by
    rw [← Int.pow_succ]
    have : i = 0 ∨ i = 1 ∨ i = 2 ∨ i = 3 ∨ i = 4 ∨ i = 5 ∨ i = 6 ∨ i = 7 := by omega
    rcases this with rfl | rfl | rfl | rfl | rfl | rfl | rfl | rfl <;> decide
  have e4 : y * 256 ^ i ≤ 255 * 256 ^ i := Int.mul_le_mul_of_nonneg_right hy.2 (Int.le_of_lt (p256 i))
  have e5 : 0 ≤ y * 256 ^ i := Int.mul_nonneg hy.1 (Int.le_of_lt (p256 i))
  rw [e, e2, wu64, show un (y * 256 ^ i) = y * 256 ^ i by unfold un; omega]
  obtain ⟨a, rfl⟩ := Int.eq_ofNat_of_zero_le hv.1
  obtain ⟨b, rfl⟩ := Int.eq_ofNat_of_zero_le hy.1
  have ha : a < 2 ^ (8 * i) := by
    have : (a : Int) < ((2 ^ (8 * i) : Nat) : Int) := by rw [Int.natCast_pow]; rw [show ((2 : Nat) : Int) = 2 from rfl, e2]; exact hv.2
    exact Int.ofNat_lt.1 this
  have hz : ((b : Int) * 256 ^ i) = ((2 ^ (8 * i) * b : Nat) : Int) := by rw [Int.natCast_mul, Int.natCast_pow, show ((2 : Nat) : Int) = 2 from rfl, e2, Int.mul_comm]
  rw [hz] at e4 e5 ⊢
  have hor := Nat.two_pow_add_eq_or_of_lt ha b
  generalize 2 ^ (8 * i) * b = z at e4 e5 hor ⊢
  have hv2 := hv.2
  generalize (256 : Int) ^ i = q at e3 e4 hv2
  have hm : z < 18446744073709551616 := by omega
  have ha2 : a < 18446744073709551616 := by omega
  unfold bitOr
  rw [show IntKind.u64.bits = 64 from rfl, BitVec.toNat_or, BitVec.toNat_ofInt, BitVec.toNat_ofInt]
  rw [show ((a : Int) % ((2 ^ 64 : Nat) : Int)).toNat = a by omega, show ((z : Int) % ((2 ^ 64 : Nat) : Int)).toNat = z by omega]
  rw [Nat.or_comm, ← hor, wu64]
  unfold un
  omega
section
variable {B H : AHeap} {As : List Asn}
theorem u8s_app (a b : List Int) : u8s (a ++ b) = u8s a ++ u8s b := List.map_append
theorem L44 {v : Value} {out : List Int} {n : Int} {k : Nat} (hn : I64 n) (hk : k ≤ 8) (hl : out.length ≤ 1000000000) (hS : S B H (sl 1 v (u8s out) :: As)) : wpF C 44 [v, .int .i64 n, .int .i64 k] H fun w H' => S B H' (sl 1 w (u8s (out ++ leB (un n) k)) :: As) := by
  obtain ⟨a, c, rfl⟩ := S.u1 hS
  refine wpF_ofW o44 rfl rfl ?_
  refine zsr ?_; refine zw1 ?_; refine zns ?_; refine wp_seq ?_; refine zsr ?_; refine zw1 ?_; refine zw1 ?_; refine zns ?_; refine wp_block ?_
  refine wp_loop [0, 9] (fun m vs H' => ∃ (i : Nat) (a' : Option Addr) (c' : Nat), vs = [.slice a' (out.length + i) c', .int .i64 i] ∧ m = k - i ∧ i ≤ k ∧ S B H' (sl 1 (.slice a' (out.length + i) c') (u8s (out ++ leB (un n) i)) :: As)) ⟨_, 0, a, c, rfl, rfl, by omega, by simpa [leB] using hS⟩ ?_
  clear hS
  rintro m vs T' H1 ⟨i, a', c', rfl, rfl, hi, hS⟩
  refine zsr ?_; refine wpO_cons ?_; refine op1_lss rfl rfl rfl ?_; refine zns ?_; refine wp_seq ?_
  refine wp_dec rfl (fun hc => ?_) (fun hc => ?_)
  · refine wp_skip ?_; refine seq_normal ?_; refine wp_seq ?_; refine wp_block ?_; refine zsr ?_; refine zw1 ?_; refine zw1 ?_; refine zns ?_; refine wp_region ?_; refine zw1 ?_; refine zw1 ?_; refine wpO_cons ?_
    refine op1_convIntW rfl rfl ?_
    refine zw1 ?_; refine wpO_cons ?_; refine op1_mul rfl rfl rfl (by exact wrap_i64 (by omega) (by omega)) ?_; refine wpO_cons ?_
    refine op1_shr rfl rfl rfl (by omega) ?_
    refine wpO_cons ?_
    refine op1_convIntW rfl rfl ?_
    refine wpO_cons ?_; refine op1_bsliceS rfl hS ?_; refine bk_one (by (conv => lhs; whnf) <;> rfl) rfl rfl rfl ?_; refine bk_nil ?_; intro p1 H2 hS; refine wpO_cons ?_; (refine op1_appBS rfl rfl (by (conv => lhs; whnf) <;> rfl) rfl (S.g0 hS) rfl rfl (S.up1 hS) (by omega) ?_; intro a1 c1 H3 hS; replace hS := S.dn1 hS; replace hS := S.drop hS); refine zw1 ?_; refine wpO_nil ?_; refine block_normal ?_; refine seq_normal ?_; refine wp_region ?_; refine wpO_cons ?_; refine op1_add rfl rfl rfl (by exact wrap_i64 (by omega) (by omega)) ?_; refine zw1 ?_; refine wpO_nil ?_
    have e : IntKind.u8.wrap ((IntKind.u64.wrap n).fdiv (2 ^ (min (8 * (i : Int)).toNat IntKind.u64.bits))) = un n / 256 ^ i % 256 := shr_byte n i (by omega)
    refine iter_normal ⟨k - (i + 1), by omega, i + 1, a1, c1, rfl, rfl, by omega, ?_⟩
    rw [leB, ← e, ← List.append_assoc, u8s_app]
    exact hS
  · obtain rfl : i = k := by omega
    refine wp_exit ?_; refine seq_exit ?_; refine iter_exit ?_; refine block_exit ?_; refine seq_normal ?_; refine zsr ?_; refine zw1 ?_; refine zw1 ?_; refine zns ?_; refine wp_ret ?_; refine ret_of ?_; refine zr ?_; refine rk_nil ?_
    exact hS
theorem L45 {v : Value} {out : List Int} {n : Int} {k : Nat} (hn : U64 n) (hk : k ≤ 8) (hl : out.length ≤ 1000000000) (hS : S B H (sl 1 v (u8s out) :: As)) : wpF C 45 [v, .int .u64 n, .int .i64 k] H fun w H' => S B H' (sl 1 w (u8s (out ++ leB n k)) :: As) := by
  obtain ⟨a, c, rfl⟩ := S.u1 hS
  refine wpF_ofW o45 rfl rfl ?_
  refine zsr ?_; refine zw1 ?_; refine zns ?_; refine wp_seq ?_; refine zsr ?_; refine zw1 ?_; refine zns ?_; refine wp_block ?_
  refine wp_loop [0, 1, 7] (fun m vs H' => ∃ (i : Nat) (x : Int) (a' : Option Addr) (c' : Nat), vs = [.slice a' (out.length + i) c', .int .u64 x, .int .i64 i] ∧ m = k - i ∧ i ≤ k ∧ x = n / 256 ^ i ∧ S B H' (sl 1 (.slice a' (out.length + i) c') (u8s (out ++ leB n i)) :: As)) ⟨_, 0, n, a, c, rfl, rfl, by omega, by simp, by simpa [leB] using hS⟩ ?_
  clear hS
  rintro m vs T' H1 ⟨i, x, a', c', rfl, rfl, hi, hx, hS⟩
  refine wp_seq ?_; refine zsr ?_; refine zw1 ?_; refine zw1 ?_; refine wpO_cons ?_; refine op1_lss rfl rfl rfl ?_; refine zns ?_
  refine wp_dec rfl (fun hc => ?_) (fun hc => ?_)
  · refine wp_skip ?_; refine seq_normal ?_; refine wp_seq ?_; refine wp_block ?_; refine zsr ?_; refine zw1 ?_; refine zw1 ?_; refine wpO_cons ?_
    refine op1_convIntW rfl rfl ?_
    refine wpO_cons ?_; refine op1_bsliceS rfl hS ?_; refine bk_one (by (conv => lhs; whnf) <;> rfl) rfl rfl rfl ?_; refine bk_nil ?_; intro p1 H2 hS; refine wpO_cons ?_; (refine op1_appBS rfl rfl (by (conv => lhs; whnf) <;> rfl) rfl (S.g0 hS) rfl rfl (S.up1 hS) (by omega) ?_; intro a1 c1 H3 hS; replace hS := S.dn1 hS; replace hS := S.drop hS); refine zw1 ?_; refine zns ?_; refine wp_region ?_; refine zw1 ?_; refine wpO_cons ?_
    have hq : 0 ≤ x ∧ x ≤ 18446744073709551615 := by
      have h1 := Int.ediv_nonneg hn.1 (Int.le_of_lt (p256 i))
      have h2 := Int.ediv_le_self (256 ^ i) hn.1
      unfold U64 at hn
      omega
    refine op1_quo rfl rfl rfl (by decide) ?_ ?_
    · rw [Int.tdiv_eq_ediv_of_nonneg hq.1, wu64]
      unfold un
      omega
    rw [Int.tdiv_eq_ediv_of_nonneg hq.1]
    refine zw1 ?_; refine wpO_nil ?_; refine block_normal ?_; refine seq_normal ?_; refine wp_region ?_; refine zw1 ?_; refine wpO_cons ?_; refine op1_add rfl rfl rfl (by exact wrap_i64 (by omega) (by omega)) ?_; refine zw1 ?_; refine wpO_nil ?_
    refine iter_normal ⟨k - (i + 1), by omega, i + 1, _, a1, c1, rfl, rfl, by omega, ?_, ?_⟩
    · rw [Int.pow_succ, ← Int.ediv_ediv_of_nonneg (Int.le_of_lt (p256 i)), hx]
    rw [leB, ← hx, ← wu8, ← List.append_assoc, u8s_app]
    exact hS
  · obtain rfl : i = k := by omega
    refine wp_exit ?_; refine seq_exit ?_; refine iter_exit ?_; refine block_exit ?_; refine seq_normal ?_; refine zsr ?_; refine zw1 ?_; refine zw1 ?_; refine zns ?_; refine wp_ret ?_; refine ret_of ?_; refine zr ?_; refine rk_nil ?_
    exact hS
theorem L48 {v : Value} {l : List Int} {r : List Nat} (hd : RdS H 1 v (u8s l) r) (hb : ∀ b ∈ l, 0 ≤ b ∧ b ≤ 255) (hl : l.length ≤ 8) : wpF C 48 [v] H fun w H' => w = .int .i64 (IntKind.i64.wrap (valB l)) ∧ H = H' := by
  obtain ⟨a, c, rfl⟩ := hd.u1
  refine wpF_ofW o48 rfl rfl ?_
  refine zsr ?_; refine zw1 ?_; refine zns ?_; refine zsr ?_; refine zw1 ?_; refine zns ?_; refine wp_seq ?_; refine zsr ?_; refine zw1 ?_; refine wpO_cons ?_; refine op1_len rfl rfl ?_; refine zw1 ?_; refine zns ?_; refine wp_block ?_
  refine wp_loop [3, 8] (fun m vs H' => ∃ (i : Nat), vs = [.int .u64 (valB (l.take i)), .int .i64 i] ∧ m = l.length - i ∧ i ≤ l.length ∧ H = H') ⟨_, 0, rfl, rfl, by omega, rfl⟩ ?_
  rintro m vs T' H1 ⟨i, rfl, rfl, hi, rfl⟩
  refine zsr ?_; refine wpO_cons ?_; refine op1_lss rfl rfl rfl ?_; refine zns ?_; refine wp_seq ?_
  refine wp_dec rfl (fun hc => ?_) (fun hc => ?_)
  · obtain ⟨b, off, cs, e, ro, v, rfl, _, hg, hv, hx⟩ := hd.at1 (i := i) (by omega)
    obtain ⟨y, hy, rfl⟩ := u8s_get hx
    have hyb := hb y (List.mem_of_getElem? hy)
    refine wp_skip ?_; refine seq_normal ?_; refine wp_seq ?_; refine wp_block ?_; refine zsr ?_; refine zw1 ?_; refine wpO_cons ?_; refine op1_iaddr rfl rfl rfl (by omega) (by omega) ?_; refine wpO_cons ?_
    refine op1_load rfl rfl hg hv ?_
    refine zw1 ?_; refine zw1 ?_; refine zns ?_; refine wp_region ?_; refine zw1 ?_; refine zw1 ?_; refine wpO_cons ?_; refine op1_convInt rfl rfl (by exact wrap_u64 (by omega) (by omega)) ?_; refine zw1 ?_; refine wpO_cons ?_; refine op1_mul rfl rfl rfl (by exact wrap_i64 (by omega) (by omega)) ?_; refine wpO_cons ?_
    refine op1_shl rfl rfl rfl (by omega) ?_
    refine wpO_cons ?_; refine op1_or rfl rfl rfl ?_; refine zw1 ?_; refine wpO_nil ?_; refine block_normal ?_; refine seq_normal ?_; refine wp_region ?_; refine wpO_cons ?_; refine op1_add rfl rfl rfl (by exact wrap_i64 (by omega) (by omega)) ?_; refine zw1 ?_; refine wpO_nil ?_
    have ht : (l.take i).length = i := by rw [List.length_take]; omega
    have hvb := valB_b (l.take i) fun b hb' => hb b (List.mem_of_mem_take hb')
    rw [ht] at hvb
    refine iter_normal ⟨l.length - (i + 1), by omega, i + 1, ?_, rfl, by omega, rfl⟩
    rw [List.take_add_one, hy, Option.toList_some, valB_app, ht, ← or_byte hvb hyb (by omega)]
    rfl
  · rw [List.take_of_length_le (by omega)]
    refine wp_exit ?_; refine seq_exit ?_; refine iter_exit ?_; refine block_exit ?_; refine seq_normal ?_; refine zsr ?_; refine zw1 ?_; refine wpO_cons ?_
    refine op1_convIntW rfl rfl ?_
    refine zw1 ?_; refine zns ?_; refine wp_ret ?_; refine ret_of ?_; refine zr ?_; refine rk_nil ?_
    exact ⟨rfl, rfl⟩
theorem L49 {v : Value} {l : List Int} {r : List Nat} {at_ n : Nat} (hd : RdS H 1 v (u8s l) r) (hb : ∀ b ∈ l, 0 ≤ b ∧ b ≤ 255) (hn : n ≤ 8) (hl : at_ + n ≤ l.length) (hll : l.length ≤ 1000000000) : wpF C 49 [v, .int .i64 at_, .int .i64 n] H fun w H' => w = .int .u64 (valB ((l.drop at_).take n)) ∧ H = H' := by
  obtain ⟨a, c, rfl⟩ := hd.u1
  refine wpF_ofW o49 rfl rfl ?_
  have hln : ((l.drop at_).take n).length = n := by rw [List.length_take, List.length_drop]; omega
  obtain ⟨m, hm⟩ : ∃ m, m = (l.drop at_).take n := ⟨_, rfl⟩
  rw [← hm] at hln ⊢
  have hmb : ∀ b ∈ m, 0 ≤ b ∧ b ≤ 255 := fun b h => hb b (by rw [hm] at h; exact List.mem_of_mem_drop (List.mem_of_mem_take h))
  refine zsr ?_; refine zw1 ?_; refine zns ?_; refine zsr ?_; refine zw1 ?_; refine zns ?_; refine wp_seq ?_; refine zsr ?_; refine zw1 ?_; refine wpO_cons ?_; refine op1_sub rfl rfl rfl (by exact wrap_i64 (by omega) (by omega)) ?_; refine zw1 ?_; refine zns ?_; refine wp_block ?_
  refine wp_loop [7, 8] (fun k vs H' => ∃ (i : Nat), vs = [.int .u64 (valB (m.drop i)), .int .i64 ((i : Int) - 1)] ∧ k = i ∧ i ≤ n ∧ H = H') ⟨_, n, by rw [← hln, List.drop_length]; rfl, rfl, by omega, rfl⟩ ?_
  rintro k vs T' H1 ⟨i, rfl, hki, hi, rfl⟩
  refine wp_seq ?_; refine zsr ?_; refine zw1 ?_; refine wpO_cons ?_; refine op1_geq rfl rfl rfl ?_; refine zns ?_
  refine wp_dec rfl (fun hc => ?_) (fun hc => ?_)
  · obtain ⟨b, off, cs, e, ro, v, rfl, _, hg, hv, hx⟩ := hd.at1 (i := at_ + (i - 1)) (by omega)
    obtain ⟨y, hy, rfl⟩ := u8s_get hx
    have hyb := hb y (List.mem_of_getElem? hy)
    have hvb := valB_b (m.drop i) fun b hb' => hmb b (List.mem_of_mem_drop hb')
    rw [List.length_drop, hln] at hvb
    have hp : (256 : Int) ^ (n - i) * 256 ≤ 18446744073709551616 := by
      rw [← Int.pow_succ]
      have : n - i = 0 ∨ n - i = 1 ∨ n - i = 2 ∨ n - i = 3 ∨ n - i = 4 ∨ n - i = 5 ∨ n - i = 6 ∨ n - i = 7 := by omega
      rcases this with h | h | h | h | h | h | h | h <;> rw [h] <;> decide
    generalize (256 : Int) ^ (n - i) = q at hvb hp
    have hstep : valB (m.drop (i - 1)) = y + 256 * valB (m.drop i) := by
      have hg2 : m[i - 1]? = some y := by rw [hm, List.getElem?_take, if_pos (by omega), List.getElem?_drop]; exact hy
      obtain ⟨h1, h2⟩ := List.getElem?_eq_some_iff.1 hg2
      rw [List.drop_eq_getElem_cons h1, h2, valB, show i - 1 + 1 = i by omega]
    refine wp_skip ?_; refine seq_normal ?_; refine wp_seq ?_; refine wp_block ?_; refine wp_region ?_; refine zw1 ?_; refine wpO_cons ?_; refine op1_mul rfl rfl rfl (by exact wrap_u64 (by omega) (by omega)) ?_; refine zw1 ?_; refine zw1 ?_; refine zw1 ?_; refine wpO_cons ?_; refine op1_add rfl rfl rfl (by exact wrap_i64 (by omega) (by omega)) ?_; refine wpO_cons ?_; refine op1_iaddr rfl rfl rfl (by omega) (by omega) ?_; refine wpO_cons ?_
    refine op1_load rfl (by rw [show ((at_ : Int) + ((i : Int) - 1)).toNat = at_ + (i - 1) by omega]; rfl) hg hv ?_
    refine wpO_cons ?_; refine op1_convInt rfl rfl (by exact wrap_u64 (by omega) (by omega)) ?_; refine wpO_cons ?_; refine op1_add rfl rfl rfl (by exact wrap_u64 (by omega) (by omega)) ?_; refine zw1 ?_; refine wpO_nil ?_; refine block_normal ?_; refine seq_normal ?_; refine wp_region ?_; refine zw1 ?_; refine wpO_cons ?_; refine op1_sub rfl rfl rfl (by exact wrap_i64 (by omega) (by omega)) ?_; refine zw1 ?_; refine wpO_nil ?_
    refine iter_normal ⟨i - 1, by omega, i - 1, ?_, rfl, by omega, rfl⟩
    rw [hstep, show y + 256 * valB (m.drop i) = valB (m.drop i) * 256 + y by omega, show ((i - 1 : Nat) : Int) = (i : Int) - 1 by omega]
    rfl
  · obtain rfl : i = 0 := by omega
    refine wp_exit ?_; refine seq_exit ?_; refine iter_exit ?_; refine block_exit ?_; refine seq_normal ?_; refine zsr ?_; refine zw1 ?_; refine zw1 ?_; refine zns ?_; refine wp_ret ?_; refine ret_of ?_; refine zr ?_; refine rk_nil ?_
    exact ⟨rfl, rfl⟩
end
end Go.E.Cb
/- Combine: names. -/
namespace Go.E.Cb
open Go Go.E Go.Proofs.YtnbjnjichhepiaaDoor.base Go.Proofs.YtnbjnjichhepiaaDoor Go.Proofs
set_option linter.unusedVariables false
set_option linter.unusedSimpArgs false
set_option maxRecDepth 100000
section
variable {C : Callees} {T : FEnv} {B H : AHeap} {As : List Asn} {K : KO} {x y : NOpd} {d : Nat} {g : Option (Nat × Bool)}
end
def badC (c : UInt8) : Prop := c.toNat = 47 ∨ c.toNat = 0
instance (c : UInt8) : Decidable (badC c) := by unfold badC; infer_instance
section
variable {B H : AHeap} {As : List Asn}
def badS (s : ByteArray) : Prop := ∃ c ∈ s.data.toList, badC c
instance (s : ByteArray) : Decidable (badS s) := by unfold badS; infer_instance
end
end Go.E.Cb
/- Combine: Check. -/
namespace Go.E.Cb
open Go Go.E Go.Proofs.YtnbjnjichhepiaaDoor.base Go.Proofs.YtnbjnjichhepiaaDoor Go.Proofs
set_option linter.unusedVariables false
set_option linter.unusedSimpArgs false
set_option maxRecDepth 100000
structure Pt where
  kind : Int
  hnd : Int
  off : Int
  cnt : Int
  name : ByteArray
  data : List Int
def Pt.cells (p : Pt) (v : Value) : List Value := [.int .i64 p.kind, .int .i64 p.hnd, .int .i64 p.off, .int .i64 p.cnt, .string p.name, v]
structure PtN (p : Pt) : Prop where
  kind : I64 p.kind
  hnd : I64 p.hnd
  off : I64 p.off
  cnt : I64 p.cnt
  name : p.name.size ≤ 9223372036854775807
  data : p.data.length ≤ 9223372036854775807
  byte : ∀ b ∈ p.data, 0 ≤ b ∧ b ≤ 255
def uN (k : Int) : Bool := decide (k = 0 ∨ k = 7)
def uH (k : Int) : Bool := decide (k ≠ 0 ∧ k ≠ 7)
def uC (k : Int) : Bool := decide (k = 0 ∨ k = 2)
def uO (k : Int) : Bool := decide (k = 4 ∨ k = 6)
def uD (k : Int) : Bool := decide (k = 3)
def badU (p : Pt) : Prop := (uN p.kind = false ∧ p.name.size ≠ 0) ∨ (uH p.kind = false ∧ p.hnd ≠ 0) ∨ (uC p.kind = false ∧ p.cnt ≠ 0) ∨ (uO p.kind = false ∧ p.off ≠ 0) ∨ (uD p.kind = false ∧ 0 < p.data.length)
instance (p : Pt) : Decidable (badU p) := by unfold badU; infer_instance
def mostC (k : Int) : Int := if k = 0 then 2 else 16384
def badR (p : Pt) : Prop := p.hnd < -1 ∨ 2147483647 < p.hnd ∨ p.cnt < 0 ∨ mostC p.kind < p.cnt ∨ p.off < 0 ∨ 16384 < p.off
instance (p : Pt) : Decidable (badR p) := by unfold badR; infer_instance
section
variable {B H : AHeap} {As : List Asn}
end
end Go.E.Cb
