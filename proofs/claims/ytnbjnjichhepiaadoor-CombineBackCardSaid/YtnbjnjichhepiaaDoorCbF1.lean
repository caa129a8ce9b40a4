/- Combine: numbers as bytes. -/
import Derived.Test.YtnbjnjichhepiaaDoorCbCode
import Derived.Laws.Bits64
import Derived.Laws.BitsLemmas
namespace Go.E.Cb
open Go Go.E Go.Proofs.YtnbjnjichhepiaaDoor.base Go.Proofs.YtnbjnjichhepiaaDoor Go.Proofs
set_option linter.unusedVariables false
set_option linter.unusedSimpArgs false
set_option maxRecDepth 100000
abbrev I64 (x : Int) : Prop := -9223372036854775808 ≤ x ∧ x ≤ 9223372036854775807
def un (x : Int) : Int := x % 18446744073709551616
theorem wu64 (x : Int) : IntKind.u64.wrap x = un x := IntKind.wrap_u64 x
theorem wu8 (x : Int) : IntKind.u8.wrap x = x % 256 := IntKind.wrap_u8 x
def leB (x : Int) : Nat → List Int
  | 0 => []
  | k + 1 => leB x k ++ [x / 256 ^ k % 256]
def valB : List Int → Int
  | [] => 0
  | b :: l => b + 256 * valB l
theorem leB_len (x : Int) (k : Nat) : (leB x k).length = k := by
  induction k with
  | zero => rfl
  | succ k ih => rw [leB, List.length_append, ih]; rfl
theorem leB_byte (x : Int) (k : Nat) : ∀ b ∈ leB x k, 0 ≤ b ∧ b ≤ 255 := by
  induction k with
  | zero => intro b h; cases h
  | succ k ih =>
    intro b h
    rcases List.mem_append.1 h with h | h
    · exact ih b h
    · simp only [List.mem_singleton] at h
      omega
theorem valB_app (l : List Int) (b : Int) : valB (l ++ [b]) = valB l + b * 256 ^ l.length := by
  induction l with
  | nil => simp [valB]
  | cons c l ih =>
    rw [List.cons_append, valB, ih, valB, List.length_cons, Int.pow_succ]
    rw [Int.mul_add, ← Int.mul_assoc, Int.mul_comm 256 b, Int.mul_assoc b 256, Int.mul_comm 256 (256 ^ l.length)]
    omega
theorem p256 (k : Nat) : (0 : Int) < 256 ^ k := by
  induction k with
  | zero => decide
  | succ k ih => rw [Int.pow_succ]; omega
theorem valB_leB (x : Int) (k : Nat) : valB (leB x k) = x % 256 ^ k := by
  induction k with
  | zero => simp [leB, valB, Int.emod_one]
  | succ k ih =>
    rw [leB, valB_app, ih, leB_len, Int.pow_succ]
    have h1 := Int.emod_emod_of_dvd x (⟨256, rfl⟩ : (256 ^ k : Int) ∣ 256 ^ k * 256)
    have h2 : x % (256 ^ k * 256) = x - 256 ^ k * 256 * (x / (256 ^ k * 256)) := Int.emod_def _ _
    have h3 : x % 256 ^ k = x - 256 ^ k * (x / 256 ^ k) := Int.emod_def _ _
    have h4 : x / 256 ^ k % 256 = x / 256 ^ k - 256 * (x / 256 ^ k / 256) := Int.emod_def _ _
    have h5 : x / 256 ^ k / 256 = x / (256 ^ k * 256) := Int.ediv_ediv_of_nonneg (Int.le_of_lt (p256 k))
    rw [h2, h3, h4, h5]
    generalize x / 256 ^ k = a
    generalize x / (256 ^ k * 256) = c
    generalize (256 ^ k : Int) = m
    rw [Int.sub_mul, Int.mul_comm m a, Int.mul_assoc 256 c m, Int.mul_comm c m, ← Int.mul_assoc 256 m c, Int.mul_comm 256 m]
    omega
theorem valB_b (l : List Int) (h : ∀ b ∈ l, 0 ≤ b ∧ b ≤ 255) : 0 ≤ valB l ∧ valB l < 256 ^ l.length := by
  induction l with
  | nil => decide
  | cons c l ih =>
    have h1 := h c (by simp)
    have h2 := ih fun b hb => h b (by simp [hb])
    rw [valB, List.length_cons, Int.pow_succ]
    omega
theorem leB_cons {b v : Int} (h : 0 ≤ b ∧ b ≤ 255) (k : Nat) : leB (b + 256 * v) (k + 1) = b :: leB v k := by
  induction k with
  | zero =>
    simp only [leB, List.nil_append, Int.pow_zero, Int.ediv_one]
    rw [show (b + 256 * v) % 256 = b by omega]
  | succ k ih =>
    rw [leB, ih, leB, List.cons_append]
    congr 3
    rw [Int.pow_succ, Int.mul_comm (256 ^ k) 256, ← Int.ediv_ediv_of_nonneg (show (0 : Int) ≤ 256 by decide), show (b + 256 * v) / 256 = v by omega]
theorem leB_valB (l : List Int) (h : ∀ b ∈ l, 0 ≤ b ∧ b ≤ 255) : leB (valB l) l.length = l := by
  induction l with
  | nil => rfl
  | cons b l ih => rw [valB, List.length_cons, leB_cons (h b (by simp)), ih fun c hc => h c (by simp [hc])]
theorem leB_mod (x : Int) (k n : Nat) (h : k ≤ n) : leB (x % 256 ^ n) k = leB x k := by
  induction k with
  | zero => rfl
  | succ k ih =>
    rw [leB, leB, ih (by omega)]
    congr 2
    obtain ⟨d, rfl⟩ : ∃ d, n = k + 1 + d := ⟨n - (k + 1), by omega⟩
    have h1 : x = x % 256 ^ (k + 1 + d) + 256 ^ (k + 1 + d) * (x / 256 ^ (k + 1 + d)) := (Int.emod_add_mul_ediv _ _).symm
    have h2 : (256 : Int) ^ (k + 1 + d) * (x / 256 ^ (k + 1 + d)) = 256 ^ k * (256 * (256 ^ d * (x / 256 ^ (k + 1 + d)))) := by rw [Int.pow_add, Int.pow_succ, Int.mul_assoc, Int.mul_assoc]
    rw [h2] at h1
    generalize x % 256 ^ (k + 1 + d) = y at h1
    generalize (256 ^ d * (x / 256 ^ (k + 1 + d)) : Int) = z at h1
    rw [h1, Int.add_mul_ediv_left _ _ (Int.ne_of_gt (p256 k))]
    omega
theorem shr_byte (n : Int) (i : Nat) (h : i < 8) : IntKind.u8.wrap ((IntKind.u64.wrap n).fdiv (2 ^ (min (8 * (i : Int)).toNat IntKind.u64.bits))) = un n / 256 ^ i % 256 := by
  have e : min (8 * (i : Int)).toNat IntKind.u64.bits = 8 * i := by
    have : IntKind.u64.bits = 64 := rfl
    omega
  have e2 : (2 : Int) ^ (8 * i) = 256 ^ i := by rw [Int.pow_mul]; rfl
  rw [wu8, wu64, e, e2, Int.fdiv_eq_ediv_of_nonneg _ (Int.le_of_lt (p256 i))]
theorem or_byte {v y : Int} {i : Nat} (hv : 0 ≤ v ∧ v < 256 ^ i) (hy : 0 ≤ y ∧ y ≤ 255) (h : i < 8) : bitOr .u64 v (IntKind.u64.wrap (y * 2 ^ (min (8 * (i : Int)).toNat IntKind.u64.bits))) = v + y * 256 ^ i := by
  have e : min (8 * (i : Int)).toNat IntKind.u64.bits = 8 * i := by
    have : IntKind.u64.bits = 64 := rfl
    omega
  have e2 : (2 : Int) ^ (8 * i) = 256 ^ i := by rw [Int.pow_mul]; rfl
  have e3 : (256 : Int) ^ i * 256 ≤ 18446744073709551616 := by
    rw [← Int.pow_succ]
    have : i = 0 ∨ i = 1 ∨ i = 2 ∨ i = 3 ∨ i = 4 ∨ i = 5 ∨ i = 6 ∨ i = 7 := by omega
    rcases this with rfl | rfl | rfl | rfl | rfl | rfl | rfl | rfl <;> decide
  have e4 : y * 256 ^ i ≤ 255 * 256 ^ i := Int.mul_le_mul_of_nonneg_right hy.2 (Int.le_of_lt (p256 i))
  have e5 : 0 ≤ y * 256 ^ i := Int.mul_nonneg hy.1 (Int.le_of_lt (p256 i))
  rw [e, e2, wu64, show un (y * 256 ^ i) = y * 256 ^ i by unfold un; omega]
  obtain ⟨a, rfl⟩ := Int.eq_ofNat_of_zero_le hv.1
  obtain ⟨b, rfl⟩ := Int.eq_ofNat_of_zero_le hy.1
  have ha : a < 2 ^ (8 * i) := by
    have : (a : Int) < ((2 ^ (8 * i) : Nat) : Int) := by rw [Int.natCast_pow]; rw [show ((2 : Nat) : Int) = 2 from rfl, e2]; exact hv.2
    exact Int.ofNat_lt.1 this
  have hz : ((b : Int) * 256 ^ i) = ((2 ^ (8 * i) * b : Nat) : Int) := by rw [Int.natCast_mul, Int.natCast_pow, show ((2 : Nat) : Int) = 2 from rfl, e2, Int.mul_comm]
  rw [hz] at e4 e5 ⊢
  have hor := Nat.two_pow_add_eq_or_of_lt ha b
  generalize 2 ^ (8 * i) * b = z at e4 e5 hor ⊢
  have hv2 := hv.2
  generalize (256 : Int) ^ i = q at e3 e4 hv2
  have hm : z < 18446744073709551616 := by omega
  have ha2 : a < 18446744073709551616 := by omega
  unfold bitOr
  rw [show IntKind.u64.bits = 64 from rfl, BitVec.toNat_or, BitVec.toNat_ofInt, BitVec.toNat_ofInt]
  rw [show ((a : Int) % ((2 ^ 64 : Nat) : Int)).toNat = a by omega, show ((z : Int) % ((2 ^ 64 : Nat) : Int)).toNat = z by omega]
  rw [Nat.or_comm, ← hor, wu64]
  unfold un
  omega
section
variable {B H : AHeap} {As : List Asn}
theorem u8s_app (a b : List Int) : u8s (a ++ b) = u8s a ++ u8s b := List.map_append
theorem L44 {v : Value} {out : List Int} {n : Int} {k : Nat} (hn : I64 n) (hk : k ≤ 8) (hl : out.length ≤ 1000000000) (hS : S B H (sl 1 v (u8s out) :: As)) : wpF C 44 [v, .int .i64 n, .int .i64 k] H fun w H' => S B H' (sl 1 w (u8s (out ++ leB (un n) k)) :: As) := by
  obtain ⟨a, c, rfl⟩ := S.u1 hS
  refine wpF_ofW o44 rfl rfl ?_
  refine zsr ?_; refine zw1 ?_; refine zns ?_; refine wp_seq ?_; refine zsr ?_; refine zw1 ?_; refine zw1 ?_; refine zns ?_; refine wp_block ?_
  refine wp_loop [0, 9] (fun m vs H' => ∃ (i : Nat) (a' : Option Addr) (c' : Nat), vs = [.slice a' (out.length + i) c', .int .i64 i] ∧ m = k - i ∧ i ≤ k ∧ S B H' (sl 1 (.slice a' (out.length + i) c') (u8s (out ++ leB (un n) i)) :: As)) ⟨_, 0, a, c, rfl, rfl, by omega, by simpa [leB] using hS⟩ ?_
  clear hS
  rintro m vs T' H1 ⟨i, a', c', rfl, rfl, hi, hS⟩
  refine zsr ?_; refine wpO_cons ?_; refine op1_lss rfl rfl rfl ?_; refine zns ?_; refine wp_seq ?_
  refine wp_dec rfl (fun hc => ?_) (fun hc => ?_)
  · refine wp_skip ?_; refine seq_normal ?_; refine wp_seq ?_; refine wp_block ?_; refine zsr ?_; refine zw1 ?_; refine zw1 ?_; refine zns ?_; refine wp_region ?_; refine zw1 ?_; refine zw1 ?_; refine wpO_cons ?_
    refine op1_convIntW rfl rfl ?_
    refine zw1 ?_; refine wpO_cons ?_; refine op1_mul rfl rfl rfl (by exact wrap_i64 (by omega) (by omega)) ?_; refine wpO_cons ?_
    refine op1_shr rfl rfl rfl (by omega) ?_
    refine wpO_cons ?_
    refine op1_convIntW rfl rfl ?_
    refine wpO_cons ?_; refine op1_bsliceS rfl hS ?_; refine bk_one (by (conv => lhs; whnf) <;> rfl) rfl rfl rfl ?_; refine bk_nil ?_; intro p1 H2 hS; refine wpO_cons ?_; (refine op1_appBS rfl rfl (by (conv => lhs; whnf) <;> rfl) rfl (S.g0 hS) rfl rfl (S.up1 hS) (by omega) ?_; intro a1 c1 H3 hS; replace hS := S.dn1 hS; replace hS := S.drop hS); refine zw1 ?_; refine wpO_nil ?_; refine block_normal ?_; refine seq_normal ?_; refine wp_region ?_; refine wpO_cons ?_; refine op1_add rfl rfl rfl (by exact wrap_i64 (by omega) (by omega)) ?_; refine zw1 ?_; refine wpO_nil ?_
    have e : IntKind.u8.wrap ((IntKind.u64.wrap n).fdiv (2 ^ (min (8 * (i : Int)).toNat IntKind.u64.bits))) = un n / 256 ^ i % 256 := shr_byte n i (by omega)
    refine iter_normal ⟨k - (i + 1), by omega, i + 1, a1, c1, rfl, rfl, by omega, ?_⟩
    rw [leB, ← e, ← List.append_assoc, u8s_app]
    exact hS
  · obtain rfl : i = k := by omega
    refine wp_exit ?_; refine seq_exit ?_; refine iter_exit ?_; refine block_exit ?_; refine seq_normal ?_; refine zsr ?_; refine zw1 ?_; refine zw1 ?_; refine zns ?_; refine wp_ret ?_; refine ret_of ?_; refine zr ?_; refine rk_nil ?_
    exact hS
theorem L48 {v : Value} {l : List Int} {r : List Nat} (hd : RdS H 1 v (u8s l) r) (hb : ∀ b ∈ l, 0 ≤ b ∧ b ≤ 255) (hl : l.length ≤ 8) : wpF C 48 [v] H fun w H' => w = .int .i64 (IntKind.i64.wrap (valB l)) ∧ H = H' := by
  obtain ⟨a, c, rfl⟩ := hd.u1
  refine wpF_ofW o48 rfl rfl ?_
  refine zsr ?_; refine zw1 ?_; refine zns ?_; refine zsr ?_; refine zw1 ?_; refine zns ?_; refine wp_seq ?_; refine zsr ?_; refine zw1 ?_; refine wpO_cons ?_; refine op1_len rfl rfl ?_; refine zw1 ?_; refine zns ?_; refine wp_block ?_
  refine wp_loop [3, 8] (fun m vs H' => ∃ (i : Nat), vs = [.int .u64 (valB (l.take i)), .int .i64 i] ∧ m = l.length - i ∧ i ≤ l.length ∧ H = H') ⟨_, 0, rfl, rfl, by omega, rfl⟩ ?_
  rintro m vs T' H1 ⟨i, rfl, rfl, hi, rfl⟩
  refine zsr ?_; refine wpO_cons ?_; refine op1_lss rfl rfl rfl ?_; refine zns ?_; refine wp_seq ?_
  refine wp_dec rfl (fun hc => ?_) (fun hc => ?_)
  · obtain ⟨b, off, cs, e, ro, v, rfl, _, hg, hv, hx⟩ := hd.at1 (i := i) (by omega)
    obtain ⟨y, hy, rfl⟩ := u8s_get hx
    have hyb := hb y (List.mem_of_getElem? hy)
    refine wp_skip ?_; refine seq_normal ?_; refine wp_seq ?_; refine wp_block ?_; refine zsr ?_; refine zw1 ?_; refine wpO_cons ?_; refine op1_iaddr rfl rfl rfl (by omega) (by omega) ?_; refine wpO_cons ?_
    refine op1_load rfl rfl hg hv ?_
    refine zw1 ?_; refine zw1 ?_; refine zns ?_; refine wp_region ?_; refine zw1 ?_; refine zw1 ?_; refine wpO_cons ?_; refine op1_convInt rfl rfl (by exact wrap_u64 (by omega) (by omega)) ?_; refine zw1 ?_; refine wpO_cons ?_; refine op1_mul rfl rfl rfl (by exact wrap_i64 (by omega) (by omega)) ?_; refine wpO_cons ?_
    refine op1_shl rfl rfl rfl (by omega) ?_
    refine wpO_cons ?_; refine op1_or rfl rfl rfl ?_; refine zw1 ?_; refine wpO_nil ?_; refine block_normal ?_; refine seq_normal ?_; refine wp_region ?_; refine wpO_cons ?_; refine op1_add rfl rfl rfl (by exact wrap_i64 (by omega) (by omega)) ?_; refine zw1 ?_; refine wpO_nil ?_
    have ht : (l.take i).length = i := by rw [List.length_take]; omega
    have hvb := valB_b (l.take i) fun b hb' => hb b (List.mem_of_mem_take hb')
    rw [ht] at hvb
    refine iter_normal ⟨l.length - (i + 1), by omega, i + 1, ?_, rfl, by omega, rfl⟩
    rw [List.take_add_one, hy, Option.toList_some, valB_app, ht, ← or_byte hvb hyb (by omega)]
    rfl
  · rw [List.take_of_length_le (by omega)]
    refine wp_exit ?_; refine seq_exit ?_; refine iter_exit ?_; refine block_exit ?_; refine seq_normal ?_; refine zsr ?_; refine zw1 ?_; refine wpO_cons ?_
    refine op1_convIntW rfl rfl ?_
    refine zw1 ?_; refine zns ?_; refine wp_ret ?_; refine ret_of ?_; refine zr ?_; refine rk_nil ?_
    exact ⟨rfl, rfl⟩
end
end Go.E.Cb
/- Combine: names. -/
namespace Go.E.Cb
open Go Go.E Go.Proofs.YtnbjnjichhepiaaDoor.base Go.Proofs.YtnbjnjichhepiaaDoor Go.Proofs
set_option linter.unusedVariables false
set_option linter.unusedSimpArgs false
set_option maxRecDepth 100000
section
variable {C : Callees} {T : FEnv} {B H : AHeap} {As : List Asn} {K : KO} {x y : NOpd} {d : Nat} {g : Option (Nat × Bool)}
theorem op1_ixByte {s : ByteArray} {c : Int} (hw : wantedF g T = true) (hx : x.evF T = .string s) (hy : y.evF T = .int .u8 c) (k : K (upd T d (.int .i64 (Go.Lib.indexByte s.data.toList c.toNat.toUInt8))) H) : op1 C ⟨some d, .ixByteS x y, g⟩ T H K := by
  refine op1_val hw ?_ k
  simp only [NOp.sub, eop, ev_subF, hx, hy]
theorem op1_sliceStr {lo hi : Option NOpd} {s : ByteArray} {i h m : Nat} (hw : wantedF g T = true) (hx : x.evF T = .string s) (hb : sliceBnds s.size s.size (lo.map (·.evF T)) (hi.map (·.evF T)) none = some (i, h, m)) (k : K (upd T d (.string (s.extract i h))) H) : op1 C ⟨some d, .sliceStr x lo hi, g⟩ T H K := by
  refine op1_val hw ?_ k
  simp only [NOp.sub, eop, ev_subF, hx, subOpt_ev', subOpt_none, Option.map_none, hb, Option.bind_some]
theorem op1_rangeStr {s : ByteArray} (hw : wantedF g T = true) (hx : x.evF T = .string s) (hS : S B H As) (kk : ∀ p H', S B H' (pto p (.siter s 0) :: As) → K (upd T d (.pointer (some ⟨p, 0, none⟩))) H') : op1 C ⟨some d, .rangeS x, g⟩ T H K := by
  refine op1_val hw ?_ (kk _ _ (hS.add _))
  simp only [NOp.sub, eop, ev_subF, hx]
theorem op1_nextStr {s : ByteArray} {p pos : Nat} (hw : wantedF g T = true) (hx : x.evF T = .pointer (some ⟨p, 0, none⟩)) (hS : S B H (pto p (.siter s pos) :: As)) (k1 : ¬ pos < s.size → K (upd T d (.tuple ⟨[.bool false]⟩)) H)
    (k2 : pos < s.size → ∀ H', S B H' (pto p (.siter s (pos + (Utf8.decode s pos).2)) :: As) → K (upd T d (.tuple ⟨[.bool true, .int .i64 pos, .int .i32 (Utf8.decode s pos).1]⟩)) H') : op1 C ⟨some d, .nextS x, g⟩ T H K := by
  by_cases h : pos < s.size
  · refine op1_val hw ?_ (k2 h _ (hS.set _))
    simp only [NOp.sub, eop, ev_subF, hx, hS.get, if_true, if_pos h]
  · refine op1_val hw ?_ (k1 h)
    simp only [NOp.sub, eop, ev_subF, hx, hS.get, if_true, if_neg h]
end
def badC (c : UInt8) : Prop := c.toNat = 47 ∨ c.toNat = 0
instance (c : UInt8) : Decidable (badC c) := by unfold badC; infer_instance
theorem get_bang {s : ByteArray} {i : Nat} {c : UInt8} (h : s.data.toList[i]? = some c) : s.get! i = c := by
  have h2 : s.data[i]? = some c := by rw [← h]; simp
  show s.data[i]! = c
  rw [Array.getElem!_eq_getD, Array.getD_eq_getD_getElem?, h2]
  rfl
theorem get_has {s : ByteArray} {i : Nat} (h : i < s.size) : ∃ c, s.data.toList[i]? = some c := ⟨_, List.getElem?_eq_getElem (by simpa using h)⟩
theorem dec_ok {s : ByteArray} {i : Nat} {c : UInt8} (h : s.data.toList[i]? = some c) :
    1 ≤ (Utf8.decode s i).2 ∧ i + (Utf8.decode s i).2 ≤ s.size ∧ ((c.toNat < 128 ∧ Utf8.decode s i = (c.toNat, 1)) ∨
      (128 ≤ c.toNat ∧ 128 ≤ (Utf8.decode s i).1 ∧ (Utf8.decode s i).1 ≤ 1114111 ∧ ∀ j, j < (Utf8.decode s i).2 → ∀ c', s.data.toList[i + j]? = some c' → ¬ badC c')) := by
  have hi : i < s.size := by have := (List.getElem?_eq_some_iff.1 h).1; simpa using this
  have h0 : (s.get! (i + 0)).toNat = c.toNat := by rw [Nat.add_zero, get_bang h]
  have hb : ∀ k, (s.get! (i + k)).toNat ≥ 128 → ∀ c', s.data.toList[i + k]? = some c' → ¬ badC c' := by
    intro k h1 c' h2 h3
    rw [get_bang h2] at h1
    unfold badC at h3
    omega
  by_cases hc : c.toNat < 128
  · have e : Utf8.decode s i = (c.toNat, 1) := by
      unfold Utf8.decode
      simp only [h0, if_pos hc]
    rw [e]
    exact ⟨Nat.le_refl _, by simp only; omega, .inl ⟨hc, rfl⟩⟩
  · have key : ∀ (r : Nat × Nat), (1 ≤ r.2 ∧ i + r.2 ≤ s.size ∧ 128 ≤ r.1 ∧ r.1 ≤ 1114111 ∧ ∀ j, j < r.2 → (s.get! (i + j)).toNat ≥ 128) → 1 ≤ r.2 ∧ i + r.2 ≤ s.size ∧ ((c.toNat < 128 ∧ r = (c.toNat, 1)) ∨ (128 ≤ c.toNat ∧ 128 ≤ r.1 ∧ r.1 ≤ 1114111 ∧ ∀ j, j < r.2 → ∀ c', s.data.toList[i + j]? = some c' → ¬ badC c')) := by
      rintro r ⟨r1, r2, r3, r4, r5⟩
      exact ⟨r1, r2, .inr ⟨by omega, r3, r4, fun j hj => hb j (r5 j hj)⟩⟩
    have one : ∀ (r : Nat), 128 ≤ r → r ≤ 1114111 → 1 ≤ ((r, 1) : Nat × Nat).2 ∧ i + ((r, 1) : Nat × Nat).2 ≤ s.size ∧ 128 ≤ ((r, 1) : Nat × Nat).1 ∧ ((r, 1) : Nat × Nat).1 ≤ 1114111 ∧ ∀ j, j < ((r, 1) : Nat × Nat).2 → (s.get! (i + j)).toNat ≥ 128 := by
      intro r h1 h2
      refine ⟨Nat.le_refl _, by simp only; omega, h1, h2, fun j hj => ?_⟩
      have : j = 0 := by simp only at hj; omega
      subst this
      rw [h0]
      omega
    have hcont : ∀ k, (decide (i + k < s.size) && (s.get! (i + k)).toNat / 64 == 2) = true → i + k < s.size ∧ (s.get! (i + k)).toNat ≥ 128 := by
      intro k h
      simp only [Bool.and_eq_true, decide_eq_true_eq, beq_iff_eq] at h
      omega
    refine key _ ?_
    unfold Utf8.decode
    simp only [h0, if_neg hc]
    split
    · rename_i h1
      rw [Bool.and_eq_true] at h1
      have k1 := hcont 1 h1.2
      split
      · rename_i h2
        refine ⟨by simp only; omega, by simp only; omega, h2, by simp only; omega, fun j hj => ?_⟩
        have : j = 0 ∨ j = 1 := by simp only at hj; omega
        rcases this with rfl | rfl
        · rw [h0]; omega
        · exact k1.2
      · exact one _ (by decide) (by decide)
    · split
      · rename_i h1
        simp only [Bool.and_eq_true] at h1
        have k1 := hcont 1 (by simp only [Bool.and_eq_true]; exact h1.1.2)
        have k2 := hcont 2 (by simp only [Bool.and_eq_true]; exact h1.2)
        split
        · rename_i h2
          simp only [Bool.and_eq_true, decide_eq_true_eq] at h2
          refine ⟨by simp only; omega, by simp only; omega, by simp only; omega, by simp only; omega, fun j hj => ?_⟩
          have : j = 0 ∨ j = 1 ∨ j = 2 := by simp only at hj; omega
          rcases this with rfl | rfl | rfl
          · rw [h0]; omega
          · exact k1.2
          · exact k2.2
        · exact one _ (by decide) (by decide)
      · split
        · rename_i h1
          simp only [Bool.and_eq_true] at h1
          have k1 := hcont 1 (by simp only [Bool.and_eq_true]; exact h1.1.1.2)
          have k2 := hcont 2 (by simp only [Bool.and_eq_true]; exact h1.1.2)
          have k3 := hcont 3 (by simp only [Bool.and_eq_true]; exact h1.2)
          split
          · rename_i h2
            simp only [Bool.and_eq_true, decide_eq_true_eq, Utf8.valid, Bool.or_eq_true] at h2
            refine ⟨by simp only; omega, by simp only; omega, by simp only; omega, by simp only; omega, fun j hj => ?_⟩
            have : j = 0 ∨ j = 1 ∨ j = 2 ∨ j = 3 := by simp only at hj; omega
            rcases this with rfl | rfl | rfl | rfl
            · rw [h0]; omega
            · exact k1.2
            · exact k2.2
            · exact k3.2
          · exact one _ (by decide) (by decide)
        · exact one _ (by decide) (by decide)
theorem enc_ok {r : Int} (h : 128 ≤ r) (hr : r ≤ 1114111) : ∃ (L : Nat) (c : UInt8), (Utf8.encode r).size = L ∧ 2 ≤ L ∧ L ≤ 4 ∧ (Utf8.encode r).data.toList[L - 1]? = some c ∧ 128 ≤ c.toNat := by
  have hb : ∀ n : Nat, (UInt8.ofNat (128 + n % 64)).toNat ≥ 128 := by
    intro n
    rw [UInt8.toNat_ofNat']
    omega
  unfold Utf8.encode
  generalize hc : (if Utf8.valid r = true then r.toNat else Utf8.runeError) = c
  have h1 : 128 ≤ c := by
    rw [← hc]
    split
    · omega
    · decide
  simp only
  rw [if_neg (by omega)]
  split
  · exact ⟨2, _, rfl, by decide, by decide, rfl, hb _⟩
  split
  · exact ⟨3, _, rfl, by decide, by decide, rfl, hb _⟩
  · exact ⟨4, _, rfl, by decide, by decide, rfl, hb _⟩
section
variable {B H : AHeap} {As : List Asn}
def bad2 : ByteArray := ⟨#[47, 0]⟩
theorem L110 {s : ByteArray} {c : Int} (hS : S B H As) : wpF C 110 [.string s, .int .u8 c] H fun v H' => v = .int .i64 (Go.Lib.indexByte s.data.toList c.toNat.toUInt8) ∧ S B H' As := by
  refine wpF_ofW o110 rfl rfl ?_
  refine zsr ?_; refine zw1 ?_; refine zns ?_; refine zsr ?_; refine zw1 ?_; refine zw1 ?_; refine wpO_cons ?_
  refine op1_ixByte rfl rfl rfl ?_
  refine zw1 ?_; refine zns ?_; refine wp_ret ?_; refine ret_of ?_; refine zr ?_; refine rk_nil ?_
  exact ⟨rfl, hS⟩
theorem L104 {s : ByteArray} {c : Int} (hS : S B H As) : wpF C 104 [.string s, .int .u8 c] H fun v H' => v = .int .i64 (Go.Lib.indexByte s.data.toList c.toNat.toUInt8) ∧ S B H' As := by
  refine wpF_ofW o104 rfl rfl ?_
  refine zsr ?_; refine zw1 ?_; refine zns ?_; refine zsr ?_; refine zw1 ?_; refine zw1 ?_; refine wpO_cons ?_; refine op1_call2 rfl (by (conv => lhs; whnf) <;> rfl) (by (conv => lhs; whnf) <;> rfl) ?_
  refine wpF_mono (L110 hS) ?_
  rintro _ H1 ⟨rfl, hS1⟩
  refine zw1 ?_; refine zns ?_; refine wp_ret ?_; refine ret_of ?_; refine zr ?_; refine rk_nil ?_
  exact ⟨rfl, hS1⟩
theorem L105 {r : Int} (hS : S B H As) : wpF C 105 [.int .i32 r] H fun v H' => (∃ b, v = .bool b) ∧ S B H' As := by
  refine wpF_ofW o105 rfl rfl ?_
  refine zsr ?_; refine zw1 ?_; refine zns ?_; refine wp_seq ?_; refine wp_block ?_; refine zsr ?_; refine zw1 ?_; refine wpO_cons ?_; refine op1_leq rfl rfl rfl ?_; refine zw1 ?_; refine wpO_cons ?_; refine op1_split rfl (fun hc0 => ?_) (fun hc0 => ?_); (focus (refine op1_mov rfl (by (conv => lhs; whnf) <;> rfl) ?_; refine wpO_cons ?_; refine op1_lss rfl rfl rfl ?_; refine zt ?_; refine zw1 ?_; refine zns ?_; refine wp_cond rfl (fun hc1 => ?_) (fun hc1 => ?_); (focus (refine zsr ?_; refine zw1 ?_; refine zns ?_; refine wp_ret ?_; refine block_ret ?_; refine seq_ret ?_; refine ret_of ?_; refine zr ?_; refine rk_nil ?_; (exact ⟨⟨_, rfl⟩, hS⟩))); (focus (refine zsr ?_; refine zw1 ?_; refine wpO_cons ?_; refine op1_lss rfl rfl rfl ?_; refine zw1 ?_; refine wpO_cons ?_; refine op1_split rfl (fun hc2 => ?_) (fun hc2 => ?_); (focus (refine op1_mov rfl (by (conv => lhs; whnf) <;> rfl) ?_; refine wpO_cons ?_; refine op1_leq rfl rfl rfl ?_; refine zt ?_; refine zw1 ?_; refine zns ?_; refine wp_cond rfl (fun hc3 => ?_) (fun hc3 => ?_); (focus (refine zsr ?_; refine zw1 ?_; refine zns ?_; refine wp_ret ?_; refine block_ret ?_; refine seq_ret ?_; refine ret_of ?_; refine zr ?_; refine rk_nil ?_; (exact ⟨⟨_, rfl⟩, hS⟩))); (focus (refine wp_skip ?_; refine block_normal ?_; refine seq_normal ?_; refine zsr ?_; refine zw1 ?_; refine zns ?_; refine wp_ret ?_; refine ret_of ?_; refine zr ?_; refine rk_nil ?_; (exact ⟨⟨_, rfl⟩, hS⟩))))); (focus (refine op1_skip rfl ?_; refine zk ?_; refine zu ?_; refine zw1 ?_; refine zns ?_; refine wp_false rfl ?_; refine wp_skip ?_; refine block_normal ?_; refine seq_normal ?_; refine zsr ?_; refine zw1 ?_; refine zns ?_; refine wp_ret ?_; refine ret_of ?_; refine zr ?_; refine rk_nil ?_; (exact ⟨⟨_, rfl⟩, hS⟩))))))); (focus (refine op1_skip rfl ?_; refine zk ?_; refine zu ?_; refine zw1 ?_; refine zns ?_; refine wp_false rfl ?_; refine zsr ?_; refine zw1 ?_; refine wpO_cons ?_; refine op1_lss rfl rfl rfl ?_; refine zw1 ?_; refine wpO_cons ?_; refine op1_split rfl (fun hc1 => ?_) (fun hc1 => ?_); (focus (refine op1_mov rfl (by (conv => lhs; whnf) <;> rfl) ?_; refine wpO_cons ?_; refine op1_leq rfl rfl rfl ?_; refine zt ?_; refine zw1 ?_; refine zns ?_; refine wp_cond rfl (fun hc2 => ?_) (fun hc2 => ?_); (focus (refine zsr ?_; refine zw1 ?_; refine zns ?_; refine wp_ret ?_; refine block_ret ?_; refine seq_ret ?_; refine ret_of ?_; refine zr ?_; refine rk_nil ?_; (exact ⟨⟨_, rfl⟩, hS⟩))); (focus (refine wp_skip ?_; refine block_normal ?_; refine seq_normal ?_; refine zsr ?_; refine zw1 ?_; refine zns ?_; refine wp_ret ?_; refine ret_of ?_; refine zr ?_; refine rk_nil ?_; (exact ⟨⟨_, rfl⟩, hS⟩))))); (focus (refine op1_skip rfl ?_; refine zk ?_; refine zu ?_; refine zw1 ?_; refine zns ?_; refine wp_false rfl ?_; refine wp_skip ?_; refine block_normal ?_; refine seq_normal ?_; refine zsr ?_; refine zw1 ?_; refine zns ?_; refine wp_ret ?_; refine ret_of ?_; refine zr ?_; refine rk_nil ?_; (exact ⟨⟨_, rfl⟩, hS⟩)))))
theorem L90 {r : Int} (h0 : 0 ≤ r) (h1 : r ≤ 1114111) (hS : S B H As) : wpF C 90 [.string bad2, .int .i32 r] H fun v H' => (∃ k : Int, v = .int .i64 k ∧ (0 ≤ k ↔ (r = 47 ∨ r = 0))) ∧ S B H' As := by
  refine wpF_ofW o90 rfl rfl ?_
  unfold bad2
  refine zsr ?_; refine zw1 ?_; refine zns ?_; refine wp_block ?_; refine zsr ?_; refine zw1 ?_; refine wpO_cons ?_; refine op1_leq rfl rfl rfl ?_; refine zw1 ?_; refine wpO_cons ?_
  refine op1_dec rfl (fun _ => ?_) (fun h => absurd h0 h)
  refine op1_mov rfl (by (conv => lhs; whnf) <;> rfl) ?_; refine wpO_cons ?_; refine op1_lss rfl rfl rfl ?_; refine zt ?_; refine zw1 ?_; refine zns ?_
  refine wp_dec rfl (fun h2 => ?_) (fun h2 => ?_)
  · refine zsr ?_; refine zw1 ?_; refine zw1 ?_; refine wpO_cons ?_; refine op1_convInt rfl rfl (by exact wrap_u8 (by omega) (by omega)) ?_; refine wpO_cons ?_; refine op1_call2 rfl (by (conv => lhs; whnf) <;> rfl) (by (conv => lhs; whnf) <;> rfl) ?_
    refine wpF_mono (L104 hS) ?_
    rintro _ H1 ⟨rfl, hS1⟩
    refine zw1 ?_; refine zns ?_; refine wp_ret ?_; refine block_ret ?_; refine ret_of ?_; refine zr ?_; refine rk_nil ?_
    refine ⟨⟨_, rfl, ?_⟩, hS1⟩
    have e : ∀ r : Fin 128, (0 ≤ Go.Lib.indexByte [47, 0] (r.val : Int).toNat.toUInt8 ↔ ((r.val : Int) = 47 ∨ (r.val : Int) = 0)) := by decide
    have := e ⟨r.toNat, by omega⟩
    rwa [show (((⟨r.toNat, by omega⟩ : Fin 128).val : Nat) : Int) = r by simp; omega] at this
  · refine zsr ?_; refine zw1 ?_; refine wpO_cons ?_; refine op1_eqlI rfl rfl rfl ?_; refine zw1 ?_; refine zns ?_
    refine wp_dec rfl (fun h3 => ?_) (fun h3 => ?_)
    · refine wp_seq ?_; refine zsr ?_; refine zw1 ?_; refine wpO_cons ?_
      refine op1_rangeStr rfl rfl hS ?_
      clear hS
      intro p H1 hS
      refine zns ?_; refine wp_block ?_
      refine wp_loop [] (fun k vs H' => ∃ pos : Nat, vs = [] ∧ k = 2 - pos ∧ pos ≤ 2 ∧ S B H' (pto p (.siter ⟨#[47, 0]⟩ pos) :: As)) ⟨_, 0, rfl, rfl, by omega, hS⟩ ?_
      clear hS
      rintro k vs T' H2 ⟨pos, rfl, rfl, hp, hS⟩
      refine zsr ?_; refine wpO_cons ?_
      refine op1_nextStr rfl rfl hS (fun h4 => ?_) (fun h4 H3 hS3 => ?_)
      · refine wpO_cons ?_; refine op1_extract rfl rfl rfl ?_; refine zns ?_; refine wp_seq ?_; refine wp_false rfl ?_; refine wp_exit ?_; refine seq_exit ?_; refine iter_exit ?_; refine block_exit ?_; refine seq_normal ?_; refine zsr ?_; refine zw1 ?_; refine zns ?_; refine wp_ret ?_; refine block_ret ?_; refine ret_of ?_; refine zr ?_; refine rk_nil ?_
        exact ⟨⟨_, rfl, by omega⟩, S.drop hS⟩
      clear hS
      have h4 : pos < 2 := h4
      have hd : ∃ c : Nat, Utf8.decode ⟨#[47, 0]⟩ pos = (c, 1) ∧ c < 128 := by
        have : pos = 0 ∨ pos = 1 := by omega
        rcases this with rfl | rfl
        · exact ⟨47, rfl, by decide⟩
        · exact ⟨0, rfl, by decide⟩
      obtain ⟨c, hd, hc⟩ := hd
      rw [hd] at hS3 ⊢
      simp only at hS3 ⊢
      refine wpO_cons ?_; refine op1_extract rfl rfl rfl ?_; refine zns ?_; refine wp_seq ?_; refine wp_true rfl ?_; refine wp_skip ?_; refine seq_normal ?_; refine wp_block ?_; refine zsr ?_; refine wpO_cons ?_; refine op1_extract rfl rfl rfl ?_; refine wpO_cons ?_; refine op1_extract rfl rfl rfl ?_; refine zw1 ?_; refine zw1 ?_; refine zns ?_; refine zsr ?_; refine zw1 ?_; refine wpO_cons ?_; refine op1_eqlI rfl rfl rfl ?_; refine zns ?_
      refine wp_dec rfl (fun h => absurd h (by omega)) (fun _ => ?_)
      refine wp_skip ?_; refine block_normal ?_
      exact iter_normal ⟨2 - (pos + 1), by omega, pos + 1, rfl, rfl, by omega, hS3⟩
    · refine zsr ?_; refine zw1 ?_; refine wpO_cons ?_; refine op1_call1 rfl (by (conv => lhs; whnf) <;> rfl) ?_
      refine wpF_mono (L105 hS) ?_
      rintro _ H1 ⟨⟨b, rfl⟩, hS1⟩
      clear hS
      have hS := hS1
      clear hS1
      cases b with
      | false =>
        refine wpO_cons ?_; refine op1_not_f rfl rfl ?_; refine zw1 ?_; refine zns ?_; refine wp_true rfl ?_; refine zsr ?_; refine zw1 ?_; refine zns ?_; refine wp_ret ?_; refine block_ret ?_; refine ret_of ?_; refine zr ?_; refine rk_nil ?_
        exact ⟨⟨_, rfl, by omega⟩, hS⟩
      | true =>
        obtain ⟨L, c, e1, e2, e3, e4, e5⟩ := enc_ok (r := r) (by omega) h1
        subst e1
        refine wpO_cons ?_; refine op1_not_t rfl rfl ?_; refine zw1 ?_; refine zns ?_; refine wp_false rfl ?_; refine zsr ?_; refine zw1 ?_; refine wpO_cons ?_; refine op1_i2s rfl rfl ?_; refine zw1 ?_; refine zns ?_; refine zsr ?_; refine zw1 ?_; refine wpO_cons ?_; refine op1_lenS rfl rfl ?_; refine wpO_cons ?_; refine op1_sub rfl rfl rfl (by exact wrap_i64 (by omega) (by omega)) ?_; refine zw1 ?_; refine zns ?_; refine zsr ?_; refine zw1 ?_; refine zw1 ?_; refine zns ?_; refine zsr ?_; refine zw1 ?_; refine zns ?_; refine wp_seq ?_; refine wp_block ?_
        refine wp_loop [9] (fun k vs H' => vs = [.int .i64 (((Utf8.encode r).size : Int) - 1)] ∧ S B H' As) ⟨0, rfl, hS⟩ ?_
        clear hS
        rintro k vs T' H2 ⟨rfl, hS⟩
        refine wp_seq ?_; refine zsr ?_; refine zw1 ?_; refine zw1 ?_; refine wpO_cons ?_; refine op1_lenS rfl rfl ?_; refine wpO_cons ?_; refine op1_lss rfl rfl rfl ?_; refine zns ?_
        refine wp_dec rfl (fun h4 => ?_) (fun h4 => ?_)
        · have hL : (Utf8.encode r).size = 2 := by have h4 : ((Utf8.encode r).size : Int) - 1 < 2 := h4; omega
          have e6 : (Utf8.encode r).data.toList[(((Utf8.encode r).size : Int) - 1).toNat]? = some c := by rw [show (((Utf8.encode r).size : Int) - 1).toNat = (Utf8.encode r).size - 1 by omega]; exact e4
          rw [hL] at e6 ⊢
          refine wp_skip ?_; refine seq_normal ?_; refine wp_block ?_; refine wp_seq ?_; refine wp_seq ?_; refine wp_regionD ?_; refine zd1 ?_; refine zd1 ?_; refine wpD_cons ?_; refine op1_pure rfl rfl rfl ?_; refine zd1 ?_; refine zd1 ?_; refine wpD_cons ?_
          refine op1_idxStr rfl rfl rfl (by decide) e6 ?_
          refine wpD_cons ?_; refine op1_neqI rfl rfl rfl ?_; refine wpD_nil ?_; refine dk_of ?_ ?_; (iterate 7 refine chk_skip ?_); exact chk_end; refine seq_normal ?_
          refine wp_ndec rfl (fun h5 => ?_) (fun h5 => ?_)
          · refine wp_seq ?_; refine wp_regionD ?_; refine zd1 ?_; refine zd1 ?_; refine wpD_cons ?_; refine op1_add rfl rfl rfl (by exact wrap_i64 (by omega) (by omega)) ?_; refine wpD_cons ?_
            refine op1_sliceStr (i := 2) (h := 2) (m := 2) rfl rfl rfl ?_
            refine zd1 ?_; refine zd1 ?_; refine wpD_cons ?_
            refine op1_idxStr rfl rfl rfl (by decide) e6 ?_
            refine wpD_cons ?_; refine op1_call2 rfl (by (conv => lhs; whnf) <;> rfl) (by (conv => lhs; whnf) <;> rfl) ?_
            refine wpF_mono (L104 hS) ?_
            rintro _ H3 ⟨rfl, hS3⟩
            rw [show Go.Lib.indexByte (ByteArray.extract ⟨#[47, 0]⟩ 2 2).data.toList ((c.toNat : Int)).toNat.toUInt8 = -1 from rfl]
            refine zd1 ?_; refine wpD_nil ?_; refine dk_of ?_ ?_; (iterate 9 refine chk_skip ?_); exact chk_end; refine seq_normal ?_; refine wp_seq ?_; refine zsr ?_; refine zw1 ?_; refine wpO_cons ?_; refine op1_lss rfl rfl rfl ?_; refine zns ?_; refine wp_true rfl ?_; refine zsr ?_; refine zw1 ?_; refine zns ?_; refine wp_ret ?_; refine seq_ret ?_; refine seq_ret ?_; refine block_ret ?_; refine iter_ret ?_; refine block_ret ?_; refine seq_ret ?_; refine block_ret ?_; refine ret_of ?_; refine zr ?_; refine rk_nil ?_
            exact ⟨⟨_, rfl, by omega⟩, hS3⟩
          · exact absurd h5 (by have : (UInt8.toNat 0) = 0 := rfl; omega)
        · refine wp_exit ?_; refine seq_exit ?_; refine iter_exit ?_; refine block_exit ?_; refine seq_normal ?_; refine wp_seq ?_; refine zsr ?_; refine zw1 ?_; refine zns ?_; refine wp_ret ?_; refine seq_ret ?_; refine block_ret ?_; refine ret_of ?_; refine zr ?_; refine rk_nil ?_
          exact ⟨⟨_, rfl, by omega⟩, hS⟩
theorem L91 {n : Int} (hS : S B H As) : wpF C 91 [.int .i64 n] H fun v H' => v = .bool (decide (8 < n)) ∧ S B H' As := by
  refine wpF_ofW o91 rfl rfl ?_
  refine zsr ?_; refine zw1 ?_; refine zns ?_; refine zsr ?_; refine zw1 ?_; refine wpO_cons ?_; refine op1_gtr rfl rfl rfl ?_; refine zw1 ?_; refine zns ?_; refine wp_ret ?_; refine ret_of ?_; refine zr ?_; refine rk_nil ?_
  exact ⟨rfl, hS⟩
def z256 : List Value := List.replicate 256 (.bool false)
def as256 : List Value := (z256.set 47 (.bool true)).set 0 (.bool true)
def st256 : Nat → List Value
  | 0 => z256
  | 1 => z256.set 47 (.bool true)
  | _ => as256
theorem as_get (c : UInt8) : as256[c.toNat]? = some (.bool (decide (badC c))) := by
  have hc := c.toNat_lt
  unfold as256 z256 badC
  rw [List.getElem?_set, List.getElem?_set]
  simp only [List.length_set, List.length_replicate, List.getElem?_replicate]
  by_cases h0 : c.toNat = 0
  · rw [if_pos h0.symm, if_pos (by omega)]; simp [h0]
  · rw [if_neg (fun h => h0 h.symm)]
    by_cases h1 : c.toNat = 47
    · rw [if_pos h1.symm, if_pos (by decide)]; simp [h1]
    · rw [if_neg (fun h => h1 h.symm), if_pos (by omega)]; simp [h0, h1]
theorem L92 (hS : S B H As) : wpF C 92 [.string bad2] H fun v H' => v = .tuple ⟨[.agg ⟨as256⟩, .bool true]⟩ ∧ S B H' As := by
  refine wpF_ofW o92 rfl rfl ?_
  unfold bad2
  refine zsr ?_; refine wpO_cons ?_
  refine op1_allocS rfl hS ?_
  clear hS
  intro p H1 hS
  have hS : S B H1 (pto p (.cells (st256 0) 0 false) :: As) := hS
  refine zw1 ?_; refine zns ?_; refine wp_seq ?_; refine zsr ?_; refine zw1 ?_; refine zns ?_; refine wp_block ?_
  refine wp_loop [4] (fun k vs H' => ∃ i : Nat, vs = [.int .i64 i] ∧ k = 2 - i ∧ i ≤ 2 ∧ S B H' (pto p (.cells (st256 i) 0 false) :: As)) ⟨_, 0, rfl, rfl, by omega, hS⟩ ?_
  clear hS
  rintro k vs T' H2 ⟨i, rfl, rfl, hi, hS⟩
  refine wp_seq ?_; refine zsr ?_; refine zw1 ?_; refine zw1 ?_; refine wpO_cons ?_; refine op1_lenS rfl rfl ?_; refine wpO_cons ?_; refine op1_lss rfl rfl rfl ?_; refine zns ?_
  refine wp_dec rfl (fun h4 => ?_) (fun h4 => ?_)
  · have h4 : (i : Int) < 2 := h4
    have : i = 0 ∨ i = 1 := by omega
    rcases this with rfl | rfl
    · have hS : S B H2 (pto p (.cells z256 0 false) :: As) := hS
      refine wp_skip ?_; refine seq_normal ?_; refine wp_seq ?_; refine wp_block ?_; refine zsr ?_; refine zw1 ?_; refine zw1 ?_; refine wpO_cons ?_; refine op1_pure rfl rfl rfl ?_; refine zw1 ?_; refine zns ?_; refine wp_seq ?_; refine zsr ?_; refine zw1 ?_; refine wpO_cons ?_; refine op1_geq rfl rfl rfl ?_; refine zns ?_; refine wp_false rfl ?_; refine wp_skip ?_; refine seq_normal ?_; refine wp_region ?_; refine zw1 ?_; refine wpO_cons ?_
      refine op1_iaddrArr rfl rfl rfl (by decide) (by decide) ?_
      refine wpO_cons ?_; (refine op1_store1S rfl rfl (by (conv => lhs; whnf) <;> rfl) rfl rfl (S.up0 hS) rfl ?_; intro H3 hS; replace hS := S.dn0 hS); refine wpO_nil ?_; refine block_normal ?_; refine seq_normal ?_; refine wp_region ?_; refine zw1 ?_; refine wpO_cons ?_; refine op1_add rfl rfl rfl (by exact wrap_i64 (by omega) (by omega)) ?_; refine zw1 ?_; refine wpO_nil ?_
      exact iter_normal ⟨1, by omega, 1, rfl, rfl, by omega, hS⟩
    · have hS : S B H2 (pto p (.cells (z256.set 47 (.bool true)) 0 false) :: As) := hS
      refine wp_skip ?_; refine seq_normal ?_; refine wp_seq ?_; refine wp_block ?_; refine zsr ?_; refine zw1 ?_; refine zw1 ?_; refine wpO_cons ?_; refine op1_pure rfl rfl rfl ?_; refine zw1 ?_; refine zns ?_; refine wp_seq ?_; refine zsr ?_; refine zw1 ?_; refine wpO_cons ?_; refine op1_geq rfl rfl rfl ?_; refine zns ?_; refine wp_false rfl ?_; refine wp_skip ?_; refine seq_normal ?_; refine wp_region ?_; refine zw1 ?_; refine wpO_cons ?_
      refine op1_iaddrArr rfl rfl rfl (by decide) (by decide) ?_
      refine wpO_cons ?_; (refine op1_store1S rfl rfl (by (conv => lhs; whnf) <;> rfl) rfl rfl (S.up0 hS) rfl ?_; intro H3 hS; replace hS := S.dn0 hS); refine wpO_nil ?_; refine block_normal ?_; refine seq_normal ?_; refine wp_region ?_; refine zw1 ?_; refine wpO_cons ?_; refine op1_add rfl rfl rfl (by exact wrap_i64 (by omega) (by omega)) ?_; refine zw1 ?_; refine wpO_nil ?_
      exact iter_normal ⟨0, by omega, 2, rfl, rfl, by omega, hS⟩
  · have h4 : ¬ (i : Int) < 2 := h4
    obtain rfl : i = 2 := by omega
    have hS : S B H2 (pto p (.cells as256 0 false) :: As) := hS
    refine wp_exit ?_; refine seq_exit ?_; refine iter_exit ?_; refine block_exit ?_; refine seq_normal ?_; refine zsr ?_; refine wpO_cons ?_
    refine op1_loadN (vs := as256) rfl rfl hS.get (by decide) rfl ?_
    refine wpO_cons ?_; (refine op1_storeNS rfl rfl (by (conv => lhs; whnf) <;> rfl) rfl rfl (S.up0 hS) (Nat.le_of_ble_eq_true rfl) ?_; intro H3 hS; replace hS := S.dn0 hS); refine zw1 ?_; refine zns ?_; refine wp_ret ?_; refine ret_of ?_; refine rk_cellN rfl (by exact S.g0 hS) rfl rfl ?_; refine zr ?_; refine rk_nil ?_
    exact ⟨rfl, S.drop hS⟩
theorem L93 {p : Nat} {c : UInt8} (hS : S B H (pto p (.cells as256 0 false) :: As)) : wpF C 93 [.pointer (some ⟨p, 0, none⟩), .int .u8 c.toNat] H fun v H' => v = .bool (decide (badC c)) ∧ S B H' (pto p (.cells as256 0 false) :: As) := by
  refine wpF_ofW o93 rfl rfl ?_
  have hc := c.toNat_lt
  refine zsr ?_; refine zw1 ?_; refine zns ?_; refine zsr ?_; refine zw1 ?_; refine zw1 ?_; refine zn ?_; refine wpO_cons ?_; refine op1_iaddrArr rfl rfl rfl (by omega) (by omega) ?_; refine wpO_cons ?_
  refine op1_load rfl rfl hS.get (by rw [show 0 + ((c.toNat : Int)).toNat * 1 = c.toNat by omega]; exact as_get c) ?_
  refine zw1 ?_; refine zns ?_; refine wp_ret ?_; refine ret_of ?_; refine zr ?_; refine rk_nil ?_
  exact ⟨rfl, hS⟩
def okTo (s : ByteArray) (n : Nat) : Prop := ∀ j, j < n → ∀ c, s.data.toList[j]? = some c → ¬ badC c
def badS (s : ByteArray) : Prop := ∃ c ∈ s.data.toList, badC c
instance (s : ByteArray) : Decidable (badS s) := by unfold badS; infer_instance
theorem okTo_all {s : ByteArray} (h : okTo s s.size) : ¬ badS s := by
  rintro ⟨c, hc, hb⟩
  obtain ⟨j, hj⟩ := List.getElem?_of_mem hc
  have := (List.getElem?_eq_some_iff.1 hj).1
  exact h j (by simpa using this) c hj hb
theorem L67 {s : ByteArray} (hs : s.size ≤ 1000) (hS : S B H As) : wpF C 67 [.string s, .string bad2] H fun v H' => (∃ k : Int, v = .int .i64 k ∧ (0 ≤ k ↔ badS s)) ∧ S B H' As := by
  refine wpF_ofW o67 rfl rfl ?_
  have hb2 : bad2.size = 2 := rfl
  have hb0 : (bad2.toList == (ByteArray.mk #[]).toList) = false := by rw [str_empty]; rfl
  refine zsr ?_; refine zw1 ?_; refine zns ?_; refine wp_seq ?_; refine zsr ?_; refine zw1 ?_; refine wpO_cons ?_; refine op1_eqlS rfl rfl rfl ?_; refine zns ?_
  refine wp_false (congrArg Value.bool hb0) ?_
  refine wp_skip ?_; refine seq_normal ?_; refine wp_seq ?_; refine zsr ?_; refine zw1 ?_; refine wpO_cons ?_; refine op1_lenS rfl rfl ?_; refine wpO_cons ?_; refine op1_eqlI rfl rfl rfl ?_; refine zns ?_; refine wp_false rfl ?_; refine wp_skip ?_; refine seq_normal ?_; refine wp_seq ?_; refine zsr ?_; refine zw1 ?_; refine wpO_cons ?_; refine op1_lenS rfl rfl ?_; refine wpO_cons ?_; refine op1_call1 rfl (by (conv => lhs; whnf) <;> rfl) ?_
  refine wpF_mono (L91 hS) ?_
  rintro _ H1 ⟨rfl, hS1⟩
  clear hS
  have hS := hS1
  clear hS1
  refine zns ?_
  refine wp_dec rfl (fun h1 => ?_) (fun h1 => ?_)
  · refine zsr ?_; refine zw1 ?_; refine wpO_cons ?_; refine op1_call1 rfl (by (conv => lhs; whnf) <;> rfl) ?_
    refine wpF_mono (L92 hS) ?_
    rintro _ H2 ⟨rfl, hS2⟩
    clear hS
    have hS := hS2
    clear hS2
    refine zw1 ?_; refine wpO_cons ?_; refine op1_extract rfl rfl rfl ?_; refine wpO_cons ?_; refine op1_extract rfl rfl rfl ?_; refine wpO_cons ?_
    refine op1_allocS rfl hS ?_
    clear hS
    intro p H3 hS
    have hS : S B H3 (pto p (.cells z256 0 false) :: As) := hS
    refine wpO_cons ?_; (refine op1_storeNS rfl rfl (by (conv => lhs; whnf) <;> rfl) rfl rfl (S.up0 hS) (Nat.le_of_ble_eq_true rfl) ?_; intro H4 hS; replace hS := S.dn0 hS); refine zw1 ?_; refine zns ?_; refine zsr ?_; refine zw1 ?_; refine zns ?_; refine wp_true rfl ?_; refine wp_seq ?_; refine zsr ?_; refine zw1 ?_; refine zns ?_; refine wp_block ?_
    have hS : S B H4 (pto p (.cells as256 0 false) :: As) := hS
    refine wp_loop [8] (fun k vs H' => ∃ i : Nat, vs = [.int .i64 i] ∧ k = s.size - i ∧ i ≤ s.size ∧ okTo s i ∧ S B H' (pto p (.cells as256 0 false) :: As)) ⟨_, 0, rfl, rfl, by omega, fun j hj => by omega, hS⟩ ?_
    clear hS
    rintro k vs T' H2 ⟨i, rfl, rfl, hi, hok, hS⟩
    refine wp_seq ?_; refine zsr ?_; refine zw1 ?_; refine zw1 ?_; refine wpO_cons ?_; refine op1_lenS rfl rfl ?_; refine wpO_cons ?_; refine op1_lss rfl rfl rfl ?_; refine zns ?_
    refine wp_dec rfl (fun h4 => ?_) (fun h4 => ?_)
    · obtain ⟨c, hc⟩ := get_has (s := s) (i := i) (by omega)
      refine wp_skip ?_; refine seq_normal ?_; refine wp_seq ?_; refine wp_block ?_; refine zsr ?_; refine zw1 ?_; refine zw1 ?_; refine wpO_cons ?_
      refine op1_idxStr rfl rfl rfl (by omega) hc ?_
      refine wpO_cons ?_; refine op1_call2 rfl (by (conv => lhs; whnf) <;> rfl) (by (conv => lhs; whnf) <;> rfl) ?_
      refine wpF_mono (L93 (c := c) hS) ?_
      rintro _ H5 ⟨rfl, hS5⟩
      clear hS
      have hS := hS5
      clear hS5
      refine zns ?_
      refine wp_dec rfl (fun h5 => ?_) (fun h5 => ?_)
      · refine zsr ?_; refine zw1 ?_; refine zw1 ?_; refine zns ?_; refine wp_ret ?_; refine block_ret ?_; refine seq_ret ?_; refine iter_ret ?_; refine block_ret ?_; refine seq_ret ?_; refine seq_ret ?_; refine ret_of ?_; refine zr ?_; refine rk_nil ?_
        exact ⟨⟨_, rfl, ⟨fun _ => ⟨c, List.mem_of_getElem? hc, h5⟩, fun _ => by omega⟩⟩, S.drop hS⟩
      · refine wp_skip ?_; refine block_normal ?_; refine seq_normal ?_; refine wp_region ?_; refine zw1 ?_; refine wpO_cons ?_; refine op1_add rfl rfl rfl (by exact wrap_i64 (by omega) (by omega)) ?_; refine zw1 ?_; refine wpO_nil ?_
        refine iter_normal ⟨s.size - (i + 1), by omega, i + 1, rfl, rfl, by omega, fun j hj c' hc' => ?_, hS⟩
        by_cases hji : j = i
        · subst hji
          rw [hc] at hc'
          cases hc'
          exact h5
        · exact hok j (by omega) c' hc'
    · obtain rfl : i = s.size := by omega
      refine wp_exit ?_; refine seq_exit ?_; refine iter_exit ?_; refine block_exit ?_; refine seq_normal ?_; refine zsr ?_; refine zw1 ?_; refine zns ?_; refine wp_ret ?_; refine seq_ret ?_; refine ret_of ?_; refine zr ?_; refine rk_nil ?_
      exact ⟨⟨_, rfl, ⟨fun h => absurd h (by decide), fun h => absurd h (okTo_all hok)⟩⟩, S.drop hS⟩
  · refine wp_skip ?_; refine seq_normal ?_; refine wp_seq ?_; refine zsr ?_; refine zw1 ?_; refine wpO_cons ?_
    refine op1_rangeStr rfl rfl hS ?_
    clear hS
    intro p H2 hS
    refine zns ?_; refine wp_block ?_
    refine wp_loop [] (fun k vs H' => ∃ pos : Nat, vs = [] ∧ k = s.size - pos ∧ pos ≤ s.size ∧ okTo s pos ∧ S B H' (pto p (.siter s pos) :: As)) ⟨_, 0, rfl, rfl, by omega, fun j hj => by omega, hS⟩ ?_
    clear hS
    rintro k vs T' H2 ⟨pos, rfl, rfl, hp, hok, hS⟩
    refine zsr ?_; refine wpO_cons ?_
    refine op1_nextStr rfl rfl hS (fun h4 => ?_) (fun h4 H3 hS3 => ?_)
    · refine wpO_cons ?_; refine op1_extract rfl rfl rfl ?_; refine zns ?_; refine wp_seq ?_; refine wp_false rfl ?_; refine wp_exit ?_; refine seq_exit ?_; refine iter_exit ?_; refine block_exit ?_; refine seq_normal ?_; refine zsr ?_; refine zw1 ?_; refine zns ?_; refine wp_ret ?_; refine ret_of ?_; refine zr ?_; refine rk_nil ?_
      obtain rfl : pos = s.size := by omega
      exact ⟨⟨_, rfl, ⟨fun h => absurd h (by decide), fun h => absurd h (okTo_all hok)⟩⟩, S.drop hS⟩
    clear hS
    obtain ⟨c, hc⟩ := get_has h4
    obtain ⟨d1, d2, d3⟩ := dec_ok hc
    generalize Utf8.decode s pos = rw at d1 d2 d3 hS3 ⊢
    obtain ⟨r, w⟩ := rw
    simp only at d1 d2 d3 hS3 ⊢
    refine wpO_cons ?_; refine op1_extract rfl rfl rfl ?_; refine zns ?_; refine wp_seq ?_; refine wp_true rfl ?_; refine wp_skip ?_; refine seq_normal ?_; refine wp_block ?_; refine zsr ?_; refine wpO_cons ?_; refine op1_extract rfl rfl rfl ?_; refine wpO_cons ?_; refine op1_extract rfl rfl rfl ?_; refine zw1 ?_; refine zw1 ?_; refine zns ?_; refine zsr ?_; refine zw1 ?_; refine zw1 ?_; refine wpO_cons ?_; refine op1_call2 rfl (by (conv => lhs; whnf) <;> rfl) (by (conv => lhs; whnf) <;> rfl) ?_
    have hr : r ≤ 1114111 := by rcases d3 with ⟨d4, d5⟩ | ⟨_, _, d4, _⟩ <;> first | exact d4 | (cases d5; omega)
    refine wpF_mono (L90 (r := (r : Int)) (by omega) (by omega) hS3) ?_
    rintro _ H5 ⟨⟨k, rfl, hk⟩, hS5⟩
    clear hS3
    have hS := hS5
    clear hS5
    refine wpO_cons ?_; refine op1_geq rfl rfl rfl ?_; refine zns ?_
    refine wp_dec rfl (fun h5 => ?_) (fun h5 => ?_)
    · refine zsr ?_; refine zw1 ?_; refine zw1 ?_; refine zns ?_; refine wp_ret ?_; refine block_ret ?_; refine iter_ret ?_; refine block_ret ?_; refine seq_ret ?_; refine ret_of ?_; refine zr ?_; refine rk_nil ?_
      refine ⟨⟨_, rfl, ⟨fun _ => ?_, fun _ => by omega⟩⟩, S.drop hS⟩
      have h6 := hk.1 h5
      rcases d3 with ⟨d4, d5⟩ | ⟨_, d4, _⟩
      · cases d5
        exact ⟨c, List.mem_of_getElem? hc, by unfold badC; omega⟩
      · omega
    · refine wp_skip ?_; refine block_normal ?_
      have h6 : ¬ ((r : Int) = 47 ∨ (r : Int) = 0) := fun h => h5 (hk.2 h)
      refine iter_normal ⟨s.size - (pos + w), by omega, pos + w, rfl, rfl, by omega, fun j hj c' hc' => ?_, hS⟩
      by_cases hji : j < pos
      · exact hok j hji c' hc'
      · rcases d3 with ⟨d4, d5⟩ | ⟨_, _, _, d4⟩
        · cases d5
          obtain rfl : j = pos := by omega
          rw [hc] at hc'
          cases hc'
          unfold badC
          omega
        · exact d4 (j - pos) (by omega) c' (by rw [show pos + (j - pos) = j by omega]; exact hc')
theorem L54 {s : ByteArray} (hs : s.size ≤ 1000) (hS : S B H As) : wpF C 54 [.string s, .string bad2] H fun v H' => v = .bool (decide (badS s)) ∧ S B H' As := by
  refine wpF_ofW o54 rfl rfl ?_
  refine zsr ?_; refine zw1 ?_; refine zns ?_; refine zsr ?_; refine zw1 ?_; refine zw1 ?_; refine wpO_cons ?_; refine op1_call2 rfl (by (conv => lhs; whnf) <;> rfl) (by (conv => lhs; whnf) <;> rfl) ?_
  refine wpF_mono (L67 hs hS) ?_
  rintro _ H1 ⟨⟨k, rfl, hk⟩, hS1⟩
  refine wpO_cons ?_; refine op1_geq rfl rfl rfl ?_; refine zw1 ?_; refine zns ?_; refine wp_ret ?_; refine ret_of ?_; refine zr ?_; refine rk_nil ?_
  exact ⟨by simp only [resultV]; congr 1; exact decide_eq_decide.2 hk, hS1⟩
def nmE (s : ByteArray) : Int := if s.size = 0 then 9 else if 64 < s.size then 21 else if badS s then 14 else 0
theorem L41 {s : ByteArray} (hs : s.size ≤ 9223372036854775807) (hS : S B H As) : wpF C 41 [.string s] H fun v H' => v = .int .i64 (nmE s) ∧ S B H' As := by
  refine wpF_ofW o41 rfl rfl ?_
  unfold nmE
  refine zsr ?_; refine zw1 ?_; refine zns ?_; refine wp_seq ?_; refine wp_block ?_; refine zsr ?_; refine zw1 ?_; refine wpO_cons ?_; refine op1_eqlS rfl rfl rfl ?_; refine zw1 ?_; refine zns ?_
  refine wp_dec (p := s.size = 0) (congrArg Value.bool (str_empty s)) (fun h1 => ?_) (fun h1 => ?_)
  · refine zsr ?_; refine zw1 ?_; refine zns ?_; refine wp_ret ?_; refine block_ret ?_; refine seq_ret ?_; refine ret_of ?_; refine zr ?_; refine rk_nil ?_
    exact ⟨by rw [if_pos h1]; rfl, hS⟩
  rw [if_neg h1]
  refine zsr ?_; refine zw1 ?_; refine wpO_cons ?_; refine op1_lenS rfl rfl ?_; refine wpO_cons ?_; refine op1_gtr rfl rfl rfl ?_; refine zw1 ?_; refine zns ?_
  refine wp_dec rfl (fun h2 => ?_) (fun h2 => ?_)
  · refine zsr ?_; refine zw1 ?_; refine zns ?_; refine wp_ret ?_; refine block_ret ?_; refine seq_ret ?_; refine ret_of ?_; refine zr ?_; refine rk_nil ?_
    exact ⟨by rw [if_pos (by omega)]; rfl, hS⟩
  rw [if_neg (by omega)]
  refine zsr ?_; refine zw1 ?_; refine wpO_cons ?_; refine op1_call2 rfl (by (conv => lhs; whnf) <;> rfl) (by (conv => lhs; whnf) <;> rfl) ?_
  refine wpF_mono (L54 (s := s) (by omega) hS) ?_
  rintro _ H1 ⟨rfl, hS1⟩
  refine zw1 ?_; refine zns ?_
  refine wp_dec rfl (fun h3 => ?_) (fun h3 => ?_)
  · refine zsr ?_; refine zw1 ?_; refine zns ?_; refine wp_ret ?_; refine block_ret ?_; refine seq_ret ?_; refine ret_of ?_; refine zr ?_; refine rk_nil ?_
    exact ⟨by rw [if_pos h3]; rfl, hS1⟩
  · refine wp_skip ?_; refine block_normal ?_; refine seq_normal ?_; refine zsr ?_; refine zw1 ?_; refine zns ?_; refine wp_ret ?_; refine ret_of ?_; refine zr ?_; refine rk_nil ?_
    exact ⟨by rw [if_neg h3]; rfl, hS1⟩
end
end Go.E.Cb
