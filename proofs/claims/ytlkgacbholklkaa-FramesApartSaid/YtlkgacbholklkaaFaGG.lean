/- Pools as arguments: Few, Pools. -/
import Derived.Test.YtlkgacbholklkaaFaF789
namespace Go.E.Fa
open Go Go.E Go.Proofs.Ytlkgacbholklkaa Go.Proofs
set_option linter.unusedVariables false
set_option linter.unusedSimpArgs false
set_option maxRecDepth 100000
def Short (l : List Pl) : Prop := l.length ≤ 20 ∧ ∀ p ∈ l, p.name.size ≤ 200
theorem L14 {B H : AHeap} {As : List Asn} {a : Option Addr} {c : Nat} {pls : List Pl} {r : List Nat} (hlen : pls.length ≤ 9223372036854775807) (hr : RdS B 5 (.slice a pls.length c) (pls.flatMap plC) r) (hlt : ∀ b ∈ r, b < B.next) (hS : S B H As) :
    wpF C 14 [.slice a pls.length c] H fun v H' => (∃ b, v = .bool b ∧ (b = true ↔ Short pls)) ∧ S B H' As := by
  refine wpF_ofW o14 rfl rfl ?_
  refine zsr ?_; refine zw1 ?_; refine zns ?_; refine wp_seq ?_; refine zsr ?_; refine zw1 ?_; refine wpO_cons ?_; refine op1_len rfl rfl ?_; refine zw1 ?_; refine zns ?_; refine wp_block ?_
  refine wp_loop [7] (fun k vs H' => ∃ i : Nat, vs = [.int .i64 i] ∧ k = pls.length - i ∧ i ≤ pls.length ∧ (∀ p ∈ pls.take i, p.name.size ≤ 200) ∧ S B H' As) ⟨_, 0, rfl, rfl, by omega, by simp, hS⟩ ?_
  clear hS
  rintro k vs T' H1 ⟨i, rfl, rfl, hi, hno, hS⟩
  refine zsr ?_; refine wpO_cons ?_; refine op1_lss rfl rfl rfl ?_; refine zns ?_; refine wp_seq ?_
  refine wp_dec rfl (fun hlt2 => ?_) (fun hlt2 => ?_)
  · obtain ⟨p, hp⟩ : ∃ p, pls[i]? = some p := ⟨pls[i]'(by omega), by simp⟩
    obtain ⟨b, off, cs, e1, ro, h5, hg, hle, hrow⟩ := rd_row (hS.rdB hr hlt) rfl hp
    cases h5
    refine wp_skip ?_; refine seq_normal ?_; refine wp_seq ?_; refine wp_block ?_; refine zsr ?_; refine wpO_cons ?_; refine op1_iaddr rfl rfl rfl (by omega) (by omega) ?_; refine wpO_cons ?_
    refine op1_loadN rfl rfl hg hle hrow ?_
    unfold plC
    refine wpO_cons ?_; refine op1_allocS rfl hS ?_; intro p1 H2 hS; refine wpO_cons ?_; (refine op1_storeNS rfl rfl (by (conv => lhs; whnf) <;> rfl) rfl rfl (S.up0 hS) (Nat.le_of_ble_eq_true rfl) ?_; intro H3 hS; replace hS := S.dn0 hS); refine zns ?_; refine zsr ?_; refine zf ?_; refine zh (S.g0 hS) ?_; refine wpO_cons ?_; refine op1_lenS rfl rfl ?_; refine wpO_cons ?_; refine op1_gtr rfl rfl rfl ?_; refine zns ?_
    refine wp_dec rfl (fun h200 => ?_) (fun h200 => ?_)
    · refine zsr ?_; refine zw1 ?_; refine zns ?_; refine wp_ret ?_; refine block_ret ?_; refine seq_ret ?_; refine iter_ret ?_; refine block_ret ?_; refine seq_ret ?_; refine ret_of ?_; refine zr ?_; refine rk_nil ?_
      refine ⟨⟨_, rfl, ?_⟩, S.drop hS⟩
      constructor
      · intro h; cases h
      · intro h; have := h.2 p (List.mem_of_getElem? hp); omega
    · refine wp_skip ?_; refine block_normal ?_; refine seq_normal ?_; refine wp_region ?_; refine wpO_cons ?_; refine op1_add rfl rfl rfl (by exact wrap_i64 (by omega) (by omega)) ?_; refine zw1 ?_; refine wpO_nil ?_
      refine ⟨pls.length - (i + 1), by omega, i + 1, rfl, rfl, by omega, fun q hq => ?_, S.drop hS⟩
      rw [List.take_add_one, hp] at hq
      rcases List.mem_append.1 hq with h | h
      · exact hno q h
      · simp at h; subst h; omega
  · obtain rfl : i = pls.length := by omega
    rw [List.take_length] at hno
    refine wp_exit ?_; refine seq_exit ?_; refine iter_exit ?_; refine block_exit ?_; refine seq_normal ?_; refine zsr ?_; refine zw1 ?_; refine wpO_cons ?_; refine op1_len rfl rfl ?_; refine wpO_cons ?_; refine op1_leq rfl rfl rfl ?_; refine zw1 ?_; refine zns ?_; refine wp_ret ?_; refine ret_of ?_; refine zr ?_; refine rk_nil ?_
    refine ⟨⟨_, rfl, ?_⟩, hS⟩
    unfold Short
    rw [decide_eq_true_eq]
    constructor
    · intro h; exact ⟨by omega, hno⟩
    · intro h; have := h.1; omega

theorem L17 {B H : AHeap} {As : List Asn} {a : Option Addr} {c : Nat} {pls : List Pl} {r : List Nat} (hlen : pls.length ≤ 1000) (hr : RdS B 5 (.slice a pls.length c) (pls.flatMap plC) r) (hlt : ∀ b ∈ r, b < B.next) (hS : S B H As) :
    wpF C 17 [.slice a pls.length c] H fun v H' => S B H' (sl 5 v (pls.flatMap plC) :: As) := by
  refine wpF_ofW o17 rfl rfl ?_
  refine zsr ?_; refine zw1 ?_; refine zns ?_; refine zsr ?_; refine zw1 ?_; refine zns ?_; refine wp_seq ?_; refine zsr ?_; refine zw1 ?_; refine wpO_cons ?_; refine op1_len rfl rfl ?_; refine zw1 ?_; refine zns ?_; refine wp_block ?_
  refine wp_loop [3, 8] (fun k vs H' => ∃ (i : Nat) (vo : Value), vs = [vo, .int .i64 i] ∧ k = pls.length - i ∧ i ≤ pls.length ∧ S B H' (sl 5 vo ((pls.take i).flatMap plC) :: As)) ⟨_, 0, _, rfl, rfl, by omega, hS.slNil⟩ ?_
  clear hS
  rintro k vs T' H1 ⟨i, vo, rfl, rfl, hi, hS⟩
  refine zsr ?_; refine wpO_cons ?_; refine op1_lss rfl rfl rfl ?_; refine zns ?_; refine wp_seq ?_
  refine wp_dec rfl (fun hlt2 => ?_) (fun hlt2 => ?_)
  · obtain ⟨p, hp⟩ : ∃ p, pls[i]? = some p := ⟨pls[i]'(by omega), by simp⟩
    obtain ⟨b, off, cs, e1, ro, h5, hg, hle, hrow⟩ := rd_row (hS.rdB hr hlt) rfl hp
    cases h5
    obtain ⟨ao, lo, co, rfl, hlo⟩ := S.shape hS
    rw [plC_flen, List.length_take] at hlo
    obtain rfl : lo = i := by omega
    refine wp_skip ?_; refine seq_normal ?_; refine wp_seq ?_; refine wp_block ?_; refine zsr ?_; refine wpO_cons ?_; refine op1_iaddr rfl rfl rfl (by omega) (by omega) ?_; refine wpO_cons ?_
    refine op1_loadN rfl rfl hg hle hrow ?_
    unfold plC
    refine wpO_cons ?_; refine op1_allocS rfl hS ?_; intro p1 H2 hS; refine wpO_cons ?_; (refine op1_storeNS rfl rfl (by (conv => lhs; whnf) <;> rfl) rfl rfl (S.up0 hS) (Nat.le_of_ble_eq_true rfl) ?_; intro H3 hS; replace hS := S.dn0 hS); refine zns ?_; refine wp_region ?_; refine zw1 ?_; refine zf ?_; refine zh (S.g0 hS) ?_; refine zf ?_; refine zh (S.g0 hS) ?_; refine zf ?_; refine zh (S.g0 hS) ?_; refine zf ?_; refine zh (S.g0 hS) ?_; refine zf ?_; refine zh (S.g0 hS) ?_; refine wpO_cons ?_; refine op1_build rfl ?_; refine bk_one (by (conv => lhs; whnf) <;> rfl) rfl rfl rfl ?_; refine bk_one (by (conv => lhs; whnf) <;> rfl) rfl rfl rfl ?_; refine bk_one (by (conv => lhs; whnf) <;> rfl) rfl rfl rfl ?_; refine bk_one (by (conv => lhs; whnf) <;> rfl) rfl rfl rfl ?_; refine bk_one (by (conv => lhs; whnf) <;> rfl) rfl rfl rfl ?_; refine bk_nil ?_; refine wpO_cons ?_; refine op1_bsliceS rfl hS ?_; refine bk_agg rfl rfl rfl rfl ?_; refine bk_nil ?_; intro p2 H4 hS; refine wpO_cons ?_; (refine op1_appBS rfl rfl (by (conv => lhs; whnf) <;> rfl) rfl (S.g0 hS) rfl rfl (S.up2 hS) (by omega) ?_; intro a1 c1 H5 hS; replace hS := S.dn2 hS; replace hS := S.drop hS); refine zw1 ?_; refine wpO_nil ?_; refine block_normal ?_; refine seq_normal ?_; refine wp_region ?_; refine wpO_cons ?_; refine op1_add rfl rfl rfl (by exact wrap_i64 (by omega) (by omega)) ?_; refine zw1 ?_; refine wpO_nil ?_
    have e9 : (pls.take (lo + 1)).flatMap plC = (pls.take lo).flatMap plC ++ plC p := by
      rw [List.take_add_one, hp, List.flatMap_append]; simp
    have hS' : S B H5 (sl 5 (.slice a1 (lo + 1) c1) ((pls.take (lo + 1)).flatMap plC) :: As) := by
      rw [e9]
      exact S.drop hS
    exact ⟨pls.length - (lo + 1), by omega, lo + 1, _, rfl, rfl, by omega, hS'⟩
  · obtain rfl : i = pls.length := by omega
    rw [List.take_length] at hS
    refine wp_exit ?_; refine seq_exit ?_; refine iter_exit ?_; refine block_exit ?_; refine seq_normal ?_; refine zsr ?_; refine zw1 ?_; refine zw1 ?_; refine zns ?_; refine wp_ret ?_; refine ret_of ?_; refine zr ?_; refine rk_nil ?_
    exact hS
end Go.E.Fa
/- The reference: Check. -/
namespace Go.E.Fa
open Go Go.E Go.Proofs.Ytlkgacbholklkaa Go.Proofs
set_option linter.unusedVariables false
set_option linter.unusedSimpArgs false
set_option maxRecDepth 100000
def over (p q : Pl) : Bool := decide (p.first < q.first + q.count ∧ q.first < p.first + p.count)
def chk1 (l : List Pl) (p : Pl) : Int :=
  if 64 < p.name.size then 21 else if p.name.size = 0 then 9 else if l.any (fun q => decide (p.name = q.name)) then 38
  else if p.count < 1 ∨ 4096 < p.count ∨ p.first < 0 ∨ 4096 < p.first ∨ 4096 < p.first + p.count then 34
  else if l.any (over p) then 10 else 0
theorem any_name (l : List Pl) (s : ByteArray) : (kvGet (ixOf l) s).isSome = l.any fun q => decide (s = q.name) := by
  rw [kvGet_ix]
  unfold nameIx
  rw [Option.isSome_map, List.findIdx?_isSome]
  congr 1
  funext q
  rw [decide_eq_decide]
  exact eq_comm
theorem clash_over {l : List Pl} {p : Pl} (hp : 1 ≤ p.count) (hl : ∀ q ∈ l, 1 ≤ q.count) : clash (l.flatMap rng) p = l.any (over p) := by
  rw [Bool.eq_iff_iff]
  unfold clash
  rw [List.any_eq_true, List.any_eq_true]
  constructor
  · rintro ⟨n, h1, h2⟩
    obtain ⟨q, hq, h3⟩ := List.mem_flatMap.1 (of_decide_eq_true h2)
    have hq1 := hl q hq
    have h1 := of_decide_eq_true ((rng_mem (by omega)).1 h1)
    have h3 := of_decide_eq_true ((rng_mem (by omega)).1 h3)
    exact ⟨q, hq, decide_eq_true (by omega)⟩
  · rintro ⟨q, hq, h1⟩
    have hq1 := hl q hq
    have h1 := of_decide_eq_true h1
    by_cases h2 : p.first ≤ q.first
    · exact ⟨q.first, (rng_mem (by omega)).2 (decide_eq_true (by omega)), decide_eq_true (List.mem_flatMap.2 ⟨q, hq, (rng_mem (by omega)).2 (decide_eq_true (by omega))⟩)⟩
    · exact ⟨p.first, (rng_mem (by omega)).2 (decide_eq_true (by omega)), decide_eq_true (List.mem_flatMap.2 ⟨q, hq, (rng_mem (by omega)).2 (decide_eq_true (by omega))⟩)⟩
theorem chk1_eq {l : List Pl} {p : Pl} (hl : ∀ q ∈ l, 1 ≤ q.count) : chk1 l p = addEv (ixOf l) (l.flatMap rng) p := by
  unfold chk1 addEv
  rw [any_name]
  by_cases h1 : 64 < p.name.size
  · rw [if_pos h1, if_pos h1]
  rw [if_neg h1, if_neg h1]
  by_cases h2 : p.name.size = 0
  · rw [if_pos h2, if_pos h2]
  rw [if_neg h2, if_neg h2]
  by_cases h3 : (l.any fun q => decide (p.name = q.name)) = true
  · rw [if_pos h3, if_pos h3]
  rw [if_neg h3, if_neg h3]
  by_cases h4 : p.count < 1 ∨ p.first < 0 ∨ 4096 < p.count ∨ 4096 - p.count < p.first
  · rw [if_pos h4, if_pos (by omega)]
  · rw [if_neg h4, if_neg (by omega), clash_over (by omega) hl]
def chksE : List Pl → List Pl → Int
  | _, [] => 0
  | l, p :: ps => if chk1 l p ≠ 0 then chk1 l p else chksE (l ++ [p]) ps
def checkE (pls : List Pl) : Int := if pls.length = 0 then 9 else if 16 < pls.length then 18 else chksE [] pls
theorem chksE_eq : ∀ (r l : List Pl), (∀ q ∈ l, 1 ≤ q.count) → chksE l r = addsE l r
  | [], _, _ => rfl
  | p :: r, l, hl => by
    unfold chksE addsE
    rw [chk1_eq hl]
    by_cases h : addEv (ixOf l) (l.flatMap rng) p ≠ 0
    · rw [if_pos h, if_pos h]
    · rw [if_neg h, if_neg h]
      refine chksE_eq r _ fun q hq => ?_
      rcases List.mem_append.1 hq with h1 | h1
      · exact hl q h1
      · rw [List.mem_singleton] at h1
        subst h1
        exact (addEv_ok (Classical.not_not.1 h)).1.1
theorem checkE_eq (pls : List Pl) : checkE pls = newE pls := by
  unfold checkE newE
  rw [chksE_eq _ _ (by simp)]

theorem rd_blk {H : AHeap} {b off l c es : Nat} {sp : Option Nat} {xs : List Value} {r : List Nat} (h : RdS H es (.slice (some ⟨b, off, none⟩) l c) xs r) (hl : l ≠ 0) : ∃ cs e ro, H.get b = .cells cs e ro ∧ (e = 0 ∨ e = es) := by
  generalize hv : Value.slice (some ⟨b, off, none⟩) l c = v at h
  cases h with
  | nil => cases hv
  | empty a => cases hv; exact absurd rfl hl
  | blk hg hc he hl2 =>
    cases hv
    exact ⟨_, _, _, hg, he⟩
theorem L16 {B H : AHeap} {As : List Asn} {a : Option Addr} {c : Nat} {pls : List Pl} {r : List Nat} (hlen : pls.length ≤ 1000)
    (hb : ∀ p ∈ pls, p.name.size ≤ 1000 ∧ (-9223372036854775808 ≤ p.count ∧ p.count ≤ 9223372036854775807) ∧ (-9223372036854775808 ≤ p.first ∧ p.first ≤ 9223372036854775807))
    (hr : RdS B 5 (.slice a pls.length c) (pls.flatMap plC) r) (hlt : ∀ b ∈ r, b < B.next) (hS : S B H As) :
    wpF C 16 [.slice a pls.length c] H fun v H' => v = .int .i64 (checkE pls) ∧ S B H' As := by
  refine wpF_ofW o16 rfl rfl ?_
  refine zsr ?_; refine zw1 ?_; refine zns ?_; refine wp_seq ?_; refine zsr ?_; refine zw1 ?_; refine wpO_cons ?_; refine op1_len rfl rfl ?_; refine wpO_cons ?_; refine op1_eqlI rfl rfl rfl ?_; refine zns ?_
  refine wp_dec rfl (fun h1 => ?_) (fun h1 => ?_)
  · have e : checkE pls = 9 := by unfold checkE; rw [if_pos (by omega)]
    rw [e]
    refine zsr ?_; refine zw1 ?_; refine zns ?_; refine wp_ret ?_; refine seq_ret ?_; refine ret_of ?_; refine zr ?_; refine rk_nil ?_
    exact ⟨rfl, hS⟩
  refine wp_skip ?_; refine seq_normal ?_; refine wp_seq ?_; refine zsr ?_; refine zw1 ?_; refine wpO_cons ?_; refine op1_len rfl rfl ?_; refine wpO_cons ?_; refine op1_gtr rfl rfl rfl ?_; refine zns ?_
  refine wp_dec rfl (fun h2 => ?_) (fun h2 => ?_)
  · have e : checkE pls = 18 := by unfold checkE; rw [if_neg (by omega), if_pos (by omega)]
    rw [e]
    refine zsr ?_; refine zw1 ?_; refine zns ?_; refine wp_ret ?_; refine seq_ret ?_; refine ret_of ?_; refine zr ?_; refine rk_nil ?_
    exact ⟨rfl, hS⟩
  have e : checkE pls = chksE [] pls := by unfold checkE; rw [if_neg (by omega), if_neg (by omega)]
  rw [e]
  clear e
  have hcap := hr.le_cap
  refine wp_skip ?_; refine seq_normal ?_; refine wp_seq ?_; refine zsr ?_; refine zw1 ?_; refine wpO_cons ?_; refine op1_len rfl rfl ?_; refine zw1 ?_; refine zns ?_; refine wp_block ?_
  refine wp_loop [17] (fun k vs H' => ∃ i : Nat, vs = [.int .i64 i] ∧ k = pls.length - i ∧ i ≤ pls.length ∧ chksE (pls.take i) (pls.drop i) = chksE [] pls ∧ (∀ q ∈ pls.take i, 1 ≤ q.count ∧ 0 ≤ q.first ∧ q.first + q.count ≤ 4096) ∧ S B H' As) ⟨_, 0, rfl, rfl, by omega, by simp, by simp, hS⟩ ?_
  clear hS
  rintro k vs T' H1 ⟨i, rfl, rfl, hi, hce, hok, hS⟩
  refine zsr ?_; refine wpO_cons ?_; refine op1_lss rfl rfl rfl ?_; refine zns ?_; refine wp_seq ?_
  refine wp_dec rfl (fun hlt2 => ?_) (fun hlt2 => ?_)
  · obtain ⟨p, hp⟩ : ∃ p, pls[i]? = some p := ⟨pls[i]'(by omega), by simp⟩
    obtain ⟨b, off, cs, e1, ro, h5, hg, hle, hrow⟩ := rd_row (hS.rdB hr hlt) rfl hp
    cases h5
    have hpb := hb p (List.mem_of_getElem? hp)
    have hdr : pls.drop i = p :: pls.drop (i + 1) := by
      rw [List.drop_eq_getElem_cons (by omega)]
      congr 1
      rw [List.getElem?_eq_getElem (by omega)] at hp
      exact Option.some.inj hp
    rw [hdr, chksE] at hce
    refine wp_skip ?_; refine seq_normal ?_; refine wp_seq ?_; refine wp_block ?_; refine zsr ?_; refine zw1 ?_; refine wpO_cons ?_; refine op1_iaddr rfl rfl rfl (by omega) (by omega) ?_; refine wpO_cons ?_
    refine op1_loadN rfl rfl hg hle hrow ?_
    unfold plC
    refine wpO_cons ?_; refine op1_allocS rfl hS ?_; intro p1 H2 hS; refine zw1 ?_; refine wpO_cons ?_; (refine op1_storeNS rfl rfl (by (conv => lhs; whnf) <;> rfl) rfl rfl (S.up0 hS) (Nat.le_of_ble_eq_true rfl) ?_; intro H3 hS; replace hS := S.dn0 hS); refine zns ?_; refine wp_seq ?_; refine zsr ?_; refine zf ?_; refine zh (S.g0 hS) ?_; refine wpO_cons ?_; refine op1_lenS rfl rfl ?_; refine wpO_cons ?_; refine op1_gtr rfl rfl rfl ?_; refine zns ?_
    refine wp_dec rfl (fun n1 => ?_) (fun n1 => ?_)
    · have e : chk1 (pls.take i) p = 21 := by unfold chk1; rw [if_pos (by omega)]
      rw [e, if_pos (by decide)] at hce
      rw [← hce]
      refine zsr ?_; refine zw1 ?_; refine zns ?_; refine wp_ret ?_; refine seq_ret ?_; refine block_ret ?_; refine seq_ret ?_; refine iter_ret ?_; refine block_ret ?_; refine seq_ret ?_; refine ret_of ?_; refine zr ?_; refine rk_nil ?_
      exact ⟨rfl, S.drop hS⟩
    refine wp_skip ?_; refine seq_normal ?_; refine wp_seq ?_; refine zsr ?_; refine zf ?_; refine zh (S.g0 hS) ?_; refine wpO_cons ?_
    refine op1_eqlS0 rfl rfl rfl ?_
    refine zns ?_
    refine wp_dec rfl (fun n2 => ?_) (fun n2 => ?_)
    · have e : chk1 (pls.take i) p = 9 := by unfold chk1; rw [if_neg (by omega), if_pos (by omega)]
      rw [e, if_pos (by decide)] at hce
      rw [← hce]
      refine zsr ?_; refine zw1 ?_; refine zns ?_; refine wp_ret ?_; refine seq_ret ?_; refine block_ret ?_; refine seq_ret ?_; refine iter_ret ?_; refine block_ret ?_; refine seq_ret ?_; refine ret_of ?_; refine zr ?_; refine rk_nil ?_
      exact ⟨rfl, S.drop hS⟩
    refine wp_skip ?_; refine seq_normal ?_; refine wp_seq ?_; refine zsr ?_; refine zw1 ?_; refine zw1 ?_; refine wpO_cons ?_
    obtain ⟨cs3, e3, ro3, hg3, he3⟩ := rd_blk (sp := none) (hS.rdB hr hlt) (by omega)
    refine op1_sliceB rfl rfl hg3 he3 (bnds_hi (by omega) (by omega)) (by omega) (by simp only [Int.toNat_natCast]; omega) ?_
    simp only [Int.toNat_natCast, Nat.zero_mul, Nat.sub_zero, Nat.add_zero]
    refine wpO_cons ?_; refine op1_len rfl rfl ?_; refine zw1 ?_; refine zns ?_; refine wp_block ?_
    refine wp_loop [33] (fun k vs H' => ∃ j : Nat, vs = [.int .i64 j] ∧ k = i - j ∧ j ≤ i ∧ (∀ q ∈ pls.take j, ¬ p.name = q.name) ∧ S B H' (pto p1 (.cells [.string p.name, .int .i64 p.first, .int .i64 p.count, .bool p.gen, .bool p.keep] 0 false) :: As))
      ⟨_, 0, rfl, rfl, by omega, by simp, hS⟩ ?_
    clear hS hg3 he3 hg
    rintro k vs T2 H4 ⟨j, rfl, rfl, hj, hno, hS⟩
    refine zsr ?_; refine wpO_cons ?_; refine op1_lss rfl rfl rfl ?_; refine zns ?_; refine wp_seq ?_
    refine wp_dec rfl (fun hlt3 => ?_) (fun hlt3 => ?_)
    · obtain ⟨q, hq⟩ : ∃ q, pls[j]? = some q := ⟨pls[j]'(by omega), by simp⟩
      obtain ⟨b', off', cs', e', ro', h5, hg, hle', hrow'⟩ := rd_row (hS.rdB hr hlt) rfl hq
      cases h5
      refine wp_skip ?_; refine seq_normal ?_; refine wp_seq ?_; refine wp_block ?_; refine zsr ?_; refine wpO_cons ?_; refine op1_iaddr rfl rfl rfl (by omega) (by omega) ?_; refine wpO_cons ?_
      refine op1_loadN rfl rfl hg hle' hrow' ?_
      unfold plC
      refine wpO_cons ?_; refine op1_allocS rfl hS ?_; intro p2 H5 hS; refine wpO_cons ?_; (refine op1_storeNS rfl rfl (by (conv => lhs; whnf) <;> rfl) rfl rfl (S.up0 hS) (Nat.le_of_ble_eq_true rfl) ?_; intro H6 hS; replace hS := S.dn0 hS); refine zns ?_; refine zsr ?_; refine zf ?_; refine zh (S.g1 hS) ?_; refine zf ?_; refine zh (S.g0 hS) ?_; refine wpO_cons ?_
      refine op1_eqlSD rfl rfl rfl ?_
      refine zns ?_
      refine wp_dec rfl (fun n3 => ?_) (fun n3 => ?_)
      · have e : chk1 (pls.take i) p = 38 := by
          unfold chk1
          rw [if_neg (by omega), if_neg (by omega), if_pos]
          rw [List.any_eq_true]
          refine ⟨q, ?_, decide_eq_true n3⟩
          rw [List.mem_iff_getElem?]
          exact ⟨j, by rw [List.getElem?_take, if_pos (by omega)]; exact hq⟩
        rw [e, if_pos (by decide)] at hce
        rw [← hce]
        refine zsr ?_; refine zw1 ?_; refine zns ?_; refine wp_ret ?_; refine block_ret ?_; refine seq_ret ?_; refine iter_ret ?_; refine block_ret ?_; refine seq_ret ?_; refine block_ret ?_; refine seq_ret ?_; refine iter_ret ?_; refine block_ret ?_; refine seq_ret ?_; refine ret_of ?_; refine zr ?_; refine rk_nil ?_
        exact ⟨rfl, S.drop (S.drop hS)⟩
      · refine wp_skip ?_; refine block_normal ?_; refine seq_normal ?_; refine wp_region ?_; refine wpO_cons ?_; refine op1_add rfl rfl rfl (by exact wrap_i64 (by omega) (by omega)) ?_; refine zw1 ?_; refine wpO_nil ?_
        refine ⟨i - (j + 1), by omega, j + 1, rfl, rfl, by omega, fun q' hq' => ?_, S.drop hS⟩
        rw [List.take_add_one, hq] at hq'
        rcases List.mem_append.1 hq' with h | h
        · exact hno q' h
        · simp at h; subst h; exact n3
    obtain rfl : j = i := by omega
    have n3 : ¬ ((pls.take j).any fun q => decide (p.name = q.name)) = true := by
      rw [List.any_eq_true]
      rintro ⟨q, h1, h2⟩
      exact hno q h1 (of_decide_eq_true h2)
    refine wp_exit ?_; refine seq_exit ?_; refine iter_exit ?_; refine block_exit ?_; refine seq_normal ?_; refine wp_seq ?_
    refine wp_cut [68] (fun vs H' => vs = [.bool (decide (p.count < 1 ∨ 4096 < p.count ∨ p.first < 0 ∨ 4096 < p.first ∨ 4096 < p.first + p.count))] ∧ H4 = H') ?_ ?_
    · refine wp_region ?_; refine zf ?_; refine zh (S.g0 hS) ?_; refine wpO_cons ?_; refine op1_lss rfl rfl rfl ?_; refine zw1 ?_; refine wpO_cons ?_
      refine op1_dec rfl (fun g1 => ?_) (fun g1 => ?_)
      · refine op1_skip rfl ?_; refine zk ?_; refine zk ?_; refine zt ?_; refine zw1 ?_; (iterate 3 refine zk ?_); refine zt ?_; refine zw1 ?_; (iterate 3 refine zk ?_); refine zt ?_; refine zw1 ?_; (iterate 6 refine zk ?_); refine zt ?_; refine wpO_nil ?_; refine cut1 (by (conv => lhs; whnf) <;> rfl) ?_
        exact ⟨bool_leaf ⟨fun _ => .inl g1, fun _ => rfl⟩, rfl⟩
      refine op1_faddr0 rfl rfl ?_; refine zh (S.g0 hS) ?_; refine wpO_cons ?_; refine op1_gtr rfl rfl rfl ?_; refine zu ?_; refine zw1 ?_; refine wpO_cons ?_
      refine op1_dec rfl (fun g2 => ?_) (fun g2 => ?_)
      · refine op1_skip rfl ?_; refine zk ?_; refine zk ?_; refine zt ?_; refine zw1 ?_; (iterate 3 refine zk ?_); refine zt ?_; refine zw1 ?_; (iterate 6 refine zk ?_); refine zt ?_; refine wpO_nil ?_; refine cut1 (by (conv => lhs; whnf) <;> rfl) ?_
        exact ⟨bool_leaf ⟨fun _ => .inr (.inl g2), fun _ => rfl⟩, rfl⟩
      refine op1_faddr0 rfl rfl ?_; refine zh (S.g0 hS) ?_; refine wpO_cons ?_; refine op1_lss rfl rfl rfl ?_; refine zu ?_; refine zw1 ?_; refine wpO_cons ?_
      refine op1_dec rfl (fun g3 => ?_) (fun g3 => ?_)
      · refine op1_skip rfl ?_; refine zk ?_; refine zk ?_; refine zt ?_; refine zw1 ?_; (iterate 6 refine zk ?_); refine zt ?_; refine wpO_nil ?_; refine cut1 (by (conv => lhs; whnf) <;> rfl) ?_
        exact ⟨bool_leaf ⟨fun _ => .inr (.inr (.inl g3)), fun _ => rfl⟩, rfl⟩
      refine op1_faddr0 rfl rfl ?_; refine zh (S.g0 hS) ?_; refine wpO_cons ?_; refine op1_gtr rfl rfl rfl ?_; refine zu ?_; refine zw1 ?_; refine wpO_cons ?_
      refine op1_dec rfl (fun g4 => ?_) (fun g4 => ?_)
      · refine op1_skip rfl ?_; (iterate 5 refine zk ?_); refine zt ?_; refine wpO_nil ?_; refine cut1 (by (conv => lhs; whnf) <;> rfl) ?_
        exact ⟨bool_leaf ⟨fun _ => .inr (.inr (.inr (.inl g4))), fun _ => rfl⟩, rfl⟩
      refine op1_faddr0 rfl rfl ?_; refine zh (S.g0 hS) ?_; refine zf ?_; refine zh (S.g0 hS) ?_; refine wpO_cons ?_; refine op1_add rfl rfl rfl (by exact wrap_i64 (by omega) (by omega)) ?_; refine wpO_cons ?_; refine op1_gtr rfl rfl rfl ?_; refine zu ?_; refine wpO_nil ?_; refine cut1 (by (conv => lhs; whnf) <;> rfl) ?_
      exact ⟨by congr 2; rw [decide_eq_decide]; omega, rfl⟩
    rintro vs3 T3 H5 ⟨rfl, rfl⟩
    refine wp_dec rfl (fun n4 => ?_) (fun n4 => ?_)
    · have e : chk1 (pls.take j) p = 34 := by unfold chk1; rw [if_neg (by omega), if_neg (by omega), if_neg n3, if_pos n4]
      rw [e, if_pos (by decide)] at hce
      rw [← hce]
      refine zsr ?_; refine zw1 ?_; refine zns ?_; refine wp_ret ?_; refine seq_ret ?_; refine block_ret ?_; refine seq_ret ?_; refine iter_ret ?_; refine block_ret ?_; refine seq_ret ?_; refine ret_of ?_; refine zr ?_; refine rk_nil ?_
      exact ⟨rfl, S.drop hS⟩
    refine wp_skip ?_; refine seq_normal ?_; refine zsr ?_; refine zw1 ?_; refine zw1 ?_; refine wpO_cons ?_
    obtain ⟨cs5, e5, ro5, hg5, he5⟩ := rd_blk (sp := none) (hS.rdB hr hlt) (by omega)
    refine op1_sliceB rfl rfl hg5 he5 (bnds_hi (by omega) (by omega)) (by omega) (by simp only [Int.toNat_natCast]; omega) ?_
    simp only [Int.toNat_natCast, Nat.zero_mul, Nat.sub_zero, Nat.add_zero]
    refine wpO_cons ?_; refine op1_len rfl rfl ?_; refine zw1 ?_; refine zns ?_; refine wp_block ?_
    refine wp_loop [73] (fun k vs H' => ∃ m : Nat, vs = [.int .i64 m] ∧ k = j - m ∧ m ≤ j ∧ (∀ q ∈ pls.take m, ¬ over p q = true) ∧ S B H' (pto p1 (.cells [.string p.name, .int .i64 p.first, .int .i64 p.count, .bool p.gen, .bool p.keep] 0 false) :: As))
      ⟨_, 0, rfl, rfl, by omega, by simp, hS⟩ ?_
    clear hS hg5 he5
    rintro k vs T4 H6 ⟨m, rfl, rfl, hm, hno2, hS⟩
    refine zsr ?_; refine wpO_cons ?_; refine op1_lss rfl rfl rfl ?_; refine zns ?_; refine wp_seq ?_
    refine wp_dec rfl (fun hlt4 => ?_) (fun hlt4 => ?_)
    · obtain ⟨q, hq⟩ : ∃ q, pls[m]? = some q := ⟨pls[m]'(by omega), by simp⟩
      obtain ⟨b', off', cs', e', ro', h5, hg, hle', hrow'⟩ := rd_row (hS.rdB hr hlt) rfl hq
      cases h5
      have hqo := hok q (by rw [List.mem_iff_getElem?]; exact ⟨m, by rw [List.getElem?_take, if_pos (by omega)]; exact hq⟩)
      refine wp_skip ?_; refine seq_normal ?_; refine wp_seq ?_; refine wp_block ?_; refine zsr ?_; refine wpO_cons ?_; refine op1_iaddr rfl rfl rfl (by omega) (by omega) ?_; refine wpO_cons ?_
      refine op1_loadN rfl rfl hg hle' hrow' ?_
      unfold plC
      refine wpO_cons ?_; refine op1_allocS rfl hS ?_; intro p2 H5 hS; refine wpO_cons ?_; (refine op1_storeNS rfl rfl (by (conv => lhs; whnf) <;> rfl) rfl rfl (S.up0 hS) (Nat.le_of_ble_eq_true rfl) ?_; intro H7 hS; replace hS := S.dn0 hS); refine zns ?_
      refine wp_cut [94] (fun vs H' => vs = [.bool (over p q)] ∧ H7 = H') ?_ ?_
      · refine wp_region ?_; refine zf ?_; refine zh (S.g1 hS) ?_; refine zf ?_; refine zh (S.g0 hS) ?_; refine zf ?_; refine zh (S.g0 hS) ?_; refine wpO_cons ?_; refine op1_add rfl rfl rfl (by exact wrap_i64 (by omega) (by omega)) ?_; refine wpO_cons ?_; refine op1_lss rfl rfl rfl ?_; refine zw1 ?_; refine wpO_cons ?_
        refine op1_dec rfl (fun g1 => ?_) (fun g1 => ?_)
        · refine op1_faddr0 rfl rfl ?_; refine zh (S.g0 hS) ?_; refine zf ?_; refine zh (S.g1 hS) ?_; refine zf ?_; refine zh (S.g1 hS) ?_; refine wpO_cons ?_; refine op1_add rfl rfl rfl (by exact wrap_i64 (by omega) (by omega)) ?_; refine wpO_cons ?_; refine op1_lss rfl rfl rfl ?_; refine zt ?_; refine wpO_nil ?_; refine cut1 (by (conv => lhs; whnf) <;> rfl) ?_
          refine ⟨bool_leaf (P := p.first < q.first + q.count ∧ q.first < p.first + p.count) ?_, rfl⟩
          rw [decide_eq_true_eq]; omega
        · refine op1_skip rfl ?_; (iterate 7 refine zk ?_); refine zu ?_; refine wpO_nil ?_; refine cut1 (by (conv => lhs; whnf) <;> rfl) ?_
          refine ⟨bool_leaf (P := p.first < q.first + q.count ∧ q.first < p.first + p.count) ?_, rfl⟩
          simp; omega
      rintro vs5 T5 H8 ⟨rfl, rfl⟩
      refine wp_cond rfl (fun n5 => ?_) (fun n5 => ?_)
      · have e : chk1 (pls.take j) p = 10 := by
          unfold chk1
          rw [if_neg (by omega), if_neg (by omega), if_neg n3, if_neg n4, if_pos]
          rw [List.any_eq_true]
          refine ⟨q, ?_, n5⟩
          rw [List.mem_iff_getElem?]
          exact ⟨m, by rw [List.getElem?_take, if_pos (by omega)]; exact hq⟩
        rw [e, if_pos (by decide)] at hce
        rw [← hce]
        refine zsr ?_; refine zw1 ?_; refine zns ?_; refine wp_ret ?_; refine block_ret ?_; refine seq_ret ?_; refine iter_ret ?_; refine block_ret ?_; refine block_ret ?_; refine seq_ret ?_; refine iter_ret ?_; refine block_ret ?_; refine seq_ret ?_; refine ret_of ?_; refine zr ?_; refine rk_nil ?_
        exact ⟨rfl, S.drop (S.drop hS)⟩
      · refine wp_skip ?_; refine block_normal ?_; refine seq_normal ?_; refine wp_region ?_; refine wpO_cons ?_; refine op1_add rfl rfl rfl (by exact wrap_i64 (by omega) (by omega)) ?_; refine zw1 ?_; refine wpO_nil ?_
        refine ⟨j - (m + 1), by omega, m + 1, rfl, rfl, by omega, fun q' hq' => ?_, S.drop hS⟩
        rw [List.take_add_one, hq] at hq'
        rcases List.mem_append.1 hq' with h | h
        · exact hno2 q' h
        · simp at h; subst h; rw [n5]; simp
    obtain rfl : m = j := by omega
    have n5 : ¬ ((pls.take m).any (over p)) = true := by
      rw [List.any_eq_true]
      rintro ⟨q, h1, h2⟩
      exact hno2 q h1 h2
    have e : chk1 (pls.take m) p = 0 := by unfold chk1; rw [if_neg (by omega), if_neg (by omega), if_neg n3, if_neg n4, if_neg n5]
    rw [e, if_neg (by simp)] at hce
    have htk : pls.take (m + 1) = pls.take m ++ [p] := by rw [List.take_add_one, hp]; rfl
    rw [← htk] at hce
    refine wp_exit ?_; refine seq_exit ?_; refine iter_exit ?_; refine block_exit ?_; refine block_normal ?_; refine seq_normal ?_; refine wp_region ?_; refine wpO_cons ?_; refine op1_add rfl rfl rfl (by exact wrap_i64 (by omega) (by omega)) ?_; refine zw1 ?_; refine wpO_nil ?_
    refine ⟨pls.length - (m + 1), by omega, m + 1, rfl, rfl, by omega, hce, fun q hq => ?_, S.drop hS⟩
    rw [htk] at hq
    rcases List.mem_append.1 hq with h | h
    · exact hok q h
    · simp at h; subst h; omega
  · obtain rfl : i = pls.length := by omega
    rw [List.take_length, List.drop_length, chksE] at hce
    rw [← hce]
    refine wp_exit ?_; refine seq_exit ?_; refine iter_exit ?_; refine block_exit ?_; refine seq_normal ?_; refine zsr ?_; refine zw1 ?_; refine zns ?_; refine wp_ret ?_; refine ret_of ?_; refine zr ?_; refine rk_nil ?_
    exact ⟨rfl, hS⟩
end Go.E.Fa
