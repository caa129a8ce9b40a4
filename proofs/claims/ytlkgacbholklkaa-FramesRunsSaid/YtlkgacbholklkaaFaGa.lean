/- Pools as arguments: Few, Pools. -/
import Derived.Test.YtlkgacbholklkaaFaCode2
import Derived.Test.YtlkgacbholklkaaFaF789
namespace Go.E.Fa
open Go Go.E Go.Proofs.Ytlkgacbholklkaa Go.Proofs
set_option linter.unusedVariables false
set_option linter.unusedSimpArgs false
set_option maxRecDepth 100000
def Short (l : List Pl) : Prop := l.length ≤ 20 ∧ ∀ p ∈ l, p.name.size ≤ 200
theorem L14 {B H : AHeap} {As : List Asn} {a : Option Addr} {c : Nat} {pls : List Pl} {r : List Nat} (hlen : pls.length ≤ 9223372036854775807) (hr : RdS B 5 (.slice a pls.length c) (pls.flatMap plC) r) (hlt : ∀ b ∈ r, b < B.next) (hS : S B H As) :
    wpF C 14 [.slice a pls.length c] H fun v H' => (∃ b, v = .bool b ∧ (b = true ↔ Short pls)) ∧ S B H' As := by
  refine wpF_ofW o14 rfl rfl ?_
  refine zsr ?_; refine zw1 ?_; refine zns ?_; refine wp_seq ?_; refine zsr ?_; refine zw1 ?_; refine wpO_cons ?_; refine op1_len rfl rfl ?_; refine zw1 ?_; refine zns ?_; refine wp_block ?_
  refine wp_loop [7] (fun k vs H' => ∃ i : Nat, vs = [.int .i64 i] ∧ k = pls.length - i ∧ i ≤ pls.length ∧ (∀ p ∈ pls.take i, p.name.size ≤ 200) ∧ S B H' As) ⟨_, 0, rfl, rfl, by omega, by simp, hS⟩ ?_
  clear hS
  rintro k vs T' H1 ⟨i, rfl, rfl, hi, hno, hS⟩
  refine zsr ?_; refine wpO_cons ?_; refine op1_lss rfl rfl rfl ?_; refine zns ?_; refine wp_seq ?_
  refine wp_dec rfl (fun hlt2 => ?_) (fun hlt2 => ?_)
  · obtain ⟨p, hp⟩ : ∃ p, pls[i]? = some p := ⟨pls[i]'(by omega), by simp⟩
    obtain ⟨b, off, cs, e1, ro, h5, hg, hle, hrow⟩ := rd_row (hS.rdB hr hlt) rfl hp
    cases h5
    refine wp_skip ?_; refine seq_normal ?_; refine wp_seq ?_; refine wp_block ?_; refine zsr ?_; refine wpO_cons ?_; refine op1_iaddr rfl rfl rfl (by omega) (by omega) ?_; refine wpO_cons ?_
    refine op1_loadN rfl rfl hg hle hrow ?_
    unfold plC
    refine wpO_cons ?_; refine op1_allocS rfl hS ?_; intro p1 H2 hS; refine wpO_cons ?_; (refine op1_storeNS rfl rfl (by (conv => lhs; whnf) <;> rfl) rfl rfl (S.up0 hS) (Nat.le_of_ble_eq_true rfl) ?_; intro H3 hS; replace hS := S.dn0 hS); refine zns ?_; refine zsr ?_; refine wpO_cons ?_; refine op1_faddr0 rfl rfl ?_; refine wpO_cons ?_; refine op1_load rfl rfl (by exact S.g0 hS) rfl ?_; refine wpO_cons ?_; refine op1_lenS rfl rfl ?_; refine wpO_cons ?_; refine op1_gtr rfl rfl rfl ?_; refine zns ?_
    refine wp_dec rfl (fun h200 => ?_) (fun h200 => ?_)
    · refine zsr ?_; refine zw1 ?_; refine zns ?_; refine wp_ret ?_; refine block_ret ?_; refine seq_ret ?_; refine iter_ret ?_; refine block_ret ?_; refine seq_ret ?_; refine ret_of ?_; refine rk_tmp (by (conv => lhs; whnf) <;> rfl) ?_; refine rk_nil ?_
      refine ⟨⟨_, rfl, ?_⟩, S.drop hS⟩
      constructor
      · intro h; cases h
      · intro h; have := h.2 p (List.mem_of_getElem? hp); omega
    · refine wp_skip ?_; refine block_normal ?_; refine seq_normal ?_; refine wp_region ?_; refine wpO_cons ?_; refine op1_add rfl rfl rfl (by exact wrap_i64 (by omega) (by omega)) ?_; refine zw1 ?_; refine wpO_nil ?_
      refine ⟨pls.length - (i + 1), by omega, i + 1, rfl, rfl, by omega, fun q hq => ?_, S.drop hS⟩
      rw [List.take_add_one, hp] at hq
      rcases List.mem_append.1 hq with h | h
      · exact hno q h
      · simp at h; subst h; omega
  · obtain rfl : i = pls.length := by omega
    rw [List.take_length] at hno
    refine wp_exit ?_; refine seq_exit ?_; refine iter_exit ?_; refine block_exit ?_; refine seq_normal ?_; refine zsr ?_; refine zw1 ?_; refine wpO_cons ?_; refine op1_len rfl rfl ?_; refine wpO_cons ?_; refine op1_leq rfl rfl rfl ?_; refine zw1 ?_; refine zns ?_; refine wp_ret ?_; refine ret_of ?_; refine rk_tmp (by (conv => lhs; whnf) <;> rfl) ?_; refine rk_nil ?_
    refine ⟨⟨_, rfl, ?_⟩, hS⟩
    unfold Short
    rw [decide_eq_true_eq]
    constructor
    · intro h; exact ⟨by omega, hno⟩
    · intro h; have := h.1; omega

theorem L17 {B H : AHeap} {As : List Asn} {a : Option Addr} {c : Nat} {pls : List Pl} {r : List Nat} (hlen : pls.length ≤ 1000) (hr : RdS B 5 (.slice a pls.length c) (pls.flatMap plC) r) (hlt : ∀ b ∈ r, b < B.next) (hS : S B H As) :
    wpF C 17 [.slice a pls.length c] H fun v H' => S B H' (sl 5 v (pls.flatMap plC) :: As) := by
  refine wpF_ofW o17 rfl rfl ?_
  refine zsr ?_; refine zw1 ?_; refine zns ?_; refine zsr ?_; refine zw1 ?_; refine zns ?_; refine wp_seq ?_; refine zsr ?_; refine zw1 ?_; refine wpO_cons ?_; refine op1_len rfl rfl ?_; refine zw1 ?_; refine zns ?_; refine wp_block ?_
  refine wp_loop [3, 8] (fun k vs H' => ∃ (i : Nat) (vo : Value), vs = [vo, .int .i64 i] ∧ k = pls.length - i ∧ i ≤ pls.length ∧ S B H' (sl 5 vo ((pls.take i).flatMap plC) :: As)) ⟨_, 0, _, rfl, rfl, by omega, hS.slNil⟩ ?_
  clear hS
  rintro k vs T' H1 ⟨i, vo, rfl, rfl, hi, hS⟩
  refine zsr ?_; refine wpO_cons ?_; refine op1_lss rfl rfl rfl ?_; refine zns ?_; refine wp_seq ?_
  refine wp_dec rfl (fun hlt2 => ?_) (fun hlt2 => ?_)
  · obtain ⟨p, hp⟩ : ∃ p, pls[i]? = some p := ⟨pls[i]'(by omega), by simp⟩
    obtain ⟨b, off, cs, e1, ro, h5, hg, hle, hrow⟩ := rd_row (hS.rdB hr hlt) rfl hp
    cases h5
    obtain ⟨ao, lo, co, rfl, hlo⟩ := S.shape hS
    rw [plC_flen, List.length_take] at hlo
    obtain rfl : lo = i := by omega
    refine wp_skip ?_; refine seq_normal ?_; refine wp_seq ?_; refine wp_block ?_; refine zsr ?_; refine wpO_cons ?_; refine op1_iaddr rfl rfl rfl (by omega) (by omega) ?_; refine wpO_cons ?_
    refine op1_loadN rfl rfl hg hle hrow ?_
    unfold plC
    refine wpO_cons ?_; refine op1_allocS rfl hS ?_; intro p1 H2 hS; refine wpO_cons ?_; (refine op1_storeNS rfl rfl (by (conv => lhs; whnf) <;> rfl) rfl rfl (S.up0 hS) (Nat.le_of_ble_eq_true rfl) ?_; intro H3 hS; replace hS := S.dn0 hS); refine zns ?_; refine wp_region ?_; refine zw1 ?_; refine wpO_cons ?_; refine op1_faddr0 rfl rfl ?_; refine wpO_cons ?_; refine op1_load rfl rfl (by exact S.g0 hS) rfl ?_; refine wpO_cons ?_; refine op1_faddr0 rfl rfl ?_; refine wpO_cons ?_; refine op1_load rfl rfl (by exact S.g0 hS) rfl ?_; refine wpO_cons ?_; refine op1_faddr0 rfl rfl ?_; refine wpO_cons ?_; refine op1_load rfl rfl (by exact S.g0 hS) rfl ?_; refine wpO_cons ?_; refine op1_faddr0 rfl rfl ?_; refine wpO_cons ?_; refine op1_load rfl rfl (by exact S.g0 hS) rfl ?_; refine wpO_cons ?_; refine op1_faddr0 rfl rfl ?_; refine wpO_cons ?_; refine op1_load rfl rfl (by exact S.g0 hS) rfl ?_; refine wpO_cons ?_; refine op1_build rfl ?_; refine bk_one (by (conv => lhs; whnf) <;> rfl) rfl rfl rfl ?_; refine bk_one (by (conv => lhs; whnf) <;> rfl) rfl rfl rfl ?_; refine bk_one (by (conv => lhs; whnf) <;> rfl) rfl rfl rfl ?_; refine bk_one (by (conv => lhs; whnf) <;> rfl) rfl rfl rfl ?_; refine bk_one (by (conv => lhs; whnf) <;> rfl) rfl rfl rfl ?_; refine bk_nil ?_; refine wpO_cons ?_; refine op1_bsliceS rfl hS ?_; refine bk_agg rfl rfl rfl rfl ?_; refine bk_nil ?_; intro p2 H4 hS; refine wpO_cons ?_; (refine op1_appBS rfl rfl (by (conv => lhs; whnf) <;> rfl) rfl (S.g0 hS) rfl rfl (S.up2 hS) (by omega) ?_; intro a1 c1 H5 hS; replace hS := S.dn2 hS; replace hS := S.drop hS); refine zw1 ?_; refine wpO_nil ?_; refine block_normal ?_; refine seq_normal ?_; refine wp_region ?_; refine wpO_cons ?_; refine op1_add rfl rfl rfl (by exact wrap_i64 (by omega) (by omega)) ?_; refine zw1 ?_; refine wpO_nil ?_
    have e9 : (pls.take (lo + 1)).flatMap plC = (pls.take lo).flatMap plC ++ plC p := by
      rw [List.take_add_one, hp, List.flatMap_append]; simp
    have hS' : S B H5 (sl 5 (.slice a1 (lo + 1) c1) ((pls.take (lo + 1)).flatMap plC) :: As) := by
      rw [e9]
      exact S.drop hS
    exact ⟨pls.length - (lo + 1), by omega, lo + 1, _, rfl, rfl, by omega, hS'⟩
  · obtain rfl : i = pls.length := by omega
    rw [List.take_length] at hS
    refine wp_exit ?_; refine seq_exit ?_; refine iter_exit ?_; refine block_exit ?_; refine seq_normal ?_; refine zsr ?_; refine zw1 ?_; refine zw1 ?_; refine zns ?_; refine wp_ret ?_; refine ret_of ?_; refine rk_tmp (by (conv => lhs; whnf) <;> rfl) ?_; refine rk_nil ?_
    exact hS
end Go.E.Fa
/- The reference: Check. -/
namespace Go.E.Fa
open Go Go.E Go.Proofs.Ytlkgacbholklkaa Go.Proofs
set_option linter.unusedVariables false
set_option linter.unusedSimpArgs false
set_option maxRecDepth 100000
def over (p q : Pl) : Bool := decide (p.first < q.first + q.count ∧ q.first < p.first + p.count)
def chk1 (l : List Pl) (p : Pl) : Int :=
  if 64 < p.name.size then 21 else if p.name.size = 0 then 9 else if l.any (fun q => decide (p.name = q.name)) then 38
  else if p.count < 1 ∨ 4096 < p.count ∨ p.first < 0 ∨ 4096 < p.first ∨ 4096 < p.first + p.count then 34
  else if l.any (over p) then 10 else 0
theorem any_name (l : List Pl) (s : ByteArray) : (kvGet (ixOf l) s).isSome = l.any fun q => decide (s = q.name) := by
  rw [kvGet_ix]
  unfold nameIx
  rw [Option.isSome_map, List.findIdx?_isSome]
  congr 1
  funext q
  rw [decide_eq_decide]
  exact eq_comm
theorem clash_over {l : List Pl} {p : Pl} (hp : 1 ≤ p.count) (hl : ∀ q ∈ l, 1 ≤ q.count) : clash (l.flatMap rng) p = l.any (over p) := by
  rw [Bool.eq_iff_iff]
  unfold clash
  rw [List.any_eq_true, List.any_eq_true]
  constructor
  · rintro ⟨n, h1, h2⟩
    obtain ⟨q, hq, h3⟩ := List.mem_flatMap.1 (of_decide_eq_true h2)
    have hq1 := hl q hq
    have h1 := of_decide_eq_true ((rng_mem (by omega)).1 h1)
    have h3 := of_decide_eq_true ((rng_mem (by omega)).1 h3)
    exact ⟨q, hq, decide_eq_true (by omega)⟩
  · rintro ⟨q, hq, h1⟩
    have hq1 := hl q hq
    have h1 := of_decide_eq_true h1
    by_cases h2 : p.first ≤ q.first
    · exact ⟨q.first, (rng_mem (by omega)).2 (decide_eq_true (by omega)), decide_eq_true (List.mem_flatMap.2 ⟨q, hq, (rng_mem (by omega)).2 (decide_eq_true (by omega))⟩)⟩
    · exact ⟨p.first, (rng_mem (by omega)).2 (decide_eq_true (by omega)), decide_eq_true (List.mem_flatMap.2 ⟨q, hq, (rng_mem (by omega)).2 (decide_eq_true (by omega))⟩)⟩
theorem chk1_eq {l : List Pl} {p : Pl} (hl : ∀ q ∈ l, 1 ≤ q.count) : chk1 l p = addEv (ixOf l) (l.flatMap rng) p := by
  unfold chk1 addEv
  rw [any_name]
  by_cases h1 : 64 < p.name.size
  · rw [if_pos h1, if_pos h1]
  rw [if_neg h1, if_neg h1]
  by_cases h2 : p.name.size = 0
  · rw [if_pos h2, if_pos h2]
  rw [if_neg h2, if_neg h2]
  by_cases h3 : (l.any fun q => decide (p.name = q.name)) = true
  · rw [if_pos h3, if_pos h3]
  rw [if_neg h3, if_neg h3]
  by_cases h4 : p.count < 1 ∨ p.first < 0 ∨ 4096 < p.count ∨ 4096 - p.count < p.first
  · rw [if_pos h4, if_pos (by omega)]
  · rw [if_neg h4, if_neg (by omega), clash_over (by omega) hl]
def chksE : List Pl → List Pl → Int
  | _, [] => 0
  | l, p :: ps => if chk1 l p ≠ 0 then chk1 l p else chksE (l ++ [p]) ps
def checkE (pls : List Pl) : Int := if pls.length = 0 then 9 else if 16 < pls.length then 18 else chksE [] pls
theorem chksE_eq : ∀ (r l : List Pl), (∀ q ∈ l, 1 ≤ q.count) → chksE l r = addsE l r
  | [], _, _ => rfl
  | p :: r, l, hl => by
    unfold chksE addsE
    rw [chk1_eq hl]
    by_cases h : addEv (ixOf l) (l.flatMap rng) p ≠ 0
    · rw [if_pos h, if_pos h]
    · rw [if_neg h, if_neg h]
      refine chksE_eq r _ fun q hq => ?_
      rcases List.mem_append.1 hq with h1 | h1
      · exact hl q h1
      · rw [List.mem_singleton] at h1
        subst h1
        exact (addEv_ok (Classical.not_not.1 h)).1.1
theorem checkE_eq (pls : List Pl) : checkE pls = newE pls := by
  unfold checkE newE
  rw [chksE_eq _ _ (by simp)]

theorem rd_blk {H : AHeap} {b off l c es : Nat} {sp : Option Nat} {xs : List Value} {r : List Nat} (h : RdS H es (.slice (some ⟨b, off, none⟩) l c) xs r) (hl : l ≠ 0) : ∃ cs e ro, H.get b = .cells cs e ro ∧ (e = 0 ∨ e = es) := by
  generalize hv : Value.slice (some ⟨b, off, none⟩) l c = v at h
  cases h with
  | nil => cases hv
  | empty a => cases hv; exact absurd rfl hl
  | blk hg hc he hl2 =>
    cases hv
    exact ⟨_, _, _, hg, he⟩
theorem L16 {B H : AHeap} {As : List Asn} {a : Option Addr} {c : Nat} {pls : List Pl} {r : List Nat} (hlen : pls.length ≤ 1000)
    (hb : ∀ p ∈ pls, p.name.size ≤ 1000 ∧ (-9223372036854775808 ≤ p.count ∧ p.count ≤ 9223372036854775807) ∧ (-9223372036854775808 ≤ p.first ∧ p.first ≤ 9223372036854775807))
    (hr : RdS B 5 (.slice a pls.length c) (pls.flatMap plC) r) (hlt : ∀ b ∈ r, b < B.next) (hS : S B H As) :
    wpF C 16 [.slice a pls.length c] H fun v H' => v = .int .i64 (checkE pls) ∧ S B H' As := by
  refine wpF_ofW o16 rfl rfl ?_
  refine zsr ?_; refine zw1 ?_; refine zns ?_; refine wp_seq ?_; refine zsr ?_; refine zw1 ?_; refine wpO_cons ?_; refine op1_len rfl rfl ?_; refine wpO_cons ?_; refine op1_eqlI rfl rfl rfl ?_; refine zns ?_
  refine wp_dec rfl (fun h1 => ?_) (fun h1 => ?_)
  · have e : checkE pls = 9 := by unfold checkE; rw [if_pos (by omega)]
    rw [e]
    refine zsr ?_; refine zw1 ?_; refine zns ?_; refine wp_ret ?_; refine seq_ret ?_; refine ret_of ?_; refine rk_tmp (by (conv => lhs; whnf) <;> rfl) ?_; refine rk_nil ?_
    exact ⟨rfl, hS⟩
  refine wp_skip ?_; refine seq_normal ?_; refine wp_seq ?_; refine zsr ?_; refine zw1 ?_; refine wpO_cons ?_; refine op1_len rfl rfl ?_; refine wpO_cons ?_; refine op1_gtr rfl rfl rfl ?_; refine zns ?_
  refine wp_dec rfl (fun h2 => ?_) (fun h2 => ?_)
  · have e : checkE pls = 18 := by unfold checkE; rw [if_neg (by omega), if_pos (by omega)]
    rw [e]
    refine zsr ?_; refine zw1 ?_; refine zns ?_; refine wp_ret ?_; refine seq_ret ?_; refine ret_of ?_; refine rk_tmp (by (conv => lhs; whnf) <;> rfl) ?_; refine rk_nil ?_
    exact ⟨rfl, hS⟩
  have e : checkE pls = chksE [] pls := by unfold checkE; rw [if_neg (by omega), if_neg (by omega)]
  rw [e]
  clear e
  have hcap := hr.le_cap
  refine wp_skip ?_; refine seq_normal ?_; refine wp_seq ?_; refine zsr ?_; refine zw1 ?_; refine wpO_cons ?_; refine op1_len rfl rfl ?_; refine zw1 ?_; refine zns ?_; refine wp_block ?_
  refine wp_loop [17] (fun k vs H' => ∃ i : Nat, vs = [.int .i64 i] ∧ k = pls.length - i ∧ i ≤ pls.length ∧ chksE (pls.take i) (pls.drop i) = chksE [] pls ∧ (∀ q ∈ pls.take i, 1 ≤ q.count ∧ 0 ≤ q.first ∧ q.first + q.count ≤ 4096) ∧ S B H' As) ⟨_, 0, rfl, rfl, by omega, by simp, by simp, hS⟩ ?_
  clear hS
  rintro k vs T' H1 ⟨i, rfl, rfl, hi, hce, hok, hS⟩
  refine zsr ?_; refine wpO_cons ?_; refine op1_lss rfl rfl rfl ?_; refine zns ?_; refine wp_seq ?_
  refine wp_dec rfl (fun hlt2 => ?_) (fun hlt2 => ?_)
  · obtain ⟨p, hp⟩ : ∃ p, pls[i]? = some p := ⟨pls[i]'(by omega), by simp⟩
    obtain ⟨b, off, cs, e1, ro, h5, hg, hle, hrow⟩ := rd_row (hS.rdB hr hlt) rfl hp
    cases h5
    have hpb := hb p (List.mem_of_getElem? hp)
    have hdr : pls.drop i = p :: pls.drop (i + 1) := by
      rw [List.drop_eq_getElem_cons (by omega)]
      congr 1
      rw [List.getElem?_eq_getElem (by omega)] at hp
      exact Option.some.inj hp
    rw [hdr, chksE] at hce
    refine wp_skip ?_; refine seq_normal ?_; refine wp_seq ?_; refine wp_block ?_; refine zsr ?_; refine zw1 ?_; refine wpO_cons ?_; refine op1_iaddr rfl rfl rfl (by omega) (by omega) ?_; refine wpO_cons ?_
    refine op1_loadN rfl rfl hg hle hrow ?_
    unfold plC
    refine wpO_cons ?_; refine op1_allocS rfl hS ?_; intro p1 H2 hS; refine zw1 ?_; refine wpO_cons ?_; (refine op1_storeNS rfl rfl (by (conv => lhs; whnf) <;> rfl) rfl rfl (S.up0 hS) (Nat.le_of_ble_eq_true rfl) ?_; intro H3 hS; replace hS := S.dn0 hS); refine zns ?_; refine wp_seq ?_; refine zsr ?_; refine wpO_cons ?_; refine op1_faddr0 rfl rfl ?_; refine wpO_cons ?_; refine op1_load rfl rfl (by exact S.g0 hS) rfl ?_; refine wpO_cons ?_; refine op1_lenS rfl rfl ?_; refine wpO_cons ?_; refine op1_gtr rfl rfl rfl ?_; refine zns ?_
    refine wp_dec rfl (fun n1 => ?_) (fun n1 => ?_)
    · have e : chk1 (pls.take i) p = 21 := by unfold chk1; rw [if_pos (by omega)]
      rw [e, if_pos (by decide)] at hce
      rw [← hce]
      refine zsr ?_; refine zw1 ?_; refine zns ?_; refine wp_ret ?_; refine seq_ret ?_; refine block_ret ?_; refine seq_ret ?_; refine iter_ret ?_; refine block_ret ?_; refine seq_ret ?_; refine ret_of ?_; refine rk_tmp (by (conv => lhs; whnf) <;> rfl) ?_; refine rk_nil ?_
      exact ⟨rfl, S.drop hS⟩
    refine wp_skip ?_; refine seq_normal ?_; refine wp_seq ?_; refine zsr ?_; refine wpO_cons ?_; refine op1_faddr0 rfl rfl ?_; refine wpO_cons ?_; refine op1_load rfl rfl (by exact S.g0 hS) rfl ?_; refine wpO_cons ?_
    refine op1_eqlS0 rfl rfl rfl ?_
    refine zns ?_
    refine wp_dec rfl (fun n2 => ?_) (fun n2 => ?_)
    · have e : chk1 (pls.take i) p = 9 := by unfold chk1; rw [if_neg (by omega), if_pos (by omega)]
      rw [e, if_pos (by decide)] at hce
      rw [← hce]
      refine zsr ?_; refine zw1 ?_; refine zns ?_; refine wp_ret ?_; refine seq_ret ?_; refine block_ret ?_; refine seq_ret ?_; refine iter_ret ?_; refine block_ret ?_; refine seq_ret ?_; refine ret_of ?_; refine rk_tmp (by (conv => lhs; whnf) <;> rfl) ?_; refine rk_nil ?_
      exact ⟨rfl, S.drop hS⟩
    refine wp_skip ?_; refine seq_normal ?_; refine wp_seq ?_; refine zsr ?_; refine zw1 ?_; refine zw1 ?_; refine wpO_cons ?_
    obtain ⟨cs3, e3, ro3, hg3, he3⟩ := rd_blk (sp := none) (hS.rdB hr hlt) (by omega)
    refine op1_sliceB rfl rfl hg3 he3 (bnds_hi (by omega) (by omega)) (by omega) (by simp only [Int.toNat_natCast]; omega) ?_
    simp only [Int.toNat_natCast, Nat.zero_mul, Nat.sub_zero, Nat.add_zero]
    refine wpO_cons ?_; refine op1_len rfl rfl ?_; refine zw1 ?_; refine zns ?_; refine wp_block ?_
    refine wp_loop [33] (fun k vs H' => ∃ j : Nat, vs = [.int .i64 j] ∧ k = i - j ∧ j ≤ i ∧ (∀ q ∈ pls.take j, ¬ p.name = q.name) ∧ S B H' (pto p1 (.cells [.string p.name, .int .i64 p.first, .int .i64 p.count, .bool p.gen, .bool p.keep] 0 false) :: As))
      ⟨_, 0, rfl, rfl, by omega, by simp, hS⟩ ?_
    clear hS hg3 he3 hg
    rintro k vs T2 H4 ⟨j, rfl, rfl, hj, hno, hS⟩
    refine zsr ?_; refine wpO_cons ?_; refine op1_lss rfl rfl rfl ?_; refine zns ?_; refine wp_seq ?_
    refine wp_dec rfl (fun hlt3 => ?_) (fun hlt3 => ?_)
    · obtain ⟨q, hq⟩ : ∃ q, pls[j]? = some q := ⟨pls[j]'(by omega), by simp⟩
      obtain ⟨b', off', cs', e', ro', h5, hg, hle', hrow'⟩ := rd_row (hS.rdB hr hlt) rfl hq
      cases h5
      refine wp_skip ?_; refine seq_normal ?_; refine wp_seq ?_; refine wp_block ?_; refine zsr ?_; refine wpO_cons ?_; refine op1_iaddr rfl rfl rfl (by omega) (by omega) ?_; refine wpO_cons ?_
      refine op1_loadN rfl rfl hg hle' hrow' ?_
      unfold plC
      refine wpO_cons ?_; refine op1_allocS rfl hS ?_; intro p2 H5 hS; refine wpO_cons ?_; (refine op1_storeNS rfl rfl (by (conv => lhs; whnf) <;> rfl) rfl rfl (S.up0 hS) (Nat.le_of_ble_eq_true rfl) ?_; intro H6 hS; replace hS := S.dn0 hS); refine zns ?_; refine zsr ?_; refine wpO_cons ?_; refine op1_faddr0 rfl rfl ?_; refine wpO_cons ?_; refine op1_load rfl rfl (by exact S.g1 hS) rfl ?_; refine wpO_cons ?_; refine op1_faddr0 rfl rfl ?_; refine wpO_cons ?_; refine op1_load rfl rfl (by exact S.g0 hS) rfl ?_; refine wpO_cons ?_
      refine op1_eqlSD rfl rfl rfl ?_
      refine zns ?_
      refine wp_dec rfl (fun n3 => ?_) (fun n3 => ?_)
      · have e : chk1 (pls.take i) p = 38 := by
          unfold chk1
          rw [if_neg (by omega), if_neg (by omega), if_pos]
          rw [List.any_eq_true]
          refine ⟨q, ?_, decide_eq_true n3⟩
          rw [List.mem_iff_getElem?]
          exact ⟨j, by rw [List.getElem?_take, if_pos (by omega)]; exact hq⟩
        rw [e, if_pos (by decide)] at hce
        rw [← hce]
        refine zsr ?_; refine zw1 ?_; refine zns ?_; refine wp_ret ?_; refine block_ret ?_; refine seq_ret ?_; refine iter_ret ?_; refine block_ret ?_; refine seq_ret ?_; refine block_ret ?_; refine seq_ret ?_; refine iter_ret ?_; refine block_ret ?_; refine seq_ret ?_; refine ret_of ?_; refine rk_tmp (by (conv => lhs; whnf) <;> rfl) ?_; refine rk_nil ?_
        exact ⟨rfl, S.drop (S.drop hS)⟩
      · refine wp_skip ?_; refine block_normal ?_; refine seq_normal ?_; refine wp_region ?_; refine wpO_cons ?_; refine op1_add rfl rfl rfl (by exact wrap_i64 (by omega) (by omega)) ?_; refine zw1 ?_; refine wpO_nil ?_
        refine ⟨i - (j + 1), by omega, j + 1, rfl, rfl, by omega, fun q' hq' => ?_, S.drop hS⟩
        rw [List.take_add_one, hq] at hq'
        rcases List.mem_append.1 hq' with h | h
        · exact hno q' h
        · simp at h; subst h; exact n3
    obtain rfl : j = i := by omega
    have n3 : ¬ ((pls.take j).any fun q => decide (p.name = q.name)) = true := by
      rw [List.any_eq_true]
      rintro ⟨q, h1, h2⟩
      exact hno q h1 (of_decide_eq_true h2)
    refine wp_exit ?_; refine seq_exit ?_; refine iter_exit ?_; refine block_exit ?_; refine seq_normal ?_; refine wp_seq ?_
    refine wp_cut [68] (fun vs H' => vs = [.bool (decide (p.count < 1 ∨ 4096 < p.count ∨ p.first < 0 ∨ 4096 < p.first ∨ 4096 < p.first + p.count))] ∧ H4 = H') ?_ ?_
    · refine wp_region ?_; refine wpO_cons ?_; refine op1_faddr0 rfl rfl ?_; refine wpO_cons ?_; refine op1_load rfl rfl (by exact S.g0 hS) rfl ?_; refine wpO_cons ?_; refine op1_lss rfl rfl rfl ?_; refine zw1 ?_; refine wpO_cons ?_
      refine op1_dec rfl (fun g1 => ?_) (fun g1 => ?_)
      · refine op1_skip rfl ?_; refine wpO_cons ?_; refine op1_skip rfl ?_; refine wpO_cons ?_; refine op1_skip rfl ?_; refine wpO_cons ?_; refine op1_pick_t rfl rfl (by (conv => lhs; whnf) <;> rfl) ?_; refine zw1 ?_; refine wpO_cons ?_; refine op1_skip rfl ?_; refine wpO_cons ?_; refine op1_skip rfl ?_; refine wpO_cons ?_; refine op1_skip rfl ?_; refine wpO_cons ?_; refine op1_pick_t rfl rfl (by (conv => lhs; whnf) <;> rfl) ?_; refine zw1 ?_; refine wpO_cons ?_; refine op1_skip rfl ?_; refine wpO_cons ?_; refine op1_skip rfl ?_; refine wpO_cons ?_; refine op1_skip rfl ?_; refine wpO_cons ?_; refine op1_pick_t rfl rfl (by (conv => lhs; whnf) <;> rfl) ?_; refine zw1 ?_; refine wpO_cons ?_; refine op1_skip rfl ?_; refine wpO_cons ?_; refine op1_skip rfl ?_; refine wpO_cons ?_; refine op1_skip rfl ?_; refine wpO_cons ?_; refine op1_skip rfl ?_; refine wpO_cons ?_; refine op1_skip rfl ?_; refine wpO_cons ?_; refine op1_skip rfl ?_; refine wpO_cons ?_; refine op1_pick_t rfl rfl (by (conv => lhs; whnf) <;> rfl) ?_; refine wpO_nil ?_; refine cut1 (by (conv => lhs; whnf) <;> rfl) ?_
        exact ⟨bool_leaf ⟨fun _ => .inl g1, fun _ => rfl⟩, rfl⟩
      refine op1_faddr0 rfl rfl ?_; refine wpO_cons ?_; refine op1_load rfl rfl (by exact S.g0 hS) rfl ?_; refine wpO_cons ?_; refine op1_gtr rfl rfl rfl ?_; refine wpO_cons ?_; refine op1_pick_f rfl rfl (by (conv => lhs; whnf) <;> rfl) ?_; refine zw1 ?_; refine wpO_cons ?_
      refine op1_dec rfl (fun g2 => ?_) (fun g2 => ?_)
      · refine op1_skip rfl ?_; refine wpO_cons ?_; refine op1_skip rfl ?_; refine wpO_cons ?_; refine op1_skip rfl ?_; refine wpO_cons ?_; refine op1_pick_t rfl rfl (by (conv => lhs; whnf) <;> rfl) ?_; refine zw1 ?_; refine wpO_cons ?_; refine op1_skip rfl ?_; refine wpO_cons ?_; refine op1_skip rfl ?_; refine wpO_cons ?_; refine op1_skip rfl ?_; refine wpO_cons ?_; refine op1_pick_t rfl rfl (by (conv => lhs; whnf) <;> rfl) ?_; refine zw1 ?_; refine wpO_cons ?_; refine op1_skip rfl ?_; refine wpO_cons ?_; refine op1_skip rfl ?_; refine wpO_cons ?_; refine op1_skip rfl ?_; refine wpO_cons ?_; refine op1_skip rfl ?_; refine wpO_cons ?_; refine op1_skip rfl ?_; refine wpO_cons ?_; refine op1_skip rfl ?_; refine wpO_cons ?_; refine op1_pick_t rfl rfl (by (conv => lhs; whnf) <;> rfl) ?_; refine wpO_nil ?_; refine cut1 (by (conv => lhs; whnf) <;> rfl) ?_
        exact ⟨bool_leaf ⟨fun _ => .inr (.inl g2), fun _ => rfl⟩, rfl⟩
      refine op1_faddr0 rfl rfl ?_; refine wpO_cons ?_; refine op1_load rfl rfl (by exact S.g0 hS) rfl ?_; refine wpO_cons ?_; refine op1_lss rfl rfl rfl ?_; refine wpO_cons ?_; refine op1_pick_f rfl rfl (by (conv => lhs; whnf) <;> rfl) ?_; refine zw1 ?_; refine wpO_cons ?_
      refine op1_dec rfl (fun g3 => ?_) (fun g3 => ?_)
      · refine op1_skip rfl ?_; refine wpO_cons ?_; refine op1_skip rfl ?_; refine wpO_cons ?_; refine op1_skip rfl ?_; refine wpO_cons ?_; refine op1_pick_t rfl rfl (by (conv => lhs; whnf) <;> rfl) ?_; refine zw1 ?_; refine wpO_cons ?_; refine op1_skip rfl ?_; refine wpO_cons ?_; refine op1_skip rfl ?_; refine wpO_cons ?_; refine op1_skip rfl ?_; refine wpO_cons ?_; refine op1_skip rfl ?_; refine wpO_cons ?_; refine op1_skip rfl ?_; refine wpO_cons ?_; refine op1_skip rfl ?_; refine wpO_cons ?_; refine op1_pick_t rfl rfl (by (conv => lhs; whnf) <;> rfl) ?_; refine wpO_nil ?_; refine cut1 (by (conv => lhs; whnf) <;> rfl) ?_
        exact ⟨bool_leaf ⟨fun _ => .inr (.inr (.inl g3)), fun _ => rfl⟩, rfl⟩
      refine op1_faddr0 rfl rfl ?_; refine wpO_cons ?_; refine op1_load rfl rfl (by exact S.g0 hS) rfl ?_; refine wpO_cons ?_; refine op1_gtr rfl rfl rfl ?_; refine wpO_cons ?_; refine op1_pick_f rfl rfl (by (conv => lhs; whnf) <;> rfl) ?_; refine zw1 ?_; refine wpO_cons ?_
      refine op1_dec rfl (fun g4 => ?_) (fun g4 => ?_)
      · refine op1_skip rfl ?_; refine wpO_cons ?_; refine op1_skip rfl ?_; refine wpO_cons ?_; refine op1_skip rfl ?_; refine wpO_cons ?_; refine op1_skip rfl ?_; refine wpO_cons ?_; refine op1_skip rfl ?_; refine wpO_cons ?_; refine op1_skip rfl ?_; refine wpO_cons ?_; refine op1_pick_t rfl rfl (by (conv => lhs; whnf) <;> rfl) ?_; refine wpO_nil ?_; refine cut1 (by (conv => lhs; whnf) <;> rfl) ?_
        exact ⟨bool_leaf ⟨fun _ => .inr (.inr (.inr (.inl g4))), fun _ => rfl⟩, rfl⟩
      refine op1_faddr0 rfl rfl ?_; refine wpO_cons ?_; refine op1_load rfl rfl (by exact S.g0 hS) rfl ?_; refine wpO_cons ?_; refine op1_faddr0 rfl rfl ?_; refine wpO_cons ?_; refine op1_load rfl rfl (by exact S.g0 hS) rfl ?_; refine wpO_cons ?_; refine op1_add rfl rfl rfl (by exact wrap_i64 (by omega) (by omega)) ?_; refine wpO_cons ?_; refine op1_gtr rfl rfl rfl ?_; refine wpO_cons ?_; refine op1_pick_f rfl rfl (by (conv => lhs; whnf) <;> rfl) ?_; refine wpO_nil ?_; refine cut1 (by (conv => lhs; whnf) <;> rfl) ?_
      exact ⟨by congr 2; rw [decide_eq_decide]; omega, rfl⟩
    rintro vs3 T3 H5 ⟨rfl, rfl⟩
    refine wp_dec rfl (fun n4 => ?_) (fun n4 => ?_)
    · have e : chk1 (pls.take j) p = 34 := by unfold chk1; rw [if_neg (by omega), if_neg (by omega), if_neg n3, if_pos n4]
      rw [e, if_pos (by decide)] at hce
      rw [← hce]
      refine zsr ?_; refine zw1 ?_; refine zns ?_; refine wp_ret ?_; refine seq_ret ?_; refine block_ret ?_; refine seq_ret ?_; refine iter_ret ?_; refine block_ret ?_; refine seq_ret ?_; refine ret_of ?_; refine rk_tmp (by (conv => lhs; whnf) <;> rfl) ?_; refine rk_nil ?_
      exact ⟨rfl, S.drop hS⟩
    refine wp_skip ?_; refine seq_normal ?_; refine zsr ?_; refine zw1 ?_; refine zw1 ?_; refine wpO_cons ?_
    obtain ⟨cs5, e5, ro5, hg5, he5⟩ := rd_blk (sp := none) (hS.rdB hr hlt) (by omega)
    refine op1_sliceB rfl rfl hg5 he5 (bnds_hi (by omega) (by omega)) (by omega) (by simp only [Int.toNat_natCast]; omega) ?_
    simp only [Int.toNat_natCast, Nat.zero_mul, Nat.sub_zero, Nat.add_zero]
    refine wpO_cons ?_; refine op1_len rfl rfl ?_; refine zw1 ?_; refine zns ?_; refine wp_block ?_
    refine wp_loop [73] (fun k vs H' => ∃ m : Nat, vs = [.int .i64 m] ∧ k = j - m ∧ m ≤ j ∧ (∀ q ∈ pls.take m, ¬ over p q = true) ∧ S B H' (pto p1 (.cells [.string p.name, .int .i64 p.first, .int .i64 p.count, .bool p.gen, .bool p.keep] 0 false) :: As))
      ⟨_, 0, rfl, rfl, by omega, by simp, hS⟩ ?_
    clear hS hg5 he5
    rintro k vs T4 H6 ⟨m, rfl, rfl, hm, hno2, hS⟩
    refine zsr ?_; refine wpO_cons ?_; refine op1_lss rfl rfl rfl ?_; refine zns ?_; refine wp_seq ?_
    refine wp_dec rfl (fun hlt4 => ?_) (fun hlt4 => ?_)
    · obtain ⟨q, hq⟩ : ∃ q, pls[m]? = some q := ⟨pls[m]'(by omega), by simp⟩
      obtain ⟨b', off', cs', e', ro', h5, hg, hle', hrow'⟩ := rd_row (hS.rdB hr hlt) rfl hq
      cases h5
      have hqo := hok q (by rw [List.mem_iff_getElem?]; exact ⟨m, by rw [List.getElem?_take, if_pos (by omega)]; exact hq⟩)
      refine wp_skip ?_; refine seq_normal ?_; refine wp_seq ?_; refine wp_block ?_; refine zsr ?_; refine wpO_cons ?_; refine op1_iaddr rfl rfl rfl (by omega) (by omega) ?_; refine wpO_cons ?_
      refine op1_loadN rfl rfl hg hle' hrow' ?_
      unfold plC
      refine wpO_cons ?_; refine op1_allocS rfl hS ?_; intro p2 H5 hS; refine wpO_cons ?_; (refine op1_storeNS rfl rfl (by (conv => lhs; whnf) <;> rfl) rfl rfl (S.up0 hS) (Nat.le_of_ble_eq_true rfl) ?_; intro H7 hS; replace hS := S.dn0 hS); refine zns ?_
      refine wp_cut [94] (fun vs H' => vs = [.bool (over p q)] ∧ H7 = H') ?_ ?_
      · refine wp_region ?_; refine wpO_cons ?_; refine op1_faddr0 rfl rfl ?_; refine wpO_cons ?_; refine op1_load rfl rfl (by exact S.g1 hS) rfl ?_; refine wpO_cons ?_; refine op1_faddr0 rfl rfl ?_; refine wpO_cons ?_; refine op1_load rfl rfl (by exact S.g0 hS) rfl ?_; refine wpO_cons ?_; refine op1_faddr0 rfl rfl ?_; refine wpO_cons ?_; refine op1_load rfl rfl (by exact S.g0 hS) rfl ?_; refine wpO_cons ?_; refine op1_add rfl rfl rfl (by exact wrap_i64 (by omega) (by omega)) ?_; refine wpO_cons ?_; refine op1_lss rfl rfl rfl ?_; refine zw1 ?_; refine wpO_cons ?_
        refine op1_dec rfl (fun g1 => ?_) (fun g1 => ?_)
        · refine op1_faddr0 rfl rfl ?_; refine wpO_cons ?_; refine op1_load rfl rfl (by exact S.g0 hS) rfl ?_; refine wpO_cons ?_; refine op1_faddr0 rfl rfl ?_; refine wpO_cons ?_; refine op1_load rfl rfl (by exact S.g1 hS) rfl ?_; refine wpO_cons ?_; refine op1_faddr0 rfl rfl ?_; refine wpO_cons ?_; refine op1_load rfl rfl (by exact S.g1 hS) rfl ?_; refine wpO_cons ?_; refine op1_add rfl rfl rfl (by exact wrap_i64 (by omega) (by omega)) ?_; refine wpO_cons ?_; refine op1_lss rfl rfl rfl ?_; refine wpO_cons ?_; refine op1_pick_t rfl rfl (by (conv => lhs; whnf) <;> rfl) ?_; refine wpO_nil ?_; refine cut1 (by (conv => lhs; whnf) <;> rfl) ?_
          refine ⟨bool_leaf (P := p.first < q.first + q.count ∧ q.first < p.first + p.count) ?_, rfl⟩
          rw [decide_eq_true_eq]; omega
        · refine op1_skip rfl ?_; refine wpO_cons ?_; refine op1_skip rfl ?_; refine wpO_cons ?_; refine op1_skip rfl ?_; refine wpO_cons ?_; refine op1_skip rfl ?_; refine wpO_cons ?_; refine op1_skip rfl ?_; refine wpO_cons ?_; refine op1_skip rfl ?_; refine wpO_cons ?_; refine op1_skip rfl ?_; refine wpO_cons ?_; refine op1_skip rfl ?_; refine wpO_cons ?_; refine op1_pick_f rfl rfl (by (conv => lhs; whnf) <;> rfl) ?_; refine wpO_nil ?_; refine cut1 (by (conv => lhs; whnf) <;> rfl) ?_
          refine ⟨bool_leaf (P := p.first < q.first + q.count ∧ q.first < p.first + p.count) ?_, rfl⟩
          simp; omega
      rintro vs5 T5 H8 ⟨rfl, rfl⟩
      refine wp_cond rfl (fun n5 => ?_) (fun n5 => ?_)
      · have e : chk1 (pls.take j) p = 10 := by
          unfold chk1
          rw [if_neg (by omega), if_neg (by omega), if_neg n3, if_neg n4, if_pos]
          rw [List.any_eq_true]
          refine ⟨q, ?_, n5⟩
          rw [List.mem_iff_getElem?]
          exact ⟨m, by rw [List.getElem?_take, if_pos (by omega)]; exact hq⟩
        rw [e, if_pos (by decide)] at hce
        rw [← hce]
        refine zsr ?_; refine zw1 ?_; refine zns ?_; refine wp_ret ?_; refine block_ret ?_; refine seq_ret ?_; refine iter_ret ?_; refine block_ret ?_; refine block_ret ?_; refine seq_ret ?_; refine iter_ret ?_; refine block_ret ?_; refine seq_ret ?_; refine ret_of ?_; refine rk_tmp (by (conv => lhs; whnf) <;> rfl) ?_; refine rk_nil ?_
        exact ⟨rfl, S.drop (S.drop hS)⟩
      · refine wp_skip ?_; refine block_normal ?_; refine seq_normal ?_; refine wp_region ?_; refine wpO_cons ?_; refine op1_add rfl rfl rfl (by exact wrap_i64 (by omega) (by omega)) ?_; refine zw1 ?_; refine wpO_nil ?_
        refine ⟨j - (m + 1), by omega, m + 1, rfl, rfl, by omega, fun q' hq' => ?_, S.drop hS⟩
        rw [List.take_add_one, hq] at hq'
        rcases List.mem_append.1 hq' with h | h
        · exact hno2 q' h
        · simp at h; subst h; rw [n5]; simp
    obtain rfl : m = j := by omega
    have n5 : ¬ ((pls.take m).any (over p)) = true := by
      rw [List.any_eq_true]
      rintro ⟨q, h1, h2⟩
      exact hno2 q h1 h2
    have e : chk1 (pls.take m) p = 0 := by unfold chk1; rw [if_neg (by omega), if_neg (by omega), if_neg n3, if_neg n4, if_neg n5]
    rw [e, if_neg (by simp)] at hce
    have htk : pls.take (m + 1) = pls.take m ++ [p] := by rw [List.take_add_one, hp]; rfl
    rw [← htk] at hce
    refine wp_exit ?_; refine seq_exit ?_; refine iter_exit ?_; refine block_exit ?_; refine block_normal ?_; refine seq_normal ?_; refine wp_region ?_; refine wpO_cons ?_; refine op1_add rfl rfl rfl (by exact wrap_i64 (by omega) (by omega)) ?_; refine zw1 ?_; refine wpO_nil ?_
    refine ⟨pls.length - (m + 1), by omega, m + 1, rfl, rfl, by omega, hce, fun q hq => ?_, S.drop hS⟩
    rw [htk] at hq
    rcases List.mem_append.1 hq with h | h
    · exact hok q h
    · simp at h; subst h; omega
  · obtain rfl : i = pls.length := by omega
    rw [List.take_length, List.drop_length, chksE] at hce
    rw [← hce]
    refine wp_exit ?_; refine seq_exit ?_; refine iter_exit ?_; refine block_exit ?_; refine seq_normal ?_; refine zsr ?_; refine zw1 ?_; refine zns ?_; refine wp_ret ?_; refine ret_of ?_; refine rk_tmp (by (conv => lhs; whnf) <;> rfl) ?_; refine rk_nil ?_
    exact ⟨rfl, hS⟩
end Go.E.Fa
/- The reference's table: New, named, Usage. -/
namespace Go.E.Fa
open Go Go.E Go.Proofs.Ytlkgacbholklkaa Go.Proofs
set_option linter.unusedVariables false
set_option linter.unusedSimpArgs false
set_option maxRecDepth 100000
structure RT where
  pls : List Pl
  refs : List Int
  pgs : List (List Int)
def repR (q : Nat) (R : RT) : Asn := exA fun (x : Value × Value × Value) => seps [pto q (.cells [x.1, x.2.1, x.2.2] 0 false), sl 5 x.1 (R.pls.flatMap plC), sl 1 x.2.1 (i64s R.refs), sl 64 x.2.2 (R.pgs.flatMap u8s)]
theorem openR {B H : AHeap} {As : List Asn} {q : Nat} {R : RT} (h : S B H (repR q R :: As)) : ∃ pv rv bv, S B H (pto q (.cells [pv, rv, bv] 0 false) :: sl 5 pv (R.pls.flatMap plC) :: sl 1 rv (i64s R.refs) :: sl 64 bv (R.pgs.flatMap u8s) :: As) := by
  obtain ⟨⟨pv, rv, bv⟩, h⟩ := S.unex h
  exact ⟨pv, rv, bv, S.unseps h⟩
theorem closeR {B H : AHeap} {As : List Asn} {q : Nat} {R : RT} {pv rv bv : Value} (h : S B H (pto q (.cells [pv, rv, bv] 0 false) :: sl 5 pv (R.pls.flatMap plC) :: sl 1 rv (i64s R.refs) :: sl 64 bv (R.pgs.flatMap u8s) :: As)) : S B H (repR q R :: As) :=
  S.exI (X := Value × Value × Value) (pv, rv, bv) (S.seps h)
def R0 (pls : List Pl) : RT := ⟨pls, List.replicate 4096 0, List.replicate 4096 zeros⟩
theorem zero_pages (n : Nat) : zeroOf (u8s zeros) n = (List.replicate n zeros).flatMap u8s := by
  unfold zeroOf
  induction n with
  | zero => rfl
  | succ n ih => rw [List.replicate_succ, List.flatten_cons, ih, List.replicate_succ, List.flatMap_cons]

theorem pages_len (n : Nat) : ((List.replicate n zeros).flatMap u8s).length = n * 64 := by
  induction n with
  | zero => rfl
  | succ n ih => rw [List.replicate_succ, List.flatMap_cons, List.length_append, ih, u8s_length, show zeros.length = 64 by decide]; omega
theorem L22 {B H : AHeap} {As : List Asn} {a : Option Addr} {c : Nat} {pls : List Pl} {r : List Nat} (hlen : pls.length ≤ 1000)
    (hb : ∀ p ∈ pls, p.name.size ≤ 1000 ∧ (-9223372036854775808 ≤ p.count ∧ p.count ≤ 9223372036854775807) ∧ (-9223372036854775808 ≤ p.first ∧ p.first ≤ 9223372036854775807))
    (hr : RdS B 5 (.slice a pls.length c) (pls.flatMap plC) r) (hlt : ∀ b ∈ r, b < B.next) (hS : S B H As) :
    wpF C 22 [.slice a pls.length c] H fun v H' => (newE pls ≠ 0 → v = .tuple ⟨[.pointer none, .int .i64 (newE pls)]⟩ ∧ S B H' As) ∧
      (newE pls = 0 → ∃ q, v = .tuple ⟨[ptrV q, .int .i64 0]⟩ ∧ S B H' (repR q (R0 pls) :: As)) := by
  refine wpF_ofW o22 rfl rfl ?_
  refine zsr ?_; refine zw1 ?_; refine zw1 ?_; refine zns ?_; refine wp_seq ?_; refine zsr ?_; refine zw1 ?_; refine wpO_cons ?_; refine op1_call1 rfl (by (conv => lhs; whnf) <;> rfl) ?_
  refine wpF_mono (L16 hlen hb hr hlt hS) ?_
  rw [checkE_eq]
  rintro _ H1 ⟨rfl, hS⟩
  refine zw1 ?_; refine zns ?_; refine zsr ?_; refine zw1 ?_; refine wpO_cons ?_; refine op1_neqI rfl rfl rfl ?_; refine zns ?_
  refine wp_ndec rfl (fun he => ?_) (fun he => ?_)
  · refine zsr ?_; refine zw1 ?_; refine zw1 ?_; refine zw1 ?_; refine zns ?_; refine wp_ret ?_; refine seq_ret ?_; refine ret_of ?_; refine rk_tmp (by (conv => lhs; whnf) <;> rfl) ?_; refine rk_tmp (by (conv => lhs; whnf) <;> rfl) ?_; refine rk_nil ?_
    exact ⟨fun _ => ⟨rfl, hS⟩, fun h => absurd h he⟩
  · refine wp_skip ?_; refine seq_normal ?_; refine wp_seq ?_; refine wp_regionD ?_; refine wpD_cons ?_; refine op1_bsliceS rfl hS ?_; refine bk_nil ?_; intro p1 H2 hS; refine zd1 ?_; refine wpD_cons ?_
    refine op1_mksliceS rfl rfl rfl (by omega) (Int.le_refl _) (by omega) hS ?_
    intro p2 H3 hS
    rw [show (4096 : Int).toNat = 4096 from rfl, zero_i64s] at hS
    refine wpD_cons ?_
    refine op1_mksliceS (z := u8s zeros) rfl rfl rfl (by omega) (Int.le_refl _) (by omega) hS ?_
    intro p3 H4 hS
    rw [show (4096 : Int).toNat = 4096 from rfl, zero_pages] at hS
    rw [show (4096 : Int).toNat = 4096 from rfl]
    refine wpD_cons ?_
    replace hS := S.slNew (l := 0) (es := 5) (S.up2 hS) rfl
    have hr2 := hS.rdB hr hlt
    refine op1_appRS rfl rfl (by (conv => lhs; whnf) <;> rfl) rfl hr2 (by rw [plC_flen]) (plC_one _) hS (by omega) ?_
    rw [List.nil_append, Nat.zero_add]
    intro a1 c1 H5 hS
    refine wpD_cons ?_; refine op1_build rfl ?_; refine bk_one (by (conv => lhs; whnf) <;> rfl) rfl rfl rfl ?_; refine bk_one (by (conv => lhs; whnf) <;> rfl) rfl rfl rfl ?_; refine bk_one (by (conv => lhs; whnf) <;> rfl) rfl rfl rfl ?_; refine bk_nil ?_; refine wpD_cons ?_; refine op1_boxNS rfl rfl rfl hS ?_; intro p4 H6 hS; refine zd1 ?_; refine zd1 ?_; refine wpD_nil ?_; refine dk_of ?_ ?_; (iterate 9 refine chk_skip ?_); exact chk_end; refine seq_normal ?_; refine wp_ret ?_; refine ret_of ?_; refine rk_tmp (by (conv => lhs; whnf) <;> rfl) ?_; refine rk_tmp (by (conv => lhs; whnf) <;> rfl) ?_; refine rk_nil ?_
    have h7 := S.slNew (l := 4096) (es := 64) (S.up2 hS) (pages_len _)
    have h8 := S.slNew (l := 4096) (es := 1) (S.up3 h7) (by rw [i64s_length, List.length_replicate])
    exact ⟨fun h => absurd he h, fun _ => ⟨_, rfl, closeR (R := R0 pls) (S.up3 (S.up3 h8))⟩⟩

theorem nameIx_at {pls : List Pl} {s : ByteArray} {i : Nat} {p : Pl} (hp : pls[i]? = some p) (hn : p.name = s) (hno : ∀ q ∈ pls.take i, ¬ q.name = s) : nameIx pls s = some i := by
  unfold nameIx
  have hi := (List.getElem?_eq_some_iff.1 hp).1
  rw [List.findIdx?_eq_some_iff_getElem]
  refine ⟨hi, ?_, fun j hj => ?_⟩
  · rw [List.getElem?_eq_getElem hi] at hp
    rw [Option.some.inj hp]
    exact decide_eq_true hn
  · have := hno pls[j] (List.mem_iff_getElem?.2 ⟨j, by rw [List.getElem?_take, if_pos hj]; simp⟩)
    simpa using this
theorem nameIx_none {pls : List Pl} {s : ByteArray} (hno : ∀ q ∈ pls, ¬ q.name = s) : nameIx pls s = none := by
  unfold nameIx
  rw [List.findIdx?_eq_none_iff]
  intro q hq
  exact decide_eq_false (hno q hq)
def namedV (pls : List Pl) (s : ByteArray) : Int := match nameIx pls s with
  | some i => i
  | none => -1
theorem L58o {B H : AHeap} {As : List Asn} {q : Nat} {R : RT} {s : ByteArray} {pv rv bv : Value} (hl : R.pls.length ≤ 1000) (hS : S B H (pto q (.cells [pv, rv, bv] 0 false) :: sl 5 pv (R.pls.flatMap plC) :: sl 1 rv (i64s R.refs) :: sl 64 bv (R.pgs.flatMap u8s) :: As)) :
    wpF C 58 [ptrV q, .string s] H fun v H' => v = .int .i64 (namedV R.pls s) ∧ S B H' (pto q (.cells [pv, rv, bv] 0 false) :: sl 5 pv (R.pls.flatMap plC) :: sl 1 rv (i64s R.refs) :: sl 64 bv (R.pgs.flatMap u8s) :: As) := by
  refine wpF_ofW o58 rfl rfl ?_
  unfold ptrV
  obtain ⟨ap, lp, cp, rfl, hpl⟩ := S.shape (S.up1 hS)
  rw [plC_flen] at hpl
  obtain rfl : lp = R.pls.length := by omega
  refine zsr ?_; refine zw1 ?_; refine zns ?_; refine wp_seq ?_; refine zsr ?_; refine zw1 ?_; refine wpO_cons ?_; refine op1_nilchk rfl rfl ?_; refine wpO_cons ?_; refine op1_faddr0 rfl rfl ?_; refine wpO_cons ?_; refine op1_load rfl rfl (by exact S.g0 hS) rfl ?_; refine wpO_cons ?_; refine op1_len rfl rfl ?_; refine zw1 ?_; refine zns ?_; refine wp_block ?_
  refine wp_loop [12] (fun k vs H' => ∃ i : Nat, vs = [.int .i64 i] ∧ k = R.pls.length - i ∧ i ≤ R.pls.length ∧ (∀ p ∈ R.pls.take i, ¬ p.name = s) ∧
    S B H' (pto q (.cells [.slice ap R.pls.length cp, rv, bv] 0 false) :: sl 5 (.slice ap R.pls.length cp) (R.pls.flatMap plC) :: sl 1 rv (i64s R.refs) :: sl 64 bv (R.pgs.flatMap u8s) :: As)) ⟨_, 0, rfl, rfl, by omega, by simp, hS⟩ ?_
  clear hS
  rintro k vs T' H1 ⟨i, rfl, rfl, hi, hno, hS⟩
  refine zsr ?_; refine wpO_cons ?_; refine op1_lss rfl rfl rfl ?_; refine zns ?_; refine wp_seq ?_
  refine wp_dec rfl (fun hlt => ?_) (fun hlt => ?_)
  · obtain ⟨p, hp⟩ : ∃ p, R.pls[i]? = some p := ⟨R.pls[i]'(by omega), by simp⟩
    obtain ⟨pb, po, cs, rfl, _⟩ := S.slBlk (S.up1 hS) (by omega)
    refine wp_skip ?_; refine seq_normal ?_; refine wp_seq ?_; refine wp_block ?_; refine zsr ?_; refine zw1 ?_; refine wpO_cons ?_; refine op1_iaddr rfl rfl rfl (by omega) (by omega) ?_; refine wpO_cons ?_; refine op1_loadNL rfl rfl (S.up1 hS) rfl rfl (by omega) rfl ?_; refine wpO_cons ?_; refine op1_allocS rfl hS ?_; intro p1 H2 hS; refine zw1 ?_; refine wpO_cons ?_
    rw [show (i : Int).toNat = i from rfl, flatMap_cut plC_len hp]
    unfold plC
    (refine op1_storeNS rfl rfl (by (conv => lhs; whnf) <;> rfl) rfl rfl (S.up0 hS) (Nat.le_of_ble_eq_true rfl) ?_; intro H3 hS; replace hS := S.dn0 hS); refine zns ?_; refine zsr ?_; refine wpO_cons ?_; refine op1_faddr0 rfl rfl ?_; refine wpO_cons ?_; refine op1_load rfl rfl (by exact S.g0 hS) rfl ?_; refine zw1 ?_; refine wpO_cons ?_
    refine op1_eqlSD rfl rfl rfl ?_
    refine zns ?_
    refine wp_dec rfl (fun hn => ?_) (fun hn => ?_)
    · have e : namedV R.pls s = i := by unfold namedV; rw [nameIx_at hp hn hno]
      rw [e]
      refine zsr ?_; refine zw1 ?_; refine zw1 ?_; refine zns ?_; refine wp_ret ?_; refine block_ret ?_; refine seq_ret ?_; refine iter_ret ?_; refine block_ret ?_; refine seq_ret ?_; refine ret_of ?_; refine rk_tmp (by (conv => lhs; whnf) <;> rfl) ?_; refine rk_nil ?_
      exact ⟨rfl, S.drop hS⟩
    · refine wp_skip ?_; refine block_normal ?_; refine seq_normal ?_; refine wp_region ?_; refine wpO_cons ?_; refine op1_add rfl rfl rfl (by exact wrap_i64 (by omega) (by omega)) ?_; refine zw1 ?_; refine wpO_nil ?_
      refine ⟨R.pls.length - (i + 1), by omega, i + 1, rfl, rfl, by omega, fun p' hp' => ?_, S.drop hS⟩
      rw [List.take_add_one, hp] at hp'
      rcases List.mem_append.1 hp' with h | h
      · exact hno p' h
      · simp at h; subst h; exact hn
  · obtain rfl : i = R.pls.length := by omega
    rw [List.take_length] at hno
    have e : namedV R.pls s = -1 := by unfold namedV; rw [nameIx_none hno]
    rw [e]
    refine wp_exit ?_; refine seq_exit ?_; refine iter_exit ?_; refine block_exit ?_; refine seq_normal ?_; refine zsr ?_; refine zw1 ?_; refine zns ?_; refine wp_ret ?_; refine ret_of ?_; refine rk_tmp (by (conv => lhs; whnf) <;> rfl) ?_; refine rk_nil ?_
    exact ⟨rfl, hS⟩
theorem L58 {B H : AHeap} {As : List Asn} {q : Nat} {R : RT} {s : ByteArray} (hl : R.pls.length ≤ 1000) (hS : S B H (repR q R :: As)) :
    wpF C 58 [ptrV q, .string s] H fun v H' => v = .int .i64 (namedV R.pls s) ∧ S B H' (repR q R :: As) := by
  obtain ⟨pv, rv, bv, hS⟩ := openR hS
  exact wpF_mono (L58o hl hS) fun v H' h => ⟨h.1, closeR h.2⟩
end Go.E.Fa
/- The reference's Usage, and that it counts what the runs tell. -/
namespace Go.E.Fa
open Go Go.E Go.Proofs.Ytlkgacbholklkaa Go.Proofs
set_option linter.unusedVariables false
set_option linter.unusedSimpArgs false
set_option maxRecDepth 100000
structure US where
  f : Nat
  u : Nat
  l : Nat
  r : Nat
def usStep (fr : Nat → Bool) (n : Nat) (s : US) : US := if fr n then ⟨s.f + 1, s.u, max s.l (s.r + 1), s.r + 1⟩ else ⟨s.f, s.u + 1, s.l, 0⟩
def us (fr : Nat → Bool) (E n : Nat) (s : US) : US := if n < E then us fr E (n + 1) (usStep fr n s) else s
termination_by E - n
theorem us_free {fr : Nat → Bool} {E : Nat} : ∀ (k n : Nat) (s : US), n + k ≤ E → (∀ i, n ≤ i → i < n + k → fr i = true) → s.r ≤ s.l → us fr E n s = us fr E (n + k) ⟨s.f + k, s.u, max s.l (s.r + k), s.r + k⟩
  | 0, n, s, _, _, h => by
    obtain ⟨f, u, l, r⟩ := s
    simp only at h
    rw [Nat.add_zero]
    congr 1
    simp only [Nat.add_zero, US.mk.injEq, true_and, and_true]
    omega
  | k + 1, n, s, hk, hf, h => by
    obtain ⟨f, u, l, r⟩ := s
    simp only at h
    rw [us, if_pos (by omega)]
    have e : usStep fr n ⟨f, u, l, r⟩ = ⟨f + 1, u, max l (r + 1), r + 1⟩ := by unfold usStep; rw [if_pos (hf n (by omega) (by omega))]
    rw [e, us_free k (n + 1) _ (by omega) (fun i a b => hf i (by omega) (by omega)) (by simp only; omega)]
    rw [show n + 1 + k = n + (k + 1) by omega]
    congr 1
    simp only [US.mk.injEq, true_and]
    omega
theorem usL_cons (x : Nat × Nat) (rs : List (Nat × Nat)) : usL (x :: rs) = max (x.2 - x.1) (usL rs) := by
  unfold usL
  rw [List.foldl_cons]
  suffices h : ∀ (rs : List (Nat × Nat)) (a b : Nat), rs.foldl (fun a x => max a (x.2 - x.1)) (max a b) = max a (rs.foldl (fun a x => max a (x.2 - x.1)) b) by
    have := h rs (x.2 - x.1) 0
    rw [← this]
    congr 1
    omega
  intro rs
  induction rs with
  | nil => intro a b; rfl
  | cons y rs ih =>
    intro a b
    rw [List.foldl_cons, List.foldl_cons, ← ih]
    congr 1
    omega
theorem usF_cons (x : Nat × Nat) (rs : List (Nat × Nat)) : usF (x :: rs) = (x.2 - x.1) + usF rs := by unfold usF; simp [span]
theorem skip_fin {fr : Nat → Bool} {E : Nat} (n : Nat) (h : skip fr E n < E) : fr (skip fr E n) = false := by
  rw [skip.eq_def] at h ⊢
  split
  · rename_i h1
    rw [dif_pos h1] at h
    exact skip_fin (n + 1) h
  · rename_i h1
    rw [dif_neg h1] at h
    by_cases h2 : fr n = true
    · exact absurd ⟨h, h2⟩ h1
    · simpa using h2
termination_by E - n
theorem us_runs {fr : Nat → Bool} {E : Nat} (n : Nat) (f u l : Nat) (hn : n ≤ E + 1) :
    (us fr E n ⟨f, u, l, 0⟩).f = f + usF (runsAt fr E n) ∧ (us fr E n ⟨f, u, l, 0⟩).l = max l (usL (runsAt fr E n)) ∧ (us fr E n ⟨f, u, l, 0⟩).f + (us fr E n ⟨f, u, l, 0⟩).u = f + u + (E - n) := by
  by_cases hlt : n < E
  · have hge := skip_ge fr E n
    have hle := skip_le fr E n (by omega)
    have hfree : ∀ i, n ≤ i → i < n + (skip fr E n - n) → fr i = true := fun i a b => skip_free (fr := fr) (E := E) n a (by omega)
    have h1 := us_free (fr := fr) (E := E) (skip fr E n - n) n ⟨f, u, l, 0⟩ (by omega) hfree (by simp)
    simp only at h1
    rw [h1, show n + (skip fr E n - n) = skip fr E n by omega, runsAt.eq_def, dif_pos hlt]
    clear h1
    obtain ⟨k, hk⟩ : ∃ k, k = skip fr E n - n := ⟨_, rfl⟩
    by_cases hs : skip fr E n < E
    · have hst := skip_fin (fr := fr) (E := E) n hs
      rw [us, if_pos hs]
      have e : usStep fr (skip fr E n) ⟨f + (skip fr E n - n), u, max l (0 + (skip fr E n - n)), 0 + (skip fr E n - n)⟩ = ⟨f + (skip fr E n - n), u + 1, max l (0 + (skip fr E n - n)), 0⟩ := by
        unfold usStep; rw [hst]; rfl
      rw [e]
      obtain ⟨i1, i2, i3⟩ := us_runs (fr := fr) (E := E) (skip fr E n + 1) (f + (skip fr E n - n)) (u + 1) (max l (0 + (skip fr E n - n))) (by omega)
      rw [i1, i2]
      rw [i1] at i3
      by_cases hns : n < skip fr E n
      · rw [if_pos hns, List.singleton_append, usF_cons, usL_cons]
        simp only
        omega
      · rw [if_neg hns, List.nil_append]
        omega
    · have hsE : skip fr E n = E := by omega
      rw [us, if_neg hs, runsAt.eq_def fr E (skip fr E n + 1), dif_neg (by omega), List.append_nil, if_pos (by omega), usF_cons, usL_cons]
      simp only [usF, usL, List.flatMap_nil, List.length_nil, List.foldl_nil]
      omega
  · rw [us, if_neg hlt, runsAt.eq_def, dif_neg hlt]
    simp [usF, usL]
    omega
termination_by E + 1 - n
decreasing_by have := skip_ge fr E n; omega

def frR (R : RT) (n : Nat) : Bool := decide (R.refs.getD n 0 = 0)
def usageR (R : RT) (s : ByteArray) : (Int × Int × Int) × Int := match nameIx R.pls s with
  | none => ((0, 0, 0), 22)
  | some i => let st := us (frR R) ((R.pls.getD i default).first + (R.pls.getD i default).count).toNat (R.pls.getD i default).first.toNat ⟨0, 0, 0, 0⟩; ((st.f, st.u, st.l), 0)
/-- the two count alike -/
theorem usageR_eq {T : Tb} {R : RT} {s : ByteArray} (hT : TbOk T) (hp : R.pls = T.pls) (hr : ∀ n : Nat, n < 4096 → frB T.m n = frR R n) : usageR R s = usageM T s := by
  unfold usageR usageM
  rw [hp]
  cases hn : nameIx T.pls s with
  | none => rfl
  | some j =>
    have hj := nameIx_lt hn
    have e : T.pls.getD j default = poolOf T (j : Int) := by unfold poolOf; rw [Int.toNat_natCast]
    have hok := poolOf_ok hT (i := (j : Int)) (by omega) (by omega)
    simp only [e]
    obtain ⟨p, hpp⟩ : ∃ p, p = poolOf T (j : Int) := ⟨_, rfl⟩
    rw [← hpp] at hok ⊢
    have h1 := hok.first
    have h2 := hok.count
    have h3 := hok.top
    have er : us (frR R) (p.first + p.count).toNat p.first.toNat ⟨0, 0, 0, 0⟩ = us (frB T.m) (p.first + p.count).toNat p.first.toNat ⟨0, 0, 0, 0⟩ := by
      suffices h : ∀ (k n : Nat) (st : US), n + k = (p.first + p.count).toNat → us (frR R) (p.first + p.count).toNat n st = us (frB T.m) (p.first + p.count).toNat n st from h _ p.first.toNat _ (show p.first.toNat + ((p.first + p.count).toNat - p.first.toNat) = _ by omega)
      intro k
      induction k with
      | zero => intro n st h; rw [us.eq_def (frR R) _ n st, us.eq_def (frB T.m) _ n st, if_neg (by omega), if_neg (by omega)]
      | succ k ih =>
        intro n st h
        rw [us.eq_def (frR R) _ n st, us.eq_def (frB T.m) _ n st, if_pos (by omega), if_pos (by omega)]
        have : usStep (frR R) n st = usStep (frB T.m) n st := by unfold usStep; rw [hr n (by omega)]
        rw [this]
        exact ih (n + 1) _ (by omega)
    rw [er]
    obtain ⟨u1, u2, u3⟩ := us_runs (fr := frB T.m) (E := (p.first + p.count).toNat) p.first.toNat 0 0 0 (by omega)
    have e1 : runsOf T p = runsAt (frB T.m) (p.first + p.count).toNat p.first.toNat := rfl
    rw [e1]
    rw [Nat.zero_add] at u1
    rw [Nat.zero_max] at u2
    rw [u1] at u3
    simp only [Prod.mk.injEq, and_true]
    rw [u1, u2]
    omega

theorem plC_fst {l : List Pl} {i : Nat} {p : Pl} (h : l[i]? = some p) : (l.flatMap plC)[i * 5 + 1]? = some (.int .i64 p.first) := by
  have h1 := flatMap_cut plC_len h
  have h2 := congrArg (fun z => z[1]?) h1
  simp only [List.getElem?_take, List.getElem?_drop, show 1 < 5 by decide, if_true] at h2
  exact h2
theorem L46 {B H : AHeap} {As : List Asn} {q : Nat} {R : RT} {s : ByteArray} (hl : R.pls.length ≤ 1000) (hpo : ∀ p ∈ R.pls, 0 ≤ p.count ∧ 0 ≤ p.first ∧ p.first + p.count ≤ 4096) (hrl : R.refs.length = 4096) (hr0 : ∀ x ∈ R.refs, (0 : Int) ≤ x) (hS : S B H (repR q R :: As)) :
    wpF C 46 [ptrV q, .string s] H fun v H' => v = .tuple ⟨[.agg ⟨usC (usageR R s).1⟩, .int .i64 (usageR R s).2]⟩ ∧ S B H' (repR q R :: As) := by
  refine wpF_ofW o46 rfl rfl ?_
  unfold ptrV
  refine zsr ?_; refine wpO_cons ?_; refine op1_allocS rfl hS ?_; intro p1 H1 hS; refine zw1 ?_; refine zns ?_; refine zsr ?_; refine zw1 ?_; refine zw1 ?_; refine wpO_cons ?_; refine op1_call2 rfl (by (conv => lhs; whnf) <;> rfl) (by (conv => lhs; whnf) <;> rfl) ?_
  refine wpF_mono (L58 hl (S.up1 hS)) ?_
  unfold namedV usageR
  cases hn : nameIx R.pls s with
  | none =>
    rintro _ H2 ⟨rfl, hS⟩
    refine zw1 ?_; refine zns ?_; refine wp_seq ?_; refine zsr ?_; refine zw1 ?_; refine wpO_cons ?_; refine op1_lss rfl rfl rfl ?_; refine zns ?_; refine wp_true rfl ?_; refine zsr ?_; refine wpO_cons ?_; refine op1_build rfl ?_; refine bk_nil ?_; refine wpO_cons ?_; (refine op1_storeNS rfl rfl (by (conv => lhs; whnf) <;> rfl) rfl rfl (S.up1 hS) (Nat.le_of_ble_eq_true rfl) ?_; intro H3 hS; replace hS := S.dn1 hS); refine zw1 ?_; refine zns ?_; refine wp_ret ?_; refine seq_ret ?_; refine ret_of ?_; refine rk_cellN rfl (by exact S.g1 hS) rfl rfl ?_; refine rk_tmp (by (conv => lhs; whnf) <;> rfl) ?_; refine rk_nil ?_
    exact ⟨rfl, S.drop (S.up1 hS)⟩
  | some j =>
    rintro _ H2 ⟨rfl, hS⟩
    have hj := nameIx_lt hn
    obtain ⟨p, hp⟩ : ∃ p, R.pls[j]? = some p := ⟨R.pls[j]'hj, by simp⟩
    have hpd : R.pls.getD j default = p := by rw [List.getD_eq_getElem?_getD, hp]; rfl
    simp only [hpd]
    obtain ⟨h1, h2, h3⟩ := hpo p (List.mem_of_getElem? hp)
    obtain ⟨F, hF⟩ : ∃ F : Nat, p.first = F := ⟨p.first.toNat, by omega⟩
    obtain ⟨E, hE⟩ : ∃ E : Nat, p.first + p.count = E := ⟨(p.first + p.count).toNat, by omega⟩
    obtain ⟨pv, rv, bv, hO⟩ := openR hS
    clear hS
    obtain ⟨ap, lp, cp, rfl, hpl⟩ := S.shape (S.up1 hO)
    rw [plC_flen] at hpl
    obtain rfl : lp = R.pls.length := by omega
    obtain ⟨pb, po, cs, rfl, _⟩ := S.slBlk (S.up1 hO) (by omega)
    have hS := hO
    clear hO
    refine zw1 ?_; refine zns ?_; refine wp_seq ?_; refine zsr ?_; refine zw1 ?_; refine wpO_cons ?_; refine op1_lss rfl rfl rfl ?_; refine zns ?_; refine wp_false rfl ?_; refine wp_skip ?_; refine seq_normal ?_; refine zsr ?_; refine wpO_cons ?_; refine op1_allocS rfl hS ?_; intro p2 H3 hS; refine zns ?_; refine zsr ?_; refine zw1 ?_; refine zns ?_; refine wp_seq ?_; refine zsr ?_; refine zw1 ?_; refine wpO_cons ?_; refine op1_nilchk rfl rfl ?_; refine wpO_cons ?_; refine op1_faddr0 rfl rfl ?_; refine wpO_cons ?_; refine op1_load rfl rfl (by exact S.g1 hS) rfl ?_; refine zw1 ?_; refine wpO_cons ?_; refine op1_iaddr rfl rfl rfl (by omega) (by omega) ?_; refine wpO_cons ?_; refine op1_faddr rfl rfl ?_; refine wpO_cons ?_
    refine op1_loadL (k := j * 5 + 1) rfl rfl (S.up2 hS) (by simp only [Int.toNat_natCast]; omega) (by omega) (show _ = some (.int .i64 (F : Int)) by rw [← hF]; exact plC_fst hp) ?_
    refine zw1 ?_; refine zns ?_; refine wp_block ?_
    obtain ⟨ar, cr, rfl⟩ := (S.up3 hS).i1
    rw [hrl] at hS
    refine wp_loop [8, 9] (fun k vs H' => ∃ (n sf su slg sr : Nat), vs = [.int .i64 sr, .int .i64 n] ∧ k = E - n ∧ F ≤ n ∧ n ≤ E ∧ us (frR R) E n ⟨sf, su, slg, sr⟩ = us (frR R) E F ⟨0, 0, 0, 0⟩ ∧ sf + su = n - F ∧ slg ≤ sf ∧ sr ≤ slg ∧
        S B H' (pto p2 (.cells [.int .i64 sf, .int .i64 su, .int .i64 slg] 0 false) :: pto q (.cells [.slice (some ⟨pb, po, none⟩) R.pls.length cp, .slice ar 4096 cr, bv] 0 false) :: sl 5 (.slice (some ⟨pb, po, none⟩) R.pls.length cp) (R.pls.flatMap plC) :: sl 1 (.slice ar 4096 cr) (i64s R.refs) :: sl 64 bv (R.pgs.flatMap u8s) :: pto p1 (.cells [.int .i64 0, .int .i64 0, .int .i64 0] 0 false) :: As))
      ⟨_, F, 0, 0, 0, 0, rfl, rfl, by omega, by omega, rfl, by simp, by simp, by simp, hS⟩ ?_
    clear hS
    rintro k vs T' H4 ⟨n, sf, su, slg, sr, rfl, rfl, hn1, hn2, hus, hb1, hb2, hb3, hS⟩
    have hS4 := hS
    refine wp_seq ?_; refine wp_seq ?_; refine wp_regionD ?_; refine zd1 ?_; refine zd1 ?_; refine wpD_cons ?_; refine op1_nilchk rfl rfl ?_; refine wpD_cons ?_; refine op1_faddr0 rfl rfl ?_; refine wpD_cons ?_; refine op1_load rfl rfl (by exact S.g1 hS4) rfl ?_; refine zd1 ?_; refine wpD_cons ?_; refine op1_iaddr rfl rfl rfl (by omega) (by omega) ?_; refine wpD_cons ?_; refine op1_faddr rfl rfl ?_; refine wpD_cons ?_
    refine op1_loadL (k := j * 5 + 1) rfl rfl (S.up2 hS) (by simp only [Int.toNat_natCast]; omega) (by omega) (plC_fst hp) ?_
    refine zd1 ?_; refine wpD_cons ?_; refine op1_nilchk rfl rfl ?_; refine wpD_cons ?_; refine op1_faddr0 rfl rfl ?_; refine wpD_cons ?_; refine op1_load rfl rfl (by exact S.g1 hS4) rfl ?_; refine zd1 ?_; refine wpD_cons ?_; refine op1_iaddr rfl rfl rfl (by omega) (by omega) ?_; refine wpD_cons ?_; refine op1_faddr rfl rfl ?_; refine wpD_cons ?_
    refine op1_loadL (k := j * 5 + 2) rfl rfl (S.up2 hS) (by simp only [Int.toNat_natCast]; omega) (by omega) (plC_cnt hp) ?_
    refine wpD_cons ?_; refine op1_add rfl rfl rfl (by exact wrap_i64 (by omega) (by omega)) ?_; refine wpD_cons ?_; refine op1_lss rfl rfl rfl ?_; refine wpD_nil ?_; refine dk_of ?_ ?_; (iterate 4 refine chk_skip ?_); refine chk_cons 15 rfl rfl rfl ?_ ?_; refine chkFs_cons 0 rfl rfl ?_ ?_; exact chk_load rfl (by exact S.g1 hS4) rfl rfl; exact chkFs_nil; (iterate 3 refine chk_skip ?_); refine chk_cons 11 rfl rfl rfl ?_ ?_; refine chkFs_cons 0 rfl rfl ?_ ?_
    · exact chk_loadL (k := j * 5 + 1) rfl (S.up2 hS4) (by simp only [Int.toNat_natCast]; omega) (by omega) (plC_fst hp) rfl
    exact chkFs_nil; (iterate 3 refine chk_skip ?_); refine chk_cons 7 rfl rfl rfl ?_ ?_; refine chkFs_cons 0 rfl rfl ?_ ?_; exact chk_load rfl (by exact S.g1 hS4) rfl rfl; exact chkFs_nil; (iterate 3 refine chk_skip ?_); refine chk_cons 3 rfl rfl rfl ?_ ?_; refine chkFs_cons 0 rfl rfl ?_ ?_
    · exact chk_loadL (k := j * 5 + 2) rfl (S.up2 hS4) (by simp only [Int.toNat_natCast]; omega) (by omega) (plC_cnt hp) rfl
    exact chkFs_nil; (iterate 2 refine chk_skip ?_); exact chk_end; refine seq_normal ?_
    refine wp_dec rfl (fun hlt => ?_) (fun hlt => ?_)
    · obtain ⟨x, hx⟩ : ∃ x, R.refs[n]? = some x := ⟨R.refs[n]'(by omega), by simp⟩
      have hx0 := hr0 x (List.mem_of_getElem? hx)
      have hxd : R.refs.getD n 0 = x := by rw [List.getD_eq_getElem?_getD, hx]; rfl
      have hus2 := hus
      rw [us, if_pos (by omega)] at hus2
      obtain ⟨rb, ro, rcs, rfl, _⟩ := S.slBlk (S.up3 hS) (by omega)
      refine wp_skip ?_; refine seq_normal ?_; refine wp_seq ?_; refine wp_block ?_; refine wp_seq ?_; refine zsr ?_; refine zw1 ?_; refine wpO_cons ?_; refine op1_nilchk rfl rfl ?_; refine wpO_cons ?_; refine op1_faddr0 rfl rfl ?_; refine wpO_cons ?_; refine op1_load rfl rfl (by exact S.g1 hS4) rfl ?_; refine zw1 ?_; refine wpO_cons ?_; refine op1_iaddr rfl rfl rfl (by omega) (by omega) ?_; refine wpO_cons ?_
      refine op1_loadL rfl rfl (S.up3 hS) rfl (by omega) (i64s_at hx) ?_
      refine wpO_cons ?_; refine op1_gtr rfl rfl rfl ?_; refine zns ?_
      refine wp_dec rfl (fun hx1 => ?_) (fun hx1 => ?_)
      · have e : usStep (frR R) n ⟨sf, su, slg, sr⟩ = ⟨sf, su + 1, slg, 0⟩ := by
          unfold usStep frR
          rw [hxd, if_neg (by simp; omega)]
        rw [e] at hus2
        refine zsr ?_; refine wpO_cons ?_; refine op1_faddr0 rfl rfl ?_; refine wpO_cons ?_; refine op1_load rfl rfl (by exact S.g0 hS4) rfl ?_; refine wpO_cons ?_; refine op1_add rfl rfl rfl (by exact wrap_i64 (by omega) (by omega)) ?_; refine wpO_cons ?_; refine op1_faddr0 rfl rfl ?_; refine wpO_cons ?_; (refine op1_store1S rfl rfl (by (conv => lhs; whnf) <;> rfl) rfl rfl (S.up0 hS) rfl ?_; intro H5 hS; replace hS := S.dn0 hS); refine zns ?_; refine zsr ?_; refine zw1 ?_; refine zns ?_; refine wp_exit ?_; refine seq_exit ?_; refine block_exit ?_; refine seq_normal ?_; refine wp_region ?_; refine zw1 ?_; refine wpO_cons ?_; refine op1_add rfl rfl rfl (by exact wrap_i64 (by omega) (by omega)) ?_; refine zw1 ?_; refine wpO_nil ?_
        exact ⟨E - (n + 1), by omega, n + 1, sf, su + 1, slg, 0, rfl, rfl, by omega, by omega, hus2, by omega, by omega, by omega, hS⟩
      · have e : usStep (frR R) n ⟨sf, su, slg, sr⟩ = ⟨sf + 1, su, max slg (sr + 1), sr + 1⟩ := by
          unfold usStep frR
          rw [hxd, if_pos (by simp; omega)]
        rw [e] at hus2
        refine wp_skip ?_; refine seq_normal ?_; refine zsr ?_; refine wpO_cons ?_; refine op1_faddr0 rfl rfl ?_; refine wpO_cons ?_; refine op1_load rfl rfl (by exact S.g0 hS4) rfl ?_; refine wpO_cons ?_; refine op1_add rfl rfl rfl (by exact wrap_i64 (by omega) (by omega)) ?_; refine wpO_cons ?_; refine op1_faddr0 rfl rfl ?_; refine wpO_cons ?_; (refine op1_store1S rfl rfl (by (conv => lhs; whnf) <;> rfl) rfl rfl (S.up0 hS) rfl ?_; intro H5 hS; replace hS := S.dn0 hS); refine zns ?_; refine zsr ?_; refine zw1 ?_; refine wpO_cons ?_; refine op1_add rfl rfl rfl (by exact wrap_i64 (by omega) (by omega)) ?_; refine zw1 ?_; refine zns ?_; refine wp_region ?_; refine wpO_cons ?_; refine op1_faddr0 rfl rfl ?_; refine wpO_cons ?_; refine op1_load rfl rfl (by exact S.g0 hS) rfl ?_; refine zw1 ?_; refine wpO_cons ?_; refine op1_max rfl rfl rfl ?_; refine wpO_cons ?_; refine op1_faddr0 rfl rfl ?_; refine wpO_cons ?_; (refine op1_store1S rfl rfl (by (conv => lhs; whnf) <;> rfl) rfl rfl (S.up0 hS) rfl ?_; intro H6 hS; replace hS := S.dn0 hS); refine wpO_nil ?_; refine block_normal ?_; refine seq_normal ?_; refine wp_region ?_; refine zw1 ?_; refine wpO_cons ?_; refine op1_add rfl rfl rfl (by exact wrap_i64 (by omega) (by omega)) ?_; refine zw1 ?_; refine wpO_nil ?_
        have em : ((max slg (sr + 1) : Nat) : Int) = max (slg : Int) ((sr : Int) + 1) := by omega
        refine ⟨E - (n + 1), by omega, n + 1, sf + 1, su, max slg (sr + 1), sr + 1, rfl, rfl, by omega, by omega, hus2, by omega, by omega, by omega, ?_⟩
        rw [em]
        exact hS
    · obtain rfl : n = E := by omega
      rw [us, if_neg (by omega)] at hus
      have eE : (p.first + p.count).toNat = n := by omega
      have eF : p.first.toNat = F := by omega
      refine wp_exit ?_; refine seq_exit ?_; refine iter_exit ?_; refine block_exit ?_; refine seq_normal ?_; refine zsr ?_; refine wpO_cons ?_; refine op1_load_3 rfl rfl (by exact S.g0 hS4) rfl rfl ?_; refine wpO_cons ?_; (refine op1_storeNS rfl rfl (by (conv => lhs; whnf) <;> rfl) rfl rfl (S.up5 hS) (Nat.le_of_ble_eq_true rfl) ?_; intro H5 hS; replace hS := S.dn5 hS); refine zw1 ?_; refine zns ?_; refine wp_ret ?_; refine ret_of ?_; refine rk_cellN rfl (by exact S.g5 hS) rfl rfl ?_; refine rk_tmp (by (conv => lhs; whnf) <;> rfl) ?_; refine rk_nil ?_
      rw [eE, eF, ← hus]
      exact ⟨rfl, closeR (S.drop (S.up4 (S.drop hS)))⟩
end Go.E.Fa
