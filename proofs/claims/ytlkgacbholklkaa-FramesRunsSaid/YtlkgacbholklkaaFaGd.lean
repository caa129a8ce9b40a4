/- The reference's Alloc: power, free. -/
import Derived.Test.YtlkgacbholklkaaFaGc
import Derived.Test.YtlkgacbholklkaaFaAL
namespace Go.E.Fa
open Go Go.E Go.Proofs.Ytlkgacbholklkaa Go.Proofs
set_option linter.unusedVariables false
set_option linter.unusedSimpArgs false
set_option maxRecDepth 100000
def isPow (n : Int) : Bool := (List.range 13).any fun j => decide (n = (2 ^ j : Nat))
theorem pow_le {j : Nat} (h : j < 13) : 2 ^ j ≤ 4096 := by
  have : (2 : Nat) ^ j ≤ 2 ^ 12 := Nat.pow_le_pow_right (by decide) (by omega)
  exact this
theorem L50 {H : AHeap} {n : Int} : wpF C 50 [.int .i64 n] H fun v H' => v = .bool (isPow n) ∧ H = H' := by
  refine wpF_ofW o50 rfl rfl ?_
  refine zsr ?_; refine zw1 ?_; refine zns ?_; refine wp_seq ?_; refine zsr ?_; refine zw1 ?_; refine zns ?_; refine wp_block ?_
  refine wp_loop [3] (fun k vs H' => ∃ j : Nat, vs = [.int .i64 (2 ^ j : Nat)] ∧ k = 13 - j ∧ j ≤ 13 ∧ H = H' ∧ ∀ i, i < j → ¬ n = (2 ^ i : Nat)) ⟨_, 0, rfl, rfl, by omega, rfl, by intro i h; omega⟩ ?_
  rintro k vs T' H1 ⟨j, rfl, rfl, hj, rfl, hno⟩
  have h2 : (2 : Nat) ^ (j + 1) = 2 * 2 ^ j := by rw [Nat.pow_succ]; omega
  by_cases h13 : j < 13
  · have hle := pow_le h13
    refine wp_seq ?_; refine zsr ?_; refine zw1 ?_; refine wpO_cons ?_; refine op1_leq rfl rfl rfl ?_; refine zns ?_
    refine wp_dec rfl (fun hlt => ?_) (fun hlt => ?_)
    · refine wp_skip ?_; refine seq_normal ?_; refine wp_seq ?_; refine wp_block ?_; refine zsr ?_; refine zw1 ?_; refine zw1 ?_; refine wpO_cons ?_; refine op1_eqlI rfl rfl rfl ?_; refine zns ?_
      refine wp_dec rfl (fun hq => ?_) (fun hq => ?_)
      · have e : isPow n = true := by
          unfold isPow
          rw [List.any_eq_true]
          exact ⟨j, List.mem_range.2 h13, decide_eq_true hq⟩
        rw [e]
        refine zsr ?_; refine zw1 ?_; refine zns ?_; refine wp_ret ?_; refine block_ret ?_; refine seq_ret ?_; refine iter_ret ?_; refine block_ret ?_; refine seq_ret ?_; refine ret_of ?_; refine rk_tmp (by (conv => lhs; whnf) <;> rfl) ?_; refine rk_nil ?_
        exact ⟨rfl, rfl⟩
      · refine wp_skip ?_; refine block_normal ?_; refine seq_normal ?_; refine wp_region ?_; refine zw1 ?_; refine wpO_cons ?_; refine op1_mul rfl rfl rfl (by exact wrap_i64 (by omega) (by omega)) ?_; refine zw1 ?_; refine wpO_nil ?_
        refine ⟨13 - (j + 1), by omega, j + 1, ?_, rfl, by omega, rfl, fun i hi => ?_⟩
        · show [Value.int .i64 (((2 ^ j : Nat) : Int) * 2)] = [.int .i64 ((2 ^ (j + 1) : Nat) : Int)]
          rw [h2]; congr 2; omega
        · by_cases h : i = j
          · rw [h]; exact hq
          · exact hno i (by omega)
    · omega
  · obtain rfl : j = 13 := by omega
    have e : isPow n = false := by
      unfold isPow
      rw [List.any_eq_false]
      intro i hi
      have := hno i (List.mem_range.1 hi)
      simpa using this
    rw [e]
    refine wp_seq ?_; refine zsr ?_; refine zw1 ?_; refine wpO_cons ?_; refine op1_leq rfl rfl rfl ?_; refine zns ?_; refine wp_false rfl ?_; refine wp_exit ?_; refine seq_exit ?_; refine iter_exit ?_; refine block_exit ?_; refine seq_normal ?_; refine zsr ?_; refine zw1 ?_; refine zns ?_; refine wp_ret ?_; refine ret_of ?_; refine rk_tmp (by (conv => lhs; whnf) <;> rfl) ?_; refine rk_nil ?_
    exact ⟨rfl, rfl⟩
theorem isPow_eq (n : Int) : isPow n = !decide (n < 1 ∨ 4096 < n ∨ bitAnd .i64 n (n - 1) ≠ 0) := by
  by_cases h : 1 ≤ n ∧ n ≤ 4096
  · obtain ⟨m, rfl⟩ : ∃ m : Nat, n = m := ⟨n.toNat, by omega⟩
    have key : ∀ k : Nat, k < 4097 → 1 ≤ k → isPow k = !decide (((k : Nat) : Int) < 1 ∨ 4096 < ((k : Nat) : Int) ∨ bitAnd .i64 k ((k : Int) - 1) ≠ 0) := by decide +kernel
    exact key m (by omega) (by omega)
  · have e : decide (n < 1 ∨ 4096 < n ∨ bitAnd .i64 n (n - 1) ≠ 0) = true := decide_eq_true (by omega)
    rw [e]
    unfold isPow
    rw [Bool.not_true, List.any_eq_false]
    intro i hi
    have := pow_le (List.mem_range.1 hi)
    have h1 : 1 ≤ 2 ^ i := Nat.one_le_two_pow
    rw [decide_eq_true_eq]
    omega
end Go.E.Fa
/- The reference's Alloc: Names. -/
namespace Go.E.Fa
open Go Go.E Go.Proofs.Ytlkgacbholklkaa Go.Proofs
set_option linter.unusedVariables false
set_option linter.unusedSimpArgs false
set_option maxRecDepth 100000
def namesE (pls : List Pl) (ns : List ByteArray) : Int := if 16 < ns.length then 18 else if ∃ s ∈ ns, nameIx pls s = none then 22 else if ns.Nodup then 0 else 38
theorem name_row {H : AHeap} {a : Option Addr} {l c i : Nat} {ns : List ByteArray} {s : ByteArray} {r : List Nat} (h : RdS H 1 (.slice a l c) (ns.map enS) r) (hl : l = ns.length) (hs : ns[i]? = some s) :
    ∃ b off cs e ro, a = some ⟨b, off, none⟩ ∧ H.get b = .cells cs e ro ∧ cs[off + i * 1]? = some (.string s) := by
  have hi := (List.getElem?_eq_some_iff.1 hs).1
  obtain ⟨b, off, cs, e, ro, v, h1, _, hg, hv, hx⟩ := h.at1 (i := i) (by omega)
  rw [List.getElem?_map, hs] at hx
  cases hx
  exact ⟨b, off, cs, e, ro, h1, hg, hv⟩
theorem L51 {B H : AHeap} {As : List Asn} {q : Nat} {R : RT} {a : Option Addr} {c : Nat} {ns : List ByteArray} {r : List Nat} (hl : R.pls.length ≤ 1000) (hns : ns.length ≤ 1000)
    (hr : RdS B 1 (.slice a ns.length c) (ns.map enS) r) (hlt : ∀ b ∈ r, b < B.next) (hS : S B H (repR q R :: As)) :
    wpF C 51 [ptrV q, .slice a ns.length c] H fun v H' => v = .int .i64 (namesE R.pls ns) ∧ S B H' (repR q R :: As) := by
  refine wpF_ofW o51 rfl rfl ?_
  have hcap := hr.le_cap
  refine zsr ?_; refine zw1 ?_; refine zns ?_; refine wp_seq ?_; refine zsr ?_; refine zw1 ?_; refine wpO_cons ?_; refine op1_len rfl rfl ?_; refine wpO_cons ?_; refine op1_gtr rfl rfl rfl ?_; refine zns ?_
  refine wp_dec rfl (fun h16 => ?_) (fun h16 => ?_)
  · have e : namesE R.pls ns = 18 := by unfold namesE; rw [if_pos (by omega)]
    rw [e]
    refine zsr ?_; refine zw1 ?_; refine zns ?_; refine wp_ret ?_; refine seq_ret ?_; refine ret_of ?_; refine rk_tmp (by (conv => lhs; whnf) <;> rfl) ?_; refine rk_nil ?_
    exact ⟨rfl, hS⟩
  have e : namesE R.pls ns = if ∃ s ∈ ns, nameIx R.pls s = none then 22 else if ns.Nodup then 0 else 38 := by unfold namesE; rw [if_neg (by omega)]
  refine wp_skip ?_; refine seq_normal ?_; refine wp_seq ?_; refine zsr ?_; refine zw1 ?_; refine wpO_cons ?_; refine op1_len rfl rfl ?_; refine zw1 ?_; refine zns ?_; refine wp_block ?_
  refine wp_loop [16] (fun k vs H' => ∃ i : Nat, vs = [.int .i64 i] ∧ k = ns.length - i ∧ i ≤ ns.length ∧ (∀ s ∈ ns.take i, nameIx R.pls s ≠ none) ∧ S B H' (repR q R :: As)) ⟨_, 0, rfl, rfl, by omega, by simp, hS⟩ ?_
  clear hS
  rintro k vs T' H1 ⟨i, rfl, rfl, hi, hno, hS⟩
  refine zsr ?_; refine wpO_cons ?_; refine op1_lss rfl rfl rfl ?_; refine zns ?_; refine wp_seq ?_
  refine wp_dec rfl (fun hlt2 => ?_) (fun hlt2 => ?_)
  · obtain ⟨s, hs⟩ : ∃ s, ns[i]? = some s := ⟨ns[i]'(by omega), by simp⟩
    obtain ⟨b, off, cs, e1, ro, h5, hg, hv⟩ := name_row (hS.rdB hr hlt) rfl hs
    cases h5
    refine wp_skip ?_; refine seq_normal ?_; refine wp_seq ?_; refine wp_block ?_; refine zsr ?_; refine wpO_cons ?_; refine op1_iaddr rfl rfl rfl (by omega) (by omega) ?_; refine wpO_cons ?_
    refine op1_load rfl rfl hg hv ?_
    refine zw1 ?_; refine zns ?_; refine zsr ?_; refine zw1 ?_; refine zw1 ?_; refine wpO_cons ?_; refine op1_call2 rfl (by (conv => lhs; whnf) <;> rfl) (by (conv => lhs; whnf) <;> rfl) ?_
    refine wpF_mono (L58 hl hS) ?_
    rintro _ H2 ⟨rfl, hS⟩
    refine wpO_cons ?_; refine op1_lss rfl rfl rfl ?_; refine zns ?_
    refine wp_dec rfl (fun hneg => ?_) (fun hneg => ?_)
    · have hnn : nameIx R.pls s = none := by
        unfold namedV at hneg
        cases hx : nameIx R.pls s with
        | none => rfl
        | some j => rw [hx] at hneg; simp only at hneg; omega
      rw [e, if_pos ⟨s, List.mem_of_getElem? hs, hnn⟩]
      refine zsr ?_; refine zw1 ?_; refine zns ?_; refine wp_ret ?_; refine block_ret ?_; refine seq_ret ?_; refine iter_ret ?_; refine block_ret ?_; refine seq_ret ?_; refine ret_of ?_; refine rk_tmp (by (conv => lhs; whnf) <;> rfl) ?_; refine rk_nil ?_
      exact ⟨rfl, hS⟩
    · refine wp_skip ?_; refine block_normal ?_; refine seq_normal ?_; refine wp_region ?_; refine wpO_cons ?_; refine op1_add rfl rfl rfl (by exact wrap_i64 (by omega) (by omega)) ?_; refine zw1 ?_; refine wpO_nil ?_
      refine ⟨ns.length - (i + 1), by omega, i + 1, rfl, rfl, by omega, fun s' hs' => ?_, hS⟩
      rw [List.take_add_one, hs] at hs'
      rcases List.mem_append.1 hs' with h | h
      · exact hno s' h
      · simp at h
        subst h
        intro hnn
        unfold namedV at hneg
        rw [hnn] at hneg
        simp at hneg
  obtain rfl : i = ns.length := by omega
  rw [List.take_length] at hno
  rw [if_neg (fun ⟨s, h1, h2⟩ => hno s h1 h2)] at e
  refine wp_exit ?_; refine seq_exit ?_; refine iter_exit ?_; refine block_exit ?_; refine seq_normal ?_; refine wp_seq ?_; refine zsr ?_; refine zw1 ?_; refine wpO_cons ?_; refine op1_len rfl rfl ?_; refine zw1 ?_; refine zns ?_; refine wp_block ?_
  refine wp_loop [27] (fun k vs H' => ∃ i : Nat, vs = [.int .i64 i] ∧ k = ns.length - i ∧ i ≤ ns.length ∧ (ns.take i).Nodup ∧ S B H' (repR q R :: As)) ⟨_, 0, rfl, rfl, by omega, by simp, hS⟩ ?_
  clear hS
  rintro k vs T' H1 ⟨i, rfl, rfl, hi, hnd, hS⟩
  refine zsr ?_; refine wpO_cons ?_; refine op1_lss rfl rfl rfl ?_; refine zns ?_; refine wp_seq ?_
  refine wp_dec rfl (fun hlt2 => ?_) (fun hlt2 => ?_)
  · obtain ⟨s, hs⟩ : ∃ s, ns[i]? = some s := ⟨ns[i]'(by omega), by simp⟩
    obtain ⟨b, off, cs, e1, ro, h5, hg, hv⟩ := name_row (hS.rdB hr hlt) rfl hs
    cases h5
    refine wp_skip ?_; refine seq_normal ?_; refine wp_seq ?_; refine wp_block ?_; refine zsr ?_; refine zw1 ?_; refine wpO_cons ?_; refine op1_iaddr rfl rfl rfl (by omega) (by omega) ?_; refine wpO_cons ?_
    refine op1_load rfl rfl hg hv ?_
    refine zw1 ?_; refine zw1 ?_; refine zns ?_; refine zsr ?_; refine zw1 ?_; refine zw1 ?_; refine wpO_cons ?_
    obtain ⟨cs3, e3, ro3, hg3, he3⟩ := rd_blk (sp := none) (hS.rdB hr hlt) (by omega)
    refine op1_sliceB rfl rfl hg3 he3 (bnds_hi (by omega) (by omega)) (by omega) (by simp only [Int.toNat_natCast]; omega) ?_
    simp only [Int.toNat_natCast, Nat.zero_mul, Nat.sub_zero, Nat.add_zero]
    refine wpO_cons ?_; refine op1_len rfl rfl ?_; refine zw1 ?_; refine zns ?_; refine wp_block ?_
    refine wp_loop [36] (fun k vs H' => ∃ j : Nat, vs = [.int .i64 j] ∧ k = i - j ∧ j ≤ i ∧ (∀ s' ∈ ns.take j, ¬ s = s') ∧ S B H' (repR q R :: As)) ⟨_, 0, rfl, rfl, by omega, by simp, hS⟩ ?_
    clear hS hg hg3
    rintro k vs T2 H2 ⟨j, rfl, rfl, hj, hno2, hS⟩
    refine zsr ?_; refine wpO_cons ?_; refine op1_lss rfl rfl rfl ?_; refine zns ?_; refine wp_seq ?_
    refine wp_dec rfl (fun hlt3 => ?_) (fun hlt3 => ?_)
    · obtain ⟨s', hs'⟩ : ∃ s, ns[j]? = some s := ⟨ns[j]'(by omega), by simp⟩
      obtain ⟨b', off', cs', e', ro', h5, hg, hv'⟩ := name_row (hS.rdB hr hlt) rfl hs'
      cases h5
      refine wp_skip ?_; refine seq_normal ?_; refine wp_seq ?_; refine wp_block ?_; refine zsr ?_; refine wpO_cons ?_; refine op1_iaddr rfl rfl rfl (by omega) (by omega) ?_; refine wpO_cons ?_
      refine op1_load rfl rfl hg hv' ?_
      refine zw1 ?_; refine zns ?_; refine zsr ?_; refine zw1 ?_; refine zw1 ?_; refine wpO_cons ?_
      refine op1_eqlSD rfl rfl rfl ?_
      refine zns ?_
      refine wp_dec rfl (fun heq => ?_) (fun heq => ?_)
      · have hdup : ¬ ns.Nodup := by
          intro hd
          subst heq
          have := (List.getElem?_inj (i := j) (j := i) (by omega) hd).1 (hs'.trans hs.symm)
          omega
        rw [e, if_neg hdup]
        refine zsr ?_; refine zw1 ?_; refine zns ?_; refine wp_ret ?_; refine block_ret ?_; refine seq_ret ?_; refine iter_ret ?_; refine block_ret ?_; refine block_ret ?_; refine seq_ret ?_; refine iter_ret ?_; refine block_ret ?_; refine seq_ret ?_; refine ret_of ?_; refine rk_tmp (by (conv => lhs; whnf) <;> rfl) ?_; refine rk_nil ?_
        exact ⟨rfl, hS⟩
      · refine wp_skip ?_; refine block_normal ?_; refine seq_normal ?_; refine wp_region ?_; refine wpO_cons ?_; refine op1_add rfl rfl rfl (by exact wrap_i64 (by omega) (by omega)) ?_; refine zw1 ?_; refine wpO_nil ?_
        refine ⟨i - (j + 1), by omega, j + 1, rfl, rfl, by omega, fun s2 hs2 => ?_, hS⟩
        rw [List.take_add_one, hs'] at hs2
        rcases List.mem_append.1 hs2 with h | h
        · exact hno2 s2 h
        · simp at h; subst h; exact heq
    obtain rfl : j = i := by omega
    refine wp_exit ?_; refine seq_exit ?_; refine iter_exit ?_; refine block_exit ?_; refine block_normal ?_; refine seq_normal ?_; refine wp_region ?_; refine wpO_cons ?_; refine op1_add rfl rfl rfl (by exact wrap_i64 (by omega) (by omega)) ?_; refine zw1 ?_; refine wpO_nil ?_
    refine ⟨ns.length - (j + 1), by omega, j + 1, rfl, rfl, by omega, ?_, hS⟩
    rw [List.take_add_one, hs]
    rw [List.nodup_append]
    refine ⟨hnd, by simp, ?_⟩
    intro x hx y hy
    simp at hy
    subst hy
    exact fun h => hno2 x hx h.symm
  obtain rfl : i = ns.length := by omega
  rw [List.take_length] at hnd
  rw [e, if_pos hnd]
  refine wp_exit ?_; refine seq_exit ?_; refine iter_exit ?_; refine block_exit ?_; refine seq_normal ?_; refine zsr ?_; refine zw1 ?_; refine zns ?_; refine wp_ret ?_; refine ret_of ?_; refine rk_tmp (by (conv => lhs; whnf) <;> rfl) ?_; refine rk_nil ?_
  exact ⟨rfl, hS⟩
end Go.E.Fa
/- The reference's Alloc: run. -/
namespace Go.E.Fa
open Go Go.E Go.Proofs.Ytlkgacbholklkaa Go.Proofs
set_option linter.unusedVariables false
set_option linter.unusedSimpArgs false
set_option maxRecDepth 100000
/-- the best place below f: the first one, or the last one (top) -/
def BestTo (fr : Nat → Bool) (E cnt al F : Nat) (top : Bool) (f : Nat) (out : Int) : Prop :=
  (out = -1 ∧ ∀ g, F ≤ g → g < f → al ∣ g → ¬ OkAt fr E cnt g) ∨
    ∃ m : Nat, out = m ∧ F ≤ m ∧ m < f ∧ al ∣ m ∧ OkAt fr E cnt m ∧ ∀ g, F ≤ g → g < f → (if top = true then m < g else g < m) → al ∣ g → ¬ OkAt fr E cnt g
theorem BestTo.keep {fr : Nat → Bool} {E cnt al F f : Nat} {top : Bool} {out : Int} (h : BestTo fr E cnt al F top f out) (hn : ¬ (al ∣ f ∧ OkAt fr E cnt f)) : BestTo fr E cnt al F top (f + 1) out := by
  rcases h with ⟨h1, h2⟩ | ⟨m, h1, h2, h3, h4, h5, h6⟩
  · refine .inl ⟨h1, fun g g1 g2 g3 g4 => ?_⟩
    by_cases g5 : g = f
    · exact hn (g5 ▸ ⟨g3, g4⟩)
    · exact h2 g g1 (by omega) g3 g4
  · refine .inr ⟨m, h1, h2, by omega, h4, h5, fun g g1 g2 g3 g4 g6 => ?_⟩
    by_cases g5 : g = f
    · exact hn (g5 ▸ ⟨g4, g6⟩)
    · exact h6 g g1 (by omega) g3 g4 g6
theorem BestTo.take {fr : Nat → Bool} {E cnt al F f : Nat} {top : Bool} {out : Int} (hF : F ≤ f) (h : BestTo fr E cnt al F top f out) (hd : al ∣ f) (ho : OkAt fr E cnt f) (ht : out < 0 ∨ top = true) : BestTo fr E cnt al F top (f + 1) f := by
  refine .inr ⟨f, rfl, hF, by omega, hd, ho, fun g g1 g2 g3 g4 g5 => ?_⟩
  rcases h with ⟨h1, h2⟩ | ⟨m, h1, h2, h3, h4, h5, h6⟩
  · have : g < f := by
      split at g3
      · omega
      · exact g3
    exact h2 g g1 this g4 g5
  · rcases ht with ht | ht
    · omega
    · rw [if_pos ht] at g3
      omega
theorem BestTo.hold {fr : Nat → Bool} {E cnt al F f : Nat} {out : Int} (h : BestTo fr E cnt al F false f out) (h0 : ¬ out < 0) : BestTo fr E cnt al F false (f + 1) out := by
  rcases h with ⟨h1, h2⟩ | ⟨m, h1, h2, h3, h4, h5, h6⟩
  · omega
  · refine .inr ⟨m, h1, h2, by omega, h4, h5, fun g g1 g2 g3 g4 g5 => ?_⟩
    simp only [Bool.false_eq_true, if_false] at g3
    exact h6 g g1 (by omega) (by simpa using g3) g4 g5
theorem BestTo.fin {fr : Nat → Bool} {E cnt al F f : Nat} {top : Bool} {out : Int} (h : BestTo fr E cnt al F top f out) (hf : f ≤ E + 1) (hE : E < f + cnt) : BestTo fr E cnt al F top (E + 1) out := by
  rcases h with ⟨h1, h2⟩ | ⟨m, h1, h2, h3, h4, h5, h6⟩
  · refine .inl ⟨h1, fun g g1 g2 g3 g4 => ?_⟩
    by_cases g5 : g < f
    · exact h2 g g1 g5 g3 g4
    · have := g4.1; omega
  · refine .inr ⟨m, h1, h2, by omega, h4, h5, fun g g1 g2 g3 g4 g6 => ?_⟩
    by_cases g5 : g < f
    · exact h6 g g1 g5 g3 g4 g6
    · have := g6.1; omega
theorem tmod_dvd {f al : Nat} (hal : 1 ≤ al) : ((f : Int).tmod al = 0) ↔ al ∣ f := by
  rw [Int.tmod_eq_emod_of_nonneg (by omega)]
  omega

theorem L53 {B H : AHeap} {As : List Asn} {q cnt al F E : Nat} {R : RT} {p : Pl} {top : Bool} (hlen : R.refs.length = 4096) (hF : p.first = F) (hE : p.first + p.count = E) (hE4 : E ≤ 4096) (hFE : F ≤ E) (hc : 1 ≤ cnt ∧ cnt ≤ 4096) (hal : 1 ≤ al ∧ al ≤ 4096) (hS : S B H (repR q R :: As)) :
    wpF C 53 [ptrV q, .agg ⟨plC p⟩, .int .i64 cnt, .int .i64 al, .bool top] H fun v H' => ∃ w : Int, v = .int .i64 w ∧ BestTo (frR R) E cnt al F top (E + 1) w ∧ S B H' (repR q R :: As) := by
  refine wpF_ofW o53 rfl rfl ?_
  obtain ⟨nm, fi, ct, ge, ke⟩ := p
  simp only at hF hE
  subst hF
  unfold ptrV
  simp only [plC]
  obtain ⟨pv, rv, bv, hO⟩ := openR hS
  obtain ⟨ar, cr, rfl⟩ := (S.up2 hO).i1
  rw [hlen] at hO
  obtain ⟨rb, ro, rcs, rfl, _⟩ := S.slBlk (S.up2 hO) (by omega)
  clear hS
  have hS := hO
  clear hO
  refine zsr ?_; refine wpO_cons ?_; refine op1_boxNS rfl rfl rfl hS ?_; intro p1 H1 hS; refine zw1 ?_; refine zns ?_; refine zsr ?_; refine zw1 ?_; refine zns ?_; refine wp_seq ?_; refine zsr ?_; refine wpO_cons ?_; refine op1_faddr0 rfl rfl ?_; refine wpO_cons ?_; refine op1_load rfl rfl (by exact S.g0 hS) rfl ?_; refine zw1 ?_; refine zns ?_; refine wp_block ?_
  refine wp_loop [11, 12] (fun k vs H' => ∃ (f : Nat) (out : Int), vs = [.int .i64 out, .int .i64 f] ∧ k = E + 1 - f ∧ F ≤ f ∧ f ≤ E + 1 ∧ BestTo (frR R) E cnt al F top f out ∧
      S B H' (pto p1 (.cells [.string nm, .int .i64 F, .int .i64 ct, .bool ge, .bool ke] 0 false) :: pto q (.cells [pv, .slice (some ⟨rb, ro, none⟩) 4096 cr, bv] 0 false) :: sl 5 pv (R.pls.flatMap plC) :: sl 1 (.slice (some ⟨rb, ro, none⟩) 4096 cr) (i64s R.refs) :: sl 64 bv (R.pgs.flatMap u8s) :: As))
    ⟨_, F, -1, rfl, rfl, by omega, by omega, .inl ⟨rfl, fun g g1 g2 => by omega⟩, hS⟩ ?_
  clear hS
  rintro k vs T' H2 ⟨f, out, rfl, rfl, hf1, hf2, hbest, hS⟩
  refine wp_seq ?_; refine zsr ?_; refine zw1 ?_; refine zw1 ?_; refine wpO_cons ?_; refine op1_add rfl rfl rfl (by exact wrap_i64 (by omega) (by omega)) ?_; refine wpO_cons ?_; refine op1_faddr0 rfl rfl ?_; refine wpO_cons ?_; refine op1_load rfl rfl (by exact S.g0 hS) rfl ?_; refine wpO_cons ?_; refine op1_faddr0 rfl rfl ?_; refine wpO_cons ?_; refine op1_load rfl rfl (by exact S.g0 hS) rfl ?_; refine wpO_cons ?_; refine op1_add rfl rfl rfl (by exact wrap_i64 (by omega) (by omega)) ?_; refine wpO_cons ?_; refine op1_leq rfl rfl rfl ?_; refine zns ?_
  refine wp_dec rfl (fun hlt => ?_) (fun hlt => ?_)
  · refine wp_skip ?_; refine seq_normal ?_; refine wp_seq ?_; refine wp_block ?_; refine zsr ?_; refine zw1 ?_; refine zw1 ?_; refine wpO_cons ?_; refine op1_rem rfl rfl rfl (by omega) ?_; refine wpO_cons ?_; refine op1_eqlI rfl rfl rfl ?_; refine zw1 ?_; refine zns ?_; refine wp_seq ?_; refine zsr ?_; refine zw1 ?_; refine zw1 ?_; refine zns ?_; refine wp_block ?_
    refine wp_loop [13, 14] (fun k vs H' => ∃ (b : Bool) (k' : Nat), vs = [.bool b, .int .i64 k'] ∧ k = f + cnt - k' ∧ f ≤ k' ∧ k' ≤ f + cnt ∧ H2 = H' ∧ (b = true → al ∣ f ∧ ∀ i, f ≤ i → i < k' → frR R i = true) ∧ (b = false → ¬ (al ∣ f ∧ OkAt (frR R) E cnt f)))
      ⟨_, decide ((f : Int).tmod al = 0), f, rfl, rfl, by omega, by omega, rfl, fun h => ⟨(tmod_dvd hal.1).1 (of_decide_eq_true h), fun i i1 i2 => by omega⟩, fun h h2 => by rw [decide_eq_false_iff_not] at h; exact h ((tmod_dvd hal.1).2 h2.1)⟩ ?_
    rintro k3 vs T3 H3 ⟨b, k', rfl, rfl, hk1, hk2, rfl, hb1, hb2⟩
    cases b
    · refine wp_seq ?_; refine zsr ?_; refine zw1 ?_; refine zw1 ?_; refine wpO_cons ?_; refine op1_skip rfl ?_; refine wpO_cons ?_; refine op1_skip rfl ?_; refine wpO_cons ?_; refine op1_skip rfl ?_; refine wpO_cons ?_; refine op1_skip rfl ?_; refine wpO_cons ?_; refine op1_skip rfl ?_; refine wpO_cons ?_; refine op1_pick_f rfl rfl (by (conv => lhs; whnf) <;> rfl) ?_; refine zns ?_; refine wp_false rfl ?_; refine wp_exit ?_; refine seq_exit ?_; refine iter_exit ?_; refine block_exit ?_; refine seq_normal ?_; refine zsr ?_; refine zw1 ?_; refine zw1 ?_; refine wpO_cons ?_; refine op1_skip rfl ?_; refine wpO_cons ?_; refine op1_skip rfl ?_; refine wpO_cons ?_; refine op1_skip rfl ?_; refine wpO_cons ?_; refine op1_skip rfl ?_; refine wpO_cons ?_; refine op1_skip rfl ?_; refine wpO_cons ?_; refine op1_pick_f rfl rfl (by (conv => lhs; whnf) <;> rfl) ?_; refine zns ?_; refine wp_false rfl ?_; refine wp_skip ?_; refine block_normal ?_; refine seq_normal ?_; refine wp_region ?_; refine zw1 ?_; refine wpO_cons ?_; refine op1_add rfl rfl rfl (by exact wrap_i64 (by omega) (by omega)) ?_; refine zw1 ?_; refine wpO_nil ?_
      refine ⟨E + 1 - (f + 1), by omega, f + 1, out, rfl, rfl, by omega, by omega, hbest.keep (hb2 rfl), hS⟩
    · obtain ⟨hd, hfr⟩ := hb1 rfl
      refine wp_seq ?_; refine zsr ?_; (iterate 5 refine zw1 ?_); refine wpO_cons ?_; refine op1_add rfl rfl rfl (by exact wrap_i64 (by omega) (by omega)) ?_; refine wpO_cons ?_; refine op1_lss rfl rfl rfl ?_; refine wpO_cons ?_; refine op1_pick_t rfl rfl (by (conv => lhs; whnf) <;> rfl) ?_; refine zns ?_
      refine wp_dec rfl (fun hlt2 => ?_) (fun hlt2 => ?_)
      · obtain ⟨x, hx⟩ : ∃ x, R.refs[k']? = some x := ⟨R.refs[k']'(by omega), by simp⟩
        have hxd : frR R k' = decide (x = 0) := by unfold frR; rw [List.getD_eq_getElem?_getD, hx]; rfl
        refine wp_skip ?_; refine seq_normal ?_; refine wp_seq ?_; refine wp_block ?_; refine wp_region ?_; refine zw1 ?_; refine wpO_cons ?_; refine op1_nilchk rfl rfl ?_; refine wpO_cons ?_; refine op1_faddr0 rfl rfl ?_; refine wpO_cons ?_; refine op1_load rfl rfl (by exact S.g1 hS) rfl ?_; refine zw1 ?_; refine wpO_cons ?_; refine op1_iaddr rfl rfl rfl (by omega) (by omega) ?_; refine wpO_cons ?_
        refine op1_loadL rfl rfl (S.up3 hS) rfl (by omega) (i64s_at hx) ?_
        refine wpO_cons ?_; refine op1_eqlI rfl rfl rfl ?_; refine zw1 ?_; refine wpO_nil ?_; refine block_normal ?_; refine seq_normal ?_; refine wp_region ?_; refine zw1 ?_; refine wpO_cons ?_; refine op1_add rfl rfl rfl (by exact wrap_i64 (by omega) (by omega)) ?_; refine zw1 ?_; refine wpO_nil ?_
        refine ⟨f + cnt - (k' + 1), by omega, decide (x = 0), k' + 1, rfl, rfl, by omega, by omega, rfl, fun h => ⟨hd, fun i i1 i2 => ?_⟩, fun h h2 => ?_⟩
        · by_cases h3 : i = k'
          · rw [h3, hxd]; exact h
          · exact hfr i i1 (by omega)
        · have := h2.2.2 k' hk1 (by omega)
          rw [hxd, h] at this
          cases this
      · have hok : OkAt (frR R) E cnt f := ⟨by omega, fun i i1 i2 => hfr i i1 (by omega)⟩
        refine wp_exit ?_; refine seq_exit ?_; refine iter_exit ?_; refine block_exit ?_; refine seq_normal ?_; refine zsr ?_; refine zw1 ?_; refine zw1 ?_; refine zw1 ?_; refine wpO_cons ?_; refine op1_lss rfl rfl rfl ?_; refine zw1 ?_; refine wpO_cons ?_
        refine op1_dec rfl (fun ho => ?_) (fun ho => ?_)
        · refine op1_skip rfl ?_; refine wpO_cons ?_; refine op1_pick_t rfl rfl (by (conv => lhs; whnf) <;> rfl) ?_; refine wpO_cons ?_; refine op1_pick_t rfl rfl (by (conv => lhs; whnf) <;> rfl) ?_; refine zns ?_; refine wp_true rfl ?_; refine wp_region ?_; refine zw1 ?_; refine zw1 ?_; refine wpO_nil ?_; refine block_normal ?_; refine seq_normal ?_; refine wp_region ?_; refine zw1 ?_; refine wpO_cons ?_; refine op1_add rfl rfl rfl (by exact wrap_i64 (by omega) (by omega)) ?_; refine zw1 ?_; refine wpO_nil ?_
          exact ⟨E + 1 - (f + 1), by omega, f + 1, f, rfl, rfl, by omega, by omega, hbest.take hf1 hd hok (.inl ho), hS⟩
        · cases top
          · refine op1_mov rfl (by (conv => lhs; whnf) <;> rfl) ?_; refine wpO_cons ?_; refine op1_pick_f rfl rfl (by (conv => lhs; whnf) <;> rfl) ?_; refine wpO_cons ?_; refine op1_pick_t rfl rfl (by (conv => lhs; whnf) <;> rfl) ?_; refine zns ?_; refine wp_false rfl ?_; refine wp_skip ?_; refine block_normal ?_; refine seq_normal ?_; refine wp_region ?_; refine zw1 ?_; refine wpO_cons ?_; refine op1_add rfl rfl rfl (by exact wrap_i64 (by omega) (by omega)) ?_; refine zw1 ?_; refine wpO_nil ?_
            exact ⟨E + 1 - (f + 1), by omega, f + 1, out, rfl, rfl, by omega, by omega, hbest.hold ho, hS⟩
          · refine op1_mov rfl (by (conv => lhs; whnf) <;> rfl) ?_; refine wpO_cons ?_; refine op1_pick_f rfl rfl (by (conv => lhs; whnf) <;> rfl) ?_; refine wpO_cons ?_; refine op1_pick_t rfl rfl (by (conv => lhs; whnf) <;> rfl) ?_; refine zns ?_; refine wp_true rfl ?_; refine wp_region ?_; refine zw1 ?_; refine zw1 ?_; refine wpO_nil ?_; refine block_normal ?_; refine seq_normal ?_; refine wp_region ?_; refine zw1 ?_; refine wpO_cons ?_; refine op1_add rfl rfl rfl (by exact wrap_i64 (by omega) (by omega)) ?_; refine zw1 ?_; refine wpO_nil ?_
            exact ⟨E + 1 - (f + 1), by omega, f + 1, f, rfl, rfl, by omega, by omega, hbest.take hf1 hd hok (.inr rfl), hS⟩
  · refine wp_exit ?_; refine seq_exit ?_; refine iter_exit ?_; refine block_exit ?_; refine seq_normal ?_; refine zsr ?_; refine zw1 ?_; refine zw1 ?_; refine zns ?_; refine wp_ret ?_; refine ret_of ?_; refine rk_tmp (by (conv => lhs; whnf) <;> rfl) ?_; refine rk_nil ?_
    exact ⟨out, rfl, hbest.fin (by omega) (by omega), closeR (S.drop hS)⟩
end Go.E.Fa
/- The reference's Alloc: free, take. -/
namespace Go.E.Fa
open Go Go.E Go.Proofs.Ytlkgacbholklkaa Go.Proofs
set_option linter.unusedVariables false
set_option linter.unusedSimpArgs false
set_option maxRecDepth 100000
theorem L55 {B H : AHeap} {As : List Asn} {q F E : Nat} {R : RT} {p : Pl} {top : Bool} (hlen : R.refs.length = 4096) (hF : p.first = F) (hE : p.first + p.count = E) (hE4 : E ≤ 4096) (hFE : F ≤ E) (hS : S B H (repR q R :: As)) :
    wpF C 55 [ptrV q, .agg ⟨plC p⟩, .bool top] H fun v H' => ∃ w : Int, v = .int .i64 w ∧ BestTo (frR R) E 1 1 F top E w ∧ S B H' (repR q R :: As) := by
  refine wpF_ofW o55 rfl rfl ?_
  obtain ⟨nm, fi, ct, ge, ke⟩ := p
  simp only at hF hE
  subst hF
  unfold ptrV
  simp only [plC]
  obtain ⟨pv, rv, bv, hO⟩ := openR hS
  obtain ⟨ar, cr, rfl⟩ := (S.up2 hO).i1
  rw [hlen] at hO
  obtain ⟨rb, ro, rcs, rfl, _⟩ := S.slBlk (S.up2 hO) (by omega)
  clear hS
  have hS := hO
  clear hO
  refine zsr ?_; refine wpO_cons ?_; refine op1_boxNS rfl rfl rfl hS ?_; intro p1 H1 hS; refine zw1 ?_; refine zns ?_; refine zsr ?_; refine zw1 ?_; refine zns ?_; refine wp_seq ?_; refine zsr ?_; refine wpO_cons ?_; refine op1_faddr0 rfl rfl ?_; refine wpO_cons ?_; refine op1_load rfl rfl (by exact S.g0 hS) rfl ?_; refine zw1 ?_; refine zns ?_; refine wp_block ?_
  refine wp_loop [7, 8] (fun k vs H' => ∃ (f : Nat) (out : Int), vs = [.int .i64 out, .int .i64 f] ∧ k = E - f ∧ F ≤ f ∧ f ≤ E ∧ BestTo (frR R) E 1 1 F top f out ∧
      S B H' (pto p1 (.cells [.string nm, .int .i64 F, .int .i64 ct, .bool ge, .bool ke] 0 false) :: pto q (.cells [pv, .slice (some ⟨rb, ro, none⟩) 4096 cr, bv] 0 false) :: sl 5 pv (R.pls.flatMap plC) :: sl 1 (.slice (some ⟨rb, ro, none⟩) 4096 cr) (i64s R.refs) :: sl 64 bv (R.pgs.flatMap u8s) :: As))
    ⟨_, F, -1, rfl, rfl, by omega, by omega, .inl ⟨rfl, fun g g1 g2 => by omega⟩, hS⟩ ?_
  clear hS
  rintro k vs T' H2 ⟨f, out, rfl, rfl, hf1, hf2, hbest, hS⟩
  refine wp_seq ?_; refine zsr ?_; refine zw1 ?_; refine wpO_cons ?_; refine op1_faddr0 rfl rfl ?_; refine wpO_cons ?_; refine op1_load rfl rfl (by exact S.g0 hS) rfl ?_; refine wpO_cons ?_; refine op1_faddr0 rfl rfl ?_; refine wpO_cons ?_; refine op1_load rfl rfl (by exact S.g0 hS) rfl ?_; refine wpO_cons ?_; refine op1_add rfl rfl rfl (by exact wrap_i64 (by omega) (by omega)) ?_; refine wpO_cons ?_; refine op1_lss rfl rfl rfl ?_; refine zns ?_
  refine wp_dec rfl (fun hlt => ?_) (fun hlt => ?_)
  · obtain ⟨x, hx⟩ : ∃ x, R.refs[f]? = some x := ⟨R.refs[f]'(by omega), by simp⟩
    have hxd : frR R f = decide (x = 0) := by unfold frR; rw [List.getD_eq_getElem?_getD, hx]; rfl
    refine wp_skip ?_; refine seq_normal ?_; refine wp_seq ?_; refine wp_block ?_; refine zsr ?_; refine zw1 ?_; refine wpO_cons ?_; refine op1_nilchk rfl rfl ?_; refine wpO_cons ?_; refine op1_faddr0 rfl rfl ?_; refine wpO_cons ?_; refine op1_load rfl rfl (by exact S.g1 hS) rfl ?_; refine zw1 ?_; refine wpO_cons ?_; refine op1_iaddr rfl rfl rfl (by omega) (by omega) ?_; refine wpO_cons ?_
    refine op1_loadL rfl rfl (S.up3 hS) rfl (by omega) (i64s_at hx) ?_
    refine wpO_cons ?_; refine op1_eqlI rfl rfl rfl ?_; refine zw1 ?_; refine wpO_cons ?_
    refine op1_dec rfl (fun hx0 => ?_) (fun hx0 => ?_)
    · have hok : OkAt (frR R) E 1 f := ⟨by omega, fun i i1 i2 => by rw [show i = f by omega, hxd]; exact decide_eq_true hx0⟩
      refine op1_mov rfl (by (conv => lhs; whnf) <;> rfl) ?_; refine wpO_cons ?_; refine op1_lss rfl rfl rfl ?_; refine zw1 ?_; refine wpO_cons ?_
      refine op1_dec rfl (fun ho => ?_) (fun ho => ?_)
      · refine op1_skip rfl ?_; refine wpO_cons ?_; refine op1_pick_t rfl rfl (by (conv => lhs; whnf) <;> rfl) ?_; refine wpO_cons ?_; refine op1_pick_t rfl rfl (by (conv => lhs; whnf) <;> rfl) ?_; refine zns ?_; refine wp_true rfl ?_; refine wp_region ?_; refine zw1 ?_; refine zw1 ?_; refine wpO_nil ?_; refine block_normal ?_; refine seq_normal ?_; refine wp_region ?_; refine zw1 ?_; refine wpO_cons ?_; refine op1_add rfl rfl rfl (by exact wrap_i64 (by omega) (by omega)) ?_; refine zw1 ?_; refine wpO_nil ?_
        exact ⟨E - (f + 1), by omega, f + 1, f, rfl, rfl, by omega, by omega, hbest.take hf1 (Nat.one_dvd f) hok (.inl ho), hS⟩
      · cases top
        · refine op1_mov rfl (by (conv => lhs; whnf) <;> rfl) ?_; refine wpO_cons ?_; refine op1_pick_f rfl rfl (by (conv => lhs; whnf) <;> rfl) ?_; refine wpO_cons ?_; refine op1_pick_t rfl rfl (by (conv => lhs; whnf) <;> rfl) ?_; refine zns ?_; refine wp_false rfl ?_; refine wp_skip ?_; refine block_normal ?_; refine seq_normal ?_; refine wp_region ?_; refine zw1 ?_; refine wpO_cons ?_; refine op1_add rfl rfl rfl (by exact wrap_i64 (by omega) (by omega)) ?_; refine zw1 ?_; refine wpO_nil ?_
          exact ⟨E - (f + 1), by omega, f + 1, out, rfl, rfl, by omega, by omega, hbest.hold ho, hS⟩
        · refine op1_mov rfl (by (conv => lhs; whnf) <;> rfl) ?_; refine wpO_cons ?_; refine op1_pick_f rfl rfl (by (conv => lhs; whnf) <;> rfl) ?_; refine wpO_cons ?_; refine op1_pick_t rfl rfl (by (conv => lhs; whnf) <;> rfl) ?_; refine zns ?_; refine wp_true rfl ?_; refine wp_region ?_; refine zw1 ?_; refine zw1 ?_; refine wpO_nil ?_; refine block_normal ?_; refine seq_normal ?_; refine wp_region ?_; refine zw1 ?_; refine wpO_cons ?_; refine op1_add rfl rfl rfl (by exact wrap_i64 (by omega) (by omega)) ?_; refine zw1 ?_; refine wpO_nil ?_
          exact ⟨E - (f + 1), by omega, f + 1, f, rfl, rfl, by omega, by omega, hbest.take hf1 (Nat.one_dvd f) hok (.inr rfl), hS⟩
    · have hno : ¬ (1 ∣ f ∧ OkAt (frR R) E 1 f) := fun h => by
        have := h.2.2 f (Nat.le_refl _) (by omega)
        rw [hxd] at this
        exact hx0 (of_decide_eq_true this)
      refine op1_skip rfl ?_; refine wpO_cons ?_; refine op1_skip rfl ?_; refine wpO_cons ?_; refine op1_skip rfl ?_; refine wpO_cons ?_; refine op1_skip rfl ?_; refine wpO_cons ?_; refine op1_skip rfl ?_; refine wpO_cons ?_; refine op1_pick_f rfl rfl (by (conv => lhs; whnf) <;> rfl) ?_; refine zns ?_; refine wp_false rfl ?_; refine wp_skip ?_; refine block_normal ?_; refine seq_normal ?_; refine wp_region ?_; refine zw1 ?_; refine wpO_cons ?_; refine op1_add rfl rfl rfl (by exact wrap_i64 (by omega) (by omega)) ?_; refine zw1 ?_; refine wpO_nil ?_
      exact ⟨E - (f + 1), by omega, f + 1, out, rfl, rfl, by omega, by omega, hbest.keep hno, hS⟩
  · obtain rfl : f = E := by omega
    refine wp_exit ?_; refine seq_exit ?_; refine iter_exit ?_; refine block_exit ?_; refine seq_normal ?_; refine zsr ?_; refine zw1 ?_; refine zw1 ?_; refine zns ?_; refine wp_ret ?_; refine ret_of ?_; refine rk_tmp (by (conv => lhs; whnf) <;> rfl) ?_; refine rk_nil ?_
    exact ⟨out, rfl, hbest, closeR (S.drop hS)⟩

def keepR (R : RT) (n : Int) : Bool := (R.pls.getD ((ofIx R.pls n).getD 0) default).keep
def takeR (R : RT) (n : Int) : RT := if keepR R n = true then R.set n 1 else (R.set n 1).setPage n zeros
theorem L54 {B H : AHeap} {As : List Asn} {q n : Nat} {R : RT} (hR : RtOk R) (hP : PgOk R) (hn : (ofIx R.pls n).isSome = true) (hS : S B H (repR q R :: As)) :
    wpF C 54 [ptrV q, .int .i64 n] H fun v H' => S B H' (repR q (takeR R n) :: As) := by
  obtain ⟨i, hi⟩ := Option.isSome_iff_exists.1 hn
  obtain ⟨p, hp, hin⟩ := ofIx_some hi
  have hpp := hR.po p (List.mem_of_getElem? hp)
  have hin' := of_decide_eq_true hin
  have hl := hR.l
  have hil := (List.getElem?_eq_some_iff.1 hp).1
  have hkp : keepR R n = p.keep := by unfold keepR; rw [hi, Option.getD_some, List.getD_eq_getElem?_getD, hp]; rfl
  have hov : ofV R.pls n = i := by unfold ofV; rw [hi]
  refine wpF_ofW o54 rfl rfl ?_
  have hp4 := plC_keep hp
  obtain ⟨ke, hke⟩ : ∃ z, z = p.keep := ⟨_, rfl⟩
  rw [← hke] at hp4 hkp
  unfold ptrV takeR
  rw [hkp]
  clear hke
  obtain ⟨pv, rv, bv, hO⟩ := openR hS
  obtain ⟨ar, cr, rfl⟩ := (S.up2 hO).i1
  rw [hR.len] at hO
  obtain ⟨rb, ro, rcs, rfl, _⟩ := S.slBlk (S.up2 hO) (by omega)
  obtain ⟨ap, lp, cp, rfl, hpl⟩ := S.shape (S.up1 hO)
  rw [plC_flen] at hpl
  obtain rfl : lp = R.pls.length := by omega
  obtain ⟨pb, po, pcs, rfl, _⟩ := S.slBlk (S.up1 hO) (by omega)
  clear hS
  have hS := hO
  clear hO
  refine zsr ?_; refine zw1 ?_; refine wpO_cons ?_; refine op1_nilchk rfl rfl ?_; refine wpO_cons ?_; refine op1_faddr0 rfl rfl ?_; refine wpO_cons ?_; refine op1_load rfl rfl (by exact S.g0 hS) rfl ?_; refine zw1 ?_; refine wpO_cons ?_; refine op1_iaddr rfl rfl rfl (by omega) (by omega) ?_; refine wpO_cons ?_; (refine op1_store1L rfl rfl (by (conv => lhs; whnf) <;> rfl) rfl rfl (S.up2 hS) (by omega) ?_; intro H1 hS; replace hS := S.dn2 hS); refine zns ?_; refine wp_seq ?_; refine wp_regionD ?_; refine zd1 ?_; refine wpD_cons ?_; refine op1_nilchk rfl rfl ?_; refine wpD_cons ?_; refine op1_faddr0 rfl rfl ?_; refine wpD_cons ?_; refine op1_load rfl rfl (by exact S.g0 hS) rfl ?_; refine zd1 ?_; refine zd1 ?_; refine wpD_cons ?_; refine op1_call2 rfl (by (conv => lhs; whnf) <;> rfl) (by (conv => lhs; whnf) <;> rfl) ?_
  rw [set_i64s, Nat.mul_one] at hS
  refine wpF_mono (L57o (R := R.set n 1) hR.l hR.po hS) ?_
  rw [show ofV (R.set n 1).pls n = i from hov]
  rintro _ H2 ⟨rfl, hS⟩
  refine wpD_cons ?_; refine op1_iaddr rfl rfl rfl (by omega) (by omega) ?_; refine wpD_cons ?_; refine op1_faddr rfl rfl ?_; refine wpD_cons ?_
  refine op1_loadL (k := i * 5 + 4) rfl rfl (S.up1 hS) (by simp only [Int.toNat_natCast]; omega) (by omega) hp4 ?_
  refine wpD_cons ?_; refine op1_not rfl rfl ?_; refine wpD_nil ?_; refine dk_of ?_ ?_; (iterate 3 refine chk_skip ?_); refine chk_cons 8 rfl rfl rfl ?_ ?_; refine chkFs_cons 5 rfl rfl ?_ ?_; exact chk_load rfl (by exact S.g0 (by assumption)) rfl rfl; refine chkFs_cons 0 rfl rfl ?_ ?_; exact chk_load rfl (by exact S.g0 hS) rfl rfl; exact chkFs_nil; (iterate 5 refine chk_skip ?_); refine chk_cons 2 rfl rfl rfl ?_ ?_; refine chkFs_cons 0 rfl rfl ?_ ?_
  · exact chk_loadL (k := i * 5 + 4) rfl (S.up1 hS) (by simp only [Int.toNat_natCast]; omega) (by omega) hp4 rfl
  exact chkFs_nil; refine chk_skip ?_; exact chk_end; refine seq_normal ?_
  cases ke
  · rw [if_neg (by simp)]
    obtain ⟨ab, lb, cb, rfl, hbl⟩ := S.shape (S.up3 hS)
    rw [show (R.set n 1).pgs = R.pgs from rfl, u8s_pages_len _ hP.pg, hP.len] at hbl
    obtain rfl : lb = 4096 := by omega
    have hlen2 := u8s_pages_len _ hP.pg
    obtain ⟨bb, bo, bcs, rfl, hb1, hb2, hxs, hB⟩ := S.slBlk (S.up3 hS) (by omega)
    have hxs : R.pgs.flatMap u8s = (bcs.drop bo).take (4096 * 64) := hxs
    rw [hxs, hP.len, List.length_take, List.length_drop] at hlen2
    clear hS
    have hS := S.dn3 hB
    clear hB
    refine wp_true rfl ?_; refine wp_region ?_; refine zw1 ?_; refine wpO_cons ?_; refine op1_nilchk rfl rfl ?_; refine wpO_cons ?_; refine op1_faddr0 rfl rfl ?_; refine wpO_cons ?_; refine op1_load rfl rfl (by exact S.g0 hS) rfl ?_; refine zw1 ?_; refine wpO_cons ?_; refine op1_build rfl ?_; refine bk_nil ?_; refine wpO_cons ?_; refine op1_iaddr rfl rfl rfl (by omega) (by omega) ?_; refine wpO_cons ?_
    refine op1_storeNS (xs := u8s zeros) rfl rfl rfl (by rw [u8s_length]; decide) (u8s_one _) (S.up3 hS) (by simp only [Int.toNat_natCast]; omega) ?_
    intro H3 hS
    replace hS := S.dn3 hS
    refine wpO_nil ?_; refine nrm_of ?_; refine rk_nil ?_
    refine closeR (R := (R.set n 1).setPage n zeros) (pv := .slice (some ⟨pb, po, none⟩) R.pls.length cp) (rv := .slice (some ⟨rb, ro, none⟩) 4096 cr) (bv := .slice (some ⟨bb, bo, none⟩) 4096 cb) (S.dn3 ?_)
    have h9 := S.slOf (es := 64) (off := bo) (l := 4096) (c := cb) (S.up3 hS) (by simp only [List.length_append, List.length_take, List.length_drop, u8s_length, Int.toNat_natCast, show zeros.length = 64 from rfl]; omega) (by omega)
    have e9 : List.take (bo + (n : Int).toNat * 64) bcs ++ u8s zeros ++ List.drop (bo + (n : Int).toNat * 64 + 64) bcs = putL bcs (bo + n * 64) (u8s zeros) := by
      unfold putL
      rw [u8s_length]
      rfl
    rw [e9, putL_part (by rw [u8s_length]; show n * 64 + 64 ≤ _; omega) (by omega), ← hxs, pages_put _ _ _ hP.pg (by decide) (by rw [hP.len]; omega)] at h9
    exact h9
  · rw [if_pos rfl]
    refine wp_false rfl ?_; refine wp_skip ?_; refine nrm_of ?_; refine rk_nil ?_
    exact closeR (R := R.set n 1) hS
end Go.E.Fa
