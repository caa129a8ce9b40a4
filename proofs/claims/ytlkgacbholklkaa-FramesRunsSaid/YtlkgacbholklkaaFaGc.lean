/- The reference's table: of, known, Refs, Ref, Unref. -/
import Derived.Test.YtlkgacbholklkaaFaGb
namespace Go.E.Fa
open Go Go.E Go.Proofs.Ytlkgacbholklkaa Go.Proofs
set_option linter.unusedVariables false
set_option linter.unusedSimpArgs false
set_option maxRecDepth 100000
def ofIx (pls : List Pl) (n : Int) : Option Nat := pls.findIdx? fun p => inR p n
def ofV (pls : List Pl) (n : Int) : Int := match ofIx pls n with
  | some i => i
  | none => -1
theorem ofIx_at {pls : List Pl} {n : Int} {i : Nat} {p : Pl} (hp : pls[i]? = some p) (hn : inR p n = true) (hno : ∀ q ∈ pls.take i, ¬ inR q n = true) : ofIx pls n = some i := by
  unfold ofIx
  have hi := (List.getElem?_eq_some_iff.1 hp).1
  rw [List.findIdx?_eq_some_iff_getElem]
  refine ⟨hi, ?_, fun j hj => ?_⟩
  · rw [List.getElem?_eq_getElem hi] at hp
    rw [Option.some.inj hp]
    exact hn
  · exact hno pls[j] (List.mem_iff_getElem?.2 ⟨j, by rw [List.getElem?_take, if_pos hj]; simp⟩)
theorem ofIx_none {pls : List Pl} {n : Int} (hno : ∀ q ∈ pls, ¬ inR q n = true) : ofIx pls n = none := by
  unfold ofIx
  rw [List.findIdx?_eq_none_iff]
  intro q hq
  simpa using hno q hq
theorem ofIx_some {pls : List Pl} {n : Int} {i : Nat} (h : ofIx pls n = some i) : ∃ p, pls[i]? = some p ∧ inR p n = true := by
  unfold ofIx at h
  rw [List.findIdx?_eq_some_iff_getElem] at h
  obtain ⟨hi, h1, _⟩ := h
  exact ⟨pls[i], by simp, h1⟩
theorem L57o {B H : AHeap} {As : List Asn} {q : Nat} {R : RT} {n : Int} {pv rv bv : Value} (hl : R.pls.length ≤ 1000) (hpo : ∀ p ∈ R.pls, 0 ≤ p.count ∧ 0 ≤ p.first ∧ p.first + p.count ≤ 4096) (hS : S B H (pto q (.cells [pv, rv, bv] 0 false) :: sl 5 pv (R.pls.flatMap plC) :: sl 1 rv (i64s R.refs) :: sl 64 bv (R.pgs.flatMap u8s) :: As)) :
    wpF C 57 [ptrV q, .int .i64 n] H fun v H' => v = .int .i64 (ofV R.pls n) ∧ S B H' (pto q (.cells [pv, rv, bv] 0 false) :: sl 5 pv (R.pls.flatMap plC) :: sl 1 rv (i64s R.refs) :: sl 64 bv (R.pgs.flatMap u8s) :: As) := by
  refine wpF_ofW o57 rfl rfl ?_
  unfold ptrV
  obtain ⟨ap, lp, cp, rfl, hpl⟩ := S.shape (S.up1 hS)
  rw [plC_flen] at hpl
  obtain rfl : lp = R.pls.length := by omega
  refine zsr ?_; refine zw1 ?_; refine zns ?_; refine wp_seq ?_; refine zsr ?_; refine zw1 ?_; refine wpO_cons ?_; refine op1_nilchk rfl rfl ?_; refine wpO_cons ?_; refine op1_faddr0 rfl rfl ?_; refine wpO_cons ?_; refine op1_load rfl rfl (by exact S.g0 hS) rfl ?_; refine wpO_cons ?_; refine op1_len rfl rfl ?_; refine zw1 ?_; refine zns ?_; refine wp_block ?_
  refine wp_loop [12] (fun k vs H' => ∃ i : Nat, vs = [.int .i64 i] ∧ k = R.pls.length - i ∧ i ≤ R.pls.length ∧ (∀ p ∈ R.pls.take i, ¬ inR p n = true) ∧
    S B H' (pto q (.cells [.slice ap R.pls.length cp, rv, bv] 0 false) :: sl 5 (.slice ap R.pls.length cp) (R.pls.flatMap plC) :: sl 1 rv (i64s R.refs) :: sl 64 bv (R.pgs.flatMap u8s) :: As)) ⟨_, 0, rfl, rfl, by omega, by simp, hS⟩ ?_
  clear hS
  rintro k vs T' H1 ⟨i, rfl, rfl, hi, hno, hS⟩
  refine zsr ?_; refine wpO_cons ?_; refine op1_lss rfl rfl rfl ?_; refine zns ?_; refine wp_seq ?_
  refine wp_dec rfl (fun hlt => ?_) (fun hlt => ?_)
  · obtain ⟨p, hp⟩ : ∃ p, R.pls[i]? = some p := ⟨R.pls[i]'(by omega), by simp⟩
    obtain ⟨pb, po, cs, rfl, _⟩ := S.slBlk (S.up1 hS) (by omega)
    obtain ⟨h1, h2, h3⟩ := hpo p (List.mem_of_getElem? hp)
    have hir : ∀ b : Prop, True := fun _ => trivial
    refine wp_skip ?_; refine seq_normal ?_; refine wp_seq ?_; refine wp_block ?_; refine zsr ?_; refine zw1 ?_; refine wpO_cons ?_; refine op1_iaddr rfl rfl rfl (by omega) (by omega) ?_; refine wpO_cons ?_; refine op1_loadNL rfl rfl (S.up1 hS) rfl rfl (by omega) rfl ?_; refine wpO_cons ?_; refine op1_allocS rfl hS ?_; intro p1 H2 hS; refine zw1 ?_; refine wpO_cons ?_
    rw [show (i : Int).toNat = i from rfl, flatMap_cut plC_len hp]
    unfold plC
    (refine op1_storeNS rfl rfl (by (conv => lhs; whnf) <;> rfl) rfl rfl (S.up0 hS) (Nat.le_of_ble_eq_true rfl) ?_; intro H3 hS; replace hS := S.dn0 hS); refine zns ?_; refine zsr ?_; refine zw1 ?_; refine wpO_cons ?_; refine op1_faddr0 rfl rfl ?_; refine wpO_cons ?_; refine op1_load rfl rfl (by exact S.g0 hS) rfl ?_; refine wpO_cons ?_; refine op1_geq rfl rfl rfl ?_; refine zw1 ?_; refine wpO_cons ?_
    refine op1_dec rfl (fun g1 => ?_) (fun g1 => ?_)
    · refine op1_mov rfl (by (conv => lhs; whnf) <;> rfl) ?_; refine wpO_cons ?_; refine op1_faddr0 rfl rfl ?_; refine wpO_cons ?_; refine op1_load rfl rfl (by exact S.g0 hS) rfl ?_; refine wpO_cons ?_; refine op1_faddr0 rfl rfl ?_; refine wpO_cons ?_; refine op1_load rfl rfl (by exact S.g0 hS) rfl ?_; refine wpO_cons ?_; refine op1_add rfl rfl rfl (by exact wrap_i64 (by omega) (by omega)) ?_; refine wpO_cons ?_; refine op1_lss rfl rfl rfl ?_; refine wpO_cons ?_; refine op1_pick_t rfl rfl (by (conv => lhs; whnf) <;> rfl) ?_; refine zns ?_
      refine wp_dec rfl (fun g2 => ?_) (fun g2 => ?_)
      · have e : ofV R.pls n = i := by unfold ofV; rw [ofIx_at hp (by unfold inR; rw [decide_eq_true_eq]; omega) hno]
        rw [e]
        refine zsr ?_; refine zw1 ?_; refine zw1 ?_; refine zns ?_; refine wp_ret ?_; refine block_ret ?_; refine seq_ret ?_; refine iter_ret ?_; refine block_ret ?_; refine seq_ret ?_; refine ret_of ?_; refine rk_tmp (by (conv => lhs; whnf) <;> rfl) ?_; refine rk_nil ?_
        exact ⟨rfl, S.drop hS⟩
      · refine wp_skip ?_; refine block_normal ?_; refine seq_normal ?_; refine wp_region ?_; refine wpO_cons ?_; refine op1_add rfl rfl rfl (by exact wrap_i64 (by omega) (by omega)) ?_; refine zw1 ?_; refine wpO_nil ?_
        refine ⟨R.pls.length - (i + 1), by omega, i + 1, rfl, rfl, by omega, fun p' hp' => ?_, S.drop hS⟩
        rw [List.take_add_one, hp] at hp'
        rcases List.mem_append.1 hp' with h | h
        · exact hno p' h
        · simp at h; subst h; unfold inR; rw [decide_eq_true_eq]; omega
    · refine op1_skip rfl ?_; refine wpO_cons ?_; refine op1_skip rfl ?_; refine wpO_cons ?_; refine op1_skip rfl ?_; refine wpO_cons ?_; refine op1_skip rfl ?_; refine wpO_cons ?_; refine op1_skip rfl ?_; refine wpO_cons ?_; refine op1_skip rfl ?_; refine wpO_cons ?_; refine op1_skip rfl ?_; refine wpO_cons ?_; refine op1_pick_f rfl rfl (by (conv => lhs; whnf) <;> rfl) ?_; refine zns ?_; refine wp_false rfl ?_; refine wp_skip ?_; refine block_normal ?_; refine seq_normal ?_; refine wp_region ?_; refine wpO_cons ?_; refine op1_add rfl rfl rfl (by exact wrap_i64 (by omega) (by omega)) ?_; refine zw1 ?_; refine wpO_nil ?_
      refine ⟨R.pls.length - (i + 1), by omega, i + 1, rfl, rfl, by omega, fun p' hp' => ?_, S.drop hS⟩
      rw [List.take_add_one, hp] at hp'
      rcases List.mem_append.1 hp' with h | h
      · exact hno p' h
      · simp at h; subst h; unfold inR; rw [decide_eq_true_eq]; omega
  · obtain rfl : i = R.pls.length := by omega
    rw [List.take_length] at hno
    have e : ofV R.pls n = -1 := by unfold ofV; rw [ofIx_none hno]
    rw [e]
    refine wp_exit ?_; refine seq_exit ?_; refine iter_exit ?_; refine block_exit ?_; refine seq_normal ?_; refine zsr ?_; refine zw1 ?_; refine zns ?_; refine wp_ret ?_; refine ret_of ?_; refine rk_tmp (by (conv => lhs; whnf) <;> rfl) ?_; refine rk_nil ?_
    exact ⟨rfl, hS⟩

theorem L57 {B H : AHeap} {As : List Asn} {q : Nat} {R : RT} {n : Int} (hl : R.pls.length ≤ 1000) (hpo : ∀ p ∈ R.pls, 0 ≤ p.count ∧ 0 ≤ p.first ∧ p.first + p.count ≤ 4096) (hS : S B H (repR q R :: As)) :
    wpF C 57 [ptrV q, .int .i64 n] H fun v H' => v = .int .i64 (ofV R.pls n) ∧ S B H' (repR q R :: As) := by
  obtain ⟨pv, rv, bv, hS⟩ := openR hS
  exact wpF_mono (L57o hl hpo hS) fun v H' h => ⟨h.1, closeR h.2⟩

/-- the error of a frame that is asked for -/
def knownE (R : RT) (n : Int) (used : Bool) : Int := if ofV R.pls n < 0 then 34 else if used = true ∧ R.refs.getD n.toNat 0 = 0 then 35 else 0
theorem ofV_lt {R : RT} {n : Int} (hpo : ∀ p ∈ R.pls, 0 ≤ p.count ∧ 0 ≤ p.first ∧ p.first + p.count ≤ 4096) (h : ¬ ofV R.pls n < 0) : 0 ≤ n ∧ n < 4096 := by
  unfold ofV at h
  cases he : ofIx R.pls n with
  | none => rw [he] at h; simp at h
  | some i =>
    obtain ⟨p, hp, hn⟩ := ofIx_some he
    have h1 := hpo p (List.mem_of_getElem? hp)
    unfold inR at hn
    rw [decide_eq_true_eq] at hn
    omega
structure RtOk (R : RT) : Prop where
  l : R.pls.length ≤ 1000
  po : ∀ p ∈ R.pls, 0 ≤ p.count ∧ 0 ≤ p.first ∧ p.first + p.count ≤ 4096
  len : R.refs.length = 4096
  bd : ∀ x ∈ R.refs, (0 : Int) ≤ x ∧ x ≤ 60000
theorem L56 {B H : AHeap} {As : List Asn} {q : Nat} {R : RT} {n : Int} {used : Bool} (hR : RtOk R) (hS : S B H (repR q R :: As)) :
    wpF C 56 [ptrV q, .int .i64 n, .bool used] H fun v H' => v = .int .i64 (knownE R n used) ∧ S B H' (repR q R :: As) := by
  refine wpF_ofW o56 rfl rfl ?_
  unfold ptrV
  refine zsr ?_; refine zw1 ?_; refine zns ?_; refine wp_seq ?_; refine zsr ?_; refine zw1 ?_; refine zw1 ?_; refine wpO_cons ?_; refine op1_call2 rfl (by (conv => lhs; whnf) <;> rfl) (by (conv => lhs; whnf) <;> rfl) ?_
  refine wpF_mono (L57 hR.l hR.po hS) ?_
  rintro _ H1 ⟨rfl, hS⟩
  refine wpO_cons ?_; refine op1_lss rfl rfl rfl ?_; refine zns ?_
  refine wp_dec rfl (fun h0 => ?_) (fun h0 => ?_)
  · have e : knownE R n used = 34 := by unfold knownE; rw [if_pos h0]
    rw [e]
    refine zsr ?_; refine zw1 ?_; refine zns ?_; refine wp_ret ?_; refine seq_ret ?_; refine ret_of ?_; refine rk_tmp (by (conv => lhs; whnf) <;> rfl) ?_; refine rk_nil ?_
    exact ⟨rfl, hS⟩
  have hn := ofV_lt hR.po h0
  obtain ⟨m, rfl⟩ : ∃ m : Nat, n = m := ⟨n.toNat, by omega⟩
  refine wp_skip ?_; refine seq_normal ?_; refine wp_seq ?_; refine zsr ?_; refine zw1 ?_; refine zw1 ?_; refine wpO_cons ?_
  cases used
  · have e : knownE R m false = 0 := by unfold knownE; rw [if_neg h0, if_neg (by simp)]
    rw [e]
    refine op1_skip rfl ?_; refine wpO_cons ?_; refine op1_skip rfl ?_; refine wpO_cons ?_; refine op1_skip rfl ?_; refine wpO_cons ?_; refine op1_skip rfl ?_; refine wpO_cons ?_; refine op1_skip rfl ?_; refine wpO_cons ?_; refine op1_skip rfl ?_; refine wpO_cons ?_; refine op1_skip rfl ?_; refine wpO_cons ?_; refine op1_skip rfl ?_; refine wpO_cons ?_; refine op1_pick_f rfl rfl (by (conv => lhs; whnf) <;> rfl) ?_; refine zns ?_; refine wp_false rfl ?_; refine wp_skip ?_; refine seq_normal ?_; refine zsr ?_; refine zw1 ?_; refine zns ?_; refine wp_ret ?_; refine ret_of ?_; refine rk_tmp (by (conv => lhs; whnf) <;> rfl) ?_; refine rk_nil ?_
    exact ⟨rfl, hS⟩
  · obtain ⟨pv, rv, bv, hO⟩ := openR hS
    obtain ⟨ar, cr, rfl⟩ := (S.up2 hO).i1
    rw [hR.len] at hO
    obtain ⟨rb, ro, rcs, rfl, _⟩ := S.slBlk (S.up2 hO) (by omega)
    obtain ⟨x, hx⟩ : ∃ x, R.refs[m]? = some x := ⟨R.refs[m]'(by rw [hR.len]; omega), by simp⟩
    have hxd : R.refs.getD ((m : Int)).toNat 0 = x := by rw [List.getD_eq_getElem?_getD, Int.toNat_natCast, hx]; rfl
    refine op1_mov rfl (by (conv => lhs; whnf) <;> rfl) ?_; refine wpO_cons ?_; refine op1_nilchk rfl rfl ?_; refine wpO_cons ?_; refine op1_faddr0 rfl rfl ?_; refine wpO_cons ?_; refine op1_load rfl rfl (by exact S.g0 hO) rfl ?_; refine zw1 ?_; refine wpO_cons ?_; refine op1_iaddr rfl rfl rfl (by omega) (by omega) ?_; refine wpO_cons ?_
    refine op1_loadL rfl rfl (S.up2 hO) rfl (by omega) (i64s_at hx) ?_
    refine wpO_cons ?_; refine op1_eqlI rfl rfl rfl ?_; refine wpO_cons ?_; refine op1_pick_t rfl rfl (by (conv => lhs; whnf) <;> rfl) ?_; refine zns ?_
    refine wp_dec rfl (fun h1 => ?_) (fun h1 => ?_)
    · have e : knownE R m true = 35 := by unfold knownE; rw [if_neg h0, if_pos ⟨rfl, by rw [hxd]; exact h1⟩]
      rw [e]
      refine zsr ?_; refine zw1 ?_; refine zns ?_; refine wp_ret ?_; refine seq_ret ?_; refine ret_of ?_; refine rk_tmp (by (conv => lhs; whnf) <;> rfl) ?_; refine rk_nil ?_
      exact ⟨rfl, hS⟩
    · have e : knownE R m true = 0 := by unfold knownE; rw [if_neg h0, if_neg (by rw [hxd]; exact fun h => h1 h.2)]
      rw [e]
      refine wp_skip ?_; refine seq_normal ?_; refine zsr ?_; refine zw1 ?_; refine zns ?_; refine wp_ret ?_; refine ret_of ?_; refine rk_tmp (by (conv => lhs; whnf) <;> rfl) ?_; refine rk_nil ?_
      exact ⟨rfl, hS⟩

def RT.set (R : RT) (n v : Int) : RT := { R with refs := R.refs.set n.toNat v }
def refR (R : RT) (n : Int) : Int × RT := if knownE R n true ≠ 0 then (knownE R n true, R) else if R.refs.getD n.toNat 0 = 60000 then (18, R) else (0, R.set n (R.refs.getD n.toNat 0 + 1))
def unrefR (R : RT) (n : Int) : Int × RT := if knownE R n true ≠ 0 then (knownE R n true, R) else (0, R.set n (R.refs.getD n.toNat 0 - 1))
theorem known_lt {R : RT} {n : Int} {used : Bool} (hR : RtOk R) (h : knownE R n used = 0) : 0 ≤ n ∧ n < 4096 := by
  refine ofV_lt hR.po fun h0 => ?_
  unfold knownE at h
  rw [if_pos h0] at h
  cases h
theorem set_i64s (l : List Int) (n : Nat) (v : Int) : (i64s l).set n (.int .i64 v) = i64s (l.set n v) := by unfold i64s; rw [List.map_set]
theorem L41 {B H : AHeap} {As : List Asn} {q : Nat} {R : RT} {n : Int} (hR : RtOk R) (hS : S B H (repR q R :: As)) :
    wpF C 41 [ptrV q, .int .i64 n] H fun v H' => v = .tuple ⟨[.int .i64 (if knownE R n false ≠ 0 then 0 else R.refs.getD n.toNat 0), .int .i64 (knownE R n false)]⟩ ∧ S B H' (repR q R :: As) := by
  refine wpF_ofW o41 rfl rfl ?_
  unfold ptrV
  refine zsr ?_; refine zw1 ?_; refine zw1 ?_; refine zns ?_; refine wp_seq ?_; refine zsr ?_; refine zw1 ?_; refine zw1 ?_; refine wpO_cons ?_; refine op1_call3 rfl (by (conv => lhs; whnf) <;> rfl) (by (conv => lhs; whnf) <;> rfl) (by (conv => lhs; whnf) <;> rfl) ?_
  refine wpF_mono (L56 hR hS) ?_
  rintro _ H1 ⟨rfl, hS⟩
  refine zw1 ?_; refine zns ?_; refine zsr ?_; refine zw1 ?_; refine wpO_cons ?_; refine op1_neqI rfl rfl rfl ?_; refine zns ?_
  refine wp_ndec rfl (fun he => ?_) (fun he => ?_)
  · rw [if_pos he]
    refine zsr ?_; refine zw1 ?_; refine zw1 ?_; refine zw1 ?_; refine zns ?_; refine wp_ret ?_; refine seq_ret ?_; refine ret_of ?_; refine rk_tmp (by (conv => lhs; whnf) <;> rfl) ?_; refine rk_tmp (by (conv => lhs; whnf) <;> rfl) ?_; refine rk_nil ?_
    exact ⟨rfl, hS⟩
  · replace he : ¬ knownE R n false ≠ 0 := fun h => h he
    rw [if_neg he]
    have hn := known_lt hR (Classical.not_not.1 he)
    obtain ⟨m, rfl⟩ : ∃ m : Nat, n = m := ⟨n.toNat, by omega⟩
    obtain ⟨pv, rv, bv, hS⟩ := openR hS
    obtain ⟨ar, cr, rfl⟩ := (S.up2 hS).i1
    rw [hR.len] at hS
    obtain ⟨rb, ro, rcs, rfl, _⟩ := S.slBlk (S.up2 hS) (by omega)
    obtain ⟨x, hx⟩ : ∃ x, R.refs[m]? = some x := ⟨R.refs[m]'(by rw [hR.len]; omega), by simp⟩
    have hxb := hR.bd x (List.mem_of_getElem? hx)
    have hxd : R.refs.getD ((m : Int)).toNat 0 = x := by rw [List.getD_eq_getElem?_getD, Int.toNat_natCast, hx]; rfl
    refine wp_skip ?_; refine seq_normal ?_; refine zsr ?_; refine zw1 ?_; refine wpO_cons ?_; refine op1_nilchk rfl rfl ?_; refine wpO_cons ?_; refine op1_faddr0 rfl rfl ?_; refine wpO_cons ?_; refine op1_load rfl rfl (by exact S.g0 hS) rfl ?_; refine zw1 ?_; refine wpO_cons ?_; refine op1_iaddr rfl rfl rfl (by omega) (by omega) ?_; refine wpO_cons ?_
    refine op1_loadL rfl rfl (S.up2 hS) rfl (by omega) (i64s_at hx) ?_
    refine zw1 ?_; refine zw1 ?_; refine zns ?_; refine wp_ret ?_; refine ret_of ?_; refine rk_tmp (by (conv => lhs; whnf) <;> rfl) ?_; refine rk_tmp (by (conv => lhs; whnf) <;> rfl) ?_; refine rk_nil ?_
    rw [hxd, Classical.not_not.1 he]
    refine ⟨rfl, closeR (pv := pv) (rv := .slice (some ⟨rb, ro, none⟩) 4096 cr) (bv := bv) ?_⟩
    exact hS
theorem L40 {B H : AHeap} {As : List Asn} {q : Nat} {R : RT} {n : Int} (hR : RtOk R) (hS : S B H (repR q R :: As)) :
    wpF C 40 [ptrV q, .int .i64 n] H fun v H' => v = .int .i64 (unrefR R n).1 ∧ S B H' (repR q (unrefR R n).2 :: As) := by
  refine wpF_ofW o40 rfl rfl ?_
  unfold ptrV unrefR
  refine zsr ?_; refine zw1 ?_; refine zns ?_; refine wp_seq ?_; refine zsr ?_; refine zw1 ?_; refine zw1 ?_; refine wpO_cons ?_; refine op1_call3 rfl (by (conv => lhs; whnf) <;> rfl) (by (conv => lhs; whnf) <;> rfl) (by (conv => lhs; whnf) <;> rfl) ?_
  refine wpF_mono (L56 hR hS) ?_
  rintro _ H1 ⟨rfl, hS⟩
  refine zw1 ?_; refine zns ?_; refine zsr ?_; refine zw1 ?_; refine wpO_cons ?_; refine op1_neqI rfl rfl rfl ?_; refine zns ?_
  refine wp_ndec rfl (fun he => ?_) (fun he => ?_)
  · rw [if_pos he]
    refine zsr ?_; refine zw1 ?_; refine zw1 ?_; refine zns ?_; refine wp_ret ?_; refine seq_ret ?_; refine ret_of ?_; refine rk_tmp (by (conv => lhs; whnf) <;> rfl) ?_; refine rk_nil ?_
    exact ⟨rfl, hS⟩
  · replace he : ¬ knownE R n true ≠ 0 := fun h => h he
    rw [if_neg he]
    have hn := known_lt hR (Classical.not_not.1 he)
    obtain ⟨m, rfl⟩ : ∃ m : Nat, n = m := ⟨n.toNat, by omega⟩
    obtain ⟨pv, rv, bv, hS⟩ := openR hS
    obtain ⟨ar, cr, rfl⟩ := (S.up2 hS).i1
    rw [hR.len] at hS
    obtain ⟨rb, ro, rcs, rfl, _⟩ := S.slBlk (S.up2 hS) (by omega)
    obtain ⟨x, hx⟩ : ∃ x, R.refs[m]? = some x := ⟨R.refs[m]'(by rw [hR.len]; omega), by simp⟩
    have hxb := hR.bd x (List.mem_of_getElem? hx)
    have hxd : R.refs.getD ((m : Int)).toNat 0 = x := by rw [List.getD_eq_getElem?_getD, Int.toNat_natCast, hx]; rfl
    refine wp_skip ?_; refine seq_normal ?_; refine zsr ?_; refine zw1 ?_; refine wpO_cons ?_; refine op1_nilchk rfl rfl ?_; refine wpO_cons ?_; refine op1_faddr0 rfl rfl ?_; refine wpO_cons ?_; refine op1_load rfl rfl (by exact S.g0 hS) rfl ?_; refine zw1 ?_; refine wpO_cons ?_; refine op1_iaddr rfl rfl rfl (by omega) (by omega) ?_; refine wpO_cons ?_
    refine op1_loadL rfl rfl (S.up2 hS) rfl (by omega) (i64s_at hx) ?_
    refine wpO_cons ?_; refine op1_sub rfl rfl rfl (by exact wrap_i64 (by omega) (by omega)) ?_; refine wpO_cons ?_; refine op1_iaddr rfl rfl rfl (by omega) (by omega) ?_; refine wpO_cons ?_; (refine op1_store1L rfl rfl (by (conv => lhs; whnf) <;> rfl) rfl rfl (S.up2 hS) (by omega) ?_; intro H2 hS; replace hS := S.dn2 hS); refine zns ?_; refine zsr ?_; refine zw1 ?_; refine zns ?_; refine wp_ret ?_; refine ret_of ?_; refine rk_tmp (by (conv => lhs; whnf) <;> rfl) ?_; refine rk_nil ?_
    rw [hxd]
    rw [set_i64s, Nat.mul_one] at hS
    exact ⟨rfl, closeR (R := R.set m (x - 1)) (pv := pv) (rv := .slice (some ⟨rb, ro, none⟩) 4096 cr) (bv := bv) hS⟩
theorem L39 {B H : AHeap} {As : List Asn} {q : Nat} {R : RT} {n : Int} (hR : RtOk R) (hS : S B H (repR q R :: As)) :
    wpF C 39 [ptrV q, .int .i64 n] H fun v H' => v = .int .i64 (refR R n).1 ∧ S B H' (repR q (refR R n).2 :: As) := by
  refine wpF_ofW o39 rfl rfl ?_
  unfold ptrV refR
  refine zsr ?_; refine zw1 ?_; refine zns ?_; refine wp_seq ?_; refine zsr ?_; refine zw1 ?_; refine zw1 ?_; refine wpO_cons ?_; refine op1_call3 rfl (by (conv => lhs; whnf) <;> rfl) (by (conv => lhs; whnf) <;> rfl) (by (conv => lhs; whnf) <;> rfl) ?_
  refine wpF_mono (L56 hR hS) ?_
  rintro _ H1 ⟨rfl, hS⟩
  refine zw1 ?_; refine zns ?_; refine zsr ?_; refine zw1 ?_; refine wpO_cons ?_; refine op1_neqI rfl rfl rfl ?_; refine zns ?_
  refine wp_ndec rfl (fun he => ?_) (fun he => ?_)
  · rw [if_pos he]
    refine zsr ?_; refine zw1 ?_; refine zw1 ?_; refine zns ?_; refine wp_ret ?_; refine seq_ret ?_; refine ret_of ?_; refine rk_tmp (by (conv => lhs; whnf) <;> rfl) ?_; refine rk_nil ?_
    exact ⟨rfl, hS⟩
  · replace he : ¬ knownE R n true ≠ 0 := fun h => h he
    rw [if_neg he]
    have hn := known_lt hR (Classical.not_not.1 he)
    obtain ⟨m, rfl⟩ : ∃ m : Nat, n = m := ⟨n.toNat, by omega⟩
    obtain ⟨pv, rv, bv, hS⟩ := openR hS
    obtain ⟨ar, cr, rfl⟩ := (S.up2 hS).i1
    rw [hR.len] at hS
    obtain ⟨rb, ro, rcs, rfl, _⟩ := S.slBlk (S.up2 hS) (by omega)
    obtain ⟨x, hx⟩ : ∃ x, R.refs[m]? = some x := ⟨R.refs[m]'(by rw [hR.len]; omega), by simp⟩
    have hxb := hR.bd x (List.mem_of_getElem? hx)
    have hxd : R.refs.getD ((m : Int)).toNat 0 = x := by rw [List.getD_eq_getElem?_getD, Int.toNat_natCast, hx]; rfl
    rw [hxd]
    refine wp_skip ?_; refine seq_normal ?_; refine wp_seq ?_; refine zsr ?_; refine zw1 ?_; refine wpO_cons ?_; refine op1_nilchk rfl rfl ?_; refine wpO_cons ?_; refine op1_faddr0 rfl rfl ?_; refine wpO_cons ?_; refine op1_load rfl rfl (by exact S.g0 hS) rfl ?_; refine zw1 ?_; refine wpO_cons ?_; refine op1_iaddr rfl rfl rfl (by omega) (by omega) ?_; refine wpO_cons ?_
    refine op1_loadL rfl rfl (S.up2 hS) rfl (by omega) (i64s_at hx) ?_
    refine wpO_cons ?_; refine op1_eqlI rfl rfl rfl ?_; refine zns ?_
    refine wp_dec rfl (fun h6 => ?_) (fun h6 => ?_)
    · rw [if_pos h6]
      refine zsr ?_; refine zw1 ?_; refine zns ?_; refine wp_ret ?_; refine seq_ret ?_; refine ret_of ?_; refine rk_tmp (by (conv => lhs; whnf) <;> rfl) ?_; refine rk_nil ?_
      exact ⟨rfl, closeR (pv := pv) (rv := .slice (some ⟨rb, ro, none⟩) 4096 cr) (bv := bv) hS⟩
    · rw [if_neg h6]
      refine wp_skip ?_; refine seq_normal ?_; refine zsr ?_; refine zw1 ?_; refine wpO_cons ?_; refine op1_nilchk rfl rfl ?_; refine wpO_cons ?_; refine op1_faddr0 rfl rfl ?_; refine wpO_cons ?_; refine op1_load rfl rfl (by exact S.g0 hS) rfl ?_; refine zw1 ?_; refine wpO_cons ?_; refine op1_iaddr rfl rfl rfl (by omega) (by omega) ?_; refine wpO_cons ?_
      refine op1_loadL rfl rfl (S.up2 hS) rfl (by omega) (i64s_at hx) ?_
      refine wpO_cons ?_; refine op1_add rfl rfl rfl (by exact wrap_i64 (by omega) (by omega)) ?_; refine wpO_cons ?_; refine op1_iaddr rfl rfl rfl (by omega) (by omega) ?_; refine wpO_cons ?_; (refine op1_store1L rfl rfl (by (conv => lhs; whnf) <;> rfl) rfl rfl (S.up2 hS) (by omega) ?_; intro H2 hS; replace hS := S.dn2 hS); refine zns ?_; refine zsr ?_; refine zw1 ?_; refine zns ?_; refine wp_ret ?_; refine ret_of ?_; refine rk_tmp (by (conv => lhs; whnf) <;> rfl) ?_; refine rk_nil ?_
      rw [set_i64s, Nat.mul_one] at hS
      exact ⟨rfl, closeR (R := R.set m (x + 1)) (pv := pv) (rv := .slice (some ⟨rb, ro, none⟩) 4096 cr) (bv := bv) hS⟩
/-! ### the program's Refs and Ref -/
def findE (M : Fm) (n : Int) (free : Bool) : Int := if n ∈ M.dom then (if M.refs n = 0 ∧ free = false then 35 else 0) else 34
theorem L24 {B H : AHeap} {As : List Asn} {t : Nat} {T : Tb} {n : Int} (hT : TbOk T) (hS : S B H (repT t T :: As)) :
    wpF C 24 [ptrV t, .int .i64 n] H fun v H' => v = .tuple ⟨[.int .i64 (if n ∈ T.m.dom then T.m.refs n else 0), .int .i64 (findE T.m n true)]⟩ ∧ S B H' (repT t T :: As) := by
  refine wpF_ofW o24 rfl rfl ?_
  refine zsr ?_; refine zw1 ?_; refine zw1 ?_; refine zns ?_; refine zsr ?_; refine zw1 ?_; refine zw1 ?_; refine wpO_cons ?_; refine op1_call3 rfl (by (conv => lhs; whnf) <;> rfl) (by (conv => lhs; whnf) <;> rfl) (by (conv => lhs; whnf) <;> rfl) ?_
  refine wpF_mono (L33 hS) ?_
  rintro _ _ ⟨rfl, rfl⟩
  unfold findV findE
  by_cases hn : n ∈ T.m.dom
  · rw [if_pos hn, if_pos hn, if_pos hn, if_neg (by simp), if_neg (by simp)]
    obtain ⟨pv, m1, m2, hO⟩ := openT hS
    replace hO := S.frAt (S.up4 hO) hn
    unfold frC ptrV at *
    clear hS
    have hS := hO
    clear hO
    refine zw1 ?_; refine wpO_cons ?_; refine op1_extract rfl rfl rfl ?_; refine wpO_cons ?_; refine op1_extract rfl rfl rfl ?_; refine zw1 ?_; refine zw1 ?_; refine zns ?_; refine wp_seq ?_; refine zsr ?_; refine zw1 ?_; refine wpO_cons ?_; refine op1_neqI_s rfl rfl rfl ?_; refine zns ?_; refine wp_false rfl ?_; refine wp_skip ?_; refine seq_normal ?_; refine zsr ?_; refine zw1 ?_; refine wpO_cons ?_; refine op1_nilchk rfl rfl ?_; refine wpO_cons ?_; refine op1_faddr0 rfl rfl ?_; refine wpO_cons ?_; refine op1_load rfl rfl (by exact S.g0 hS) rfl ?_; refine zw1 ?_; refine zw1 ?_; refine zns ?_; refine wp_ret ?_; refine ret_of ?_; refine rk_tmp (by (conv => lhs; whnf) <;> rfl) ?_; refine rk_tmp (by (conv => lhs; whnf) <;> rfl) ?_; refine rk_nil ?_
    exact ⟨rfl, frBack (pv := pv) (m1 := m1) (m2 := m2) hn hT hS⟩
  · rw [if_neg hn, if_neg hn, if_neg hn]
    refine zw1 ?_; refine wpO_cons ?_; refine op1_extract rfl rfl rfl ?_; refine wpO_cons ?_; refine op1_extract rfl rfl rfl ?_; refine zw1 ?_; refine zw1 ?_; refine zns ?_; refine wp_seq ?_; refine zsr ?_; refine zw1 ?_; refine wpO_cons ?_; refine op1_neqI rfl rfl rfl ?_; refine zns ?_; refine wp_true rfl ?_; refine zsr ?_; refine zw1 ?_; refine zw1 ?_; refine zw1 ?_; refine zns ?_; refine wp_ret ?_; refine seq_ret ?_; refine ret_of ?_; refine rk_tmp (by (conv => lhs; whnf) <;> rfl) ?_; refine rk_tmp (by (conv => lhs; whnf) <;> rfl) ?_; refine rk_nil ?_
    exact ⟨rfl, hS⟩
def refP (M : Fm) (n : Int) : Int × Fm := if findE M n false ≠ 0 then (findE M n false, M) else if 60000 ≤ M.refs n then (18, M) else (0, M.setRefs n (M.refs n + 1))
theorem L26 {B H : AHeap} {As : List Asn} {t : Nat} {T : Tb} {n : Int} (hT : TbOk T) (hS : S B H (repT t T :: As)) :
    wpF C 26 [ptrV t, .int .i64 n] H fun v H' => v = .int .i64 (refP T.m n).1 ∧ S B H' (repT t (T.wm (refP T.m n).2) :: As) := by
  refine wpF_ofW o26 rfl rfl ?_
  refine zsr ?_; refine zw1 ?_; refine zns ?_; refine zsr ?_; refine zw1 ?_; refine zw1 ?_; refine wpO_cons ?_; refine op1_call3 rfl (by (conv => lhs; whnf) <;> rfl) (by (conv => lhs; whnf) <;> rfl) (by (conv => lhs; whnf) <;> rfl) ?_
  refine wpF_mono (L33 hS) ?_
  rintro _ _ ⟨rfl, rfl⟩
  unfold findV
  have hb := hT.m.refs n
  by_cases hn : n ∈ T.m.dom
  · rw [if_pos hn]
    by_cases h0 : T.m.refs n = 0
    · have e0 : findE T.m n false = 35 := by unfold findE; rw [if_pos hn, if_pos ⟨h0, rfl⟩]
      have er : refP T.m n = (35, T.m) := by unfold refP; rw [e0, if_pos (by decide)]
      rw [if_pos ⟨h0, rfl⟩, er]
      refine zw1 ?_; refine wpO_cons ?_; refine op1_extract rfl rfl rfl ?_; refine wpO_cons ?_; refine op1_extract rfl rfl rfl ?_; refine zw1 ?_; refine zw1 ?_; refine zns ?_; refine wp_seq ?_; refine zsr ?_; refine zw1 ?_; refine wpO_cons ?_; refine op1_neqI rfl rfl rfl ?_; refine zns ?_; refine wp_true rfl ?_; refine zsr ?_; refine zw1 ?_; refine zw1 ?_; refine zns ?_; refine wp_ret ?_; refine seq_ret ?_; refine ret_of ?_; refine rk_tmp (by (conv => lhs; whnf) <;> rfl) ?_; refine rk_nil ?_
      exact ⟨rfl, hS⟩
    · have e0 : findE T.m n false = 0 := by unfold findE; rw [if_pos hn, if_neg (fun h => h0 h.1)]
      have er : refP T.m n = if 60000 ≤ T.m.refs n then (18, T.m) else (0, T.m.setRefs n (T.m.refs n + 1)) := by unfold refP; rw [e0, if_neg (by decide)]
      rw [if_neg (fun h => h0 h.1), er]
      obtain ⟨pv, m1, m2, hO⟩ := openT hS
      replace hO := S.frAt (S.up4 hO) hn
      clear hS
      have hS := hO
      clear hO
      unfold frC at hS
      unfold ptrV
      refine zw1 ?_; refine wpO_cons ?_; refine op1_extract rfl rfl rfl ?_; refine wpO_cons ?_; refine op1_extract rfl rfl rfl ?_; refine zw1 ?_; refine zw1 ?_; refine zns ?_; refine wp_seq ?_; refine zsr ?_; refine zw1 ?_; refine wpO_cons ?_; refine op1_neqI_s rfl rfl rfl ?_; refine zns ?_; refine wp_false rfl ?_; refine wp_skip ?_; refine seq_normal ?_; refine wp_seq ?_; refine zsr ?_; refine zw1 ?_; refine wpO_cons ?_; refine op1_nilchk rfl rfl ?_; refine wpO_cons ?_; refine op1_faddr0 rfl rfl ?_; refine wpO_cons ?_; refine op1_load rfl rfl (by exact S.g0 hS) rfl ?_; refine wpO_cons ?_; refine op1_geq rfl rfl rfl ?_; refine zns ?_
      refine wp_dec rfl (fun h6 => ?_) (fun h6 => ?_)
      · rw [if_pos (by omega)]
        refine zsr ?_; refine zw1 ?_; refine zns ?_; refine wp_ret ?_; refine seq_ret ?_; refine ret_of ?_; refine rk_tmp (by (conv => lhs; whnf) <;> rfl) ?_; refine rk_nil ?_
        exact ⟨rfl, frBack (pv := pv) (m1 := m1) (m2 := m2) hn hT hS⟩
      · rw [if_neg (by omega)]
        refine wp_skip ?_; refine seq_normal ?_; refine zsr ?_; refine zw1 ?_; refine wpO_cons ?_; refine op1_nilchk rfl rfl ?_; refine wpO_cons ?_; refine op1_faddr0 rfl rfl ?_; refine wpO_cons ?_; refine op1_load rfl rfl (by exact S.g0 hS) rfl ?_; refine wpO_cons ?_; refine op1_add rfl rfl rfl (by exact wrap_i64 (by omega) (by omega)) ?_; refine wpO_cons ?_; refine op1_nilchk rfl rfl ?_; refine wpO_cons ?_; refine op1_faddr0 rfl rfl ?_; refine wpO_cons ?_; (refine op1_store1S rfl rfl (by (conv => lhs; whnf) <;> rfl) rfl rfl (S.up0 hS) rfl ?_; intro H1 hS; replace hS := S.dn0 hS); refine zns ?_; refine zsr ?_; refine zw1 ?_; refine zns ?_; refine wp_ret ?_; refine ret_of ?_; refine rk_tmp (by (conv => lhs; whnf) <;> rfl) ?_; refine rk_nil ?_
        refine ⟨rfl, closeT (pv := pv) (m1 := m1) (m2 := m2) (S.dn4 (S.frPut (M := T.m) (M' := T.m.setRefs n (T.m.refs n + 1)) hn rfl hT.m.nd (fun k hk => frA_setRefs hk) ?_))⟩
        have e : (T.m.setRefs n (T.m.refs n + 1)).refs n = T.m.refs n + 1 := by simp [Fm.setRefs]
        rw [e]
        exact hS
  · have e0 : findE T.m n false = 34 := by unfold findE; rw [if_neg hn]
    have er : refP T.m n = (34, T.m) := by unfold refP; rw [e0, if_pos (by decide)]
    rw [if_neg hn, er]
    refine zw1 ?_; refine wpO_cons ?_; refine op1_extract rfl rfl rfl ?_; refine wpO_cons ?_; refine op1_extract rfl rfl rfl ?_; refine zw1 ?_; refine zw1 ?_; refine zns ?_; refine wp_seq ?_; refine zsr ?_; refine zw1 ?_; refine wpO_cons ?_; refine op1_neqI rfl rfl rfl ?_; refine zns ?_; refine wp_true rfl ?_; refine zsr ?_; refine zw1 ?_; refine zw1 ?_; refine zns ?_; refine wp_ret ?_; refine seq_ret ?_; refine ret_of ?_; refine rk_tmp (by (conv => lhs; whnf) <;> rfl) ?_; refine rk_nil ?_
    exact ⟨rfl, hS⟩
end Go.E.Fa
/- Pool of both tables. -/
namespace Go.E.Fa
open Go Go.E Go.Proofs.Ytlkgacbholklkaa Go.Proofs
set_option linter.unusedVariables false
set_option linter.unusedSimpArgs false
set_option maxRecDepth 100000
theorem plC_nm {l : List Pl} {i : Nat} {p : Pl} (h : l[i]? = some p) : (l.flatMap plC)[i * 5]? = some (.string p.name) := by
  have h1 := flatMap_cut plC_len h
  have h2 := congrArg (fun z => z[0]?) h1
  simp only [List.getElem?_take, List.getElem?_drop, show 0 < 5 by decide, if_true, Nat.add_zero] at h2
  exact h2
def nmR (R : RT) (n : Int) : ByteArray := if knownE R n false ≠ 0 then ⟨#[]⟩ else (R.pls.getD ((ofIx R.pls n).getD 0) default).name
theorem L42 {B H : AHeap} {As : List Asn} {q : Nat} {R : RT} {n : Int} (hR : RtOk R) (hS : S B H (repR q R :: As)) :
    wpF C 42 [ptrV q, .int .i64 n] H fun v H' => v = .tuple ⟨[.string (nmR R n), .int .i64 (knownE R n false)]⟩ ∧ S B H' (repR q R :: As) := by
  refine wpF_ofW o42 rfl rfl ?_
  unfold ptrV nmR
  refine zsr ?_; refine zw1 ?_; refine zw1 ?_; refine zns ?_; refine wp_seq ?_; refine zsr ?_; refine zw1 ?_; refine zw1 ?_; refine wpO_cons ?_; refine op1_call3 rfl (by (conv => lhs; whnf) <;> rfl) (by (conv => lhs; whnf) <;> rfl) (by (conv => lhs; whnf) <;> rfl) ?_
  refine wpF_mono (L56 hR hS) ?_
  rintro _ H1 ⟨rfl, hS⟩
  refine zw1 ?_; refine zns ?_; refine zsr ?_; refine zw1 ?_; refine wpO_cons ?_; refine op1_neqI rfl rfl rfl ?_; refine zns ?_
  refine wp_ndec rfl (fun he => ?_) (fun he => ?_)
  · rw [if_pos he]
    refine zsr ?_; refine zw1 ?_; refine zw1 ?_; refine zw1 ?_; refine zns ?_; refine wp_ret ?_; refine seq_ret ?_; refine ret_of ?_; refine rk_tmp (by (conv => lhs; whnf) <;> rfl) ?_; refine rk_tmp (by (conv => lhs; whnf) <;> rfl) ?_; refine rk_nil ?_
    exact ⟨rfl, hS⟩
  · replace he : ¬ knownE R n false ≠ 0 := fun h => h he
    rw [if_neg he, Classical.not_not.1 he]
    have hz := Classical.not_not.1 he
    obtain ⟨i, hi⟩ : ∃ i, ofIx R.pls n = some i := by
      cases ho : ofIx R.pls n with
      | some i => exact ⟨i, rfl⟩
      | none =>
        unfold knownE ofV at hz
        rw [ho, if_pos (by decide)] at hz
        cases hz
    obtain ⟨p, hp, _⟩ := ofIx_some hi
    have hil := (List.getElem?_eq_some_iff.1 hp).1
    rw [hi, Option.getD_some, List.getD_eq_getElem?_getD, hp, Option.getD_some]
    have hl := hR.l
    have hov : ofV R.pls n = i := by unfold ofV; rw [hi]
    obtain ⟨pv, rv, bv, hO⟩ := openR hS
    obtain ⟨ap, lp, cp, rfl, hpl⟩ := S.shape (S.up1 hO)
    rw [plC_flen] at hpl
    obtain rfl : lp = R.pls.length := by omega
    obtain ⟨pb, po, cs, rfl, _⟩ := S.slBlk (S.up1 hO) (by omega)
    clear hS
    have hS := hO
    clear hO
    refine wp_skip ?_; refine seq_normal ?_; refine wp_seq ?_; refine wp_regionD ?_; refine zd1 ?_; refine wpD_cons ?_; refine op1_nilchk rfl rfl ?_; refine wpD_cons ?_; refine op1_faddr0 rfl rfl ?_; refine wpD_cons ?_; refine op1_load rfl rfl (by exact S.g0 hS) rfl ?_; refine zd1 ?_; refine zd1 ?_; refine wpD_cons ?_; refine op1_call2 rfl (by (conv => lhs; whnf) <;> rfl) (by (conv => lhs; whnf) <;> rfl) ?_
    have hS0 := hS
    refine wpF_mono (L57o hR.l hR.po hS) ?_
    rw [hov]
    rintro _ H2 ⟨rfl, hS⟩
    refine wpD_cons ?_; refine op1_iaddr rfl rfl rfl (by omega) (by omega) ?_; refine wpD_cons ?_; refine op1_faddr rfl rfl ?_; refine wpD_cons ?_
    refine op1_loadL (k := i * 5) rfl rfl (S.up1 hS) (by simp only [Int.toNat_natCast]; omega) (by omega) (plC_nm hp) ?_
    refine zd1 ?_; refine zd1 ?_; refine wpD_nil ?_; refine dk_of ?_ ?_; (iterate 3 refine chk_skip ?_); refine chk_cons 9 rfl rfl rfl ?_ ?_; refine chkFs_cons 6 rfl rfl ?_ ?_; exact chk_load rfl (by exact S.g0 hS0) rfl rfl; refine chkFs_cons 0 rfl rfl ?_ ?_; exact chk_load rfl (by exact S.g0 hS) rfl rfl; exact chkFs_nil; (iterate 5 refine chk_skip ?_); refine chk_cons 3 rfl rfl rfl ?_ ?_; refine chkFs_cons 0 rfl rfl ?_ ?_
    · exact chk_loadL (k := i * 5) rfl (S.up1 hS) (by simp only [Int.toNat_natCast]; omega) (by omega) (plC_nm hp) rfl
    exact chkFs_nil; (iterate 2 refine chk_skip ?_); exact chk_end; refine seq_normal ?_; refine wp_ret ?_; refine ret_of ?_; refine rk_tmp (by (conv => lhs; whnf) <;> rfl) ?_; refine rk_tmp (by (conv => lhs; whnf) <;> rfl) ?_; refine rk_nil ?_
    exact ⟨rfl, closeR hS⟩

def nmT (T : Tb) (n : Int) : ByteArray := if n ∈ T.m.dom then (poolOf T (T.m.pool n)).name else ⟨#[]⟩
theorem L25 {B H : AHeap} {As : List Asn} {t : Nat} {T : Tb} {n : Int} (hT : TbOk T) (hS : S B H (repT t T :: As)) :
    wpF C 25 [ptrV t, .int .i64 n] H fun v H' => v = .tuple ⟨[.string (nmT T n), .int .i64 (findE T.m n true)]⟩ ∧ S B H' (repT t T :: As) := by
  refine wpF_ofW o25 rfl rfl ?_
  refine zsr ?_; refine zw1 ?_; refine zw1 ?_; refine zns ?_; refine zsr ?_; refine zw1 ?_; refine zw1 ?_; refine wpO_cons ?_; refine op1_call3 rfl (by (conv => lhs; whnf) <;> rfl) (by (conv => lhs; whnf) <;> rfl) (by (conv => lhs; whnf) <;> rfl) ?_
  refine wpF_mono (L33 hS) ?_
  rintro _ _ ⟨rfl, rfl⟩
  unfold findV findE nmT
  by_cases hn : n ∈ T.m.dom
  · rw [if_pos hn, if_pos hn, if_pos hn, if_neg (by simp), if_neg (by simp)]
    have hpl := hT.pool n hn
    obtain ⟨j, hj⟩ : ∃ j : Nat, T.m.pool n = j := ⟨(T.m.pool n).toNat, by omega⟩
    obtain ⟨p, hp⟩ : ∃ p, T.pls[j]? = some p := ⟨T.pls[j]'(by omega), by simp⟩
    have hpo : poolOf T (T.m.pool n) = p := by rw [hj]; unfold poolOf; rw [Int.toNat_natCast, List.getD_eq_getElem?_getD, hp]; rfl
    rw [hpo]
    obtain ⟨pb, po, pc, m1, m2, hpc, hO⟩ := openT1 hS (by omega)
    replace hO := S.frAt (S.up4 hO) hn
    have hlen := hT.len
    clear hS
    have hS := hO
    clear hO
    rw [hj] at hS
    unfold frC tabC at hS
    unfold ptrV
    refine zw1 ?_; refine wpO_cons ?_; refine op1_extract rfl rfl rfl ?_; refine wpO_cons ?_; refine op1_extract rfl rfl rfl ?_; refine zw1 ?_; refine zw1 ?_; refine zns ?_; refine wp_seq ?_; refine zsr ?_; refine zw1 ?_; refine wpO_cons ?_; refine op1_neqI_s rfl rfl rfl ?_; refine zns ?_; refine wp_false rfl ?_; refine wp_skip ?_; refine seq_normal ?_; refine wp_seq ?_; refine wp_regionD ?_; refine zd1 ?_; refine wpD_cons ?_; refine op1_nilchk rfl rfl ?_; refine wpD_cons ?_; refine op1_faddr0 rfl rfl ?_; refine wpD_cons ?_; refine op1_load rfl rfl (by exact S.g3 hS) rfl ?_; refine zd1 ?_; refine wpD_cons ?_; refine op1_nilchk rfl rfl ?_; refine wpD_cons ?_; refine op1_faddr0 rfl rfl ?_; refine wpD_cons ?_; refine op1_load rfl rfl (by exact S.g0 hS) rfl ?_; refine wpD_cons ?_; refine op1_iaddr rfl rfl rfl (by omega) (by omega) ?_; refine wpD_cons ?_; refine op1_faddr rfl rfl ?_; refine wpD_cons ?_
    refine op1_loadL (k := j * 5) rfl rfl (S.up4 hS) (by simp only [Int.toNat_natCast]; omega) (by omega) (plC_nm hp) ?_
    refine zd1 ?_; refine zd1 ?_; refine wpD_nil ?_; refine dk_of ?_ ?_; (iterate 3 refine chk_skip ?_); refine chk_cons 10 rfl rfl rfl ?_ ?_; refine chkFs_cons 0 rfl rfl ?_ ?_; exact chk_load rfl (by exact S.g3 hS) rfl rfl; exact chkFs_nil; (iterate 3 refine chk_skip ?_); refine chk_cons 6 rfl rfl rfl ?_ ?_; refine chkFs_cons 0 rfl rfl ?_ ?_; exact chk_load rfl (by exact S.g0 hS) rfl rfl; exact chkFs_nil; (iterate 2 refine chk_skip ?_); refine chk_cons 3 rfl rfl rfl ?_ ?_; refine chkFs_cons 0 rfl rfl ?_ ?_
    · exact chk_loadL (k := j * 5) rfl (S.up4 hS) (by simp only [Int.toNat_natCast]; omega) (by omega) (plC_nm hp) rfl
    exact chkFs_nil; (iterate 2 refine chk_skip ?_); exact chk_end; refine seq_normal ?_; refine wp_ret ?_; refine ret_of ?_; refine rk_tmp (by (conv => lhs; whnf) <;> rfl) ?_; refine rk_tmp (by (conv => lhs; whnf) <;> rfl) ?_; refine rk_nil ?_
    rw [← hj] at hS
    exact ⟨rfl, frBack (pv := .slice (some ⟨pb, po, none⟩) T.pls.length pc) (m1 := m1) (m2 := m2) hn hT hS⟩
  · rw [if_neg hn, if_neg hn, if_neg hn]
    refine zw1 ?_; refine wpO_cons ?_; refine op1_extract rfl rfl rfl ?_; refine wpO_cons ?_; refine op1_extract rfl rfl rfl ?_; refine zw1 ?_; refine zw1 ?_; refine zns ?_; refine wp_seq ?_; refine zsr ?_; refine zw1 ?_; refine wpO_cons ?_; refine op1_neqI rfl rfl rfl ?_; refine zns ?_; refine wp_true rfl ?_; refine zsr ?_; refine zw1 ?_; refine zw1 ?_; refine zw1 ?_; refine zns ?_; refine wp_ret ?_; refine seq_ret ?_; refine ret_of ?_; refine rk_tmp (by (conv => lhs; whnf) <;> rfl) ?_; refine rk_tmp (by (conv => lhs; whnf) <;> rfl) ?_; refine rk_nil ?_
    exact ⟨rfl, hS⟩

/-! ### bytes of the reference -/
def RT.page (R : RT) (n : Int) : List Int := R.pgs.getD n.toNat []
structure PgOk (R : RT) : Prop where
  len : R.pgs.length = 4096
  pg : ∀ l ∈ R.pgs, l.length = 64
theorem u8s_pages_len : ∀ (l : List (List Int)), (∀ x ∈ l, x.length = 64) → (l.flatMap u8s).length = l.length * 64
  | [], _ => rfl
  | x :: l, h => by rw [List.flatMap_cons, List.length_append, u8s_length, h x (by simp), u8s_pages_len l (fun y hy => h y (by simp [hy])), List.length_cons]; omega
theorem page_cut : ∀ (l : List (List Int)) (i : Nat) (x : List Int), (∀ x ∈ l, x.length = 64) → l[i]? = some x → ((l.flatMap u8s).drop (i * 64)).take 64 = u8s x
  | [], i, x, _, h => by simp at h
  | y :: l, 0, x, hl, h => by
    simp only [List.getElem?_cons_zero, Option.some.injEq] at h
    subst h
    have := hl y (by simp)
    rw [Nat.zero_mul, List.drop_zero, List.flatMap_cons, List.take_append_of_le_length (by rw [u8s_length]; omega), List.take_of_length_le (by rw [u8s_length]; omega)]
  | y :: l, i + 1, x, hl, h => by
    have hy := hl y (by simp)
    rw [List.flatMap_cons, show (i + 1) * 64 = (u8s y).length + i * 64 by rw [u8s_length, hy]; omega, ← List.drop_drop, List.drop_left]
    exact page_cut l i x (fun z hz => hl z (by simp [hz])) (by simpa using h)
def readE (R : RT) (n off k : Int) : Int := if knownE R n true ≠ 0 then knownE R n true else if InPage off k then 0 else 14
def readR (R : RT) (n off k : Int) : List Int := if readE R n off k = 0 then ((R.page n).drop off.toNat).take k.toNat else []
theorem row_of {cs xs : List Value} {x : List Int} {bo m on kn : Nat} (h : xs = (cs.drop bo).take (4096 * 64)) (hx : (xs.drop (m * 64)).take 64 = u8s x) (hm : m < 4096) (hk : on + kn ≤ 64) : (cs.drop (bo + m * 64 + on)).take kn = u8s ((x.drop on).take kn) := by
  rw [← u8s_take, ← u8s_drop, ← hx, h]
  apply List.ext_getElem?
  intro j
  by_cases hj : j < kn
  · rw [List.getElem?_take, if_pos hj, List.getElem?_drop, List.getElem?_take, if_pos hj, List.getElem?_drop, List.getElem?_take, if_pos (by omega), List.getElem?_drop, List.getElem?_take, if_pos (by omega), List.getElem?_drop]
    congr 1
    omega
  · rw [List.getElem?_take, if_neg hj, List.getElem?_take, if_neg hj]
theorem src_row {H : AHeap} {b o k c e : Nat} {cs : List Value} {ro : Bool} {l : List Int} (hg : H.get b = .cells cs e ro) (hl : o + k ≤ cs.length) (hr : (cs.drop o).take k = u8s l) : H.src 1 (.slice (some ⟨b, o, none⟩) k c) k = some (u8s l) := by
  unfold AHeap.src
  split
  · rename_i h
    rw [h, List.take_zero] at hr
    rw [← hr]
  · simp only [AHeap.row, hg, Nat.mul_one, if_pos hl, hr]
theorem L43 {B H : AHeap} {As : List Asn} {q : Nat} {R : RT} {n off k : Int} (hR : RtOk R) (hP : PgOk R) (hb : (-9223372036854775808 ≤ off ∧ off ≤ 9223372036854775807) ∧ (-9223372036854775808 ≤ k ∧ k ≤ 9223372036854775807)) (hS : S B H (repR q R :: As)) :
    wpF C 43 [ptrV q, .int .i64 n, .int .i64 off, .int .i64 k] H fun v H' => ∃ v0, v = .tuple ⟨[v0, .int .i64 (readE R n off k)]⟩ ∧ S B H' (sl 1 v0 (u8s (readR R n off k)) :: repR q R :: As) := by
  refine wpF_ofW o43 rfl rfl ?_
  unfold ptrV
  refine zsr ?_; refine zw1 ?_; refine zw1 ?_; refine zns ?_; refine wp_seq ?_; refine zsr ?_; refine zw1 ?_; refine zw1 ?_; refine wpO_cons ?_; refine op1_call3 rfl (by (conv => lhs; whnf) <;> rfl) (by (conv => lhs; whnf) <;> rfl) (by (conv => lhs; whnf) <;> rfl) ?_
  refine wpF_mono (L56 hR hS) ?_
  rintro _ H1 ⟨rfl, hS⟩
  refine zw1 ?_; refine zns ?_; refine zsr ?_; refine zw1 ?_; refine wpO_cons ?_; refine op1_neqI rfl rfl rfl ?_; refine zns ?_
  refine wp_ndec rfl (fun he => ?_) (fun he => ?_)
  · have e : readE R n off k = knownE R n true := by unfold readE; rw [if_pos he]
    unfold readR
    rw [e, if_neg he]
    refine zsr ?_; refine zw1 ?_; refine zw1 ?_; refine zw1 ?_; refine zns ?_; refine wp_ret ?_; refine seq_ret ?_; refine ret_of ?_; refine rk_tmp (by (conv => lhs; whnf) <;> rfl) ?_; refine rk_tmp (by (conv => lhs; whnf) <;> rfl) ?_; refine rk_nil ?_
    exact ⟨_, rfl, hS.slNil⟩
  refine wp_skip ?_; refine seq_normal ?_; refine wp_seq ?_
  refine wp_cut [36] (fun vs H' => vs = [.bool (decide (¬ InPage off k))] ∧ H1 = H') ?_ ?_
  · refine wp_region ?_; refine zw1 ?_; refine wpO_cons ?_; refine op1_lss rfl rfl rfl ?_; refine zw1 ?_; refine wpO_cons ?_
    refine op1_dec rfl (fun g1 => ?_) (fun g1 => ?_)
    · refine op1_skip rfl ?_; refine wpO_cons ?_; refine op1_skip rfl ?_; refine wpO_cons ?_; refine op1_pick_t rfl rfl (by (conv => lhs; whnf) <;> rfl) ?_; refine zw1 ?_; refine wpO_cons ?_; refine op1_skip rfl ?_; refine wpO_cons ?_; refine op1_skip rfl ?_; refine wpO_cons ?_; refine op1_pick_t rfl rfl (by (conv => lhs; whnf) <;> rfl) ?_; refine zw1 ?_; refine wpO_cons ?_; refine op1_skip rfl ?_; refine wpO_cons ?_; refine op1_skip rfl ?_; refine wpO_cons ?_; refine op1_pick_t rfl rfl (by (conv => lhs; whnf) <;> rfl) ?_; refine zw1 ?_; refine wpO_cons ?_; refine op1_skip rfl ?_; refine wpO_cons ?_; refine op1_skip rfl ?_; refine wpO_cons ?_; refine op1_skip rfl ?_; refine wpO_cons ?_; refine op1_skip rfl ?_; refine wpO_cons ?_; refine op1_pick_t rfl rfl (by (conv => lhs; whnf) <;> rfl) ?_; refine wpO_nil ?_; refine cut1 (by (conv => lhs; whnf) <;> rfl) ?_
      exact ⟨bool_leaf (by unfold InPage; simp; omega), rfl⟩
    refine op1_mov rfl (by (conv => lhs; whnf) <;> rfl) ?_; refine wpO_cons ?_; refine op1_lss rfl rfl rfl ?_; refine wpO_cons ?_; refine op1_pick_f rfl rfl (by (conv => lhs; whnf) <;> rfl) ?_; refine zw1 ?_; refine wpO_cons ?_
    refine op1_dec rfl (fun g2 => ?_) (fun g2 => ?_)
    · refine op1_skip rfl ?_; refine wpO_cons ?_; refine op1_skip rfl ?_; refine wpO_cons ?_; refine op1_pick_t rfl rfl (by (conv => lhs; whnf) <;> rfl) ?_; refine zw1 ?_; refine wpO_cons ?_; refine op1_skip rfl ?_; refine wpO_cons ?_; refine op1_skip rfl ?_; refine wpO_cons ?_; refine op1_pick_t rfl rfl (by (conv => lhs; whnf) <;> rfl) ?_; refine zw1 ?_; refine wpO_cons ?_; refine op1_skip rfl ?_; refine wpO_cons ?_; refine op1_skip rfl ?_; refine wpO_cons ?_; refine op1_skip rfl ?_; refine wpO_cons ?_; refine op1_skip rfl ?_; refine wpO_cons ?_; refine op1_pick_t rfl rfl (by (conv => lhs; whnf) <;> rfl) ?_; refine wpO_nil ?_; refine cut1 (by (conv => lhs; whnf) <;> rfl) ?_
      exact ⟨bool_leaf (by unfold InPage; simp; omega), rfl⟩
    refine op1_mov rfl (by (conv => lhs; whnf) <;> rfl) ?_; refine wpO_cons ?_; refine op1_gtr rfl rfl rfl ?_; refine wpO_cons ?_; refine op1_pick_f rfl rfl (by (conv => lhs; whnf) <;> rfl) ?_; refine zw1 ?_; refine wpO_cons ?_
    refine op1_dec rfl (fun g3 => ?_) (fun g3 => ?_)
    · refine op1_skip rfl ?_; refine wpO_cons ?_; refine op1_skip rfl ?_; refine wpO_cons ?_; refine op1_pick_t rfl rfl (by (conv => lhs; whnf) <;> rfl) ?_; refine zw1 ?_; refine wpO_cons ?_; refine op1_skip rfl ?_; refine wpO_cons ?_; refine op1_skip rfl ?_; refine wpO_cons ?_; refine op1_skip rfl ?_; refine wpO_cons ?_; refine op1_skip rfl ?_; refine wpO_cons ?_; refine op1_pick_t rfl rfl (by (conv => lhs; whnf) <;> rfl) ?_; refine wpO_nil ?_; refine cut1 (by (conv => lhs; whnf) <;> rfl) ?_
      exact ⟨bool_leaf (by unfold InPage; simp; omega), rfl⟩
    refine op1_mov rfl (by (conv => lhs; whnf) <;> rfl) ?_; refine wpO_cons ?_; refine op1_gtr rfl rfl rfl ?_; refine wpO_cons ?_; refine op1_pick_f rfl rfl (by (conv => lhs; whnf) <;> rfl) ?_; refine zw1 ?_; refine wpO_cons ?_
    refine op1_dec rfl (fun g4 => ?_) (fun g4 => ?_)
    · refine op1_skip rfl ?_; refine wpO_cons ?_; refine op1_skip rfl ?_; refine wpO_cons ?_; refine op1_skip rfl ?_; refine wpO_cons ?_; refine op1_skip rfl ?_; refine wpO_cons ?_; refine op1_pick_t rfl rfl (by (conv => lhs; whnf) <;> rfl) ?_; refine wpO_nil ?_; refine cut1 (by (conv => lhs; whnf) <;> rfl) ?_
      exact ⟨bool_leaf (by unfold InPage; simp; omega), rfl⟩
    refine op1_mov rfl (by (conv => lhs; whnf) <;> rfl) ?_; refine zw1 ?_; refine wpO_cons ?_; refine op1_add rfl rfl rfl (by exact wrap_i64 (by omega) (by omega)) ?_; refine wpO_cons ?_; refine op1_gtr rfl rfl rfl ?_; refine wpO_cons ?_; refine op1_pick_f rfl rfl (by (conv => lhs; whnf) <;> rfl) ?_; refine wpO_nil ?_; refine cut1 (by (conv => lhs; whnf) <;> rfl) ?_
    exact ⟨bool_leaf (by unfold InPage; simp; omega), rfl⟩
  rintro vs2 T2 H2 ⟨rfl, rfl⟩
  refine wp_dec rfl (fun hp => ?_) (fun hp => ?_)
  · have e : readE R n off k = 14 := by unfold readE; rw [if_neg (fun h => h he), if_neg hp]
    unfold readR
    rw [e, if_neg (by decide)]
    refine zsr ?_; refine zw1 ?_; refine zw1 ?_; refine zns ?_; refine wp_ret ?_; refine seq_ret ?_; refine ret_of ?_; refine rk_tmp (by (conv => lhs; whnf) <;> rfl) ?_; refine rk_tmp (by (conv => lhs; whnf) <;> rfl) ?_; refine rk_nil ?_
    exact ⟨_, rfl, hS.slNil⟩
  replace hp := Classical.not_not.1 hp
  have e : readE R n off k = 0 := by unfold readE; rw [if_neg (fun h => h he), if_pos hp]
  unfold readR
  rw [e, if_pos rfl]
  have hn := known_lt hR he
  unfold InPage at hp
  obtain ⟨m, rfl⟩ : ∃ m : Nat, n = m := ⟨n.toNat, by omega⟩
  obtain ⟨kn, rfl⟩ : ∃ kn : Nat, k = kn := ⟨k.toNat, by omega⟩
  obtain ⟨on, rfl⟩ : ∃ on : Nat, off = on := ⟨off.toNat, by omega⟩
  obtain ⟨x, hx⟩ : ∃ x, R.pgs[m]? = some x := ⟨R.pgs[m]'(by rw [hP.len]; omega), by simp⟩
  have hx64 := hP.pg x (List.mem_of_getElem? hx)
  have hpg : R.page m = x := by unfold RT.page; rw [List.getD_eq_getElem?_getD, Int.toNat_natCast, hx]; rfl
  rw [hpg]
  obtain ⟨pv, rv, bv, hO⟩ := openR hS
  clear hS
  have hS := hO
  clear hO
  obtain ⟨ab, lb, cb, rfl, hbl⟩ := S.shape (S.up3 hS)
  rw [u8s_pages_len _ hP.pg, hP.len] at hbl
  obtain rfl : lb = 4096 := by omega
  obtain ⟨bb, bo, bcs, rfl, _⟩ := S.slBlk (S.up3 hS) (by omega)
  refine wp_skip ?_; refine seq_normal ?_; refine zsr ?_; refine wpO_cons ?_; refine op1_bsliceS rfl hS ?_; refine bk_nil ?_; intro p1 H2 hS; refine zw1 ?_; refine wpO_cons ?_; refine op1_nilchk rfl rfl ?_; refine wpO_cons ?_; refine op1_faddr0 rfl rfl ?_; refine wpO_cons ?_; refine op1_load rfl rfl (by exact S.g1 hS) rfl ?_; refine zw1 ?_; refine wpO_cons ?_; refine op1_iaddr rfl rfl rfl (by omega) (by omega) ?_; refine zw1 ?_; refine zw1 ?_; refine zw1 ?_; refine wpO_cons ?_; refine op1_add rfl rfl rfl (by exact wrap_i64 (by omega) (by omega)) ?_; refine wpO_cons ?_
  obtain ⟨b2, o2, cs2, h2, hb2, hb3, hxs, hB⟩ := S.slBlk (S.up4 hS) (by omega)
  cases h2
  have hlen2 := u8s_pages_len _ hP.pg
  rw [hxs, hP.len, List.length_take, List.length_drop] at hlen2
  have hrow := row_of hxs (page_cut _ _ _ hP.pg hx) (by omega) (show on + kn ≤ 64 by omega)
  refine op1_sliceArr rfl rfl (bnds_both (by omega) (by omega) (by omega)) hB.get ?_
  rw [show ((on : Int) + kn).toNat - (on : Int).toNat = kn by omega, show bo + (m : Int).toNat * 64 + (on : Int).toNat * 1 = bo + m * 64 + on by omega]
  refine wpO_cons ?_
  have hsrc := src_row (c := 64 - on) hB.get (by omega) hrow
  replace hS := S.slNew (l := 0) (es := 1) hS rfl
  refine op1_appS (ys := u8s ((x.drop on).take kn)) rfl rfl rfl rfl hS rfl ?_ (by rw [u8s_length, List.length_take, List.length_drop]; omega) (u8s_one _) (by omega) ?_
  · exact hsrc
  rw [List.nil_append, Nat.zero_add]
  intro a1 c1 H5 hS
  refine zw1 ?_; refine zw1 ?_; refine zns ?_; refine wp_ret ?_; refine ret_of ?_; refine rk_tmp (by (conv => lhs; whnf) <;> rfl) ?_; refine rk_tmp (by (conv => lhs; whnf) <;> rfl) ?_; refine rk_nil ?_
  exact ⟨_, rfl, S.up1 (closeR (pv := pv) (rv := rv) (S.dn4 hS))⟩
end Go.E.Fa
/- Write and Copy of the reference. -/
namespace Go.E.Fa
open Go Go.E Go.Proofs.Ytlkgacbholklkaa Go.Proofs
set_option linter.unusedVariables false
set_option linter.unusedSimpArgs false
set_option maxRecDepth 100000
theorem pages_set : ∀ (l : List (List Int)) (m j : Nat) (x : List Int) (v : Int), (∀ x ∈ l, x.length = 64) → l[m]? = some x → j < 64 →
    (l.flatMap u8s).set (m * 64 + j) (.int .u8 v) = (l.set m (x.set j v)).flatMap u8s
  | [], m, j, x, v, _, h, _ => by simp at h
  | y :: l, 0, j, x, v, hl, h, hj => by
    simp only [List.getElem?_cons_zero, Option.some.injEq] at h
    subst h
    have hy := hl y (by simp)
    rw [Nat.zero_mul, Nat.zero_add, List.flatMap_cons, List.set_cons_zero, List.flatMap_cons, List.set_append_left _ _ (by rw [u8s_length]; omega)]
    congr 1
    unfold u8s
    rw [List.map_set]
  | y :: l, m + 1, j, x, v, hl, h, hj => by
    have hy := hl y (by simp)
    have ih := pages_set l m j x v (fun z hz => hl z (by simp [hz])) (by simpa using h) hj
    rw [List.flatMap_cons, List.set_cons_succ, List.flatMap_cons, List.set_append_right _ _ (by rw [u8s_length]; omega), u8s_length, ← ih]
    congr 2
    omega
theorem put_get {l d : List Int} {o j : Nat} (h : o + d.length ≤ l.length) : (putAt l o d)[j]? = if j < o then l[j]? else if j < o + d.length then d[j - o]? else l[j]? := by
  unfold putAt
  have e2 : (l.take o).length = o := by rw [List.length_take]; omega
  by_cases h1 : j < o
  · rw [if_pos h1, List.append_assoc, List.getElem?_append_left (by omega), List.getElem?_take, if_pos h1]
  · rw [if_neg h1, List.append_assoc, List.getElem?_append_right (by omega), e2]
    by_cases h2 : j < o + d.length
    · rw [if_pos h2, List.getElem?_append_left (by omega)]
    · rw [if_neg h2, List.getElem?_append_right (by omega), List.getElem?_drop]
      congr 1
      omega
theorem put_step {l d : List Int} {o i : Nat} {v : Int} (h : o + d.length ≤ l.length) (hv : d[i]? = some v) : (putAt l o (d.take i)).set (o + i) v = putAt l o (d.take (i + 1)) := by
  have hi := (List.getElem?_eq_some_iff.1 hv).1
  have e1 : (d.take i).length = i := by rw [List.length_take]; omega
  have e3 : (d.take (i + 1)).length = i + 1 := by rw [List.length_take]; omega
  have e4 : (putAt l o (d.take i)).length = l.length := by
    unfold putAt
    simp only [List.length_append, List.length_take, List.length_drop]
    omega
  apply List.ext_getElem?
  intro j
  rw [put_get (by omega), List.getElem?_set, put_get (by omega), e1, e3, e4]
  by_cases h1 : o + i = j
  · subst h1
    rw [if_pos rfl, if_pos (by omega), if_neg (by omega), if_pos (by omega), Nat.add_sub_cancel_left, List.getElem?_take, if_pos (by omega), hv]
  · rw [if_neg h1]
    by_cases h2 : j < o
    · rw [if_pos h2, if_pos h2]
    · rw [if_neg h2, if_neg h2]
      by_cases h3 : j < o + i
      · rw [if_pos h3, if_pos (by omega), List.getElem?_take, List.getElem?_take, if_pos (by omega), if_pos (by omega)]
      · rw [if_neg h3, if_neg (by omega)]
theorem set_self {α : Type} {l : List α} {m : Nat} {x : α} (h : l[m]? = some x) : l.set m x = l := by
  apply List.ext_getElem?
  intro j
  have hm := (List.getElem?_eq_some_iff.1 h).1
  rw [List.getElem?_set]
  by_cases hj : m = j
  · subst hj; rw [if_pos rfl, if_pos hm, h]
  · rw [if_neg hj]
theorem set_all {l : List (List Int)} {m : Nat} {x : List Int} (h : ∀ y ∈ l, y.length = 64) (hx : x.length = 64) : ∀ y ∈ l.set m x, y.length = 64 := by
  intro y hy
  rcases List.mem_or_eq_of_mem_set hy with h1 | h1
  · exact h y h1
  · rw [h1]; exact hx
def RT.setPage (R : RT) (n : Int) (l : List Int) : RT := { R with pgs := R.pgs.set n.toNat l }
def writeR (R : RT) (n off : Int) (d : List Int) : Int × RT := if knownE R n true ≠ 0 then (knownE R n true, R) else if InPage off d.length then (0, R.setPage n (putAt (R.page n) off.toNat d)) else (14, R)
theorem L44 {B H : AHeap} {As : List Asn} {q : Nat} {R : RT} {n off : Int} {vd : Value} {d : List Int} (hR : RtOk R) (hP : PgOk R) (hb : -9223372036854775808 ≤ off ∧ off ≤ 9223372036854775807) (hl : d.length ≤ 1000000) (hd : RD B As 1 vd (u8s d)) (hS : S B H (repR q R :: As)) :
    wpF C 44 [ptrV q, .int .i64 n, .int .i64 off, vd] H fun v H' => v = .int .i64 (writeR R n off d).1 ∧ S B H' (repR q (writeR R n off d).2 :: As) := by
  obtain ⟨ad, cd, rfl⟩ := hd.u1 (S.drop hS)
  refine wpF_ofW o44 rfl rfl ?_
  unfold ptrV
  refine zsr ?_; refine zw1 ?_; refine zns ?_; refine wp_seq ?_; refine zsr ?_; refine zw1 ?_; refine zw1 ?_; refine wpO_cons ?_; refine op1_call3 rfl (by (conv => lhs; whnf) <;> rfl) (by (conv => lhs; whnf) <;> rfl) (by (conv => lhs; whnf) <;> rfl) ?_
  refine wpF_mono (L56 hR hS) ?_
  rintro _ H1 ⟨rfl, hS⟩
  refine zw1 ?_; refine zns ?_; refine zsr ?_; refine zw1 ?_; refine wpO_cons ?_; refine op1_neqI rfl rfl rfl ?_; refine zns ?_
  refine wp_ndec rfl (fun he => ?_) (fun he => ?_)
  · have e : writeR R n off d = (knownE R n true, R) := by unfold writeR; rw [if_pos he]
    rw [e]
    refine zsr ?_; refine zw1 ?_; refine zw1 ?_; refine zns ?_; refine wp_ret ?_; refine seq_ret ?_; refine ret_of ?_; refine rk_tmp (by (conv => lhs; whnf) <;> rfl) ?_; refine rk_nil ?_
    exact ⟨rfl, hS⟩
  refine wp_skip ?_; refine seq_normal ?_; refine wp_seq ?_
  refine wp_cut [30] (fun vs H' => vs = [.bool (decide (¬ InPage off d.length))] ∧ H1 = H') ?_ ?_
  · refine wp_region ?_; refine zw1 ?_; refine wpO_cons ?_; refine op1_lss rfl rfl rfl ?_; refine zw1 ?_; refine wpO_cons ?_
    refine op1_dec rfl (fun g1 => ?_) (fun g1 => ?_)
    · refine op1_skip rfl ?_; refine wpO_cons ?_; refine op1_skip rfl ?_; refine wpO_cons ?_; refine op1_pick_t rfl rfl (by (conv => lhs; whnf) <;> rfl) ?_; refine zw1 ?_; refine wpO_cons ?_; refine op1_skip rfl ?_; refine wpO_cons ?_; refine op1_skip rfl ?_; refine wpO_cons ?_; refine op1_skip rfl ?_; refine wpO_cons ?_; refine op1_skip rfl ?_; refine wpO_cons ?_; refine op1_skip rfl ?_; refine wpO_cons ?_; refine op1_pick_t rfl rfl (by (conv => lhs; whnf) <;> rfl) ?_; refine wpO_nil ?_; refine cut1 (by (conv => lhs; whnf) <;> rfl) ?_
      exact ⟨bool_leaf (by unfold InPage; simp; omega), rfl⟩
    refine op1_mov rfl (by (conv => lhs; whnf) <;> rfl) ?_; refine wpO_cons ?_; refine op1_gtr rfl rfl rfl ?_; refine wpO_cons ?_; refine op1_pick_f rfl rfl (by (conv => lhs; whnf) <;> rfl) ?_; refine zw1 ?_; refine wpO_cons ?_
    refine op1_dec rfl (fun g2 => ?_) (fun g2 => ?_)
    · refine op1_skip rfl ?_; refine wpO_cons ?_; refine op1_skip rfl ?_; refine wpO_cons ?_; refine op1_skip rfl ?_; refine wpO_cons ?_; refine op1_skip rfl ?_; refine wpO_cons ?_; refine op1_skip rfl ?_; refine wpO_cons ?_; refine op1_pick_t rfl rfl (by (conv => lhs; whnf) <;> rfl) ?_; refine wpO_nil ?_; refine cut1 (by (conv => lhs; whnf) <;> rfl) ?_
      exact ⟨bool_leaf (by unfold InPage; simp; omega), rfl⟩
    refine op1_mov rfl (by (conv => lhs; whnf) <;> rfl) ?_; refine zw1 ?_; refine wpO_cons ?_; refine op1_len rfl rfl ?_; refine wpO_cons ?_; refine op1_add rfl rfl rfl (by exact wrap_i64 (by omega) (by omega)) ?_; refine wpO_cons ?_; refine op1_gtr rfl rfl rfl ?_; refine wpO_cons ?_; refine op1_pick_f rfl rfl (by (conv => lhs; whnf) <;> rfl) ?_; refine wpO_nil ?_; refine cut1 (by (conv => lhs; whnf) <;> rfl) ?_
    exact ⟨bool_leaf (by unfold InPage; simp; omega), rfl⟩
  rintro vs2 T2 H2 ⟨rfl, rfl⟩
  refine wp_dec rfl (fun hp => ?_) (fun hp => ?_)
  · have e : writeR R n off d = (14, R) := by unfold writeR; rw [if_neg (fun h => h he), if_neg hp]
    rw [e]
    refine zsr ?_; refine zw1 ?_; refine zns ?_; refine wp_ret ?_; refine seq_ret ?_; refine ret_of ?_; refine rk_tmp (by (conv => lhs; whnf) <;> rfl) ?_; refine rk_nil ?_
    exact ⟨rfl, hS⟩
  replace hp := Classical.not_not.1 hp
  have e : writeR R n off d = (0, R.setPage n (putAt (R.page n) off.toNat d)) := by unfold writeR; rw [if_neg (fun h => h he), if_pos hp]
  rw [e]
  clear e
  have hn := known_lt hR he
  unfold InPage at hp
  obtain ⟨m, rfl⟩ : ∃ m : Nat, n = m := ⟨n.toNat, by omega⟩
  obtain ⟨on, rfl⟩ : ∃ on : Nat, off = on := ⟨off.toNat, by omega⟩
  obtain ⟨x, hx⟩ : ∃ x, R.pgs[m]? = some x := ⟨R.pgs[m]'(by rw [hP.len]; omega), by simp⟩
  have hx64 := hP.pg x (List.mem_of_getElem? hx)
  have hpg : R.page m = x := by unfold RT.page; rw [List.getD_eq_getElem?_getD, Int.toNat_natCast, hx]; rfl
  rw [hpg]
  obtain ⟨pv, rv, bv, hO⟩ := openR hS
  clear hS
  have hS := hO
  clear hO
  obtain ⟨ab, lb, cb, rfl, hbl⟩ := S.shape (S.up3 hS)
  rw [u8s_pages_len _ hP.pg, hP.len] at hbl
  obtain rfl : lb = 4096 := by omega
  obtain ⟨bb, bo, bcs, rfl, _⟩ := S.slBlk (S.up3 hS) (by omega)
  have h0 : R.pgs.set m (putAt x on (d.take 0)) = R.pgs := by
    have : putAt x on (d.take 0) = x := by unfold putAt; simp
    rw [this]
    exact set_self hx
  refine wp_skip ?_; refine seq_normal ?_; refine wp_seq ?_; refine zsr ?_; refine zw1 ?_; refine wpO_cons ?_; refine op1_len rfl rfl ?_; refine zw1 ?_; refine zns ?_; refine wp_block ?_
  refine wp_loop [33] (fun k vs H' => ∃ i : Nat, vs = [.int .i64 i] ∧ k = d.length - i ∧ i ≤ d.length ∧ S B H' (pto q (.cells [pv, rv, .slice (some ⟨bb, bo, none⟩) 4096 cb] 0 false) :: sl 5 pv (R.pls.flatMap plC) :: sl 1 rv (i64s R.refs) :: sl 64 (.slice (some ⟨bb, bo, none⟩) 4096 cb) ((R.pgs.set m (putAt x on (d.take i))).flatMap u8s) :: As))
    ⟨_, 0, rfl, rfl, by omega, by rw [h0]; exact hS⟩ ?_
  clear hS h0
  rintro k vs T' H3 ⟨i, rfl, rfl, hi, hS⟩
  refine zsr ?_; refine wpO_cons ?_; refine op1_lss rfl rfl rfl ?_; refine zns ?_; refine wp_seq ?_
  refine wp_dec rfl (fun hlt => ?_) (fun hlt => ?_)
  · obtain ⟨y, hy⟩ : ∃ y, d[i]? = some y := ⟨d[i]'(by omega), by simp⟩
    obtain ⟨r, hr, _⟩ := (RD.cons (RD.cons (RD.cons (RD.cons hd)))) _ hS
    obtain ⟨b', off', cs', e', ro', v', h5, _, hg, hv, hxx⟩ := hr.at1 (i := i) (by omega)
    cases h5
    have : v' = .int .u8 y := by
      have h6 : (u8s d)[i]? = some (.int .u8 y) := by unfold u8s; rw [List.getElem?_map, hy]; rfl
      rw [hxx] at h6
      exact Option.some.inj h6
    subst this
    refine wp_skip ?_; refine seq_normal ?_; refine wp_seq ?_; refine wp_block ?_; refine zsr ?_; refine zw1 ?_; refine wpO_cons ?_; refine op1_iaddr rfl rfl rfl (by omega) (by omega) ?_; refine wpO_cons ?_
    refine op1_load rfl rfl hg hv ?_
    refine zw1 ?_; refine zw1 ?_; refine zns ?_; refine wp_region ?_; refine zw1 ?_; refine wpO_cons ?_; refine op1_nilchk rfl rfl ?_; refine wpO_cons ?_; refine op1_faddr0 rfl rfl ?_; refine wpO_cons ?_; refine op1_load rfl rfl (by exact S.g0 hS) rfl ?_; refine zw1 ?_; refine zw1 ?_; refine zw1 ?_; refine wpO_cons ?_; refine op1_add rfl rfl rfl (by exact wrap_i64 (by omega) (by omega)) ?_; refine zw1 ?_; refine wpO_cons ?_; refine op1_iaddr rfl rfl rfl (by omega) (by omega) ?_; refine wpO_cons ?_; refine op1_iaddrArr rfl rfl rfl (by omega) (by omega) ?_; refine wpO_cons ?_
    rw [show bo + (m : Int).toNat * 64 + ((on : Int) + i).toNat * 1 = bo + (m * 64 + (on + i)) by omega]
    refine op1_store1L (k := m * 64 + (on + i)) (v := .int .u8 y) rfl rfl rfl rfl rfl (S.up3 hS) (by omega) ?_
    intro H4 hS
    replace hS := S.dn3 hS
    have hpl : (putAt x on (d.take i)).length = 64 := by
      unfold putAt
      simp only [List.length_append, List.length_take, List.length_drop]
      omega
    rw [pages_set _ m (on + i) (putAt x on (d.take i)) y (set_all hP.pg hpl) (by rw [List.getElem?_set, if_pos rfl, if_pos (by rw [hP.len]; omega)]) (by omega), List.set_set, put_step (by omega) hy] at hS
    refine wpO_nil ?_; refine block_normal ?_; refine seq_normal ?_; refine wp_region ?_; refine wpO_cons ?_; refine op1_add rfl rfl rfl (by exact wrap_i64 (by omega) (by omega)) ?_; refine zw1 ?_; refine wpO_nil ?_
    exact ⟨d.length - (i + 1), by omega, i + 1, rfl, rfl, by omega, hS⟩
  · obtain rfl : i = d.length := by omega
    rw [List.take_length] at hS
    refine wp_exit ?_; refine seq_exit ?_; refine iter_exit ?_; refine block_exit ?_; refine seq_normal ?_; refine zsr ?_; refine zw1 ?_; refine zns ?_; refine wp_ret ?_; refine ret_of ?_; refine rk_tmp (by (conv => lhs; whnf) <;> rfl) ?_; refine rk_nil ?_
    exact ⟨rfl, closeR (R := R.setPage m (putAt x on d)) (pv := pv) (rv := rv) (bv := .slice (some ⟨bb, bo, none⟩) 4096 cb) hS⟩
end Go.E.Fa
/- Copy of both tables. -/
namespace Go.E.Fa
open Go Go.E Go.Proofs.Ytlkgacbholklkaa Go.Proofs
set_option linter.unusedVariables false
set_option linter.unusedSimpArgs false
set_option maxRecDepth 100000
def putL {α : Type} (l : List α) (o : Nat) (d : List α) : List α := l.take o ++ d ++ l.drop (o + d.length)
theorem putL_get {α : Type} {l d : List α} {o j : Nat} (h : o + d.length ≤ l.length) : (putL l o d)[j]? = if j < o then l[j]? else if j < o + d.length then d[j - o]? else l[j]? := by
  unfold putL
  have e2 : (l.take o).length = o := by rw [List.length_take]; omega
  by_cases h1 : j < o
  · rw [if_pos h1, List.append_assoc, List.getElem?_append_left (by omega), List.getElem?_take, if_pos h1]
  · rw [if_neg h1, List.append_assoc, List.getElem?_append_right (by omega), e2]
    by_cases h2 : j < o + d.length
    · rw [if_pos h2, List.getElem?_append_left (by omega)]
    · rw [if_neg h2, List.getElem?_append_right (by omega), List.getElem?_drop]
      congr 1
      omega
theorem putL_part {α : Type} {cs ys : List α} {bo k N : Nat} (h : k + ys.length ≤ N) (hN : bo + N ≤ cs.length) : ((putL cs (bo + k) ys).drop bo).take N = putL ((cs.drop bo).take N) k ys := by
  apply List.ext_getElem?
  intro j
  rw [putL_get (by rw [List.length_take, List.length_drop]; omega)]
  by_cases hj : j < N
  · rw [List.getElem?_take, if_pos hj, List.getElem?_drop, putL_get (by omega), List.getElem?_take, if_pos hj, List.getElem?_drop]
    by_cases h1 : j < k
    · rw [if_pos h1, if_pos (by omega)]
    · rw [if_neg h1, if_neg (by omega)]
      by_cases h2 : j < k + ys.length
      · rw [if_pos h2, if_pos (by omega)]; congr 1; omega
      · rw [if_neg h2, if_neg (by omega)]
  · rw [List.getElem?_take, if_neg hj, if_neg (by omega), if_neg (by omega), List.getElem?_take, if_neg hj]
theorem pages_put : ∀ (l : List (List Int)) (m : Nat) (y : List Int), (∀ x ∈ l, x.length = 64) → y.length = 64 → m < l.length → putL (l.flatMap u8s) (m * 64) (u8s y) = (l.set m y).flatMap u8s
  | [], m, y, _, _, h => by simp at h
  | x :: l, 0, y, hl, hy, _ => by
    have hx := hl x (by simp)
    unfold putL
    rw [Nat.zero_mul, List.take_zero, List.nil_append, Nat.zero_add, List.set_cons_zero, List.flatMap_cons, List.flatMap_cons, u8s_length, hy]
    congr 1
    have : (u8s x).length = 64 := by rw [u8s_length]; exact hx
    rw [← this, List.drop_left]
  | x :: l, m + 1, y, hl, hy, h => by
    have hx := hl x (by simp)
    have ih := pages_put l m y (fun z hz => hl z (by simp [hz])) hy (by simpa using h)
    have hxl : (u8s x).length = 64 := by rw [u8s_length]; exact hx
    rw [List.set_cons_succ, List.flatMap_cons, List.flatMap_cons, ← ih]
    unfold putL
    rw [show (m + 1) * 64 = (u8s x).length + m * 64 by rw [hxl]; omega, List.take_append, List.take_of_length_le (by omega), Nat.add_sub_cancel_left, Nat.add_assoc, List.drop_append, List.drop_eq_nil_of_le (by omega), Nat.add_sub_cancel_left, List.nil_append]
    simp only [List.append_assoc]
def copyR (R : RT) (a b : Int) : Int × RT := if knownE R a true ≠ 0 then (knownE R a true, R) else if knownE R b true ≠ 0 then (knownE R b true, R) else (0, R.setPage b (R.page a))
theorem L45 {B H : AHeap} {As : List Asn} {q : Nat} {R : RT} {a b : Int} (hR : RtOk R) (hP : PgOk R) (hS : S B H (repR q R :: As)) :
    wpF C 45 [ptrV q, .int .i64 a, .int .i64 b] H fun v H' => v = .int .i64 (copyR R a b).1 ∧ S B H' (repR q (copyR R a b).2 :: As) := by
  refine wpF_ofW o45 rfl rfl ?_
  unfold ptrV
  refine zsr ?_; refine zw1 ?_; refine zns ?_; refine wp_seq ?_; refine zsr ?_; refine zw1 ?_; refine zw1 ?_; refine wpO_cons ?_; refine op1_call3 rfl (by (conv => lhs; whnf) <;> rfl) (by (conv => lhs; whnf) <;> rfl) (by (conv => lhs; whnf) <;> rfl) ?_
  refine wpF_mono (L56 hR hS) ?_
  rintro _ H1 ⟨rfl, hS⟩
  refine zw1 ?_; refine zns ?_; refine zsr ?_; refine zw1 ?_; refine wpO_cons ?_; refine op1_neqI rfl rfl rfl ?_; refine zns ?_
  refine wp_ndec rfl (fun he => ?_) (fun he => ?_)
  · have e : copyR R a b = (knownE R a true, R) := by unfold copyR; rw [if_pos he]
    rw [e]
    refine zsr ?_; refine zw1 ?_; refine zw1 ?_; refine zns ?_; refine wp_ret ?_; refine seq_ret ?_; refine ret_of ?_; refine rk_tmp (by (conv => lhs; whnf) <;> rfl) ?_; refine rk_nil ?_
    exact ⟨rfl, hS⟩
  refine wp_skip ?_; refine seq_normal ?_; refine wp_seq ?_; refine zsr ?_; refine zw1 ?_; refine zw1 ?_; refine wpO_cons ?_; refine op1_call3 rfl (by (conv => lhs; whnf) <;> rfl) (by (conv => lhs; whnf) <;> rfl) (by (conv => lhs; whnf) <;> rfl) ?_
  refine wpF_mono (L56 hR hS) ?_
  rintro _ H2 ⟨rfl, hS⟩
  refine zw1 ?_; refine zns ?_; refine zsr ?_; refine zw1 ?_; refine wpO_cons ?_; refine op1_neqI rfl rfl rfl ?_; refine zns ?_
  refine wp_ndec rfl (fun he2 => ?_) (fun he2 => ?_)
  · have e : copyR R a b = (knownE R b true, R) := by unfold copyR; rw [if_neg (fun h => h he), if_pos he2]
    rw [e]
    refine zsr ?_; refine zw1 ?_; refine zw1 ?_; refine zns ?_; refine wp_ret ?_; refine seq_ret ?_; refine ret_of ?_; refine rk_tmp (by (conv => lhs; whnf) <;> rfl) ?_; refine rk_nil ?_
    exact ⟨rfl, hS⟩
  have e : copyR R a b = (0, R.setPage b (R.page a)) := by unfold copyR; rw [if_neg (fun h => h he), if_neg (fun h => h he2)]
  rw [e]
  clear e
  have hna := known_lt hR he
  have hnb := known_lt hR he2
  obtain ⟨m, rfl⟩ : ∃ m : Nat, a = m := ⟨a.toNat, by omega⟩
  obtain ⟨m2, rfl⟩ : ∃ m : Nat, b = m := ⟨b.toNat, by omega⟩
  obtain ⟨x, hx⟩ : ∃ x, R.pgs[m]? = some x := ⟨R.pgs[m]'(by rw [hP.len]; omega), by simp⟩
  have hx64 := hP.pg x (List.mem_of_getElem? hx)
  have hpg : R.page m = x := by unfold RT.page; rw [List.getD_eq_getElem?_getD, Int.toNat_natCast, hx]; rfl
  rw [hpg]
  obtain ⟨pv, rv, bv, hO⟩ := openR hS
  clear hS
  have hS := hO
  clear hO
  obtain ⟨ab, lb, cb, rfl, hbl⟩ := S.shape (S.up3 hS)
  rw [u8s_pages_len _ hP.pg, hP.len] at hbl
  obtain rfl : lb = 4096 := by omega
  have hlen2 := u8s_pages_len _ hP.pg
  obtain ⟨bb, bo, bcs, rfl, hb1, hb2, hxs, hB⟩ := S.slBlk (S.up3 hS) (by omega)
  rw [hxs, hP.len, List.length_take, List.length_drop] at hlen2
  have hrow := row_of (on := 0) (kn := 64) hxs (page_cut _ _ _ hP.pg hx) (by omega) (by omega)
  have e64 : (x.drop 0).take 64 = x := by rw [List.drop_zero, List.take_of_length_le (by omega)]
  rw [Nat.add_zero, e64] at hrow
  clear hS
  have hS := S.dn3 hB
  clear hB
  refine wp_skip ?_; refine seq_normal ?_; refine wp_seq ?_; refine wp_regionD ?_; refine zd1 ?_; refine wpD_cons ?_; refine op1_nilchk rfl rfl ?_; refine wpD_cons ?_; refine op1_faddr0 rfl rfl ?_; refine wpD_cons ?_; refine op1_load rfl rfl (by exact S.g0 hS) rfl ?_; refine zd1 ?_; refine zd1 ?_; refine wpD_cons ?_; refine op1_nilchk rfl rfl ?_; refine wpD_cons ?_; refine op1_faddr0 rfl rfl ?_; refine wpD_cons ?_; refine op1_load rfl rfl (by exact S.g0 hS) rfl ?_; refine zd1 ?_; refine wpD_cons ?_; refine op1_iaddr rfl rfl rfl (by omega) (by omega) ?_; refine wpD_cons ?_
  have hS2 := hS
  refine op1_loadN rfl rfl (S.up3 hS).get (by simp only [Int.toNat_natCast]; omega) hrow ?_
  refine wpD_cons ?_; refine op1_iaddr rfl rfl rfl (by omega) (by omega) ?_; refine wpD_cons ?_
  refine op1_storeNS (xs := u8s x) rfl rfl rfl (by rw [u8s_length]; omega) (u8s_one _) (S.up3 hS) (by simp only [Int.toNat_natCast]; omega) ?_
  intro H3 hS
  replace hS := S.dn3 hS
  refine wpD_nil ?_; refine dk_of ?_ ?_; (iterate 3 refine chk_skip ?_); refine chk_cons 11 rfl rfl rfl ?_ ?_; refine chkFs_cons 1 rfl rfl ?_ ?_; exact chk_load rfl (by exact S.g0 hS2) rfl rfl; exact chkFs_nil; (iterate 4 refine chk_skip ?_); refine chk_cons 6 rfl rfl rfl ?_ ?_; refine chkFs_cons 1 rfl rfl ?_ ?_; exact chk_load rfl (by exact S.g0 hS2) rfl rfl; exact chkFs_nil; (iterate 2 refine chk_skip ?_); refine chk_cons 3 rfl rfl rfl ?_ ?_; refine chkFs_cons 1 rfl rfl ?_ ?_
  · exact chk_loadN rfl (S.up3 hS2).get (Nat.ble_eq_true_of_le (by simp only [Int.toNat_natCast]; omega)) rfl hrow
  exact chkFs_nil; (iterate 2 refine chk_skip ?_); exact chk_end; refine seq_normal ?_; refine zsr ?_; refine zw1 ?_; refine zns ?_; refine wp_ret ?_; refine ret_of ?_; refine rk_tmp (by (conv => lhs; whnf) <;> rfl) ?_; refine rk_nil ?_
  refine ⟨rfl, closeR (R := R.setPage m2 x) (pv := pv) (rv := rv) (bv := .slice (some ⟨bb, bo, none⟩) 4096 cb) (S.dn3 ?_)⟩
  have h9 := S.slOf (es := 64) (off := bo) (l := 4096) (c := cb) (S.up3 hS) (by simp only [List.length_append, List.length_take, List.length_drop, u8s_length, Int.toNat_natCast]; omega) (by omega)
  have e9 : List.take (bo + (m2 : Int).toNat * 64) bcs ++ u8s x ++ List.drop (bo + (m2 : Int).toNat * 64 + 64) bcs = putL bcs (bo + m2 * 64) (u8s x) := by
    unfold putL
    rw [u8s_length, hx64]
    rfl
  rw [e9, putL_part (by rw [u8s_length]; omega) (by omega), ← hxs, pages_put _ _ _ hP.pg hx64 (by rw [hP.len]; omega)] at h9
  exact h9

theorem L27 {B H : AHeap} {As : List Asn} {t : Nat} {T : Tb} {a b : Int} (hT : TbOk T) (hS : S B H (repT t T :: As)) :
    wpF C 27 [ptrV t, .int .i64 a, .int .i64 b] H fun v H' => v = .int .i64 (if findE T.m a false ≠ 0 then findE T.m a false else findE T.m b false) ∧
      ((findE T.m a false ≠ 0 ∨ findE T.m b false ≠ 0) → S B H' (repT t T :: As)) ∧
      (findE T.m a false = 0 → findE T.m b false = 0 → ∃ p, S B H' (repT t (T.wm (T.m.setDat b (some (p, pageOf (T.m.dat a))))) :: As)) := by
  refine wpF_ofW o27 rfl rfl ?_
  refine zsr ?_; refine zw1 ?_; refine zns ?_; refine zsr ?_; refine zw1 ?_; refine zw1 ?_; refine wpO_cons ?_; refine op1_call3 rfl (by (conv => lhs; whnf) <;> rfl) (by (conv => lhs; whnf) <;> rfl) (by (conv => lhs; whnf) <;> rfl) ?_
  refine wpF_mono (L33 hS) ?_
  rintro _ _ ⟨rfl, rfl⟩
  unfold findV
  by_cases hna : a ∈ T.m.dom ∧ T.m.refs a ≠ 0
  · have ea : findE T.m a false = 0 := by unfold findE; rw [if_pos hna.1, if_neg (fun h => hna.2 h.1)]
    rw [if_pos hna.1, if_neg (fun h => hna.2 h.1), ea]
    unfold ptrV
    refine zw1 ?_; refine wpO_cons ?_; refine op1_extract rfl rfl rfl ?_; refine wpO_cons ?_; refine op1_extract rfl rfl rfl ?_; refine zw1 ?_; refine zw1 ?_; refine zns ?_; refine wp_seq ?_; refine zsr ?_; refine zw1 ?_; refine wpO_cons ?_; refine op1_neqI_s rfl rfl rfl ?_; refine zns ?_; refine wp_false rfl ?_; refine wp_skip ?_; refine seq_normal ?_; refine zsr ?_; refine zw1 ?_; refine zw1 ?_; refine wpO_cons ?_; refine op1_call3 rfl (by (conv => lhs; whnf) <;> rfl) (by (conv => lhs; whnf) <;> rfl) (by (conv => lhs; whnf) <;> rfl) ?_
    refine wpF_mono (L33 hS) ?_
    rintro _ _ ⟨rfl, rfl⟩
    unfold findV
    by_cases hnb : b ∈ T.m.dom ∧ T.m.refs b ≠ 0
    · have eb : findE T.m b false = 0 := by unfold findE; rw [if_pos hnb.1, if_neg (fun h => hnb.2 h.1)]
      rw [if_pos hnb.1, if_neg (fun h => hnb.2 h.1), eb]
      unfold ptrV
      refine zw1 ?_; refine wpO_cons ?_; refine op1_extract rfl rfl rfl ?_; refine wpO_cons ?_; refine op1_extract rfl rfl rfl ?_; refine zw1 ?_; refine zw1 ?_; refine zns ?_; refine wp_seq ?_; refine zsr ?_; refine zw1 ?_; refine wpO_cons ?_; refine op1_neqI_s rfl rfl rfl ?_; refine zns ?_; refine wp_false rfl ?_; refine wp_skip ?_; refine seq_normal ?_; refine zsr ?_; refine wpO_cons ?_; refine op1_allocS rfl hS ?_; intro p1 H1 hS; refine zns ?_; refine wp_seq ?_; refine zsr ?_; refine zw1 ?_; refine wpO_cons ?_; refine op1_nilchk rfl rfl ?_; refine wpO_cons ?_; refine op1_faddr0 rfl rfl ?_; refine wpO_cons ?_
      obtain ⟨pv, m1, m2, hO⟩ := openT (S.up1 hS)
      have hS8 := S.frAt (S.up4 hO) hna.1
      clear hS hO
      have hS := hS8
      clear hS8
      unfold frC at hS
      cases hda : T.m.dat a with
      | none =>
        rw [hda, datV_none, datA_none] at hS
        refine op1_load rfl rfl (by exact S.g0 hS) rfl ?_; refine wpO_cons ?_; refine op1_bin_false rfl (by (conv => lhs; whnf) <;> rfl) (by (conv => lhs; whnf) <;> rfl) rfl ?_; refine zns ?_; refine wp_false rfl ?_; refine wp_skip ?_; refine seq_normal ?_; refine zsr ?_; refine zw1 ?_; refine wpO_cons ?_; refine op1_nilchk rfl rfl ?_; refine wpO_cons ?_; refine op1_faddr0 rfl rfl ?_; refine wpO_cons ?_
        replace hS := frBack (pv := pv) (m1 := m1) (m2 := m2) (n := a) hna.1 hT (by rw [hda]; exact hS)
        obtain ⟨pv2, n1, n2, hO2⟩ := openT hS
        have hS9 := S.frAt (S.up4 hO2) hnb.1
        clear hS hO2
        have hS := hS9
        clear hS9
        unfold frC at hS
        (refine op1_store1S rfl rfl (by (conv => lhs; whnf) <;> rfl) rfl rfl (S.up0 hS) rfl ?_; intro H2 hS; replace hS := S.dn0 hS); refine zns ?_; refine zsr ?_; refine zw1 ?_; refine zns ?_; refine wp_ret ?_; refine ret_of ?_; refine rk_tmp (by (conv => lhs; whnf) <;> rfl) ?_; refine rk_nil ?_
        refine ⟨rfl, fun h => by rcases h with h | h; exact absurd rfl h; exact absurd rfl h, fun _ _ => ⟨p1, closeT (pv := pv2) (m1 := n1) (m2 := n2) (S.dn4 (S.frPut (M := T.m) (M' := T.m.setDat b (some (p1, zeros))) hnb.1 rfl hT.m.nd (fun k hk => frA_setD hk) ?_))⟩⟩
        have e9 : (T.m.setDat b (some (p1, zeros))).dat b = some (p1, zeros) := by simp [Fm.setDat]
        rw [e9, datA_some]
        replace hS := S.drop (S.up1 hS)
        exact S.dn1 (S.up6 hS)
      | some pd =>
        obtain ⟨pa, la⟩ := pd
        have hla : la.length = 64 := hT.dat _ _ hda
        rw [hda, datV_some, datA_some] at hS
        refine op1_load rfl rfl (by exact S.g0 hS) rfl ?_; refine wpO_cons ?_; refine op1_bin_true rfl (by (conv => lhs; whnf) <;> rfl) (by (conv => lhs; whnf) <;> rfl) rfl ?_; refine zns ?_; refine wp_true rfl ?_; refine wp_region ?_; refine zw1 ?_; refine wpO_cons ?_; refine op1_nilchk rfl rfl ?_; refine wpO_cons ?_; refine op1_faddr0 rfl rfl ?_; refine wpO_cons ?_; refine op1_load rfl rfl (by exact S.g0 hS) rfl ?_; refine wpO_cons ?_; refine op1_nilchk rfl rfl ?_; refine wpO_cons ?_
        refine op1_loadN rfl rfl (S.g1 hS) (by rw [u8s_length, hla]; decide) (show _ = u8s la by rw [List.drop_zero, List.take_of_length_le (by rw [u8s_length]; omega)]) ?_
        refine wpO_cons ?_
        refine op1_storeNS (cs := u8s zeros) (xs := u8s la) rfl rfl rfl (by rw [u8s_length]; exact hla) (u8s_one _) (S.up7 hS) (by rw [u8s_length]; decide) ?_
        intro H2 hS
        have ez : (u8s zeros).take 0 ++ u8s la ++ (u8s zeros).drop (0 + 64) = u8s la := by rw [List.take_zero, List.nil_append, List.drop_eq_nil_of_le (by rw [u8s_length]; decide), List.append_nil]
        rw [ez] at hS
        replace hS := frBack (pv := pv) (m1 := m1) (m2 := m2) (n := a) hna.1 hT (by rw [hda]; exact S.dn7 hS)
        obtain ⟨pv2, n1, n2, hO2⟩ := openT hS
        have hS9 := S.frAt (S.up4 hO2) hnb.1
        clear hS hO2
        have hS := hS9
        clear hS9
        unfold frC at hS
        refine zns ?_; refine zsr ?_; refine zw1 ?_; refine wpO_cons ?_; refine op1_nilchk rfl rfl ?_; refine wpO_cons ?_; refine op1_faddr0 rfl rfl ?_; refine wpO_cons ?_; (refine op1_store1S rfl rfl (by (conv => lhs; whnf) <;> rfl) rfl rfl (S.up0 hS) rfl ?_; intro H3 hS; replace hS := S.dn0 hS); refine zns ?_; refine zsr ?_; refine zw1 ?_; refine zns ?_; refine wp_ret ?_; refine ret_of ?_; refine rk_tmp (by (conv => lhs; whnf) <;> rfl) ?_; refine rk_nil ?_
        refine ⟨rfl, fun h => by rcases h with h | h; exact absurd rfl h; exact absurd rfl h, fun _ _ => ⟨p1, closeT (pv := pv2) (m1 := n1) (m2 := n2) (S.dn4 (S.frPut (M := T.m) (M' := T.m.setDat b (some (p1, la))) hnb.1 rfl hT.m.nd (fun k hk => frA_setD hk) ?_))⟩⟩
        have e9 : (T.m.setDat b (some (p1, la))).dat b = some (p1, la) := by simp [Fm.setDat]
        rw [e9, datA_some]
        replace hS := S.drop (S.up1 hS)
        exact S.dn1 (S.up6 hS)
    · have eb : findE T.m b false ≠ 0 := by
        unfold findE
        by_cases h : b ∈ T.m.dom
        · rw [if_pos h, if_pos ⟨Classical.not_not.1 fun h2 => hnb ⟨h, h2⟩, rfl⟩]; decide
        · rw [if_neg h]; decide
      by_cases h : b ∈ T.m.dom
      · have h2 : T.m.refs b = 0 := Classical.not_not.1 fun h2 => hnb ⟨h, h2⟩
        have e35 : findE T.m b false = 35 := by unfold findE; rw [if_pos h, if_pos ⟨h2, rfl⟩]
        rw [if_pos h, if_pos ⟨h2, rfl⟩, e35]
        refine zw1 ?_; refine wpO_cons ?_; refine op1_extract rfl rfl rfl ?_; refine wpO_cons ?_; refine op1_extract rfl rfl rfl ?_; refine zw1 ?_; refine zw1 ?_; refine zns ?_; refine wp_seq ?_; refine zsr ?_; refine zw1 ?_; refine wpO_cons ?_; refine op1_neqI rfl rfl rfl ?_; refine zns ?_; refine wp_true rfl ?_; refine zsr ?_; refine zw1 ?_; refine zw1 ?_; refine zns ?_; refine wp_ret ?_; refine seq_ret ?_; refine ret_of ?_; refine rk_tmp (by (conv => lhs; whnf) <;> rfl) ?_; refine rk_nil ?_
        exact ⟨rfl, fun _ => hS, fun _ h => absurd h (by decide)⟩
      · have e34 : findE T.m b false = 34 := by unfold findE; rw [if_neg h]
        rw [if_neg h, e34]
        refine zw1 ?_; refine wpO_cons ?_; refine op1_extract rfl rfl rfl ?_; refine wpO_cons ?_; refine op1_extract rfl rfl rfl ?_; refine zw1 ?_; refine zw1 ?_; refine zns ?_; refine wp_seq ?_; refine zsr ?_; refine zw1 ?_; refine wpO_cons ?_; refine op1_neqI rfl rfl rfl ?_; refine zns ?_; refine wp_true rfl ?_; refine zsr ?_; refine zw1 ?_; refine zw1 ?_; refine zns ?_; refine wp_ret ?_; refine seq_ret ?_; refine ret_of ?_; refine rk_tmp (by (conv => lhs; whnf) <;> rfl) ?_; refine rk_nil ?_
        exact ⟨rfl, fun _ => hS, fun _ h => absurd h (by decide)⟩
  · by_cases h : a ∈ T.m.dom
    · have h2 : T.m.refs a = 0 := Classical.not_not.1 fun h2 => hna ⟨h, h2⟩
      have e35 : findE T.m a false = 35 := by unfold findE; rw [if_pos h, if_pos ⟨h2, rfl⟩]
      rw [if_pos h, if_pos ⟨h2, rfl⟩, e35]
      refine zw1 ?_; refine wpO_cons ?_; refine op1_extract rfl rfl rfl ?_; refine wpO_cons ?_; refine op1_extract rfl rfl rfl ?_; refine zw1 ?_; refine zw1 ?_; refine zns ?_; refine wp_seq ?_; refine zsr ?_; refine zw1 ?_; refine wpO_cons ?_; refine op1_neqI rfl rfl rfl ?_; refine zns ?_; refine wp_true rfl ?_; refine zsr ?_; refine zw1 ?_; refine zw1 ?_; refine zns ?_; refine wp_ret ?_; refine seq_ret ?_; refine ret_of ?_; refine rk_tmp (by (conv => lhs; whnf) <;> rfl) ?_; refine rk_nil ?_
      exact ⟨rfl, fun _ => hS, fun h _ => absurd h (by decide)⟩
    · have e34 : findE T.m a false = 34 := by unfold findE; rw [if_neg h]
      rw [if_neg h, e34]
      refine zw1 ?_; refine wpO_cons ?_; refine op1_extract rfl rfl rfl ?_; refine wpO_cons ?_; refine op1_extract rfl rfl rfl ?_; refine zw1 ?_; refine zw1 ?_; refine zns ?_; refine wp_seq ?_; refine zsr ?_; refine zw1 ?_; refine wpO_cons ?_; refine op1_neqI rfl rfl rfl ?_; refine zns ?_; refine wp_true rfl ?_; refine zsr ?_; refine zw1 ?_; refine zw1 ?_; refine zns ?_; refine wp_ret ?_; refine seq_ret ?_; refine ret_of ?_; refine rk_tmp (by (conv => lhs; whnf) <;> rfl) ?_; refine rk_nil ?_
      exact ⟨rfl, fun _ => hS, fun h _ => absurd h (by decide)⟩
end Go.E.Fa
