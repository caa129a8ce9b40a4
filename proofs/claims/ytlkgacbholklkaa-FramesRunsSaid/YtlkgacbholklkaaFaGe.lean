/- The reference's Alloc: asked. -/
import Derived.Test.YtlkgacbholklkaaFaGd
import Derived.Test.YtlkgacbholklkaaFaGb
import Derived.Test.YtlkgacbholklkaaFaAL
namespace Go.E.Fa
open Go Go.E Go.Proofs.Ytlkgacbholklkaa Go.Proofs
set_option linter.unusedVariables false
set_option linter.unusedSimpArgs false
set_option maxRecDepth 100000
def poolN (pls : List Pl) (s : ByteArray) : Pl := pls.getD ((nameIx pls s).getD 0) default
def askedP (pls : List Pl) (ns : List ByteArray) : List Pl := if ns.length = 0 then pls.filter (·.gen) else ns.map (poolN pls)
theorem L52 {B H : AHeap} {As : List Asn} {q : Nat} {R : RT} {a : Option Addr} {c : Nat} {ns : List ByteArray} {r : List Nat} {cnt al : Int} {cg top : Bool} (hl : R.pls.length ≤ 1000) (hns : ns.length ≤ 1000) (hok : ∀ s ∈ ns, nameIx R.pls s ≠ none)
    (hr : RdS B 1 (.slice a ns.length c) (ns.map enS) r) (hlt : ∀ b ∈ r, b < B.next) (hS : S B H (repR q R :: As)) :
    wpF C 52 [ptrV q, .agg ⟨reqC (.slice a ns.length c) cnt al cg top⟩] H fun v H' => S B H' (sl 5 v ((askedP R.pls ns).flatMap plC) :: repR q R :: As) := by
  refine wpF_ofW o52 rfl rfl ?_
  unfold ptrV reqC
  obtain ⟨pv, rv, bv, hO⟩ := openR hS
  obtain ⟨ap, lp, cp, rfl, hpl⟩ := S.shape (S.up1 hO)
  rw [plC_flen] at hpl
  obtain rfl : lp = R.pls.length := by omega
  clear hS
  have hS := hO
  clear hO
  refine zsr ?_; refine wpO_cons ?_; refine op1_boxNS rfl rfl rfl hS ?_; intro p1 H1 hS; refine zw1 ?_; refine zns ?_; refine zsr ?_; refine zw1 ?_; refine zns ?_; refine wp_seq ?_; refine zsr ?_; refine zw1 ?_; refine wpO_cons ?_; refine op1_nilchk rfl rfl ?_; refine wpO_cons ?_; refine op1_faddr0 rfl rfl ?_; refine wpO_cons ?_; refine op1_load rfl rfl (by exact S.g1 hS) rfl ?_; refine wpO_cons ?_; refine op1_len rfl rfl ?_; refine zw1 ?_; refine zns ?_; refine wp_block ?_
  refine wp_loop [5, 15] (fun k vs H' => ∃ (i : Nat) (vo : Value), vs = [vo, .int .i64 i] ∧ k = R.pls.length - i ∧ i ≤ R.pls.length ∧
      S B H' (sl 5 vo ((if ns.length = 0 then (R.pls.take i).filter (·.gen) else []).flatMap plC) :: pto p1 (.cells [.slice a ns.length c, .int .i64 cnt, .int .i64 al, .bool cg, .bool top] 0 false) :: pto q (.cells [.slice ap R.pls.length cp, rv, bv] 0 false) :: sl 5 (.slice ap R.pls.length cp) (R.pls.flatMap plC) :: sl 1 rv (i64s R.refs) :: sl 64 bv (R.pgs.flatMap u8s) :: As))
    ⟨_, 0, _, rfl, rfl, by omega, by have := hS.slNil (es := 5); split <;> exact this⟩ ?_
  clear hS
  rintro k vs T' H2 ⟨i, vo, rfl, rfl, hi, hS⟩
  obtain ⟨ao, lo, co, rfl, hlo⟩ := S.shape hS
  have hlo2 : lo ≤ i := by
    have h1 : ((if ns.length = 0 then (R.pls.take i).filter (·.gen) else []).flatMap plC).length ≤ i * 5 := by
      rw [plC_flen]
      split
      · have := List.length_filter_le (fun p : Pl => p.gen) (R.pls.take i)
        have h3 : (R.pls.take i).length ≤ i := by rw [List.length_take]; omega
        omega
      · simp
    omega
  refine zsr ?_; refine wpO_cons ?_; refine op1_lss rfl rfl rfl ?_; refine zns ?_; refine wp_seq ?_
  refine wp_dec rfl (fun hlt2 => ?_) (fun hlt2 => ?_)
  · obtain ⟨p, hp⟩ : ∃ p, R.pls[i]? = some p := ⟨R.pls[i]'(by omega), by simp⟩
    obtain ⟨pb, po, cs, rfl, _⟩ := S.slBlk (S.up3 hS) (by omega)
    have htk : R.pls.take (i + 1) = R.pls.take i ++ [p] := by rw [List.take_add_one, hp]; rfl
    refine wp_skip ?_; refine seq_normal ?_; refine wp_seq ?_; refine wp_block ?_; refine zsr ?_; refine wpO_cons ?_; refine op1_iaddr rfl rfl rfl (by omega) (by omega) ?_; refine wpO_cons ?_; refine op1_loadNL rfl rfl (S.up3 hS) rfl rfl (by omega) rfl ?_; refine wpO_cons ?_; refine op1_allocS rfl hS ?_; intro p2 H3 hS; refine wpO_cons ?_
    rw [show (i : Int).toNat = i from rfl, flatMap_cut plC_len hp]
    obtain ⟨nm, fi, ct, ge, ke⟩ := p
    rw [show plC ⟨nm, fi, ct, ge, ke⟩ = [.string nm, .int .i64 fi, .int .i64 ct, .bool ge, .bool ke] from rfl]
    (refine op1_storeNS rfl rfl (by (conv => lhs; whnf) <;> rfl) rfl rfl (S.up0 hS) (Nat.le_of_ble_eq_true rfl) ?_; intro H4 hS; replace hS := S.dn0 hS); refine zns ?_; refine zsr ?_; refine wpO_cons ?_; refine op1_faddr0 rfl rfl ?_; refine wpO_cons ?_; refine op1_load rfl rfl (by exact S.g2 hS) rfl ?_; refine wpO_cons ?_; refine op1_len rfl rfl ?_; refine wpO_cons ?_; refine op1_eqlI rfl rfl rfl ?_; refine zw1 ?_; refine wpO_cons ?_
    refine op1_dec rfl (fun h0 => ?_) (fun h0 => ?_)
    · refine op1_faddr0 rfl rfl ?_; refine wpO_cons ?_; refine op1_load rfl rfl (by exact S.g0 hS) rfl ?_; refine wpO_cons ?_; refine op1_pick_t rfl rfl (by (conv => lhs; whnf) <;> rfl) ?_; refine zns ?_
      cases ge
      · refine wp_false rfl ?_; refine wp_skip ?_; refine block_normal ?_; refine seq_normal ?_; refine wp_region ?_; refine wpO_cons ?_; refine op1_add rfl rfl rfl (by exact wrap_i64 (by omega) (by omega)) ?_; refine zw1 ?_; refine wpO_nil ?_
        have ef : (if ns.length = 0 then (R.pls.take (i + 1)).filter (·.gen) else []) = (if ns.length = 0 then (R.pls.take i).filter (·.gen) else []) := by rw [htk, List.filter_append]; simp
        exact ⟨R.pls.length - (i + 1), by omega, i + 1, _, rfl, rfl, by omega, by rw [ef]; exact S.drop hS⟩
      · refine wp_true rfl ?_; refine wp_region ?_; refine zw1 ?_; refine wpO_cons ?_; refine op1_load_5 rfl rfl (by exact S.g0 hS) rfl rfl ?_; refine wpO_cons ?_; refine op1_bsliceS rfl hS ?_; refine bk_agg rfl rfl rfl rfl ?_; refine bk_nil ?_; intro p3 H5 hS; refine wpO_cons ?_; (refine op1_appBS rfl rfl (by (conv => lhs; whnf) <;> rfl) rfl (S.g0 hS) rfl rfl (S.up2 hS) (by omega) ?_; intro a1 c1 H6 hS; replace hS := S.dn2 hS; replace hS := S.drop hS); refine zw1 ?_; refine wpO_nil ?_; refine block_normal ?_; refine seq_normal ?_; refine wp_region ?_; refine wpO_cons ?_; refine op1_add rfl rfl rfl (by exact wrap_i64 (by omega) (by omega)) ?_; refine zw1 ?_; refine wpO_nil ?_
        have ef : (if ns.length = 0 then (R.pls.take (i + 1)).filter (·.gen) else []).flatMap plC = (if ns.length = 0 then (R.pls.take i).filter (·.gen) else []).flatMap plC ++ plC ⟨nm, fi, ct, true, ke⟩ := by
          rw [if_pos (by omega), if_pos (by omega), htk, List.filter_append, List.flatMap_append]; simp
        have hS' := S.drop hS
        refine ⟨R.pls.length - (i + 1), by omega, i + 1, .slice a1 (lo + 1) c1, rfl, rfl, by omega, ?_⟩
        rw [ef]
        exact hS'
    · refine op1_skip rfl ?_; refine wpO_cons ?_; refine op1_skip rfl ?_; refine wpO_cons ?_; refine op1_pick_f rfl rfl (by (conv => lhs; whnf) <;> rfl) ?_; refine zns ?_; refine wp_false rfl ?_; refine wp_skip ?_; refine block_normal ?_; refine seq_normal ?_; refine wp_region ?_; refine wpO_cons ?_; refine op1_add rfl rfl rfl (by exact wrap_i64 (by omega) (by omega)) ?_; refine zw1 ?_; refine wpO_nil ?_
      have ef : (if ns.length = 0 then (R.pls.take (i + 1)).filter (·.gen) else []) = (if ns.length = 0 then (R.pls.take i).filter (·.gen) else []) := by rw [if_neg (by omega), if_neg (by omega)]
      exact ⟨R.pls.length - (i + 1), by omega, i + 1, _, rfl, rfl, by omega, by rw [ef]; exact S.drop hS⟩
  · obtain rfl : i = R.pls.length := by omega
    rw [List.take_length] at hS
    refine wp_exit ?_; refine seq_exit ?_; refine iter_exit ?_; refine block_exit ?_; refine seq_normal ?_; refine wp_seq ?_; refine zsr ?_; refine wpO_cons ?_; refine op1_faddr0 rfl rfl ?_; refine wpO_cons ?_; refine op1_load rfl rfl (by exact S.g1 hS) rfl ?_; refine wpO_cons ?_; refine op1_len rfl rfl ?_; refine zw1 ?_; refine zns ?_; refine wp_block ?_
    refine wp_loop [5, 35] (fun k vs H' => ∃ (i : Nat) (vo : Value), vs = [vo, .int .i64 i] ∧ k = ns.length - i ∧ i ≤ ns.length ∧
        S B H' (sl 5 vo ((if ns.length = 0 then R.pls.filter (·.gen) else (ns.take i).map (poolN R.pls)).flatMap plC) :: pto p1 (.cells [.slice a ns.length c, .int .i64 cnt, .int .i64 al, .bool cg, .bool top] 0 false) :: pto q (.cells [.slice ap R.pls.length cp, rv, bv] 0 false) :: sl 5 (.slice ap R.pls.length cp) (R.pls.flatMap plC) :: sl 1 rv (i64s R.refs) :: sl 64 bv (R.pgs.flatMap u8s) :: As))
      ⟨_, 0, _, rfl, rfl, by omega, by rw [List.take_zero, List.map_nil]; exact hS⟩ ?_
    clear hS hlo hlo2
    rintro k vs T2 H3 ⟨i, vo, rfl, rfl, hi2, hS⟩
    refine zsr ?_; refine wpO_cons ?_; refine op1_lss rfl rfl rfl ?_; refine zns ?_; refine wp_seq ?_
    refine wp_dec rfl (fun hlt3 => ?_) (fun hlt3 => ?_)
    · obtain ⟨s, hs⟩ : ∃ s, ns[i]? = some s := ⟨ns[i]'(by omega), by simp⟩
      obtain ⟨b, off, cs, e1, ro, h5, hg, hv⟩ := name_row (hS.rdB hr hlt) rfl hs
      cases h5
      obtain ⟨j, hj⟩ : ∃ j, nameIx R.pls s = some j := by
        cases hx : nameIx R.pls s with
        | none => exact absurd hx (hok s (List.mem_of_getElem? hs))
        | some j => exact ⟨j, rfl⟩
      have hjl := nameIx_lt hj
      obtain ⟨p, hp⟩ : ∃ p, R.pls[j]? = some p := ⟨R.pls[j]'hjl, by simp⟩
      have hpn : poolN R.pls s = p := by unfold poolN; rw [hj, Option.getD_some, List.getD_eq_getElem?_getD, hp]; rfl
      obtain ⟨pb, po, pcs, rfl, _⟩ := S.slBlk (S.up3 hS) (by omega)
      rw [if_neg (by omega)] at hS
      have htk : ns.take (i + 1) = ns.take i ++ [s] := by rw [List.take_add_one, hs]; rfl
      obtain ⟨ao2, lo2, co2, rfl, hlo⟩ := S.shape hS
      rw [plC_flen, List.length_map, List.length_take] at hlo
      obtain rfl : lo2 = i := by omega
      refine wp_skip ?_; refine seq_normal ?_; refine wp_seq ?_; refine wp_block ?_; refine zsr ?_; refine wpO_cons ?_; refine op1_iaddr rfl rfl rfl (by omega) (by omega) ?_; refine wpO_cons ?_
      refine op1_load rfl rfl hg hv ?_
      refine zw1 ?_; refine zns ?_; refine wp_regionD ?_; refine zd1 ?_; refine zd1 ?_; refine wpD_cons ?_; refine op1_nilchk rfl rfl ?_; refine wpD_cons ?_; refine op1_faddr0 rfl rfl ?_; refine wpD_cons ?_; refine op1_load rfl rfl (by exact S.g2 hS) rfl ?_; refine zd1 ?_; refine zd1 ?_; refine wpD_cons ?_; refine op1_call2 rfl (by (conv => lhs; whnf) <;> rfl) (by (conv => lhs; whnf) <;> rfl) ?_
      refine wpF_mono (L58o hl (S.dn4 (S.dn5 hS))) ?_
      rw [show namedV R.pls s = j by unfold namedV; rw [hj]]
      rintro _ H4 ⟨rfl, hS⟩
      replace hS := S.up1 (S.up5 (S.up5 hS))
      have hS4 := hS
      obtain ⟨nm, fi, ct, ge, ke⟩ := p
      refine wpD_cons ?_; refine op1_iaddr rfl rfl rfl (by omega) (by omega) ?_; refine wpD_cons ?_; refine op1_loadNL rfl rfl (S.up3 hS) rfl rfl (by omega) rfl ?_; refine wpD_cons ?_; refine op1_bsliceS rfl hS ?_
      rw [show (j : Int).toNat = j from rfl, flatMap_cut plC_len hp]
      rw [show plC ⟨nm, fi, ct, ge, ke⟩ = [.string nm, .int .i64 fi, .int .i64 ct, .bool ge, .bool ke] from rfl]
      refine bk_agg rfl rfl rfl rfl ?_; refine bk_nil ?_; intro p2 H5 hS; refine wpD_cons ?_
      have hS5 := hS
      (refine op1_appBS rfl rfl (by (conv => lhs; whnf) <;> rfl) rfl (S.g0 hS) rfl rfl (S.up1 hS) (by omega) ?_; intro a1 c1 H6 hS; replace hS := S.dn1 hS; replace hS := S.drop hS); refine zd1 ?_; refine wpD_nil ?_; refine dk_of ?_ ?_; (iterate 4 refine chk_skip ?_); refine chk_cons 9 rfl rfl rfl ?_ ?_; refine chkFs_cons 6 rfl rfl ?_ ?_; exact chk_load rfl (by exact S.g2 (by assumption)) rfl rfl; refine chkFs_cons 2 rfl rfl ?_ ?_; exact chk_load rfl (by exact S.g3 hS5) rfl rfl; exact chkFs_nil; (iterate 4 refine chk_skip ?_); refine chk_cons 4 rfl rfl rfl ?_ ?_; refine chkFs_cons 2 rfl rfl ?_ ?_
      · exact chk_loadNL (k := j * 5) rfl (S.up4 hS5) rfl rfl (by omega) (flatMap_cut plC_len hp) rfl
      exact chkFs_nil; (iterate 3 refine chk_skip ?_); exact chk_end; refine block_normal ?_; refine seq_normal ?_; refine wp_region ?_; refine wpO_cons ?_; refine op1_add rfl rfl rfl (by exact wrap_i64 (by omega) (by omega)) ?_; refine zw1 ?_; refine wpO_nil ?_
      have ef : (if ns.length = 0 then R.pls.filter (·.gen) else (ns.take (lo2 + 1)).map (poolN R.pls)).flatMap plC = ((ns.take lo2).map (poolN R.pls)).flatMap plC ++ plC ⟨nm, fi, ct, ge, ke⟩ := by
        rw [if_neg (by omega), htk, List.map_append, List.flatMap_append]
        simp [hpn]
      refine ⟨ns.length - (lo2 + 1), by omega, lo2 + 1, .slice a1 (lo2 + 1) c1, rfl, rfl, by omega, ?_⟩
      rw [ef]
      exact hS
    · obtain rfl : i = ns.length := by omega
      have ef : askedP R.pls ns = if ns.length = 0 then R.pls.filter (·.gen) else (ns.take ns.length).map (poolN R.pls) := by unfold askedP; rw [List.take_length]
      rw [ef]
      refine wp_exit ?_; refine seq_exit ?_; refine iter_exit ?_; refine block_exit ?_; refine seq_normal ?_; refine zsr ?_; refine zw1 ?_; refine zw1 ?_; refine zns ?_; refine wp_ret ?_; refine ret_of ?_; refine rk_tmp (by (conv => lhs; whnf) <;> rfl) ?_; refine rk_nil ?_
      exact S.up1 (closeR (S.dn4 (S.drop (S.up1 hS))))
end Go.E.Fa
/- The best place is what the runs tell. -/
namespace Go.E.Fa
open Go Go.E Go.Proofs.Ytlkgacbholklkaa Go.Proofs
set_option linter.unusedVariables false
set_option linter.unusedSimpArgs false
set_option maxRecDepth 100000
def IsLast (fr : Nat → Bool) (E cnt al n : Nat) (a r : Int) : Prop :=
  (r = a ∧ ∀ g, n ≤ g → al ∣ g → ¬ OkAt fr E cnt g) ∨ ∃ m : Nat, r = m ∧ n ≤ m ∧ al ∣ m ∧ OkAt fr E cnt m ∧ ∀ g, m < g → al ∣ g → ¬ OkAt fr E cnt g
theorem high_dvd {cnt al : Nat} {x : Nat × Nat} : al ∣ high cnt al x := Nat.dvd_mul_left _ _
theorem le_high {cnt al g : Nat} {x : Nat × Nat} (hal : 1 ≤ al) (hd : al ∣ g) (h : g + cnt ≤ x.2) : g ≤ high cnt al x := by
  obtain ⟨q, rfl⟩ := hd
  unfold high
  have : q ≤ (x.2 - cnt) / al := by
    rw [Nat.le_div_iff_mul_le (by omega), Nat.mul_comm]
    omega
  calc al * q = q * al := Nat.mul_comm _ _
    _ ≤ (x.2 - cnt) / al * al := Nat.mul_le_mul_right _ this
theorem isLast_runs {fr : Nat → Bool} {E cnt al : Nat} (hal : 1 ≤ al) (hc : 1 ≤ cnt) (n : Nat) (a : Int) (hn : n ≤ E + 1) : IsLast fr E cnt al n a ((runsAt fr E n).foldl (at1 cnt al true) a) := by
  rw [runsAt.eq_def]
  split
  · rename_i hlt
    have hge := skip_ge fr E n
    have hle := skip_le fr E n (by omega)
    have hin : ∀ g, n ≤ g → g ≤ skip fr E n → OkAt fr E cnt g → g < skip fr E n ∧ g + cnt ≤ skip fr E n := by
      intro g h1 h2 h3
      have hs : ¬ (g ≤ skip fr E n ∧ skip fr E n < g + cnt ∧ skip fr E n < E) := by
        rintro ⟨h4, h5, h6⟩
        have := h3.2 _ h4 h5
        rw [skip_stop n h6] at this
        cases this
      have := h3.1
      omega
    split
    · rename_i hs
      rw [List.singleton_append, List.foldl_cons]
      have ih := isLast_runs (fr := fr) (E := E) (cnt := cnt) (al := al) hal hc (skip fr E n + 1) (at1 cnt al true a (n, skip fr E n)) (by omega)
      by_cases hf : fits cnt al (n, skip fr E n) = true
      · have e : at1 cnt al true a (n, skip fr E n) = (high cnt al (n, skip fr E n) : Nat) := by unfold at1; rw [if_pos hf, if_pos rfl]
        rw [e] at ih ⊢
        have h1 := low_ge (al := al) (x := (n, skip fr E n)) hal
        have h2 := high_ge (cnt := cnt) (al := al) (x := (n, skip fr E n)) hal hf
        have h3 := of_decide_eq_true hf
        have h4 : high cnt al (n, skip fr E n) ≤ skip fr E n - cnt := Nat.div_mul_le_self _ _
        simp only at h1 h3
        rcases ih with ⟨i1, i2⟩ | ⟨m, i1, i2, i3, i4, i5⟩
        · refine .inr ⟨_, i1, by omega, high_dvd, ⟨by omega, fun i j1 j2 => skip_free (fr := fr) (E := E) n (by omega) (by omega)⟩, fun g g1 g2 g3 => ?_⟩
          by_cases g4 : g ≤ skip fr E n
          · have h5 := hin g (by omega) g4 g3
            have h6 := le_high (x := (n, skip fr E n)) hal g2 h5.2
            omega
          · exact i2 g (by omega) g2 g3
        · exact .inr ⟨m, i1, by omega, i3, i4, i5⟩
      · have e : at1 cnt al true a (n, skip fr E n) = a := by unfold at1; rw [if_neg hf]
        rw [e] at ih ⊢
        rcases ih with ⟨i1, i2⟩ | ⟨m, i1, i2, i3, i4, i5⟩
        · refine .inl ⟨i1, fun g g1 g2 g3 => ?_⟩
          by_cases g4 : g ≤ skip fr E n
          · have h5 := hin g g1 g4 g3
            have h6 := low_le (x := (n, skip fr E n)) hal g2 g1
            refine hf ?_
            unfold fits
            rw [decide_eq_true_eq]
            simp only
            omega
          · exact i2 g (by omega) g2 g3
        · exact .inr ⟨m, i1, by omega, i3, i4, i5⟩
    · rename_i hs
      rw [List.nil_append]
      have ih := isLast_runs (fr := fr) (E := E) (cnt := cnt) (al := al) hal hc (skip fr E n + 1) a (by omega)
      rcases ih with ⟨i1, i2⟩ | ⟨m, i1, i2, i3, i4, i5⟩
      · refine .inl ⟨i1, fun g g1 g2 g3 => ?_⟩
        by_cases g4 : g ≤ skip fr E n
        · have := hin g g1 g4 g3; omega
        · exact i2 g (by omega) g2 g3
      · exact .inr ⟨m, i1, by omega, i3, i4, i5⟩
  · refine .inl ⟨rfl, fun g g1 g2 g3 => ?_⟩
    have := g3.1
    omega
termination_by E + 1 - n
decreasing_by all_goals (have := skip_ge fr E n; omega)
/-- the place that the reference finds is the one that the runs tell -/
theorem best_runs {fr : Nat → Bool} {E cnt al F : Nat} {top : Bool} {w : Int} (hal : 1 ≤ al) (hc : 1 ≤ cnt) (hF : F ≤ E) (h : BestTo fr E cnt al F top (E + 1) w) : w = atOf cnt al top (runsAt fr E F) := by
  cases top
  · refine isFirst_uniq (fr := fr) (E := E) (cnt := cnt) (al := al) (n := F) ?_ (isFirst_runs hal hc F (by omega))
    rcases h with ⟨h1, h2⟩ | ⟨m, h1, h2, h3, h4, h5, h6⟩
    · refine .inl ⟨h1, fun g g1 g2 g3 => h2 g g1 ?_ g2 g3⟩
      have := g3.1; omega
    · refine .inr ⟨m, h1, h2, h4, h5, fun g g1 g2 g3 g4 => h6 g g1 (by omega) (by simpa using g2) g3 g4⟩
  · have hl := isLast_runs (fr := fr) (E := E) hal hc F (-1) (by omega)
    show w = (runsAt fr E F).foldl (at1 cnt al true) (-1)
    rcases h with ⟨h1, h2⟩ | ⟨m, h1, h2, h3, h4, h5, h6⟩
    · rcases hl with ⟨k1, k2⟩ | ⟨m', k1, k2, k3, k4, k5⟩
      · rw [h1, k1]
      · exact absurd k4 (h2 m' k2 (by have := k4.1; omega) k3)
    · rcases hl with ⟨k1, k2⟩ | ⟨m', k1, k2, k3, k4, k5⟩
      · exact absurd h5 (k2 m h2 h4)
      · rw [h1, k1]
        by_cases g1 : m < m'
        · exact absurd k4 (h6 m' k2 (by have := k4.1; omega) (by rw [if_pos rfl]; exact g1) k3)
        · by_cases g2 : m' < m
          · exact absurd h5 (k5 m g2 h4)
          · congr 1; omega
end Go.E.Fa
/- The law's helpers: request. -/
namespace Go.E.Fa
open Go Go.E Go.Proofs.Ytlkgacbholklkaa Go.Proofs
set_option linter.unusedVariables false
set_option linter.unusedSimpArgs false
set_option maxRecDepth 100000
theorem L18 {B H : AHeap} {As : List Asn} {d a b n : Int} {cg tp : Bool} {an ad : Option Addr} {cn ld cd : Nat} {ns : List ByteArray} (hns : ns.length ≤ 1000)
    (hd : RD B As 1 (.slice an ns.length cn) (ns.map enS)) (hS : S B H As) :
    wpF C 18 [.agg ⟨[.int .u8 d, .slice an ns.length cn, .int .i64 a, .int .i64 b, .int .i64 n, .bool cg, .bool tp, .slice ad ld cd]⟩] H fun v H' => ∃ a' c', v = .agg ⟨reqC (.slice a' ns.length c') n a cg tp⟩ ∧ S B H' (sl 1 (.slice a' ns.length c') (ns.map enS) :: As) := by
  refine wpF_ofW o18 rfl rfl ?_
  unfold reqC
  refine zsr ?_; refine wpO_cons ?_; refine op1_boxNS rfl rfl rfl hS ?_; intro p1 H1 hS; refine wpO_cons ?_; refine op1_allocS rfl hS ?_; intro p2 H2 hS; refine zns ?_; refine wp_seq ?_; refine wp_regionD ?_; refine wpD_cons ?_; refine op1_bsliceS rfl hS ?_; refine bk_nil ?_; intro p3 H3 hS; refine wpD_cons ?_; refine op1_faddr0 rfl rfl ?_; refine wpD_cons ?_; refine op1_load rfl rfl (by exact S.g2 hS) rfl ?_; refine wpD_cons ?_; refine op1_faddr0 rfl rfl ?_; refine wpD_cons ?_; refine op1_load rfl rfl (by exact S.g2 hS) rfl ?_; refine wpD_cons ?_; refine op1_faddr0 rfl rfl ?_; refine wpD_cons ?_; refine op1_load rfl rfl (by exact S.g2 hS) rfl ?_; refine wpD_cons ?_; refine op1_faddr0 rfl rfl ?_; refine wpD_cons ?_; refine op1_load rfl rfl (by exact S.g2 hS) rfl ?_; refine wpD_cons ?_; refine op1_faddr0 rfl rfl ?_; refine wpD_cons ?_; refine op1_load rfl rfl (by exact S.g2 hS) rfl ?_; refine wpD_cons ?_
  replace hS := S.slNew (l := 0) (es := 1) hS rfl
  obtain ⟨r2, hr2, _⟩ := (RD.cons (RD.cons (RD.cons hd))) _ hS
  refine op1_appRS rfl rfl (by (conv => lhs; whnf) <;> rfl) rfl hr2 (by simp) (enS_one _) hS (by omega) ?_
  rw [List.nil_append, Nat.zero_add]
  intro a1 c1 H4 hS
  refine wpD_cons ?_; refine op1_build rfl ?_; refine bk_one (by (conv => lhs; whnf) <;> rfl) rfl rfl rfl ?_; refine bk_one (by (conv => lhs; whnf) <;> rfl) rfl rfl rfl ?_; refine bk_one (by (conv => lhs; whnf) <;> rfl) rfl rfl rfl ?_; refine bk_one (by (conv => lhs; whnf) <;> rfl) rfl rfl rfl ?_; refine bk_one (by (conv => lhs; whnf) <;> rfl) rfl rfl rfl ?_; refine bk_nil ?_; refine wpD_cons ?_; (refine op1_storeNS rfl rfl (by (conv => lhs; whnf) <;> rfl) rfl rfl (S.up1 hS) (Nat.le_of_ble_eq_true rfl) ?_; intro H5 hS; replace hS := S.dn1 hS); refine wpD_nil ?_; refine dk_of ?_ ?_; (iterate 2 refine chk_skip ?_); refine chk_cons 12 rfl rfl rfl ?_ ?_; refine chkFs_cons 3 rfl rfl ?_ ?_; exact chk_load rfl (by exact S.g2 (by assumption)) rfl rfl; exact chkFs_nil; refine chk_skip ?_; refine chk_cons 10 rfl rfl rfl ?_ ?_; refine chkFs_cons 3 rfl rfl ?_ ?_; exact chk_load rfl (by exact S.g2 (by assumption)) rfl rfl; refine chkFs_cons 1 rfl rfl ?_ ?_; exact chk_load rfl (by exact S.g2 (by assumption)) rfl rfl; exact chkFs_nil; refine chk_skip ?_; refine chk_cons 8 rfl rfl rfl ?_ ?_; refine chkFs_cons 3 rfl rfl ?_ ?_; exact chk_load rfl (by exact S.g2 (by assumption)) rfl rfl; refine chkFs_cons 1 rfl rfl ?_ ?_; exact chk_load rfl (by exact S.g2 (by assumption)) rfl rfl; exact chkFs_nil; refine chk_skip ?_; refine chk_cons 6 rfl rfl rfl ?_ ?_; refine chkFs_cons 3 rfl rfl ?_ ?_; exact chk_load rfl (by exact S.g2 (by assumption)) rfl rfl; refine chkFs_cons 1 rfl rfl ?_ ?_; exact chk_load rfl (by exact S.g2 (by assumption)) rfl rfl; exact chkFs_nil; refine chk_skip ?_; refine chk_cons 4 rfl rfl rfl ?_ ?_; refine chkFs_cons 3 rfl rfl ?_ ?_; exact chk_load rfl (by exact S.g2 (by assumption)) rfl rfl; refine chkFs_cons 1 rfl rfl ?_ ?_; exact chk_load rfl (by exact S.g2 (by assumption)) rfl rfl; exact chkFs_nil; (iterate 3 refine chk_skip ?_); exact chk_end; refine seq_normal ?_; refine wp_ret ?_; refine ret_of ?_; refine rk_cellN rfl (by exact S.g1 hS) rfl rfl ?_; refine rk_nil ?_
  exact ⟨a1, c1, rfl, S.drop (S.up1 (S.drop (S.up1 hS)))⟩

/-! ### one free frame after the other -/
def freeL (fr : Nat → Bool) (F E : Nat) : List Nat := (List.range' F (E - F)).filter fr
theorem best_first {fr : Nat → Bool} {E F : Nat} {w : Int} (hF : F ≤ E) (h : BestTo fr E 1 1 F false E w) : (w = -1 ∧ freeL fr F E = []) ∨ ∃ (m : Nat) (r : List Nat), w = m ∧ F ≤ m ∧ m < E ∧ freeL fr F E = m :: r := by
  have hno : ∀ g, g < E → ¬ OkAt fr E 1 g → fr g = false := fun g g1 g2 => by
    cases hg : fr g with
    | false => rfl
    | true => exact absurd ⟨by omega, fun i i1 i2 => by rw [show i = g by omega]; exact hg⟩ g2
  rcases h with ⟨h1, h2⟩ | ⟨m, h1, h2, h3, h4, h5, h6⟩
  · refine .inl ⟨h1, ?_⟩
    unfold freeL
    rw [List.filter_eq_nil_iff]
    intro g hg
    rw [List.mem_range'_1] at hg
    rw [hno g (by omega) (h2 g hg.1 (by omega) (Nat.one_dvd g))]
    simp
  · refine .inr ⟨m, (List.range' (m + 1) (E - (m + 1))).filter fr, h1, h2, h3, ?_⟩
    unfold freeL
    have e : List.range' F (E - F) = List.range' F (m - F) ++ (m :: List.range' (m + 1) (E - (m + 1))) := by
      rw [show m :: List.range' (m + 1) (E - (m + 1)) = List.range' m (E - m) by rw [show E - m = (E - (m + 1)) + 1 by omega, List.range'_succ]]
      rw [show E - F = (m - F) + (E - m) by omega, ← List.range'_append_1, show F + (m - F) = m by omega]
    have e0 : (List.range' F (m - F)).filter fr = [] := by
      rw [List.filter_eq_nil_iff]
      intro g hg
      rw [List.mem_range'_1] at hg
      rw [hno g (by omega) (h6 g hg.1 (by omega) (by simp; omega) (Nat.one_dvd g))]
      simp
    have hm := h5.2 m (Nat.le_refl _) (by omega)
    rw [e, List.filter_append, e0, List.nil_append, List.filter_cons_of_pos hm]
theorem best_last {fr : Nat → Bool} {E F : Nat} {w : Int} (hF : F ≤ E) (h : BestTo fr E 1 1 F true E w) : (w = -1 ∧ freeL fr F E = []) ∨ ∃ (m : Nat) (r : List Nat), w = m ∧ F ≤ m ∧ m < E ∧ freeL fr F E = r ++ [m] := by
  have hno : ∀ g, g < E → ¬ OkAt fr E 1 g → fr g = false := fun g g1 g2 => by
    cases hg : fr g with
    | false => rfl
    | true => exact absurd ⟨by omega, fun i i1 i2 => by rw [show i = g by omega]; exact hg⟩ g2
  rcases h with ⟨h1, h2⟩ | ⟨m, h1, h2, h3, h4, h5, h6⟩
  · refine .inl ⟨h1, ?_⟩
    unfold freeL
    rw [List.filter_eq_nil_iff]
    intro g hg
    rw [List.mem_range'_1] at hg
    rw [hno g (by omega) (h2 g hg.1 (by omega) (Nat.one_dvd g))]
    simp
  · refine .inr ⟨m, (List.range' F (m - F)).filter fr, h1, h2, h3, ?_⟩
    unfold freeL
    have e : List.range' F (E - F) = List.range' F (m - F) ++ (m :: List.range' (m + 1) (E - (m + 1))) := by
      rw [show m :: List.range' (m + 1) (E - (m + 1)) = List.range' m (E - m) by rw [show E - m = (E - (m + 1)) + 1 by omega, List.range'_succ]]
      rw [show E - F = (m - F) + (E - m) by omega, ← List.range'_append_1, show F + (m - F) = m by omega]
    have e0 : (List.range' (m + 1) (E - (m + 1))).filter fr = [] := by
      rw [List.filter_eq_nil_iff]
      intro g hg
      rw [List.mem_range'_1] at hg
      rw [hno g (by omega) (h6 g (by omega) (by omega) (by simp; omega) (Nat.one_dvd g))]
      simp
    have hm := h5.2 m (Nat.le_refl _) (by omega)
    rw [e, List.filter_append, List.filter_cons_of_pos hm, e0]
end Go.E.Fa
/- Acts as an argument of a law. -/
namespace Go.E.Fa
open Go Go.E Go.ChangeShapes Go.WideShapes Go.ChangeAt Go.RowKit Go.Proofs.Ytlkgacbholklkaa Go.Proofs
set_option linter.unusedVariables false
set_option linter.unusedSimpArgs false
set_option maxRecDepth 100000
structure ActF where
  kind : Int
  an : Option Addr
  cn : Nat
  ns : List ByteArray
  a : Int
  b : Int
  n : Int
  cg : Bool
  tp : Bool
  ad : Option Addr
  cd : Nat
  d : List Int
  rn : List Nat
  rd : List Nat
def ActF.cells (x : ActF) : List Value := [.int .u8 x.kind, .slice x.an x.ns.length x.cn, .int .i64 x.a, .int .i64 x.b, .int .i64 x.n, .bool x.cg, .bool x.tp, .slice x.ad x.d.length x.cd]
def I64 (x : Int) : Prop := -9223372036854775808 ≤ x ∧ x ≤ 9223372036854775807
structure ActOkF (B : AHeap) (x : ActF) : Prop where
  k : 0 ≤ x.kind ∧ x.kind ≤ 255
  a : I64 x.a
  b : I64 x.b
  n : I64 x.n
  ln : x.ns.length ≤ 9223372036854775807
  nr : RdS B 1 (.slice x.an x.ns.length x.cn) (x.ns.map enS) x.rn
  nl : ∀ b ∈ x.rn, b < B.next
  dr : RdS B 1 (.slice x.ad x.d.length x.cd) (u8s x.d) x.rd
  dl : ∀ b ∈ x.rd, b < B.next
theorem u33 : Try.prog.underlying 33 = some (.slice 9) := by kernel_rfl
theorem u40 : Try.prog.underlying 40 = some (.slice 48) := by kernel_rfl
theorem u48 : (match Try.prog.underlying 48 with | some (.struct fs) => fs.toList.map fun f => (f.type, f.offset) | _ => []) = [(5,0),(33,1),(3,2),(3,3),(3,4),(4,5),(4,6),(46,7)] := by kernel_rfl
theorem co48 : Try.prog.cellsOf 48 = 8 := by kernel_rfl
theorem co33 : Try.prog.cellsOf 33 = 1 := by kernel_rfl
theorem co46 : Try.prog.cellsOf 46 = 1 := by kernel_rfl
theorem ag40 : aggT Try.prog 40 = false := by kernel_rfl
theorem names_of {gs : List AObj} {n : Nat} {vs : List Value} (h : OkA Try.prog gs (n + 2) 33 vs) : ∃ (an : Option Addr) (ns : List ByteArray) (c : Nat) (r : List Nat), vs = [.slice an ns.length c] ∧ ns.length ≤ 9223372036854775807 ∧ RdS (startH gs) 1 (.slice an ns.length c) (ns.map enS) r ∧ ∀ b ∈ r, b < gs.length := by
  unfold OkA at h
  rw [u33] at h
  rcases h with rfl | ⟨b, c, rfl, _⟩ | ⟨b, l, c, cells, rfl, hlc, hcm, hg, hl, hc⟩
  · exact ⟨none, [], 0, [], rfl, by simp, .nil, by simp⟩
  · exact ⟨some ⟨b, 0, none⟩, [], 0, [], rfl, by simp, .empty _, by simp⟩
  · rw [co9] at hl hc
    obtain ⟨ns, h1, h2⟩ := list_of (Q := fun i (x : ByteArray) => cells[i]? = some (.string x)) l fun i hi => by
      have h3 := hc i hi
      unfold OkA at h3
      rw [u9] at h3
      obtain ⟨s, hs, _⟩ := h3
      have h4 := congrArg (fun z => z[0]?) hs
      simp only [List.getElem?_cons_zero, Nat.mul_one] at h4
      rw [List.getElem?_take, if_pos (by omega), List.getElem?_drop, Nat.add_zero] at h4
      exact ⟨s, h4⟩
    have hb := (List.getElem?_eq_some_iff.1 hg).1
    have hm : maxLen = 9223372036854775807 := rfl
    have e : cells = ns.map enS := by
      apply List.ext_getElem?
      intro i
      rw [List.getElem?_map]
      cases hx : ns[i]? with
      | none =>
        have := List.getElem?_eq_none_iff.1 hx
        rw [List.getElem?_eq_none (by omega)]; rfl
      | some x => exact h2 i x hx
    refine ⟨some ⟨b, 0, none⟩, ns, c, [b], by rw [h1], by omega, ?_, by simpa using hb⟩
    rw [← e]
    have := RdS.blk (H := startH gs) (b := b) (es := 1) (off := 0) (l := ns.length) (c := c) (cs := cells) (e := 0) (ro := true) (by rw [get_startH, List.getD_eq_getElem?_getD, hg]; rfl) (by omega) (.inl rfl) (by omega)
    rw [List.drop_zero, List.take_of_length_le (by omega)] at this
    exact this
theorem act_of {gs : List AObj} {vs : List Value} (h : OkA Try.prog gs 3 48 vs) : ∃ x : ActF, ActOkF (startH gs) x ∧ vs = x.cells := by
  unfold OkA at h
  have hu := u48
  split at h
  case h_5 fs hfs =>
    rw [hfs] at hu
    simp only at hu
    obtain ⟨hl, hf⟩ := h
    rw [co48] at hl
    have hm : ∀ t o, (t, o) ∈ [(5,0),(33,1),(3,2),(3,3),(3,4),(4,5),(4,6),(46,7)] → OkA Try.prog gs 2 t ((vs.drop o).take (Try.prog.cellsOf t)) := by
      intro t o hto
      rw [← hu] at hto
      obtain ⟨f, h1, h2⟩ := List.mem_map.1 hto
      cases h2
      exact hf f h1
    have h5 := hm 5 0 (by simp)
    have h33 := hm 33 1 (by simp)
    have h3 := hm 3 2 (by simp)
    have h3' := hm 3 3 (by simp)
    have h3'' := hm 3 4 (by simp)
    have h4 := hm 4 5 (by simp)
    have h4' := hm 4 6 (by simp)
    have h46 := hm 46 7 (by simp)
    rw [co5] at h5
    rw [co33] at h33
    rw [co3] at h3 h3' h3''
    rw [co4] at h4 h4'
    rw [co46] at h46
    match vs, hl with
    | [v0, v1, v2, v3, v4, v5, v6, v7], _ =>
    simp only [List.drop_zero, List.take_succ_cons, List.take_zero, List.drop_succ_cons] at h5 h33 h3 h3' h3'' h4 h4' h46
    unfold OkA at h5 h3 h3' h3'' h4 h4'
    rw [u5] at h5
    rw [u3] at h3 h3' h3''
    rw [u4] at h4 h4'
    obtain ⟨k, hk, hw⟩ := h5
    obtain ⟨a, ha, hwa⟩ := h3
    obtain ⟨b, hb, hwb⟩ := h3'
    obtain ⟨n, hn, hwn⟩ := h3''
    obtain ⟨g, hg⟩ := h4
    obtain ⟨t, ht⟩ := h4'
    cases hk; cases ha; cases hb; cases hn; cases hg; cases ht
    obtain ⟨an, ns, cn, rn, hv, hln, hnr, hnl⟩ := names_of (n := 0) h33
    cases hv
    obtain ⟨v, l, r, hv, h1, h2, h3⟩ := h46.bytes (n := 0) u46 u5 co5
    cases hv
    obtain ⟨ad, cd, rfl⟩ := RdS.u1 h1
    simp [Lit.wf, IntKind.min, IntKind.max, IntKind.signed, IntKind.bits] at hw hwa hwb hwn
    exact ⟨⟨k, an, cn, ns, a, b, n, g, t, ad, cd, l, rn, r⟩, ⟨by simp only; omega, by unfold I64; simp only; omega, by unfold I64; simp only; omega, by unfold I64; simp only; omega, hln, hnr, by rw [next_startH]; exact hnl, h1, by rw [next_startH]; exact h2⟩, rfl⟩
  all_goals (rename_i h0; first | (rw [h0] at hu; cases hu) | skip)
  all_goals exact h.elim
/-- a list of acts in the base -/
structure ActsF (B : AHeap) (a : Option Addr) (c : Nat) (xs : List ActF) : Prop where
  len : xs.length ≤ 9223372036854775807
  ok : ∀ x ∈ xs, ActOkF B x
  at_ : ∀ (i : Nat) x, xs[i]? = some x → ∃ b o cs, a = some ⟨b, o, none⟩ ∧ B.get b = .cells cs 0 true ∧ b < B.next ∧ o + i * 8 + 8 ≤ cs.length ∧ (cs.drop (o + i * 8)).take 8 = x.cells
theorem arg_acts {gs : List AObj} {a : Value} (h : ∃ cells, a = argV Try.prog 40 cells ∧ OkA Try.prog gs 4 40 cells) :
    ∃ (ad : Option Addr) (xs : List ActF) (c : Nat), a = .slice ad xs.length c ∧ ActsF (startH gs) ad c xs := by
  obtain ⟨cells, rfl, h⟩ := h
  unfold OkA at h
  rw [u40] at h
  rcases h with rfl | ⟨b, c, rfl, _⟩ | ⟨b, l, c, cells, rfl, hlc, hcm, hg, hl, hc⟩
  · exact ⟨none, [], 0, by unfold argV; rw [ag40]; rfl, ⟨by simp, by simp, by simp⟩⟩
  · exact ⟨some ⟨b, 0, none⟩, [], 0, by unfold argV; rw [ag40]; rfl, ⟨by simp, by simp, by simp⟩⟩
  · rw [co48] at hl hc
    obtain ⟨xs, h1, h2⟩ := list_of (Q := fun i (x : ActF) => ActOkF (startH gs) x ∧ (cells.drop (i * 8)).take 8 = x.cells) l fun i hi => act_of (hc i hi)
    have hb := (List.getElem?_eq_some_iff.1 hg).1
    have hm : maxLen = 9223372036854775807 := rfl
    refine ⟨some ⟨b, 0, none⟩, xs, c, by unfold argV; rw [ag40, h1]; rfl, ⟨by omega, fun x hx => ?_, fun i x hx => ?_⟩⟩
    · obtain ⟨i, hi⟩ := List.getElem?_of_mem hx
      exact (h2 i x hi).1
    · have hi := (List.getElem?_eq_some_iff.1 hx).1
      exact ⟨b, 0, cells, rfl, by rw [get_startH, List.getD_eq_getElem?_getD, hg]; rfl, by rw [next_startH]; exact hb, by omega, by rw [Nat.zero_add]; exact (h2 i x hx).2⟩
def SmallF (xs : List ActF) : Prop := xs.length ≤ 60 ∧ ∀ x ∈ xs, x.ns.length ≤ 20 ∧ x.d.length ≤ 200 ∧ ∀ s ∈ x.ns, s.size ≤ 200
end Go.E.Fa
/- The law's helpers: small. -/
namespace Go.E.Fa
open Go Go.E Go.Proofs.Ytlkgacbholklkaa Go.Proofs
set_option linter.unusedVariables false
set_option linter.unusedSimpArgs false
set_option maxRecDepth 100000
theorem L15 {B H : AHeap} {As : List Asn} {a : Option Addr} {c : Nat} {xs : List ActF} (hA : ActsF B a c xs) (hS : S B H As) :
    wpF C 15 [.slice a xs.length c] H fun v H' => (∃ b, v = .bool b ∧ (b = true → SmallF xs)) ∧ S B H' As := by
  refine wpF_ofW o15 rfl rfl ?_
  have hlen := hA.len
  refine zsr ?_; refine zw1 ?_; refine zns ?_; refine wp_seq ?_; refine zsr ?_; refine zw1 ?_; refine wpO_cons ?_; refine op1_len rfl rfl ?_; refine zw1 ?_; refine zns ?_; refine wp_block ?_
  refine wp_loop [9] (fun k vs H' => ∃ i : Nat, vs = [.int .i64 i] ∧ k = xs.length - i ∧ i ≤ xs.length ∧ (∀ x ∈ xs.take i, x.ns.length ≤ 20 ∧ x.d.length ≤ 200 ∧ ∀ s ∈ x.ns, s.size ≤ 200) ∧ S B H' As) ⟨_, 0, rfl, rfl, by omega, by simp, hS⟩ ?_
  clear hS
  rintro k vs T' H1 ⟨i, rfl, rfl, hi, hno, hS⟩
  refine zsr ?_; refine wpO_cons ?_; refine op1_lss rfl rfl rfl ?_; refine zns ?_; refine wp_seq ?_
  refine wp_dec rfl (fun hlt => ?_) (fun hlt => ?_)
  · obtain ⟨x, hx⟩ : ∃ x, xs[i]? = some x := ⟨xs[i]'(by omega), by simp⟩
    have hok := hA.ok x (List.mem_of_getElem? hx)
    obtain ⟨b, o, cs, rfl, hg, hb, hle, hat⟩ := hA.at_ i x hx
    have hg1 := (hS.base b hb).trans hg
    have hln := hok.ln
    refine wp_skip ?_; refine seq_normal ?_; refine wp_seq ?_; refine wp_block ?_; refine zsr ?_; refine wpO_cons ?_; refine op1_iaddr rfl rfl rfl (by omega) (by omega) ?_; refine wpO_cons ?_
    refine op1_loadN rfl rfl hg1 hle hat ?_
    rw [show x.cells = [.int .u8 x.kind, .slice x.an x.ns.length x.cn, .int .i64 x.a, .int .i64 x.b, .int .i64 x.n, .bool x.cg, .bool x.tp, .slice x.ad x.d.length x.cd] from rfl]
    refine wpO_cons ?_; refine op1_allocS rfl hS ?_; intro p1 H2 hS; refine wpO_cons ?_; (refine op1_storeNS rfl rfl (by (conv => lhs; whnf) <;> rfl) rfl rfl (S.up0 hS) (Nat.le_of_ble_eq_true rfl) ?_; intro H3 hS; replace hS := S.dn0 hS); refine zns ?_; refine wp_seq ?_; refine zsr ?_; refine wpO_cons ?_; refine op1_faddr0 rfl rfl ?_; refine wpO_cons ?_; refine op1_load rfl rfl (by exact S.g0 hS) rfl ?_; refine wpO_cons ?_; refine op1_len rfl rfl ?_; refine wpO_cons ?_; refine op1_gtr rfl rfl rfl ?_; refine zw1 ?_; refine wpO_cons ?_
    refine op1_dec rfl (fun g1 => ?_) (fun g1 => ?_)
    · refine op1_skip rfl ?_; refine wpO_cons ?_; refine op1_skip rfl ?_; refine wpO_cons ?_; refine op1_skip rfl ?_; refine wpO_cons ?_; refine op1_skip rfl ?_; refine wpO_cons ?_; refine op1_pick_t rfl rfl (by (conv => lhs; whnf) <;> rfl) ?_; refine zns ?_; refine wp_true rfl ?_; refine zsr ?_; refine zw1 ?_; refine zns ?_; refine wp_ret ?_; refine seq_ret ?_; refine block_ret ?_; refine seq_ret ?_; refine iter_ret ?_; refine block_ret ?_; refine seq_ret ?_; refine ret_of ?_; refine rk_tmp (by (conv => lhs; whnf) <;> rfl) ?_; refine rk_nil ?_
      exact ⟨⟨_, rfl, fun h => by cases h⟩, S.drop hS⟩
    refine op1_faddr0 rfl rfl ?_; refine wpO_cons ?_; refine op1_load rfl rfl (by exact S.g0 hS) rfl ?_; refine wpO_cons ?_; refine op1_len rfl rfl ?_; refine wpO_cons ?_; refine op1_gtr rfl rfl rfl ?_; refine wpO_cons ?_; refine op1_pick_f rfl rfl (by (conv => lhs; whnf) <;> rfl) ?_; refine zns ?_
    refine wp_dec rfl (fun g2 => ?_) (fun g2 => ?_)
    · refine zsr ?_; refine zw1 ?_; refine zns ?_; refine wp_ret ?_; refine seq_ret ?_; refine block_ret ?_; refine seq_ret ?_; refine iter_ret ?_; refine block_ret ?_; refine seq_ret ?_; refine ret_of ?_; refine rk_tmp (by (conv => lhs; whnf) <;> rfl) ?_; refine rk_nil ?_
      exact ⟨⟨_, rfl, fun h => by cases h⟩, S.drop hS⟩
    refine wp_skip ?_; refine seq_normal ?_; refine zsr ?_; refine wpO_cons ?_; refine op1_faddr0 rfl rfl ?_; refine wpO_cons ?_; refine op1_load rfl rfl (by exact S.g0 hS) rfl ?_; refine wpO_cons ?_; refine op1_len rfl rfl ?_; refine zw1 ?_; refine zns ?_; refine wp_block ?_
    refine wp_loop [26] (fun k vs H' => ∃ j : Nat, vs = [.int .i64 j] ∧ k = x.ns.length - j ∧ j ≤ x.ns.length ∧ (∀ s ∈ x.ns.take j, s.size ≤ 200) ∧ S B H' As) ⟨_, 0, rfl, rfl, by omega, by simp, S.drop hS⟩ ?_
    clear hS hg1
    rintro k vs T2 H2 ⟨j, rfl, rfl, hj, hno2, hS⟩
    refine zsr ?_; refine wpO_cons ?_; refine op1_lss rfl rfl rfl ?_; refine zns ?_; refine wp_seq ?_
    refine wp_dec rfl (fun hlt2 => ?_) (fun hlt2 => ?_)
    · obtain ⟨s, hs⟩ : ∃ s, x.ns[j]? = some s := ⟨x.ns[j]'(by omega), by simp⟩
      obtain ⟨b', off', cs', e', ro', h5, hg, hv⟩ := name_row (hS.rdB hok.nr hok.nl) rfl hs
      obtain ⟨an, han⟩ : ∃ z, z = x.an := ⟨_, rfl⟩
      rw [h5]
      refine wp_skip ?_; refine seq_normal ?_; refine wp_seq ?_; refine wp_block ?_; refine zsr ?_; refine wpO_cons ?_; refine op1_iaddr rfl rfl rfl (by omega) (by omega) ?_; refine wpO_cons ?_
      refine op1_load rfl rfl hg hv ?_
      refine zw1 ?_; refine zns ?_; refine zsr ?_; refine zw1 ?_; refine wpO_cons ?_; refine op1_lenS rfl rfl ?_; refine wpO_cons ?_; refine op1_gtr rfl rfl rfl ?_; refine zns ?_
      refine wp_dec rfl (fun g3 => ?_) (fun g3 => ?_)
      · refine zsr ?_; refine zw1 ?_; refine zns ?_; refine wp_ret ?_; refine block_ret ?_; refine seq_ret ?_; refine iter_ret ?_; refine block_ret ?_; refine block_ret ?_; refine seq_ret ?_; refine iter_ret ?_; refine block_ret ?_; refine seq_ret ?_; refine ret_of ?_; refine rk_tmp (by (conv => lhs; whnf) <;> rfl) ?_; refine rk_nil ?_
        exact ⟨⟨_, rfl, fun h => by cases h⟩, hS⟩
      · refine wp_skip ?_; refine block_normal ?_; refine seq_normal ?_; refine wp_region ?_; refine wpO_cons ?_; refine op1_add rfl rfl rfl (by exact wrap_i64 (by omega) (by omega)) ?_; refine zw1 ?_; refine wpO_nil ?_
        refine ⟨x.ns.length - (j + 1), by omega, j + 1, rfl, rfl, by omega, fun s' hs' => ?_, hS⟩
        rw [List.take_add_one, hs] at hs'
        rcases List.mem_append.1 hs' with h | h
        · exact hno2 s' h
        · simp at h; subst h; omega
    · obtain rfl : j = x.ns.length := by omega
      rw [List.take_length] at hno2
      refine wp_exit ?_; refine seq_exit ?_; refine iter_exit ?_; refine block_exit ?_; refine block_normal ?_; refine seq_normal ?_; refine wp_region ?_; refine wpO_cons ?_; refine op1_add rfl rfl rfl (by exact wrap_i64 (by omega) (by omega)) ?_; refine zw1 ?_; refine wpO_nil ?_
      refine ⟨xs.length - (i + 1), by omega, i + 1, rfl, rfl, by omega, fun y hy => ?_, hS⟩
      rw [List.take_add_one, hx] at hy
      rcases List.mem_append.1 hy with h | h
      · exact hno y h
      · simp at h; subst h; exact ⟨by omega, by omega, hno2⟩
  · obtain rfl : i = xs.length := by omega
    rw [List.take_length] at hno
    refine wp_exit ?_; refine seq_exit ?_; refine iter_exit ?_; refine block_exit ?_; refine seq_normal ?_; refine zsr ?_; refine zw1 ?_; refine wpO_cons ?_; refine op1_len rfl rfl ?_; refine wpO_cons ?_; refine op1_leq rfl rfl rfl ?_; refine zw1 ?_; refine zns ?_; refine wp_ret ?_; refine ret_of ?_; refine rk_tmp (by (conv => lhs; whnf) <;> rfl) ?_; refine rk_nil ?_
    exact ⟨⟨_, rfl, fun h => ⟨by have := of_decide_eq_true h; omega, hno⟩⟩, hS⟩
end Go.E.Fa
