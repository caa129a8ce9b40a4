/- The reference's Alloc. -/
import Derived.Test.YtlkgacbholklkaaFaGf
namespace Go.E.Fa
open Go Go.E Go.Proofs.Ytlkgacbholklkaa Go.Proofs
set_option linter.unusedVariables false
set_option linter.unusedSimpArgs false
set_option maxRecDepth 100000
theorem cntR_le {fr : Nat → Bool} : ∀ {ps : List Pl} {n : Nat}, (∀ p ∈ ps, plE p - plF p ≤ 4096) → ps.length ≤ n → cntR fr ps ≤ 4096 * n
  | [], _, _, _ => by simp [cntR]
  | p :: ps, n + 1, h, hn => by
    have h1 := cntR_le (fr := fr) (ps := ps) (n := n) (fun q hq => h q (by simp [hq])) (by simpa using hn)
    have h2 := freeL_len fr (plF p) (plE p)
    have h3 := h p (by simp)
    have e : cntR fr (p :: ps) = (flR fr p).length + cntR fr ps := by simp [cntR]
    rw [e]
    unfold flR
    omega
theorem runR_cons (fr : Nat → Bool) (cn an : Nat) (top : Bool) (p : Pl) (ps : List Pl) : runR fr cn an top (p :: ps) = if 0 ≤ atR fr cn an top p then consec (atR fr cn an top p) cn else runR fr cn an top ps := rfl
theorem i64s_snoc (l : List Int) (x : Int) : i64s l ++ [Value.int .i64 x] = i64s (l ++ [x]) := by rw [i64s_append]; rfl
theorem L38 {B H : AHeap} {As : List Asn} {q : Nat} {R : RT} {a : Option Addr} {c : Nat} {ns : List ByteArray} {r : List Nat} {cnt al : Int} {cg top : Bool} (hR : RtOk R) (hP : PgOk R) (hns : ns.length ≤ 1000) 
    (hr : RdS B 1 (.slice a ns.length c) (ns.map enS) r) (hlt : ∀ b ∈ r, b < B.next) (hS : S B H (repR q R :: As)) :
    wpF C 38 [ptrV q, .agg ⟨reqC (.slice a ns.length c) cnt al cg top⟩] H fun v H' => ∃ v0, v = .tuple ⟨[v0, .int .i64 (allocQ R cnt al cg top ns).1]⟩ ∧
      S B H' (sl 1 v0 (i64s (allocQ R cnt al cg top ns).2.1) :: repR q (allocQ R cnt al cg top ns).2.2 :: As) := by
  refine wpF_ofW o38 rfl rfl ?_
  unfold ptrV reqC
  refine zsr ?_; refine wpO_cons ?_; refine op1_boxNS rfl rfl rfl hS ?_; intro p1 H1 hS; refine zw1 ?_; refine zw1 ?_; refine zns ?_; refine wp_seq ?_; refine zsr ?_; refine wpO_cons ?_; refine op1_faddr0 rfl rfl ?_; refine wpO_cons ?_; refine op1_load rfl rfl (by exact S.g0 hS) rfl ?_; refine wpO_cons ?_; refine op1_lss rfl rfl rfl ?_; refine zw1 ?_; refine wpO_cons ?_
  refine op1_dec rfl (fun h1 => ?_) (fun h1 => ?_)
  · have e : allocQ R cnt al cg top ns = (34, [], R) := by unfold allocQ; rw [if_pos (.inl h1)]
    rw [e]
    refine op1_skip rfl ?_; refine wpO_cons ?_; refine op1_skip rfl ?_; refine wpO_cons ?_; refine op1_skip rfl ?_; refine wpO_cons ?_; refine op1_pick_t rfl rfl (by (conv => lhs; whnf) <;> rfl) ?_; refine zns ?_; refine wp_true rfl ?_; refine zsr ?_; refine zw1 ?_; refine zw1 ?_; refine zns ?_; refine wp_ret ?_; refine seq_ret ?_; refine ret_of ?_; refine rk_tmp (by (conv => lhs; whnf) <;> rfl) ?_; refine rk_tmp (by (conv => lhs; whnf) <;> rfl) ?_; refine rk_nil ?_
    exact ⟨_, rfl, (S.drop hS).slNil⟩
  refine op1_faddr0 rfl rfl ?_; refine wpO_cons ?_; refine op1_load rfl rfl (by exact S.g0 hS) rfl ?_; refine wpO_cons ?_; refine op1_gtr rfl rfl rfl ?_; refine wpO_cons ?_; refine op1_pick_f rfl rfl (by (conv => lhs; whnf) <;> rfl) ?_; refine zns ?_
  refine wp_dec rfl (fun h2 => ?_) (fun h2 => ?_)
  · have e : allocQ R cnt al cg top ns = (34, [], R) := by unfold allocQ; rw [if_pos (.inr h2)]
    rw [e]
    refine zsr ?_; refine zw1 ?_; refine zw1 ?_; refine zns ?_; refine wp_ret ?_; refine seq_ret ?_; refine ret_of ?_; refine rk_tmp (by (conv => lhs; whnf) <;> rfl) ?_; refine rk_tmp (by (conv => lhs; whnf) <;> rfl) ?_; refine rk_nil ?_
    exact ⟨_, rfl, (S.drop hS).slNil⟩
  refine wp_skip ?_; refine seq_normal ?_; refine wp_seq ?_
  refine wp_cut [40] (fun vs H' => vs = [.bool (decide (isPow al = false ∨ (cg = false ∧ al ≠ 1)))] ∧ H1 = H') ?_ ?_
  · refine wp_region ?_; refine wpO_cons ?_; refine op1_faddr0 rfl rfl ?_; refine wpO_cons ?_; refine op1_load rfl rfl (by exact S.g0 hS) rfl ?_; refine wpO_cons ?_; refine op1_call1 rfl (by (conv => lhs; whnf) <;> rfl) ?_
    refine wpF_mono L50 ?_
    rintro _ H2 ⟨rfl, rfl⟩
    refine wpO_cons ?_; refine op1_not rfl rfl ?_; refine zw1 ?_; refine wpO_cons ?_
    cases hip : isPow al
    · refine op1_skip rfl ?_; refine wpO_cons ?_; refine op1_skip rfl ?_; refine wpO_cons ?_; refine op1_skip rfl ?_; refine wpO_cons ?_; refine op1_skip rfl ?_; refine wpO_cons ?_; refine op1_skip rfl ?_; refine wpO_cons ?_; refine op1_skip rfl ?_; refine wpO_cons ?_; refine op1_skip rfl ?_; refine wpO_cons ?_; refine op1_skip rfl ?_; refine wpO_cons ?_; refine op1_pick_t rfl rfl (by (conv => lhs; whnf) <;> rfl) ?_; refine wpO_nil ?_; refine cut1 (by (conv => lhs; whnf) <;> rfl) ?_
      exact ⟨bool_leaf ⟨fun _ => .inl rfl, fun _ => rfl⟩, rfl⟩
    · refine op1_faddr0 rfl rfl ?_; refine wpO_cons ?_; refine op1_load rfl rfl (by exact S.g0 hS) rfl ?_; refine wpO_cons ?_; refine op1_not rfl rfl ?_; refine zw1 ?_; refine wpO_cons ?_
      cases cg
      · refine op1_faddr0 rfl rfl ?_; refine wpO_cons ?_; refine op1_load rfl rfl (by exact S.g0 hS) rfl ?_; refine wpO_cons ?_; refine op1_neqI rfl rfl rfl ?_; refine wpO_cons ?_; refine op1_pick_t rfl rfl (by (conv => lhs; whnf) <;> rfl) ?_; refine wpO_cons ?_; refine op1_pick_f rfl rfl (by (conv => lhs; whnf) <;> rfl) ?_; refine wpO_nil ?_; refine cut1 (by (conv => lhs; whnf) <;> rfl) ?_
        exact ⟨bool_leaf (by simp), rfl⟩
      · refine op1_skip rfl ?_; refine wpO_cons ?_; refine op1_skip rfl ?_; refine wpO_cons ?_; refine op1_skip rfl ?_; refine wpO_cons ?_; refine op1_pick_f rfl rfl (by (conv => lhs; whnf) <;> rfl) ?_; refine wpO_cons ?_; refine op1_pick_f rfl rfl (by (conv => lhs; whnf) <;> rfl) ?_; refine wpO_nil ?_; refine cut1 (by (conv => lhs; whnf) <;> rfl) ?_
        exact ⟨bool_leaf (by simp), rfl⟩
  rintro vs2 T2 H2 ⟨rfl, rfl⟩
  refine wp_dec rfl (fun h3 => ?_) (fun h3 => ?_)
  · have e : allocQ R cnt al cg top ns = (14, [], R) := by unfold allocQ; rw [if_neg (by omega), if_pos h3]
    rw [e]
    refine zsr ?_; refine zw1 ?_; refine zw1 ?_; refine zns ?_; refine wp_ret ?_; refine seq_ret ?_; refine ret_of ?_; refine rk_tmp (by (conv => lhs; whnf) <;> rfl) ?_; refine rk_tmp (by (conv => lhs; whnf) <;> rfl) ?_; refine rk_nil ?_
    exact ⟨_, rfl, (S.drop hS).slNil⟩
  refine wp_skip ?_; refine seq_normal ?_; refine wp_seq ?_; refine zsr ?_; refine zw1 ?_; refine wpO_cons ?_; refine op1_faddr0 rfl rfl ?_; refine wpO_cons ?_; refine op1_load rfl rfl (by exact S.g0 hS) rfl ?_; refine wpO_cons ?_; refine op1_call2 rfl (by (conv => lhs; whnf) <;> rfl) (by (conv => lhs; whnf) <;> rfl) ?_
  refine wpF_mono (L51 hR.l hns hr hlt (S.up1 hS)) ?_
  rintro _ H3 ⟨rfl, hS⟩
  obtain ⟨er, her⟩ : ∃ z, z = namesE R.pls ns := ⟨_, rfl⟩
  rw [← her]
  refine zw1 ?_; refine zns ?_; refine zsr ?_; refine zw1 ?_; refine wpO_cons ?_; refine op1_neqI rfl rfl rfl ?_; refine zns ?_
  refine wp_ndec rfl (fun he => ?_) (fun he => ?_)
  · have e : allocQ R cnt al cg top ns = (er, [], R) := by unfold allocQ; rw [if_neg (by omega), if_neg h3, ← her, if_pos he]
    rw [e]
    refine zsr ?_; refine zw1 ?_; refine zw1 ?_; refine zw1 ?_; refine zns ?_; refine wp_ret ?_; refine seq_ret ?_; refine ret_of ?_; refine rk_tmp (by (conv => lhs; whnf) <;> rfl) ?_; refine rk_tmp (by (conv => lhs; whnf) <;> rfl) ?_; refine rk_nil ?_
    exact ⟨_, rfl, (S.drop (S.up1 hS)).slNil⟩
  have he0 : namesE R.pls ns = 0 := by rw [← her]; omega
  obtain ⟨hn16, hnok, hnd⟩ := names_ok he0
  have hRl := hR.l
  obtain ⟨ps, hps⟩ : ∃ z, z = askedP R.pls ns := ⟨_, rfl⟩
  have hpm : ∀ p ∈ ps, p ∈ R.pls := fun p hp => asked_mem hnok (hps ▸ hp)
  have hpl : ps.length ≤ 2000 := by have := asked_len (pls := R.pls) (ns := ns); rw [← hps] at this; omega
  obtain ⟨cn, rfl⟩ : ∃ n : Nat, cnt = n := ⟨cnt.toNat, by omega⟩
  cases cg
  · have eR : allocQ R cn al false top ns = if (cntR (frR R) ps : Int) < cn then (23, [], R) else (0, (singR cn top ps R []).2, (singR cn top ps R []).1) := by
      unfold allocQ; rw [if_neg (by omega), if_neg h3, if_neg (by omega), if_neg (by simp), ← hps, Int.toNat_natCast]
    rw [eR]
    refine wp_skip ?_; refine seq_normal ?_; refine zsr ?_; refine zw1 ?_; refine zns ?_; refine wp_seq ?_; refine zsr ?_; refine wpO_cons ?_; refine op1_faddr0 rfl rfl ?_; refine wpO_cons ?_; refine op1_load rfl rfl (by exact S.g1 hS) rfl ?_; refine zns ?_; refine wp_false rfl ?_; refine wp_skip ?_; refine seq_normal ?_; refine zsr ?_; refine zw1 ?_; refine zns ?_; refine wp_seq ?_; refine zsr ?_; refine zw1 ?_; refine wpO_cons ?_; refine op1_load_5 rfl rfl (by exact S.g1 hS) rfl rfl ?_; refine wpO_cons ?_; refine op1_call2 rfl (by (conv => lhs; whnf) <;> rfl) (by (conv => lhs; whnf) <;> rfl) ?_
    refine wpF_mono (L52 hR.l hns hnok hr hlt hS) ?_
    rw [← hps]
    intro v1 H4 hS
    obtain ⟨ap, lp, cp, rfl, hlp⟩ := S.shape hS
    rw [plC_flen] at hlp
    obtain rfl : lp = ps.length := by omega
    refine wpO_cons ?_; refine op1_len rfl rfl ?_; refine zw1 ?_; refine zns ?_; refine wp_block ?_
    refine wp_loop [12, 91] (fun k vs H' => ∃ i : Nat, vs = [.int .i64 (cntR (frR R) (ps.take i)), .int .i64 i] ∧ k = ps.length - i ∧ i ≤ ps.length ∧ S B H' (sl 5 (.slice ap ps.length cp) (ps.flatMap plC) :: repR q R :: pto p1 (.cells [.slice a ns.length c, .int .i64 cn, .int .i64 al, .bool false, .bool top] 0 false) :: As)) ⟨_, 0, rfl, rfl, by omega, hS⟩ ?_
    clear hS
    rintro k vs T' H5 ⟨i, rfl, rfl, hi, hS⟩
    have hcb : cntR (frR R) (ps.take i) ≤ 4096 * 2000 := cntR_le (fun p hp => by have := hR.po p (hpm p (List.mem_of_mem_take hp)); unfold plE plF; omega) (by rw [List.length_take]; omega)
    refine zsr ?_; refine wpO_cons ?_; refine op1_lss rfl rfl rfl ?_; refine zns ?_; refine wp_seq ?_
    refine wp_dec rfl (fun hlt2 => ?_) (fun hlt2 => ?_)
    · obtain ⟨p, hp⟩ : ∃ p, ps[i]? = some p := ⟨ps[i]'(by omega), by simp⟩
      have hpp := hR.po p (hpm p (List.mem_of_getElem? hp))
      have htk : ps.take (i + 1) = ps.take i ++ [p] := by rw [List.take_add_one, hp]; rfl
      have hfl : flR (frR R) p = freeL (frR R) (plF p) (plE p) := rfl
      obtain ⟨pv, rv, bv, hO⟩ := openR (S.up1 hS)
      obtain ⟨ar, cr, rfl⟩ := (S.up2 hO).i1
      rw [hR.len] at hO
      obtain ⟨rb, ro, rcs, rfl, _⟩ := S.slBlk (S.up2 hO) (by omega)
      obtain ⟨pb, po, cs, rfl, _⟩ := S.slBlk (S.up4 hO) (by omega)
      clear hS
      have hS := hO
      clear hO
      refine wp_skip ?_; refine seq_normal ?_; refine wp_seq ?_; refine wp_block ?_; refine zsr ?_; refine wpO_cons ?_; refine op1_iaddr rfl rfl rfl (by omega) (by omega) ?_; refine wpO_cons ?_; refine op1_loadNL rfl rfl (S.up4 hS) rfl rfl (by omega) rfl ?_; refine wpO_cons ?_; refine op1_allocS rfl hS ?_; intro p2 H2 hS; refine wpO_cons ?_
      rw [show (i : Int).toNat = i from rfl, flatMap_cut plC_len hp]
      obtain ⟨nm, fi, ct, ge, ke⟩ := p
      simp only at hpp
      obtain ⟨F, rfl⟩ : ∃ F : Nat, fi = F := ⟨fi.toNat, by omega⟩
      obtain ⟨E, hE⟩ : ∃ E : Nat, (F : Int) + ct = E := ⟨((F : Int) + ct).toNat, by omega⟩
      have ePF : plF ⟨nm, (F : Int), ct, ge, ke⟩ = F := by unfold plF; simp
      have ePE : plE ⟨nm, (F : Int), ct, ge, ke⟩ = E := by unfold plE; simp only; omega
      rw [ePF, ePE] at hfl
      rw [show plC ⟨nm, (F : Int), ct, ge, ke⟩ = [.string nm, .int .i64 F, .int .i64 ct, .bool ge, .bool ke] from rfl]
      (refine op1_storeNS rfl rfl (by (conv => lhs; whnf) <;> rfl) rfl rfl (S.up0 hS) (Nat.le_of_ble_eq_true rfl) ?_; intro H6 hS; replace hS := S.dn0 hS); refine zns ?_; refine zsr ?_; refine wpO_cons ?_; refine op1_faddr0 rfl rfl ?_; refine wpO_cons ?_; refine op1_load rfl rfl (by exact S.g0 hS) rfl ?_; refine zw1 ?_; refine zns ?_; refine wp_block ?_
      refine wp_loop [12, 15] (fun k vs H' => ∃ f : Nat, vs = [.int .i64 ((cntR (frR R) (ps.take i) + (freeL (frR R) F f).length : Nat)), .int .i64 f] ∧ k = E - f ∧ F ≤ f ∧ f ≤ E ∧
        S B H' (pto p2 (.cells [.string nm, .int .i64 F, .int .i64 ct, .bool ge, .bool ke] 0 false) :: pto q (.cells [pv, .slice (some ⟨rb, ro, none⟩) 4096 cr, bv] 0 false) :: sl 5 pv (R.pls.flatMap plC) :: sl 1 (.slice (some ⟨rb, ro, none⟩) 4096 cr) (i64s R.refs) :: sl 64 bv (R.pgs.flatMap u8s) :: sl 5 (.slice (some ⟨pb, po, none⟩) ps.length cp) (ps.flatMap plC) :: pto p1 (.cells [.slice a ns.length c, .int .i64 cn, .int .i64 al, .bool false, .bool top] 0 false) :: As))
        ⟨_, F, by rw [show freeL (frR R) F F = [] by unfold freeL; rw [Nat.sub_self]; rfl]; rfl, rfl, by omega, by omega, hS⟩ ?_
      clear hS
      rintro k vs T2 H6 ⟨f, rfl, rfl, hf1, hf2, hS⟩
      have hfb := freeL_len (frR R) F f
      refine wp_seq ?_; refine zsr ?_; refine zw1 ?_; refine wpO_cons ?_; refine op1_faddr0 rfl rfl ?_; refine wpO_cons ?_; refine op1_load rfl rfl (by exact S.g0 hS) rfl ?_; refine wpO_cons ?_; refine op1_faddr0 rfl rfl ?_; refine wpO_cons ?_; refine op1_load rfl rfl (by exact S.g0 hS) rfl ?_; refine wpO_cons ?_; refine op1_add rfl rfl rfl (by exact wrap_i64 (by omega) (by omega)) ?_; refine wpO_cons ?_; refine op1_lss rfl rfl rfl ?_; refine zns ?_
      refine wp_dec rfl (fun hlt3 => ?_) (fun hlt3 => ?_)
      · obtain ⟨x, hx⟩ : ∃ x, R.refs[f]? = some x := ⟨R.refs[f]'(by have := hR.len; omega), by simp⟩
        have hxd : frR R f = decide (x = 0) := by unfold frR; rw [List.getD_eq_getElem?_getD, hx]; rfl
        have hsu := freeL_succ (fr := frR R) hf1
        refine wp_skip ?_; refine seq_normal ?_; refine wp_seq ?_; refine wp_block ?_; refine zsr ?_; refine zw1 ?_; refine wpO_cons ?_; refine op1_nilchk rfl rfl ?_; refine wpO_cons ?_; refine op1_faddr0 rfl rfl ?_; refine wpO_cons ?_; refine op1_load rfl rfl (by exact S.g1 hS) rfl ?_; refine zw1 ?_; refine wpO_cons ?_; refine op1_iaddr rfl rfl rfl (by omega) (by omega) ?_; refine wpO_cons ?_
        refine op1_loadL rfl rfl (S.up3 hS) rfl (by omega) (i64s_at hx) ?_
        refine wpO_cons ?_; refine op1_eqlI rfl rfl rfl ?_; refine zns ?_
        refine wp_dec rfl (fun hx0 => ?_) (fun hx0 => ?_)
        · rw [hxd, if_pos (decide_eq_true hx0)] at hsu
          have hsl : (freeL (frR R) F (f + 1)).length = (freeL (frR R) F f).length + 1 := by rw [hsu, List.length_append]; rfl
          refine wp_region ?_; refine zw1 ?_; refine wpO_cons ?_; refine op1_add rfl rfl rfl (by exact wrap_i64 (by omega) (by omega)) ?_; refine zw1 ?_; refine wpO_nil ?_; refine block_normal ?_; refine seq_normal ?_; refine wp_region ?_; refine zw1 ?_; refine wpO_cons ?_; refine op1_add rfl rfl rfl (by exact wrap_i64 (by omega) (by omega)) ?_; refine zw1 ?_; refine wpO_nil ?_
          exact ⟨E - (f + 1), by omega, f + 1, by rw [hsl]; rfl, rfl, by omega, by omega, hS⟩
        · rw [hxd, if_neg (by simpa using hx0), List.append_nil] at hsu
          refine wp_skip ?_; refine block_normal ?_; refine seq_normal ?_; refine wp_region ?_; refine zw1 ?_; refine wpO_cons ?_; refine op1_add rfl rfl rfl (by exact wrap_i64 (by omega) (by omega)) ?_; refine zw1 ?_; refine wpO_nil ?_
          exact ⟨E - (f + 1), by omega, f + 1, by rw [hsu]; rfl, rfl, by omega, by omega, hS⟩
      · obtain rfl : f = E := by omega
        refine wp_exit ?_; refine seq_exit ?_; refine iter_exit ?_; refine block_exit ?_; refine block_normal ?_; refine seq_normal ?_; refine wp_region ?_; refine wpO_cons ?_; refine op1_add rfl rfl rfl (by exact wrap_i64 (by omega) (by omega)) ?_; refine zw1 ?_; refine wpO_nil ?_
        refine ⟨ps.length - (i + 1), by omega, i + 1, ?_, rfl, by omega, S.dn1 (closeR (S.drop hS))⟩
        rw [htk, cntR_snoc, hfl]; rfl
    · obtain rfl : i = ps.length := by omega
      rw [List.take_length] at hcb ⊢
      refine wp_exit ?_; refine seq_exit ?_; refine iter_exit ?_; refine block_exit ?_; refine seq_normal ?_; refine wp_seq ?_; refine zsr ?_; refine zw1 ?_; refine wpO_cons ?_; refine op1_faddr0 rfl rfl ?_; refine wpO_cons ?_; refine op1_load rfl rfl (by exact S.g2 hS) rfl ?_; refine wpO_cons ?_; refine op1_lss rfl rfl rfl ?_; refine zns ?_
      refine wp_dec rfl (fun h5 => ?_) (fun h5 => ?_)
      · rw [if_pos (by omega)]
        refine zsr ?_; refine zw1 ?_; refine zw1 ?_; refine zns ?_; refine wp_ret ?_; refine seq_ret ?_; refine ret_of ?_; refine rk_tmp (by (conv => lhs; whnf) <;> rfl) ?_; refine rk_tmp (by (conv => lhs; whnf) <;> rfl) ?_; refine rk_nil ?_
        exact ⟨_, rfl, (S.drop (S.up1 (S.drop hS))).slNil⟩
      rw [if_neg (by omega)]
      replace hS := S.up1 (S.drop hS)
      refine wp_skip ?_; refine seq_normal ?_; refine wp_seq ?_; refine zsr ?_; refine zw1 ?_; refine wpO_cons ?_; refine op1_load_5 rfl rfl (by exact S.g0 hS) rfl rfl ?_; refine wpO_cons ?_; refine op1_call2 rfl (by (conv => lhs; whnf) <;> rfl) (by (conv => lhs; whnf) <;> rfl) ?_
      refine wpF_mono (L52 hR.l hns hnok hr hlt (S.up1 hS)) ?_
      rw [← hps]
      clear hS
      intro v2 H6 hS
      obtain ⟨ap2, lp2, cp2, rfl, hlp2⟩ := S.shape hS
      rw [plC_flen] at hlp2
      obtain rfl : lp2 = ps.length := by omega
      obtain ⟨R2, out2, hsing⟩ : ∃ R2 out2, singR cn top ps R [] = (R2, out2) := ⟨_, _, rfl⟩
      rw [hsing]
      simp only
      refine wpO_cons ?_; refine op1_len rfl rfl ?_; refine zw1 ?_; refine zns ?_; refine wp_block ?_
      refine wp_loop [7, 125] (fun k vs H' => ∃ (i : Nat) (Rc : RT) (out : List Int) (ao : Option Addr) (co : Nat), vs = [.slice ao out.length co, .int .i64 i] ∧ k = ps.length - i ∧ i ≤ ps.length ∧ out.length ≤ cn ∧ RtOk Rc ∧ PgOk Rc ∧ Rc.pls = R.pls ∧ singR cn top (ps.drop i) Rc out = (R2, out2) ∧
         S B H' (sl 1 (.slice ao out.length co) (i64s out) :: repR q Rc :: sl 5 (.slice ap2 ps.length cp2) (ps.flatMap plC) :: pto p1 (.cells [.slice a ns.length c, .int .i64 cn, .int .i64 al, .bool false, .bool top] 0 false) :: As)) ⟨_, 0, R, [], none, 0, rfl, rfl, by omega, by simp, hR, hP, rfl, hsing, (S.up1 hS).slNil⟩ ?_
      clear hS
      rintro k vs T' H7 ⟨i, Rc, out, ao, co, rfl, rfl, hi, hol, hRc, hPc, hpl2, hst, hS⟩
      refine zsr ?_; refine wpO_cons ?_; refine op1_lss rfl rfl rfl ?_; refine zns ?_; refine wp_seq ?_
      refine wp_dec rfl (fun hlt2 => ?_) (fun hlt2 => ?_)
      · obtain ⟨p, hp⟩ : ∃ p, ps[i]? = some p := ⟨ps[i]'(by omega), by simp⟩
        have hpR := hpm p (List.mem_of_getElem? hp)
        have hpp := hR.po p hpR
        have hdr : ps.drop i = p :: ps.drop (i + 1) := by
          rw [List.drop_eq_getElem_cons (by omega)]
          rw [List.getElem?_eq_getElem (by omega)] at hp
          rw [Option.some.inj hp]
        rw [hdr] at hst
        unfold singR at hst
        obtain ⟨Rz, hRz⟩ : ∃ z, z = takesR Rc ((ordR (frR Rc) top p).take (cn - out.length)) := ⟨_, rfl⟩
        obtain ⟨oz, hoz⟩ : ∃ z, z = out ++ (ordR (frR Rc) top p).take (cn - out.length) := ⟨_, rfl⟩
        rw [← hRz, ← hoz] at hst
        obtain ⟨F, hF⟩ : ∃ F : Nat, p.first = F := ⟨p.first.toNat, by omega⟩
        obtain ⟨E, hE⟩ : ∃ E : Nat, p.first + p.count = E := ⟨(p.first + p.count).toNat, by omega⟩
        have hin : ∀ m : Nat, F ≤ m → m < E → inR p m = true := fun m h1 h2 => by unfold inR; rw [decide_eq_true_eq]; omega
        obtain ⟨pb, po, cs, rfl, _⟩ := S.slBlk (S.up2 hS) (by omega)
        refine wp_skip ?_; refine seq_normal ?_; refine wp_seq ?_; refine wp_block ?_; refine zsr ?_; refine wpO_cons ?_; refine op1_iaddr rfl rfl rfl (by omega) (by omega) ?_; refine wpO_cons ?_; refine op1_loadNL rfl rfl (S.up2 hS) rfl rfl (by omega) rfl ?_; refine wpO_cons ?_; refine op1_allocS rfl hS ?_; intro p2 H2 hS; refine wpO_cons ?_
        rw [show (i : Int).toNat = i from rfl, flatMap_cut plC_len hp]
        obtain ⟨pz, hpz⟩ : ∃ z, z = p := ⟨_, rfl⟩
        obtain ⟨nm, fi, ct, ge, ke⟩ := p
        rw [show plC ⟨nm, fi, ct, ge, ke⟩ = [.string nm, .int .i64 fi, .int .i64 ct, .bool ge, .bool ke] from rfl]
        (refine op1_storeNS rfl rfl (by (conv => lhs; whnf) <;> rfl) rfl rfl (S.up0 hS) (Nat.le_of_ble_eq_true rfl) ?_; intro H8 hS; replace hS := S.dn0 hS); refine zns ?_; refine zsr ?_; refine zw1 ?_; refine wpO_cons ?_; refine op1_load_5 rfl rfl (by exact S.g0 hS) rfl rfl ?_; refine wpO_cons ?_; refine op1_faddr0 rfl rfl ?_; refine wpO_cons ?_; refine op1_load rfl rfl (by exact S.g4 hS) rfl ?_; refine wpO_cons ?_; refine op1_call3 rfl (by (conv => lhs; whnf) <;> rfl) (by (conv => lhs; whnf) <;> rfl) (by (conv => lhs; whnf) <;> rfl) ?_
        refine wpF_mono (L55 (p := ⟨nm, fi, ct, ge, ke⟩) hRc.len hF hE (by omega) (by omega) (S.up2 hS)) ?_
        clear hS
        rintro _ H9 ⟨w, rfl, hbest, hS⟩
        refine zw1 ?_; refine zns ?_; refine wp_block ?_
        rw [← hpz] at hRz hoz hin hpR
        have hFz : pz.first = F := by rw [hpz]; exact hF
        have hEz : pz.first + pz.count = E := by rw [hpz]; exact hE
        have hE4 : E ≤ 4096 := by omega
        have hFE : F ≤ E := by omega
        refine wp_loop [7, 18] (fun k vs H' => ∃ (w : Int) (Rd : RT) (o : List Int) (ao : Option Addr) (co : Nat), vs = [.slice ao o.length co, .int .i64 w] ∧ k = cn - o.length ∧ o.length ≤ cn ∧ RtOk Rd ∧ PgOk Rd ∧ Rd.pls = R.pls ∧ BestTo (frR Rd) E 1 1 F top E w ∧
            Rz = takesR Rd ((ordR (frR Rd) top pz).take (cn - o.length)) ∧ oz = o ++ (ordR (frR Rd) top pz).take (cn - o.length) ∧
            S B H' (sl 1 (.slice ao o.length co) (i64s o) :: repR q Rd :: pto p2 (.cells [.string nm, .int .i64 fi, .int .i64 ct, .bool ge, .bool ke] 0 false) :: sl 5 (.slice (some ⟨pb, po, none⟩) ps.length cp2) (ps.flatMap plC) :: pto p1 (.cells [.slice a ns.length c, .int .i64 cn, .int .i64 al, .bool false, .bool top] 0 false) :: As))
          ⟨_, w, Rc, out, ao, co, rfl, rfl, hol, hRc, hPc, hpl2, hbest, hRz, hoz, S.up2 hS⟩ ?_
        clear hS hRz hoz hol hRc hPc hpl2 hbest
        rintro k vs T2 H10 ⟨w, Rd, o, ao, co, rfl, rfl, hol, hRd, hPd, hpl2, hbest, hRz, hoz, hS⟩
        have hbo := best_ord (p := pz) hRd.len hFz hEz hE4 hFE hbest
        refine wp_seq ?_; refine zsr ?_; refine zw1 ?_; refine wpO_cons ?_; refine op1_geq rfl rfl rfl ?_; refine zw1 ?_; refine wpO_cons ?_
        refine op1_dec rfl (fun hw0 => ?_) (fun hw0 => ?_)
        · rcases hbo with ⟨hb1, _⟩ | ⟨m, r2, rfl, hm1, hm2, hord, hord2⟩
          · omega
          refine op1_mov rfl (by (conv => lhs; whnf) <;> rfl) ?_; refine wpO_cons ?_; refine op1_len rfl rfl ?_; refine wpO_cons ?_; refine op1_faddr0 rfl rfl ?_; refine wpO_cons ?_; refine op1_load rfl rfl (by exact S.g4 hS) rfl ?_; refine wpO_cons ?_; refine op1_lss rfl rfl rfl ?_; refine wpO_cons ?_; refine op1_pick_t rfl rfl (by (conv => lhs; whnf) <;> rfl) ?_; refine zns ?_
          refine wp_dec rfl (fun hlt3 => ?_) (fun hlt3 => ?_)
          · have htk : (ordR (frR Rd) top pz).take (cn - o.length) = (m : Int) :: r2.take (cn - (o ++ [(m : Int)]).length) := by
              rw [hord, show cn - o.length = (cn - (o ++ [(m : Int)]).length) + 1 by simp; omega, List.take_succ_cons]
            refine wp_skip ?_; refine seq_normal ?_; refine wp_seq ?_; refine wp_block ?_; refine zsr ?_; refine zw1 ?_; refine zw1 ?_; refine wpO_cons ?_; refine op1_call2 rfl (by (conv => lhs; whnf) <;> rfl) (by (conv => lhs; whnf) <;> rfl) ?_
            refine wpF_mono (L54 (R := Rd) hRd hPd (ofIx_is (hpl2 ▸ hpR) (hin m hm1 hm2)) (S.up1 hS)) ?_
            clear hS
            intro v9 H11 hS
            replace hS := S.up1 hS
            refine zns ?_; refine wp_region ?_; refine zw1 ?_; refine zw1 ?_; refine wpO_cons ?_; refine op1_bsliceS rfl hS ?_; refine bk_one (by (conv => lhs; whnf) <;> rfl) rfl rfl rfl ?_; refine bk_nil ?_; intro p3 H12 hS; refine wpO_cons ?_; (refine op1_appBS rfl rfl (by (conv => lhs; whnf) <;> rfl) rfl (S.g0 hS) rfl rfl (S.up1 hS) (by omega) ?_; intro a1 c1 H13 hS; replace hS := S.dn1 hS; replace hS := S.drop hS); refine zw1 ?_; refine wpO_nil ?_; refine block_normal ?_; refine seq_normal ?_; refine wp_region ?_; refine zw1 ?_; refine wpO_cons ?_; refine op1_load_5 rfl rfl (by exact S.g2 hS) rfl rfl ?_; refine wpO_cons ?_; refine op1_faddr0 rfl rfl ?_; refine wpO_cons ?_; refine op1_load rfl rfl (by exact S.g4 hS) rfl ?_; refine wpO_cons ?_; refine op1_call3 rfl (by (conv => lhs; whnf) <;> rfl) (by (conv => lhs; whnf) <;> rfl) (by (conv => lhs; whnf) <;> rfl) ?_
            refine wpF_mono (L55 (p := ⟨nm, fi, ct, ge, ke⟩) (takeR_ok hRd).len hF hE hE4 hFE (S.up1 hS)) ?_
            clear hS
            rintro _ H14 ⟨w2, rfl, hbest2, hS⟩
            refine zw1 ?_; refine wpO_nil ?_
            refine ⟨cn - (o ++ [(m : Int)]).length, by simp; omega, w2, takeR Rd m, o ++ [(m : Int)], a1, c1, by rw [List.length_append]; rfl, rfl, by simp; omega, takeR_ok hRd, takeR_pg hPd, by rw [takeR_pls]; exact hpl2, hbest2, ?_, ?_, ?_⟩
            · rw [hRz, htk, hord2]; rfl
            · rw [hoz, htk, hord2, List.append_assoc]; rfl
            · rw [List.length_append, ← i64s_snoc]; exact S.up1 hS
          · rw [show cn - o.length = 0 by omega, List.take_zero, List.append_nil] at hoz
            rw [show cn - o.length = 0 by omega, List.take_zero] at hRz
            subst hoz hRz
            refine wp_exit ?_; refine seq_exit ?_; refine iter_exit ?_; refine block_exit ?_; refine block_normal ?_; refine seq_normal ?_; refine wp_region ?_; refine wpO_cons ?_; refine op1_add rfl rfl rfl (by exact wrap_i64 (by omega) (by omega)) ?_; refine zw1 ?_; refine wpO_nil ?_
            exact ⟨ps.length - (i + 1), by omega, i + 1, _, _, ao, co, rfl, rfl, by omega, hol, hRd, hPd, hpl2, hst, S.drop (S.up2 hS)⟩
        · rcases hbo with ⟨hb1, hor⟩ | ⟨m, r2, rfl, _⟩
          · rw [hor, List.take_nil, List.append_nil] at hoz
            rw [hor, List.take_nil] at hRz
            subst hoz hRz
            refine op1_skip rfl ?_; refine wpO_cons ?_; refine op1_skip rfl ?_; refine wpO_cons ?_; refine op1_skip rfl ?_; refine wpO_cons ?_; refine op1_skip rfl ?_; refine wpO_cons ?_; refine op1_skip rfl ?_; refine wpO_cons ?_; refine op1_pick_f rfl rfl (by (conv => lhs; whnf) <;> rfl) ?_; refine zns ?_; refine wp_false rfl ?_; refine wp_exit ?_; refine seq_exit ?_; refine iter_exit ?_; refine block_exit ?_; refine block_normal ?_; refine seq_normal ?_; refine wp_region ?_; refine wpO_cons ?_; refine op1_add rfl rfl rfl (by exact wrap_i64 (by omega) (by omega)) ?_; refine zw1 ?_; refine wpO_nil ?_
            exact ⟨ps.length - (i + 1), by omega, i + 1, _, _, ao, co, rfl, rfl, by omega, hol, hRd, hPd, hpl2, hst, S.drop (S.up2 hS)⟩
          · omega
      · obtain rfl : i = ps.length := by omega
        rw [List.drop_length] at hst
        unfold singR at hst
        cases hst
        refine wp_exit ?_; refine seq_exit ?_; refine iter_exit ?_; refine block_exit ?_; refine seq_normal ?_; refine zsr ?_; refine zw1 ?_; refine zw1 ?_; refine zw1 ?_; refine zns ?_; refine wp_ret ?_; refine ret_of ?_; refine rk_tmp (by (conv => lhs; whnf) <;> rfl) ?_; refine rk_tmp (by (conv => lhs; whnf) <;> rfl) ?_; refine rk_nil ?_
        exact ⟨_, rfl, S.drop (S.up2 (S.drop (S.up2 hS)))⟩
  · have hip : isPow al = true := by
      cases h : isPow al
      · exact absurd (.inl h) h3
      · rfl
    have hal : 1 ≤ al ∧ al ≤ 4096 := by
      rw [isPow_eq] at hip
      simp at hip
      omega
    obtain ⟨an, rfl⟩ : ∃ n : Nat, al = n := ⟨al.toNat, by omega⟩
    have eR : allocQ R cn an true top ns = if runR (frR R) cn an top ps = [] then (23, [], R) else (0, runR (frR R) cn an top ps, takesR R (runR (frR R) cn an top ps)) := by
      unfold allocQ; rw [if_neg (by omega), if_neg h3, if_neg (by omega), if_pos rfl, ← hps, Int.toNat_natCast, Int.toNat_natCast]
    rw [eR]
    refine wp_skip ?_; refine seq_normal ?_; refine zsr ?_; refine zw1 ?_; refine zns ?_; refine wp_seq ?_; refine zsr ?_; refine wpO_cons ?_; refine op1_faddr0 rfl rfl ?_; refine wpO_cons ?_; refine op1_load rfl rfl (by exact S.g1 hS) rfl ?_; refine zns ?_; refine wp_true rfl ?_; refine wp_seq ?_; refine zsr ?_; refine zw1 ?_; refine wpO_cons ?_; refine op1_load_5 rfl rfl (by exact S.g1 hS) rfl rfl ?_; refine wpO_cons ?_; refine op1_call2 rfl (by (conv => lhs; whnf) <;> rfl) (by (conv => lhs; whnf) <;> rfl) ?_
    refine wpF_mono (L52 hR.l hns hnok hr hlt hS) ?_
    rw [← hps]
    intro v1 H4 hS
    obtain ⟨ap, lp, cp, rfl, hlp⟩ := S.shape hS
    rw [plC_flen] at hlp
    obtain rfl : lp = ps.length := by omega
    refine wpO_cons ?_; refine op1_len rfl rfl ?_; refine zw1 ?_; refine zns ?_; refine wp_block ?_
    refine wp_loop [7, 54] (fun k vs H' => ∃ i : Nat, vs = [.slice none 0 0, .int .i64 i] ∧ k = ps.length - i ∧ i ≤ ps.length ∧ runR (frR R) cn an top (ps.drop i) = runR (frR R) cn an top ps ∧
       S B H' (repR q R :: sl 5 (.slice ap ps.length cp) (ps.flatMap plC) :: pto p1 (.cells [.slice a ns.length c, .int .i64 cn, .int .i64 an, .bool true, .bool top] 0 false) :: As)) ⟨_, 0, rfl, rfl, by omega, rfl, S.up1 hS⟩ ?_
    clear hS
    rintro k vs T' H5 ⟨i, rfl, rfl, hi, hst, hS⟩
    refine zsr ?_; refine wpO_cons ?_; refine op1_lss rfl rfl rfl ?_; refine zns ?_; refine wp_seq ?_
    refine wp_dec rfl (fun hlt2 => ?_) (fun hlt2 => ?_)
    · obtain ⟨p, hp⟩ : ∃ p, ps[i]? = some p := ⟨ps[i]'(by omega), by simp⟩
      have hpR := hpm p (List.mem_of_getElem? hp)
      have hpp := hR.po p hpR
      have hdr : ps.drop i = p :: ps.drop (i + 1) := by
        rw [List.drop_eq_getElem_cons (by omega)]
        rw [List.getElem?_eq_getElem (by omega)] at hp
        rw [Option.some.inj hp]
      rw [hdr] at hst
      rw [runR_cons] at hst
      obtain ⟨F, hF⟩ : ∃ F : Nat, p.first = F := ⟨p.first.toNat, by omega⟩
      obtain ⟨E, hE⟩ : ∃ E : Nat, p.first + p.count = E := ⟨(p.first + p.count).toNat, by omega⟩
      have hin : ∀ m : Nat, F ≤ m → m < E → inR p m = true := fun m h1 h2 => by unfold inR; rw [decide_eq_true_eq]; omega
      have hat : atR (frR R) cn an top p = atOf cn an top (runsAt (frR R) E F) := by
        unfold atR plE plF
        rw [show p.first.toNat = F by omega, show (p.first + p.count).toNat = E by omega]
      obtain ⟨pb, po, cs, rfl, _⟩ := S.slBlk (S.up1 hS) (by omega)
      refine wp_skip ?_; refine seq_normal ?_; refine wp_seq ?_; refine wp_block ?_; refine zsr ?_; refine wpO_cons ?_; refine op1_iaddr rfl rfl rfl (by omega) (by omega) ?_; refine wpO_cons ?_; refine op1_loadNL rfl rfl (S.up1 hS) rfl rfl (by omega) rfl ?_; refine wpO_cons ?_; refine op1_allocS rfl hS ?_; intro p2 H2 hS; refine wpO_cons ?_
      rw [show (i : Int).toNat = i from rfl, flatMap_cut plC_len hp]
      have hE4 : E ≤ 4096 := by omega
      have hFE : F ≤ E := by omega
      obtain ⟨pz, hpz⟩ : ∃ z, z = p := ⟨_, rfl⟩
      obtain ⟨nm, fi, ct, ge, ke⟩ := p
      rw [show plC ⟨nm, fi, ct, ge, ke⟩ = [.string nm, .int .i64 fi, .int .i64 ct, .bool ge, .bool ke] from rfl]
      (refine op1_storeNS rfl rfl (by (conv => lhs; whnf) <;> rfl) rfl rfl (S.up0 hS) (Nat.le_of_ble_eq_true rfl) ?_; intro H6 hS; replace hS := S.dn0 hS); refine zns ?_; refine zsr ?_; refine zw1 ?_; refine wpO_cons ?_; refine op1_load_5 rfl rfl (by exact S.g0 hS) rfl rfl ?_; refine wpO_cons ?_; refine op1_faddr0 rfl rfl ?_; refine wpO_cons ?_; refine op1_load rfl rfl (by exact S.g3 hS) rfl ?_; refine wpO_cons ?_; refine op1_faddr0 rfl rfl ?_; refine wpO_cons ?_; refine op1_load rfl rfl (by exact S.g3 hS) rfl ?_; refine wpO_cons ?_; refine op1_faddr0 rfl rfl ?_; refine wpO_cons ?_; refine op1_load rfl rfl (by exact S.g3 hS) rfl ?_; refine wpO_cons ?_; refine op1_call5 rfl (by (conv => lhs; whnf) <;> rfl) (by (conv => lhs; whnf) <;> rfl) (by (conv => lhs; whnf) <;> rfl) (by (conv => lhs; whnf) <;> rfl) (by (conv => lhs; whnf) <;> rfl) ?_
      refine wpF_mono (L53 (p := ⟨nm, fi, ct, ge, ke⟩) (cnt := cn) (al := an) hR.len hF hE hE4 hFE (by omega) (by omega) (S.up1 hS)) ?_
      rw [← hpz] at hst hin hpR hat
      clear hS
      rintro _ H9 ⟨w, rfl, hbest, hS⟩
      have hw := best_runs (by omega) (by omega) hFE hbest
      rw [← hat] at hw
      rw [← hw] at hst
      refine zw1 ?_; refine zns ?_; refine zsr ?_; refine zw1 ?_; refine wpO_cons ?_; refine op1_geq rfl rfl rfl ?_; refine zns ?_
      refine wp_dec rfl (fun hw0 => ?_) (fun hw0 => ?_)
      · rw [if_pos hw0] at hst
        have hne : runR (frR R) cn an top ps ≠ [] := by
          rw [← hst]
          intro h
          have := congrArg List.length h
          rw [consec_len] at this
          simp at this
          omega
        rw [if_neg hne, ← hst]
        rcases hbest with ⟨hb1, _⟩ | ⟨m, hm, hm1, hm2, hm3, hm4, _⟩
        · omega
        subst hm
        have hmE := hm4.1
        refine wp_seq ?_; refine zsr ?_; refine zw1 ?_; refine zw1 ?_; refine zns ?_; refine wp_block ?_
        refine wp_loop [7, 11] (fun k vs H' => ∃ (j : Nat) (ao : Option Addr) (co : Nat), vs = [.slice ao j co, .int .i64 ((m + j : Nat))] ∧ k = cn - j ∧ j ≤ cn ∧
          S B H' (sl 1 (.slice ao j co) (i64s (consec m j)) :: repR q (takesR R (consec m j)) :: pto p2 (.cells [.string nm, .int .i64 fi, .int .i64 ct, .bool ge, .bool ke] 0 false) :: sl 5 (.slice (some ⟨pb, po, none⟩) ps.length cp) (ps.flatMap plC) :: pto p1 (.cells [.slice a ns.length c, .int .i64 cn, .int .i64 an, .bool true, .bool top] 0 false) :: As))
          ⟨_, 0, none, 0, rfl, rfl, by omega, hS.slNil⟩ ?_
        clear hS
        rintro k vs T2 H10 ⟨j, ao, co, rfl, rfl, hj, hS⟩
        refine wp_seq ?_; refine zsr ?_; refine zw1 ?_; refine zw1 ?_; refine wpO_cons ?_; refine op1_faddr0 rfl rfl ?_; refine wpO_cons ?_; refine op1_load rfl rfl (by exact S.g4 hS) rfl ?_; refine wpO_cons ?_; refine op1_add rfl rfl rfl (by exact wrap_i64 (by omega) (by omega)) ?_; refine wpO_cons ?_; refine op1_lss rfl rfl rfl ?_; refine zns ?_
        refine wp_dec rfl (fun hlt3 => ?_) (fun hlt3 => ?_)
        · have hcl := consec_len (m : Int) j
          refine wp_skip ?_; refine seq_normal ?_; refine wp_seq ?_; refine wp_block ?_; refine zsr ?_; refine zw1 ?_; refine zw1 ?_; refine wpO_cons ?_; refine op1_call2 rfl (by (conv => lhs; whnf) <;> rfl) (by (conv => lhs; whnf) <;> rfl) ?_
          refine wpF_mono (L54 (R := takesR R (consec m j)) (n := m + j) (takesR_ok _ hR) (takesR_pg _ hP) (ofIx_is (by rw [takesR_pls]; exact hpR) (hin _ (by omega) (by omega))) (S.up1 hS)) ?_
          clear hS
          intro v9 H11 hS
          replace hS := S.up1 hS
          refine zns ?_; refine wp_region ?_; refine zw1 ?_; refine zw1 ?_; refine wpO_cons ?_; refine op1_bsliceS rfl hS ?_; refine bk_one (by (conv => lhs; whnf) <;> rfl) rfl rfl rfl ?_; refine bk_nil ?_; intro p3 H7 hS; refine wpO_cons ?_; (refine op1_appBS rfl rfl (by (conv => lhs; whnf) <;> rfl) rfl (S.g0 hS) rfl rfl (S.up1 hS) (by omega) ?_; intro a1 c1 H8 hS; replace hS := S.dn1 hS; replace hS := S.drop hS); refine zw1 ?_; refine wpO_nil ?_; refine block_normal ?_; refine seq_normal ?_; refine wp_region ?_; refine zw1 ?_; refine wpO_cons ?_; refine op1_add rfl rfl rfl (by exact wrap_i64 (by omega) (by omega)) ?_; refine zw1 ?_; refine wpO_nil ?_
          have ec : consec (m : Int) (j + 1) = consec m j ++ [((m + j : Nat) : Int)] := by rw [consec_succ]; rfl
          refine ⟨cn - (j + 1), by omega, j + 1, a1, c1, rfl, rfl, by omega, ?_⟩
          rw [ec, ← i64s_snoc, takesR_snoc]
          exact hS
        · obtain rfl : j = cn := by omega
          refine wp_exit ?_; refine seq_exit ?_; refine iter_exit ?_; refine block_exit ?_; refine seq_normal ?_; refine zsr ?_; refine zw1 ?_; refine zw1 ?_; refine zw1 ?_; refine zns ?_; refine wp_ret ?_; refine block_ret ?_; refine seq_ret ?_; refine iter_ret ?_; refine block_ret ?_; refine seq_ret ?_; refine seq_ret ?_; refine ret_of ?_; refine rk_tmp (by (conv => lhs; whnf) <;> rfl) ?_; refine rk_tmp (by (conv => lhs; whnf) <;> rfl) ?_; refine rk_nil ?_
          exact ⟨_, rfl, S.drop (S.up2 (S.drop (S.up2 (S.drop (S.up2 hS)))))⟩
      · rw [if_neg hw0] at hst
        refine wp_skip ?_; refine block_normal ?_; refine seq_normal ?_; refine wp_region ?_; refine wpO_cons ?_; refine op1_add rfl rfl rfl (by exact wrap_i64 (by omega) (by omega)) ?_; refine zw1 ?_; refine wpO_nil ?_
        exact ⟨ps.length - (i + 1), by omega, i + 1, rfl, rfl, by omega, hst, S.drop (S.up1 hS)⟩
    · obtain rfl : i = ps.length := by omega
      rw [List.drop_length] at hst
      rw [show runR (frR R) cn an top ps = [] from hst.symm, if_pos rfl]
      refine wp_exit ?_; refine seq_exit ?_; refine iter_exit ?_; refine block_exit ?_; refine seq_normal ?_; refine zsr ?_; refine zw1 ?_; refine zw1 ?_; refine zns ?_; refine wp_ret ?_; refine seq_ret ?_; refine ret_of ?_; refine rk_tmp (by (conv => lhs; whnf) <;> rfl) ?_; refine rk_tmp (by (conv => lhs; whnf) <;> rfl) ?_; refine rk_nil ?_
      exact ⟨_, rfl, (S.drop (S.up1 (S.drop (S.up1 hS)))).slNil⟩
end Go.E.Fa
/- Alloc of both agrees. -/
namespace Go.E.Fa
open Go Go.E Go.Proofs.Ytlkgacbholklkaa Go.Proofs
set_option linter.unusedVariables false
set_option linter.unusedSimpArgs false
set_option maxRecDepth 100000
/-! ### the pools asked for -/
theorem nameIx_name {pls : List Pl} {s : ByteArray} {i : Nat} (h : nameIx pls s = some i) : (pls.getD i default).name = s := by
  unfold nameIx at h
  obtain ⟨hi, h1, _⟩ := List.findIdx?_eq_some_iff_getElem.1 h
  rw [List.getD_eq_getElem?_getD, List.getElem?_eq_getElem hi, Option.getD_some]
  exact of_decide_eq_true h1
theorem looked_some {pls : List Pl} : ∀ {ns : List ByteArray}, (∀ s ∈ ns, nameIx pls s ≠ none) → looked pls ns = some (ns.map fun s => (((nameIx pls s).getD 0 : Nat) : Int))
  | [], _ => rfl
  | s :: ns, h => by
    have ih := looked_some (pls := pls) (ns := ns) fun t ht => h t (by simp [ht])
    rw [looked]
    cases hs : nameIx pls s with
    | none => exact absurd hs (h s (by simp))
    | some i => simp only [ih, Option.map_some, List.map_cons, hs, Option.getD_some]
theorem looked_nodup {pls : List Pl} : ∀ {ns : List ByteArray}, (∀ s ∈ ns, nameIx pls s ≠ none) → ((ns.map fun s => (((nameIx pls s).getD 0 : Nat) : Int)).Nodup ↔ ns.Nodup)
  | [], _ => by simp
  | s :: ns, h => by
    rw [List.map_cons, List.nodup_cons, List.nodup_cons, looked_nodup fun t ht => h t (by simp [ht])]
    refine and_congr_left fun _ => not_congr ⟨fun hm => ?_, fun hm => List.mem_map.2 ⟨s, hm, rfl⟩⟩
    obtain ⟨t, ht, e⟩ := List.mem_map.1 hm
    cases h1 : nameIx pls s with
    | none => exact absurd h1 (h s (by simp))
    | some i =>
      cases h2 : nameIx pls t with
      | none => exact absurd h2 (h t (by simp [ht]))
      | some j =>
        rw [h1, h2, Option.getD_some, Option.getD_some] at e
        have e : j = i := by omega
        subst e
        rw [← nameIx_name h1, nameIx_name h2]
        exact ht
theorem gens_pools (pls : List Pl) : ∀ n, n ≤ pls.length → (gens pls n).map (fun i : Int => pls.getD i.toNat default) = (pls.take n).filter (·.gen)
  | 0, _ => by simp [gens]
  | n + 1, h => by
    have hn : pls[n]? = some pls[n] := List.getElem?_eq_getElem (by omega)
    rw [gens, List.map_append, gens_pools pls n (by omega), List.take_add_one, hn, Option.toList_some, List.filter_append, List.getD_eq_getElem?_getD, hn, Option.getD_some, List.filter_cons]
    congr 1
    split
    · rw [List.map_singleton, Int.toNat_natCast, List.getD_eq_getElem?_getD, hn, Option.getD_some]; rfl
    · rfl
theorem gens_nodup (pls : List Pl) : ∀ n, (gens pls n).Nodup
  | 0 => by simp [gens]
  | n + 1 => by
    rw [gens, List.nodup_append]
    refine ⟨gens_nodup pls n, by split <;> simp, fun a ha b hb => ?_⟩
    have := (gens_len pls n).2 a ha
    split at hb
    · rw [List.mem_singleton] at hb; omega
    · simp at hb
theorem asked_eq (pls : List Pl) (ns : List ByteArray) : namesE pls ns = (askedM pls ns).1 ∧ (namesE pls ns = 0 → (askedM pls ns).2.map (fun i : Int => pls.getD i.toNat default) = askedP pls ns ∧ (askedM pls ns).2.Nodup) := by
  unfold namesE askedM
  by_cases h0 : ns.length = 0
  · obtain rfl : ns = [] := List.eq_nil_of_length_eq_zero h0
    rw [if_neg (by simp), if_neg (by simp), if_pos (by simp), if_pos (show ([] : List ByteArray).length = 0 from rfl)]
    refine ⟨rfl, fun _ => ⟨?_, gens_nodup _ _⟩⟩
    unfold askedP
    rw [if_pos (show ([] : List ByteArray).length = 0 from rfl)]
    simp only
    rw [gens_pools pls _ (Nat.le_refl _), List.take_length]
  rw [if_neg h0]
  by_cases h16 : 16 < ns.length
  · rw [if_pos h16, if_pos h16]; exact ⟨rfl, fun h => by cases h⟩
  rw [if_neg h16, if_neg h16]
  by_cases hno : ∃ s ∈ ns, nameIx pls s = none
  · obtain ⟨s, hs, hn⟩ := hno
    rw [if_pos ⟨s, hs, hn⟩, looked_none hs hn]
    exact ⟨rfl, fun h => by cases h⟩
  · rw [if_neg hno]
    have hok : ∀ s ∈ ns, nameIx pls s ≠ none := fun s hs e => hno ⟨s, hs, e⟩
    rw [looked_some hok]
    simp only
    by_cases hd : ns.Nodup
    · rw [if_pos hd, if_pos ((looked_nodup hok).2 hd)]
      refine ⟨rfl, fun _ => ⟨?_, (looked_nodup hok).2 hd⟩⟩
      unfold askedP
      rw [if_neg h0, List.map_map]
      rfl
    · rw [if_neg hd, if_neg (fun h => hd ((looked_nodup hok).1 h))]
      exact ⟨rfl, fun h => by cases h⟩

/-! ### the same frames are free -/
theorem skip_congr {fr fr' : Nat → Bool} {E : Nat} (h : ∀ n, n < E → fr n = fr' n) (n : Nat) : Fa.skip fr E n = Fa.skip fr' E n := by
  rw [Fa.skip.eq_def, Fa.skip.eq_def fr']
  by_cases hn : n < E
  · rw [h n hn]
    split
    · exact skip_congr h (n + 1)
    · rfl
  · rw [dif_neg (fun q => hn q.1), dif_neg (fun q => hn q.1)]
termination_by E - n
theorem runs_congr {fr fr' : Nat → Bool} {E : Nat} (h : ∀ n, n < E → fr n = fr' n) (n : Nat) : runsAt fr E n = runsAt fr' E n := by
  rw [runsAt.eq_def, runsAt.eq_def fr', skip_congr h n]
  split
  · rw [runs_congr h (Fa.skip fr' E n + 1)]
  · rfl
termination_by E - n
decreasing_by have := skip_ge fr' E n; omega
theorem freeL_congr {fr fr' : Nat → Bool} {F E : Nat} (h : ∀ n, F ≤ n → n < E → fr n = fr' n) : freeL fr F E = freeL fr' F E := by
  unfold freeL
  refine List.filter_congr fun n hn => ?_
  rw [List.mem_range'_1] at hn
  exact h n hn.1 (by omega)
theorem runM_eq {T : Tb} {R : RT} {cnt al : Nat} {top : Bool} (hR : Rel T R) : ∀ (idx : List Int), (∀ i ∈ idx, 0 ≤ i ∧ i < T.pls.length) → runM T cnt al top idx = runR (frR R) cnt al top (idx.map fun i : Int => T.pls.getD i.toNat default)
  | [], _ => rfl
  | i :: is, hi => by
    have hp := poolOf_ok hR.ok (hi i (by simp)).1 (hi i (by simp)).2
    have h1 := hp.first
    have h2 := hp.top
    have e : atP T cnt al top i = atR (frR R) cnt al top (poolOf T i) := by
      unfold atP atR runsP plE plF
      congr 1
      exact runs_congr (fun n hn => by unfold frB frR; rw [hR.refs n (by omega)]) _
    rw [runM, List.map_cons, runR_cons, runM_eq hR is fun j hj => hi j (by simp [hj]), e]
    rfl
theorem ordP_eq {T : Tb} {R : RT} {p : Pl} {top : Bool} (hR : Rel T R) (hp : PlOk T.m p) : ordP T.m p top = ordR (frR R) top p := by
  have h1 := hp.first
  have h2 := hp.top
  have h3 := hp.count
  have e : freeP T.m p = ints (flR (frR R) p) := by
    unfold freeP flR freeL ints plE plF
    rw [show (p.first + p.count).toNat - p.first.toNat = p.count.toNat by omega]
    congr 1
    refine List.filter_congr fun n hn => ?_
    rw [List.mem_range'_1] at hn
    unfold frB frR
    rw [hR.refs n (by omega)]
  unfold ordP ordR
  rw [e]

/-! ### one after the other -/
def singL (fr : Nat → Bool) (cnt : Nat) (top : Bool) : List Pl → List Int → List Int
  | [], out => out
  | p :: ps, out => singL fr cnt top ps (out ++ (ordR fr top p).take (cnt - out.length))
theorem singles_eq {T : Tb} {R : RT} {cnt : Nat} {top : Bool} (hR : Rel T R) : ∀ (idx : List Int) (acc : List Int), (∀ i ∈ idx, 0 ≤ i ∧ i < T.pls.length) → idx.foldl (sing1 T cnt top) acc = singL (frR R) cnt top (idx.map fun i : Int => T.pls.getD i.toNat default) acc
  | [], _, _ => rfl
  | i :: is, acc, hi => by
    have hp := poolOf_ok hR.ok (hi i (by simp)).1 (hi i (by simp)).2
    rw [List.foldl_cons, singles_eq hR is _ fun j hj => hi j (by simp [hj])]
    unfold sing1
    rw [ordP_eq hR hp]
    rfl
theorem ordR_len (fr : Nat → Bool) (top : Bool) (p : Pl) : (ordR fr top p).length = (flR fr p).length := by unfold ordR; split <;> simp
theorem singL_len (fr : Nat → Bool) (cnt : Nat) (top : Bool) : ∀ (ps : List Pl) (out : List Int), out.length ≤ cnt → (singL fr cnt top ps out).length = min cnt (out.length + cntR fr ps)
  | [], out, h => by simp only [singL, cntR, List.map_nil, List.sum_nil]; omega
  | p :: ps, out, h => by
    have e : cntR fr (p :: ps) = (flR fr p).length + cntR fr ps := by simp [cntR]
    rw [singL, singL_len fr cnt top ps _ (by rw [List.length_append, List.length_take]; omega), List.length_append, List.length_take, ordR_len, e]
    omega
theorem frR_takes {R : RT} : ∀ (l : List Int) (n : Nat), (∀ k ∈ l, (0 : Int) ≤ k ∧ k ≠ n) → frR (takesR R l) n = frR R n := by
  intro l
  induction l generalizing R with
  | nil => intro n _; rfl
  | cons k l ih =>
    intro n h
    show frR (takesR (takeR R k) l) n = _
    rw [ih n fun j hj => h j (by simp [hj])]
    have hk := h k (by simp)
    unfold frR
    rw [takeR_refs, List.getD_eq_getElem?_getD, List.getElem?_set_ne (by omega), ← List.getD_eq_getElem?_getD]
theorem ordR_mem {fr : Nat → Bool} {top : Bool} {p : Pl} {k : Int} (h : k ∈ ordR fr top p) : ∃ n : Nat, k = n ∧ plF p ≤ n ∧ n < plE p := by
  have h2 : k ∈ ints (flR fr p) := by
    unfold ordR at h
    split at h
    · exact List.mem_reverse.1 h
    · exact h
  obtain ⟨n, hn, rfl⟩ := List.mem_map.1 h2
  have := (List.mem_filter.1 hn).1
  rw [List.mem_range'_1] at this
  exact ⟨n, rfl, this.1, by omega⟩
def ApartP (p q : Pl) : Prop := ∀ n, plF p ≤ n → n < plE p → plF q ≤ n → n < plE q → False
theorem singL_congr {fr fr' : Nat → Bool} {cnt : Nat} {top : Bool} : ∀ (ps : List Pl) (out : List Int), (∀ p ∈ ps, ∀ n, plF p ≤ n → n < plE p → fr n = fr' n) → singL fr cnt top ps out = singL fr' cnt top ps out
  | [], _, _ => rfl
  | p :: ps, out, h => by
    rw [singL, singL]
    have e : ordR fr top p = ordR fr' top p := by unfold ordR flR; rw [freeL_congr (h p (by simp))]
    rw [e]
    exact singL_congr ps _ fun q hq => h q (by simp [hq])
theorem singR_eq {cnt : Nat} {top : Bool} : ∀ (ps : List Pl) (R : RT) (out : List Int), ps.Pairwise ApartP → ∃ l, singL (frR R) cnt top ps out = out ++ l ∧ singR cnt top ps R out = (takesR R l, out ++ l)
  | [], R, out, _ => ⟨[], by simp [singL], by simp [singR, takesR]⟩
  | p :: ps, R, out, hd => by
    obtain ⟨h1, h2⟩ := List.pairwise_cons.1 hd
    obtain ⟨l1, hl1⟩ : ∃ z, z = (ordR (frR R) top p).take (cnt - out.length) := ⟨_, rfl⟩
    obtain ⟨l, e1, e2⟩ := singR_eq ps (takesR R l1) (out ++ l1) h2
    refine ⟨l1 ++ l, ?_, ?_⟩
    · rw [singL, ← hl1, ← List.append_assoc, ← e1]
      refine singL_congr ps _ fun q hq n n1 n2 => (frR_takes l1 n fun k hk => ?_).symm
      rw [hl1] at hk
      obtain ⟨m, rfl, m1, m2⟩ := ordR_mem (List.mem_of_mem_take hk)
      exact ⟨by omega, fun e => h1 q hq n (by omega) (by omega) n1 n2⟩
    · rw [singR, ← hl1, e2, List.append_assoc]
      unfold takesR
      rw [List.foldl_append]
end Go.E.Fa
/- Alloc of both agrees: what is taken. -/
namespace Go.E.Fa
open Go Go.E Go.Proofs.Ytlkgacbholklkaa Go.Proofs
set_option linter.unusedVariables false
set_option linter.unusedSimpArgs false
set_option maxRecDepth 100000
/-- no frame lies in two pools -/
def DisP (pls : List Pl) : Prop := ∀ (i j : Nat) p q, pls[i]? = some p → pls[j]? = some q → ∀ n, inR p n = true → inR q n = true → i = j
theorem DisP.fresh {l : List Pl} {T : Tb} (h : Fresh l T) : DisP l := fun i j p q hp hq n h1 h2 => by
  have e1 := h.m.pool i p hp n h1
  have e2 := h.m.pool j q hq n h2
  omega
theorem apart_idx {T : Tb} (hT : TbOk T) (hD : DisP T.pls) : ∀ {idx : List Int}, (∀ i ∈ idx, 0 ≤ i ∧ i < T.pls.length) → idx.Nodup → (idx.map fun i : Int => T.pls.getD i.toNat default).Pairwise ApartP
  | [], _, _ => .nil
  | i :: is, hi, hn => by
    obtain ⟨h1, h2⟩ := List.nodup_cons.1 hn
    rw [List.map_cons, List.pairwise_cons]
    refine ⟨fun q hq n a1 a2 b1 b2 => ?_, apart_idx hT hD (fun j hj => hi j (by simp [hj])) h2⟩
    obtain ⟨j, hj, rfl⟩ := List.mem_map.1 hq
    have hi0 := hi i (by simp)
    have hj0 := hi j (by simp [hj])
    have ei : T.pls[i.toNat]? = some (T.pls.getD i.toNat default) := by rw [List.getD_eq_getElem?_getD, List.getElem?_eq_getElem (show i.toNat < T.pls.length by omega)]; rfl
    have ej : T.pls[j.toNat]? = some (T.pls.getD j.toNat default) := by rw [List.getD_eq_getElem?_getD, List.getElem?_eq_getElem (show j.toNat < T.pls.length by omega)]; rfl
    have pi := hT.pls _ (List.mem_of_getElem? ei)
    have pj := hT.pls _ (List.mem_of_getElem? ej)
    have hpi := pi.first
    have hpj := pj.first
    unfold plF at a1 b1
    unfold plE at a2 b2
    have := hD _ _ _ _ ei ej n (by unfold inR; rw [decide_eq_true_eq]; omega) (by unfold inR; rw [decide_eq_true_eq]; omega)
    exact h1 (by rw [show i = j by omega]; exact hj)

structure Both (T : Tb) (R : RT) : Prop where
  rel : Rel T R
  geo : Geo T
  pgs : Pgs T R
  dis : DisP T.pls
theorem take_both {T : Tb} {R : RT} {n : Int} (h : Both T R) (hn : n ∈ T.m.dom) : Both (T.wm (takeF T.pls T.m n)) (takeR R n) := by
  obtain ⟨m, rfl, hm⟩ := dom_nat h.rel.ok h.geo hn
  obtain ⟨i, hi⟩ := Option.isSome_iff_exists.1 ((h.geo.dom m).1 hn)
  have hkeep : keepR R m = (T.pls.getD (T.m.pool m).toNat default).keep := by
    unfold keepR
    rw [h.rel.pls, hi, Option.getD_some, h.geo.pool m i hi]; rfl
  obtain ⟨kp, hkp⟩ : ∃ z, z = (T.pls.getD (T.m.pool m).toNat default).keep := ⟨_, rfl⟩
  have et : takeF T.pls T.m m = (T.m.setRefs m 1).setDat m (wipe kp (T.m.dat m)) := by unfold takeF; rw [hkp]
  have er : takeR R m = if kp = true then R.set m 1 else (R.set m 1).setPage m zeros := by unfold takeR; rw [hkeep, hkp]
  have h1 := h.rel.set (v := 1) hm (by omega)
  have epls : (takeR R m).pls = R.pls := takeR_pls R m
  have erefs : (takeR R m).refs = (R.set m 1).refs := takeR_refs R m
  rw [et]
  refine ⟨⟨⟨⟨h1.ok.m.nd, h1.ok.m.refs⟩, fun p hp => (h1.ok.pls p hp).of rfl, h1.ok.len, h1.ok.pool, ?_⟩, h1.ix, by rw [epls]; exact h.rel.pls, by rw [erefs]; exact h1.len, by rw [erefs]; exact h1.pos, by rw [erefs]; exact h1.refs⟩, h.geo.wm rfl rfl, ⟨takeR_pg h.pgs.ok, ?_⟩, h.dis⟩
  · intro k d hd
    change (if k = (m : Int) then wipe kp (T.m.dat m) else T.m.dat k) = some d at hd
    split at hd
    · rw [wipe_eq] at hd
      split at hd
      · cases hd
      · exact h.rel.ok.dat _ d hd
    · exact h.rel.ok.dat k d hd
  · intro k hk
    obtain ⟨j, rfl, hj⟩ := dom_nat h.rel.ok h.geo (show k ∈ T.m.dom from hk)
    have hpj := h.pgs.eq j hk
    show pageOf (if (j : Int) = (m : Int) then wipe kp (T.m.dat m) else T.m.dat j) = _
    rw [er]
    by_cases e : j = m
    · subst e
      rw [if_pos rfl, wipe_page]
      cases kp
      · rw [if_neg (by simp), if_neg (by simp)]
        unfold RT.page RT.setPage
        simp only
        rw [Int.toNat_natCast, List.getD_eq_getElem?_getD, List.getElem?_set, if_pos rfl, if_pos (show j < (R.set j 1).pgs.length by show j < R.pgs.length; rw [h.pgs.ok.len]; exact hm)]
        rfl
      · rw [if_pos rfl, if_pos rfl]; exact hpj
    · rw [if_neg (by omega)]
      cases kp
      · rw [if_neg (by simp), hpj]
        unfold RT.page RT.setPage
        simp only
        rw [Int.toNat_natCast, Int.toNat_natCast, List.getD_eq_getElem?_getD, List.getD_eq_getElem?_getD, List.getElem?_set_ne (by omega)]
        rfl
      · rw [if_pos rfl]; exact hpj
theorem takes_both : ∀ (l : List Int) {T : Tb} {R : RT}, Both T R → (∀ n ∈ l, n ∈ T.m.dom) → Both (T.wm (l.foldl (takeF T.pls) T.m)) (takesR R l)
  | [], _, _, h, _ => h
  | n :: l, T, R, h, hl => by
    have h1 := take_both h (hl n (by simp))
    exact takes_both l (T := T.wm (takeF T.pls T.m n)) h1 fun k hk => hl k (by simp [hk])
theorem alloc_eq {T : Tb} {R : RT} {cnt al : Int} {cg top : Bool} {ns : List ByteArray} (h : Both T R) :
    (allocQ R cnt al cg top ns).1 = (allocR T cnt al cg top ns).1 ∧ (allocQ R cnt al cg top ns).2.1 = (allocR T cnt al cg top ns).2 ∧
      Both (T.wm ((allocR T cnt al cg top ns).2.foldl (takeF T.pls) T.m)) (allocQ R cnt al cg top ns).2.2 := by
  obtain ⟨ha1, ha2⟩ := asked_eq T.pls ns
  have hao := asked_ok (pls := T.pls) (ns := ns) h.rel.ok.len
  unfold allocQ allocR
  by_cases h1 : cnt < 1 ∨ 4096 < cnt
  · rw [if_pos h1, if_pos h1]; exact ⟨rfl, rfl, h⟩
  rw [if_neg h1, if_neg h1]
  have e2 : (isPow al = false ∨ cg = false ∧ al ≠ 1) ↔ (al < 1 ∨ 4096 < al ∨ bitAnd .i64 al (al - 1) ≠ 0 ∨ (cg = false ∧ al ≠ 1)) := by
    rw [isPow_eq]
    simp only [Bool.not_eq_false', decide_eq_true_eq]
    constructor
    · rintro ((h | h | h) | h)
      · exact .inl h
      · exact .inr (.inl h)
      · exact .inr (.inr (.inl h))
      · exact .inr (.inr (.inr h))
    · rintro (h | h | h | h)
      · exact .inl (.inl h)
      · exact .inl (.inr (.inl h))
      · exact .inl (.inr (.inr h))
      · exact .inr h
  by_cases h2 : isPow al = false ∨ cg = false ∧ al ≠ 1
  · rw [if_pos h2, if_pos (e2.1 h2)]; exact ⟨rfl, rfl, h⟩
  have h2' := fun q => h2 (e2.2 q)
  rw [if_neg h2, if_neg h2', h.rel.pls, ha1]
  by_cases h3 : (askedM T.pls ns).1 ≠ 0
  · rw [if_pos h3, if_pos h3]; exact ⟨rfl, rfl, h⟩
  rw [if_neg h3, if_neg h3]
  obtain ⟨hp, hnd⟩ := ha2 (by rw [ha1]; omega)
  rw [← hp]
  obtain ⟨idx, hidx⟩ : ∃ z, z = (askedM T.pls ns).2 := ⟨_, rfl⟩
  rw [← hidx] at hao hnd ⊢
  have hdom : ∀ {i : Int} {n : Int}, i ∈ idx → FreeIn T.m (poolOf T i) n → n ∈ T.m.dom := fun hi hf => hf.dom (poolOf_ok h.rel.ok (hao.2 _ hi).1 (hao.2 _ hi).2)
  cases cg
  · simp only [Bool.false_eq_true, if_false]
    have hse : singles T cnt.toNat top idx = singL (frR R) cnt.toNat top (idx.map fun i : Int => T.pls.getD i.toNat default) [] := singles_eq h.rel idx [] hao.2
    obtain ⟨l, e1, e3⟩ := singR_eq (cnt := cnt.toNat) (top := top) (idx.map fun i : Int => T.pls.getD i.toNat default) R [] (apart_idx h.rel.ok h.dis hao.2 hnd)
    have hlen := singL_len (frR R) cnt.toNat top (idx.map fun i : Int => T.pls.getD i.toNat default) [] (by simp)
    rw [List.nil_append] at e1 e3
    rw [← hse] at hlen
    rw [← hse] at e1
    simp only [List.length_nil, Nat.zero_add] at hlen
    by_cases h4 : (cntR (frR R) (idx.map fun i : Int => T.pls.getD i.toNat default) : Int) < cnt
    · rw [if_pos h4, if_pos (by rw [hlen]; omega)]; exact ⟨rfl, rfl, h⟩
    · rw [if_neg h4, if_neg (by rw [hlen]; omega), e3, ← e1]
      refine ⟨rfl, rfl, takes_both _ h fun n hn => ?_⟩
      obtain ⟨i, hi, hf⟩ := singles_in h.rel.ok hao.2 hn
      exact hdom hi hf
  · simp only [if_true]
    have hal1 : ¬ al < 1 := fun q => h2' (.inl q)
    have hrm := runM_eq (cnt := cnt.toNat) (al := al.toNat) (top := top) h.rel idx hao.2
    rw [← hrm]
    have hl : runM T cnt.toNat al.toNat top idx = [] ∨ (runM T cnt.toNat al.toNat top idx).length = cnt.toNat := by
      clear hrm hidx hnd hp hao hdom
      induction idx with
      | nil => exact .inl rfl
      | cons i is ih => rw [runM]; split; exact .inr (consec_len _ _); exact ih
    by_cases h4 : runM T cnt.toNat al.toNat top idx = []
    · rw [if_pos h4, if_pos (by rw [h4]; show (0 : Int) < cnt; omega)]; exact ⟨rfl, rfl, h⟩
    · rw [if_neg h4, if_neg (by have := hl.resolve_left h4; omega)]
      refine ⟨rfl, rfl, takes_both _ h fun n hn => ?_⟩
      obtain ⟨i, hi, hf⟩ := runM_in h.rel.ok (by omega) (by omega) hao.2 hn
      exact hdom hi hf
end Go.E.Fa
