/- FramesFreed: the walk and the law. -/
import Derived.Test.YtlkgacbholklkaaFaAL
import Derived.Test.YtlkgacbholklkaaFaF789
namespace Go.E.Fa
open Go Go.E Go.Proofs.Ytlkgacbholklkaa Go.Proofs
set_option linter.unusedVariables false
set_option linter.unusedSimpArgs false
set_option maxRecDepth 100000
/-- no frame beyond L is held, and none twice -/
structure Held (T : Tb) (L : List Int) : Prop where
  one : One T 3 40
  le : ∀ n, T.m.refs n ≤ 1
  mem : ∀ n, T.m.refs n ≠ 0 → n ∈ L
theorem Held.unref {T : Tb} {L : List Int} {k : Int} (h : Held T L) : Held (T.wm (unref T.m k).2) L := by
  refine ⟨h.one.unref, fun n => ?_, fun n hn => ?_⟩
  · show (Fa.unref T.m k).2.refs n ≤ 1
    rw [unref_refs]
    have := h.le n
    have := h.le k
    split <;> omega
  · have hn : (Fa.unref T.m k).2.refs n ≠ 0 := hn
    rw [unref_refs] at hn
    split at hn
    · rename_i h1
      have := h.le k
      have := (h.one.ok.m.refs k).1
      exact absurd (show T.m.refs k - 1 = 0 by have := h1.2.2; omega) hn
    · exact h.mem n hn
theorem Held.zero {T : Tb} {L : List Int} {k : Int} (h : Held T L) (hd : k ∈ T.m.dom) : (Fa.unref T.m k).2.refs k = 0 := by
  rw [unref_refs]
  have := h.le k
  have := (h.one.ok.m.refs k).1
  by_cases h0 : T.m.refs k = 0
  · rw [if_neg (fun q => q.2.2 h0), h0]
  · rw [if_pos ⟨rfl, hd, h0⟩]; omega
theorem freeP_has {M : Fm} {p : Pl} {k : Int} (hp : PlOk M p) (h : FreeIn M p k) : k ∈ freeP M p := by
  have h1 := hp.first
  have h2 := hp.count
  have h3 := h.1
  have h4 := h.2.1
  unfold freeP
  refine List.mem_map.2 ⟨k.toNat, List.mem_filter.2 ⟨List.mem_range'_1.2 (by omega), ?_⟩, by omega⟩
  unfold frB
  rw [show ((k.toNat : Nat) : Int) = k by omega]
  exact decide_eq_true h.2.2
/-- one frame is to be had, and goes back -/
theorem Held.again {T : Tb} {L : List Int} {k : Int} (h : Held T L) (hk : 3 ≤ k ∧ k < 43) (h0 : T.m.refs k = 0) :
    ∃ f, allocR T 1 1 false false [] = (0, [f]) ∧ Held (T.wm (Fa.unref ([f].foldl (takeF T.pls) T.m) f).2) L ∧ (Fa.unref ([f].foldl (takeF T.pls) T.m) f).1 = 0 := by
  have hp := h.one.plok
  have hm := freeP_has hp (k := k) ⟨by show 3 ≤ k; omega, by show k < 3 + 40; omega, h0⟩
  have ha : allocR T 1 1 false false [] = _ := h.one.alloc1 (cnt := 1) (top := false) (by decide) (by decide)
  have ho : ordP T.m (poolP 3 40) false = freeP T.m (poolP 3 40) := rfl
  rw [ho] at ha
  cases hf : freeP T.m (poolP 3 40) with
  | nil => rw [hf] at hm; cases hm
  | cons f r =>
    rw [hf] at ha
    have hin := freeP_in hp (n := f) (by rw [hf]; exact List.mem_cons_self)
    have hd := hin.dom hp
    have h00 := hin.2.2
    refine ⟨f, by rw [ha]; simp, ?_, ?_⟩
    · refine ⟨(One.takes (l := [f]) h.one).unref, fun n => ?_, fun n hn => ?_⟩
      · show (Fa.unref ([f].foldl (takeF T.pls) T.m) f).2.refs n ≤ 1
        rw [unref_refs, takes_refs, takes_refs]
        have := h.le n
        have e1 : (if f ∈ [f] then (1 : Int) else T.m.refs f) = 1 := if_pos (by simp)
        rw [e1]
        split
        · omega
        · split <;> omega
      · have hn : (Fa.unref ([f].foldl (takeF T.pls) T.m) f).2.refs n ≠ 0 := hn
        rw [unref_refs, takes_refs, takes_refs] at hn
        by_cases hnf : n = f
        · rw [if_pos ⟨hnf, by rw [(takes_dom _ _ _).1]; exact hd, by rw [if_pos (by simp)]; decide⟩, if_pos (by simp)] at hn
          exact absurd rfl hn
        · rw [if_neg (fun q => hnf q.1), if_neg (by simpa using hnf)] at hn
          exact h.mem n hn
    · unfold Fa.unref
      rw [if_pos (by rw [(takes_dom _ _ _).1]; exact hd), if_neg (by rw [takes_refs, if_pos (by simp)]; decide)]
theorem skip_end {fr : Nat → Bool} {E : Nat} (n : Nat) (h : skip fr E n < E) : fr (skip fr E n) = false := by
  rw [skip.eq_def] at h ⊢
  split
  · rename_i h1
    rw [dif_pos h1] at h
    exact skip_end (n + 1) h
  · rename_i h1
    rw [dif_neg h1] at h
    by_cases h2 : fr n = true
    · exact absurd ⟨h, h2⟩ h1
    · simpa using h2
termination_by E - n
theorem skip_all {fr : Nat → Bool} {E n : Nat} (hn : n ≤ E) (h : ∀ i, n ≤ i → i < E → fr i = true) : skip fr E n = E := by
  have h1 := skip_le fr E n hn
  have h2 := skip_ge fr E n
  by_cases h3 : skip fr E n < E
  · have := h _ h2 h3
    have h4 := skip_end n h3
    rw [this] at h4; cases h4
  · omega
theorem runs_whole {fr : Nat → Bool} {E n : Nat} (hn : n < E) (h : ∀ i, n ≤ i → i < E → fr i = true) : runsAt fr E n = [(n, E)] := by
  rw [runsAt.eq_def, dif_pos hn, skip_all (by omega) h, if_pos hn, runsAt.eq_def, dif_neg (by omega)]
  rfl
/-- all is free -/
theorem One.all {T : Tb} (h : One T 3 40) (h0 : ∀ n, T.m.refs n = 0) : usageM T nmP = ((40, 0, 40), 0) := by
  have e : nameIx T.pls nmP = some 0 := by rw [h.pls]; decide +kernel
  unfold usageM
  rw [e]
  simp only
  rw [show ((0 : Nat) : Int) = 0 from rfl, h.poolOf]
  have er : runsOf T (poolP 3 40) = [(3, 43)] := by
    unfold runsOf runsP
    refine runs_whole (by decide) fun i _ _ => ?_
    unfold frB
    exact decide_eq_true (h0 i)
  rw [er]
  decide

theorem L5 {B : AHeap} {n : Int} {vd : Value} {d : List Int} {r : List Nat} (hn : 0 ≤ n ∧ n ≤ 255) (hr : RdS B 1 vd (u8s d) r) (hlt : ∀ b ∈ r, b < B.next) (hd255 : ∀ x ∈ d, (0 : Int) ≤ x ∧ x ≤ 255) :
    wpF C 5 [vd, .int .u8 n] B fun v _ => v = .bool true := by
  have hS := S.start B
  obtain ⟨ad, cd, rfl⟩ := hr.u1
  refine wpF_ofW o5 rfl rfl ?_
  obtain ⟨nq, hnq, hnq1⟩ : ∃ q : Nat, n.tmod 40 = q ∧ q ≤ 39 := ⟨(n.tmod 40).toNat, by rw [Int.tmod_eq_emod_of_nonneg hn.1]; omega, by rw [Int.tmod_eq_emod_of_nonneg hn.1]; omega⟩
  refine zsr ?_; refine zw1 ?_; refine zns ?_; refine wp_seq ?_; refine zsr ?_; refine zw1 ?_; refine wpO_cons ?_; refine op1_len rfl rfl ?_; refine wpO_cons ?_; refine op1_gtr rfl rfl rfl ?_; refine zns ?_
  refine wp_dec rfl (fun h40 => ?_) (fun h40 => ?_)
  · refine zsr ?_; refine wpO_cons ?_; refine op1_call0 rfl  ?_; refine wpF_known rfl (globAll _) ?_; refine zw1 ?_; refine zns ?_; refine wp_ret ?_; refine seq_ret ?_; refine ret_of ?_; refine rk_tmp (by (conv => lhs; whnf) <;> rfl) ?_; refine rk_nil ?_
    rfl
  refine wp_skip ?_; refine seq_normal ?_; refine zsr ?_; refine wpO_cons ?_; refine op1_build rfl ?_; refine bk_one (by (conv => lhs; whnf) <;> rfl) rfl rfl rfl ?_; refine bk_one (by (conv => lhs; whnf) <;> rfl) rfl rfl rfl ?_; refine bk_one (by (conv => lhs; whnf) <;> rfl) rfl rfl rfl ?_; refine bk_one (by (conv => lhs; whnf) <;> rfl) rfl rfl rfl ?_; refine bk_nil ?_; refine wpO_cons ?_; refine op1_bsliceS rfl hS ?_; refine bk_agg rfl rfl rfl rfl ?_; refine bk_nil ?_; intro p1 H1 hS; refine wpO_cons ?_; refine op1_call1 rfl (by (conv => lhs; whnf) <;> rfl) ?_
  replace hS := S.slNew (l := 1) (es := 5) hS rfl
  have e0 : newE [poolP 3 40] = 0 := by decide +kernel
  refine wpF_mono (L10 (pls := [poolP 3 40]) (by decide) (by intro p hp; rw [List.mem_singleton] at hp; subst hp; decide) RD.head hS) ?_
  rintro _ H1 ⟨_, hok⟩
  obtain ⟨t, T, rfl, hTp, hF, hS⟩ := hok e0
  clear hok
  have hO := One.fresh hTp hF
  have hz : ∀ n, T.m.refs n = 0 := hF.m.refs
  clear hF hTp
  refine zw1 ?_; refine wpO_cons ?_; refine op1_extract rfl rfl rfl ?_; refine wpO_cons ?_; refine op1_extract rfl rfl rfl ?_; refine zw1 ?_; refine zw1 ?_; refine zns ?_; refine wp_seq ?_; refine zsr ?_; refine zw1 ?_; refine wpO_cons ?_; refine op1_neqI_s rfl rfl rfl ?_; refine zw1 ?_; refine zw1 ?_; refine wpO_cons ?_; refine op1_bin_false rfl (by (conv => lhs; whnf) <;> rfl) (by (conv => lhs; whnf) <;> rfl) rfl ?_; refine wpO_cons ?_; refine op1_pick_f rfl rfl (by (conv => lhs; whnf) <;> rfl) ?_; refine zns ?_; refine wp_false rfl ?_; refine wp_skip ?_; refine seq_normal ?_; refine zsr ?_; refine zw1 ?_; refine zw1 ?_; refine wpO_cons ?_; refine op1_convInt rfl rfl (by exact wrap_i64 (by omega) (by omega)) ?_; refine wpO_cons ?_; refine op1_rem rfl rfl rfl (by omega) ?_; refine wpO_cons ?_; refine op1_add rfl rfl rfl (by exact wrap_i64 (by omega) (by omega)) ?_; refine zw1 ?_; refine wpO_cons ?_; refine op1_gtr rfl rfl rfl ?_; refine wpO_cons ?_; refine op1_build rfl ?_; refine bk_one (by (conv => lhs; whnf) <;> rfl) rfl rfl rfl ?_; refine bk_one (by (conv => lhs; whnf) <;> rfl) rfl rfl rfl ?_; refine bk_one (by (conv => lhs; whnf) <;> rfl) rfl rfl rfl ?_; refine bk_nil ?_; refine wpO_cons ?_; refine op1_call2 rfl (by (conv => lhs; whnf) <;> rfl) (by (conv => lhs; whnf) <;> rfl) ?_
  rw [hnq]
  skip
  refine wpF_mono (L11 (T := T) (an := none) (cn := 0) (ns := []) (cnt := (nq + 1 : Nat)) (al := 1) (cg := false) (top := decide (100 < n)) hO.ok hO.ix (by decide) (by omega) RD.nil hS) ?_
  rw [hO.alloc1 (by omega) (by omega)]
  have hfr : freeP T.m (poolP 3 40) = consec 3 40 := freeP_all (f := 3) (c := 40) fun n _ _ => hz n
  have hol : (ordP T.m (poolP 3 40) (decide (100 < n))).length = 40 := by
    unfold ordP
    split
    · rw [List.length_reverse, hfr, consec_len]
    · rw [hfr, consec_len]
  obtain ⟨L, hL⟩ : ∃ L, L = (ordP T.m (poolP 3 40) (decide (100 < n))).take (nq + 1) := ⟨_, rfl⟩
  have hLl : L.length = nq + 1 := by rw [hL, List.length_take]; omega
  have hLm : ∀ k ∈ L, 3 ≤ k ∧ k < 43 := by
    intro k hk
    rw [hL] at hk
    have := ordP_in hO.plok (List.mem_of_mem_take hk)
    exact ⟨this.1, this.2.1⟩
  rw [← hL, if_neg (by omega)]
  clear hol hfr hL
  rintro _ H2 ⟨v0, rfl, hS⟩
  obtain ⟨a0, c0, rfl⟩ := hS.i1
  have hH : Held (T.wm (L.foldl (takeF T.pls) T.m)) L := by
    refine ⟨hO.takes, fun n => ?_, fun n hn => ?_⟩
    · show (L.foldl (takeF T.pls) T.m).refs n ≤ 1
      rw [takes_refs, hz]
      split <;> omega
    · have hn : (L.foldl (takeF T.pls) T.m).refs n ≠ 0 := hn
      rw [takes_refs, hz] at hn
      by_cases h : n ∈ L
      · exact h
      · rw [if_neg h] at hn; exact absurd rfl hn
  simp only at hS ⊢
  generalize T.wm (L.foldl (takeF T.pls) T.m) = T1 at *
  clear hz hO
  rw [hLl] at hS ⊢
  refine zw1 ?_; refine wpO_cons ?_; refine op1_extract rfl rfl rfl ?_; refine wpO_cons ?_; refine op1_extract rfl rfl rfl ?_; refine zw1 ?_; refine zw1 ?_; refine zns ?_; refine wp_seq ?_; refine zsr ?_; refine zw1 ?_; refine wpO_cons ?_; refine op1_neqI_s rfl rfl rfl ?_; refine zns ?_; refine wp_false rfl ?_; refine wp_skip ?_; refine seq_normal ?_; refine wp_seq ?_; refine zsr ?_; refine zw1 ?_; refine wpO_cons ?_; refine op1_len rfl rfl ?_; refine zw1 ?_; refine zns ?_; refine wp_block ?_
  refine wp_loop [48] (fun j vs H' => ∃ (i : Nat) (T : Tb), vs = [.int .i64 i] ∧ j = d.length - i ∧ i ≤ d.length ∧ Held T L ∧ S B H' (sl 1 (.slice a0 (nq + 1) c0) (i64s L) :: repT t T :: _))
    ⟨_, 0, T1, rfl, rfl, by omega, hH, hS⟩ ?_
  clear hS hH
  rintro j vs T' H3 ⟨i, T, rfl, rfl, hi, hH, hS⟩
  refine zsr ?_; refine wpO_cons ?_; refine op1_lss rfl rfl rfl ?_; refine zns ?_; refine wp_seq ?_
  refine wp_dec rfl (fun hlt2 => ?_) (fun hlt2 => ?_)
  · obtain ⟨x, hx⟩ : ∃ x, d[i]? = some x := ⟨d[i]'(by omega), by simp⟩
    have hx255 := hd255 x (List.mem_of_getElem? hx)
    obtain ⟨b, off, cs, e, ro, v, h5, _, hg, hv, hxx⟩ := (hS.rdB hr hlt).at1 (i := i) (by omega)
    cases h5
    have : v = .int .u8 x := by
      have h6 : (u8s d)[i]? = some (.int .u8 x) := by unfold u8s; rw [List.getElem?_map, hx]; rfl
      rw [hxx] at h6
      exact Option.some.inj h6
    subst this
    obtain ⟨q, hq, hq1⟩ : ∃ q : Nat, x.tmod ((nq + 1 : Nat) : Int) = q ∧ q ≤ nq := by
      have h1 := Int.emod_nonneg x (b := ((nq + 1 : Nat) : Int)) (by omega)
      have h2 := Int.emod_lt_of_pos x (b := ((nq + 1 : Nat) : Int)) (by omega)
      exact ⟨(x.tmod ((nq + 1 : Nat) : Int)).toNat, by rw [Int.tmod_eq_emod_of_nonneg hx255.1]; omega, by rw [Int.tmod_eq_emod_of_nonneg hx255.1]; omega⟩
    obtain ⟨ab, ao, acs, rfl, _⟩ := S.slBlk hS (by omega)
    obtain ⟨k, hk⟩ : ∃ k, L[q]? = some k := ⟨L[q]'(by omega), by simp⟩
    have hkm := hLm k (List.mem_of_getElem? hk)
    refine wp_skip ?_; refine seq_normal ?_; refine wp_seq ?_; refine wp_block ?_; refine zsr ?_; refine wpO_cons ?_; refine op1_iaddr rfl rfl rfl (by omega) (by omega) ?_; refine wpO_cons ?_
    refine op1_load rfl rfl hg hv ?_
    refine zw1 ?_; refine zns ?_; refine zsr ?_; refine zw1 ?_; refine zw1 ?_; refine wpO_cons ?_; refine op1_convInt rfl rfl (by exact wrap_i64 (by omega) (by omega)) ?_; refine zw1 ?_; refine wpO_cons ?_; refine op1_len rfl rfl ?_; refine wpO_cons ?_; refine op1_rem rfl rfl rfl (by omega) ?_; refine wpO_cons ?_; refine op1_iaddr rfl rfl rfl (by omega) (by omega) ?_; refine wpO_cons ?_
    rw [hq]
    skip
    refine op1_loadL rfl rfl hS rfl (by omega) (i64s_at hk) ?_
    refine zw1 ?_; refine zns ?_; refine zsr ?_; refine zw1 ?_; refine zw1 ?_; refine wpO_cons ?_; refine op1_call2 rfl (by (conv => lhs; whnf) <;> rfl) (by (conv => lhs; whnf) <;> rfl) ?_
    have hkd := hH.one.dom (n := k) hkm.1 hkm.2
    refine wpF_mono (L12 hH.one.ok.m (S.up1 hS)) ?_
    rintro _ H4 ⟨rfl, hS⟩
    have hH1 := hH.unref (k := k)
    have hz1 := hH.zero hkd
    by_cases h0 : T.m.refs k = 0
    · have e1 : (Fa.unref T.m k).1 = 35 := by unfold Fa.unref; rw [if_pos hkd, if_pos h0]
      rw [e1]
      refine wpO_cons ?_; refine op1_eqlI rfl rfl rfl ?_; refine zw1 ?_; refine wpO_cons ?_; refine op1_skip rfl ?_; refine wpO_cons ?_; refine op1_skip rfl ?_; refine wpO_cons ?_; refine op1_skip rfl ?_; refine wpO_cons ?_; refine op1_pick_f rfl rfl (by (conv => lhs; whnf) <;> rfl) ?_; refine zns ?_; refine wp_false rfl ?_; refine wp_skip ?_; refine block_normal ?_; refine seq_normal ?_; refine wp_region ?_; refine wpO_cons ?_; refine op1_add rfl rfl rfl (by exact wrap_i64 (by omega) (by omega)) ?_; refine zw1 ?_; refine wpO_nil ?_
      exact ⟨d.length - (i + 1), by omega, i + 1, _, rfl, rfl, by omega, hH1, S.up1 hS⟩
    have e1 : (Fa.unref T.m k).1 = 0 := by unfold Fa.unref; rw [if_pos hkd, if_neg h0]
    rw [e1]
    obtain ⟨T2, hT2⟩ : ∃ z, z = T.wm (Fa.unref T.m k).2 := ⟨_, rfl⟩
    rw [← hT2] at hS hH1
    replace hz1 : T2.m.refs k = 0 := by rw [hT2]; exact hz1
    clear hT2 hH
    refine wpO_cons ?_; refine op1_eqlI_s rfl rfl rfl ?_; refine zw1 ?_; refine zw1 ?_; refine wpO_cons ?_; refine op1_rem rfl rfl rfl (by omega) ?_; refine wpO_cons ?_; refine op1_eqlI rfl rfl rfl ?_; refine wpO_cons ?_; refine op1_pick_t rfl rfl (by (conv => lhs; whnf) <;> rfl) ?_; refine zns ?_
    refine wp_dec rfl (fun h3 => ?_) (fun h3 => ?_)
    · obtain ⟨f, ha, hH2, hu⟩ := hH1.again hkm hz1
      refine zsr ?_; refine zw1 ?_; refine wpO_cons ?_; refine op1_build rfl ?_; refine bk_one (by (conv => lhs; whnf) <;> rfl) rfl rfl rfl ?_; refine bk_one (by (conv => lhs; whnf) <;> rfl) rfl rfl rfl ?_; refine bk_nil ?_; refine wpO_cons ?_; refine op1_call2 rfl (by (conv => lhs; whnf) <;> rfl) (by (conv => lhs; whnf) <;> rfl) ?_
      refine wpF_mono (L11 (T := T2) (an := none) (cn := 0) (ns := []) (cnt := 1) (al := 1) (cg := false) (top := false) hH1.one.ok hH1.one.ix (by decide) (by decide) RD.nil hS) ?_
      rw [ha]
      rintro _ H5 ⟨v0, rfl, hS⟩
      obtain ⟨a2, c2, rfl⟩ := hS.i1
      simp only at hS ⊢
      rw [show [f].length = 1 from rfl] at hS ⊢
      obtain ⟨ab2, ao2, acs2, rfl, _⟩ := S.slBlk hS (by simp)
      refine zw1 ?_; refine wpO_cons ?_; refine op1_extract rfl rfl rfl ?_; refine wpO_cons ?_; refine op1_extract rfl rfl rfl ?_; refine zw1 ?_; refine zw1 ?_; refine zns ?_; refine zsr ?_; refine zw1 ?_; refine wpO_cons ?_; refine op1_neqI_s rfl rfl rfl ?_; refine zw1 ?_; refine zw1 ?_; refine wpO_cons ?_; refine op1_len rfl rfl ?_; refine wpO_cons ?_; refine op1_neqI_s rfl rfl rfl ?_; refine wpO_cons ?_; refine op1_pick_f rfl rfl (by (conv => lhs; whnf) <;> rfl) ?_; refine zw1 ?_; refine zw1 ?_; refine zw1 ?_; refine wpO_cons ?_; refine op1_iaddr rfl rfl rfl (by omega) (by omega) ?_; refine wpO_cons ?_; refine op1_loadL rfl rfl (S.up0 hS) rfl (by omega) rfl ?_; refine wpO_cons ?_; refine op1_call2 rfl (by (conv => lhs; whnf) <;> rfl) (by (conv => lhs; whnf) <;> rfl) ?_
      refine wpF_mono (L12 (One.takes (l := [f]) hH1.one).ok.m (S.up1 hS)) ?_
      have hu : (Fa.unref (T2.wm ([f].foldl (takeF T2.pls) T2.m)).m f).1 = 0 := hu
      rw [hu]
      rintro _ H6 ⟨rfl, hS⟩
      refine wpO_cons ?_; refine op1_neqI_s rfl rfl rfl ?_; refine wpO_cons ?_; refine op1_pick_f rfl rfl (by (conv => lhs; whnf) <;> rfl) ?_; refine zns ?_; refine wp_false rfl ?_; refine wp_skip ?_; refine block_normal ?_; refine seq_normal ?_; refine wp_region ?_; refine wpO_cons ?_; refine op1_add rfl rfl rfl (by exact wrap_i64 (by omega) (by omega)) ?_; refine zw1 ?_; refine wpO_nil ?_
      exact ⟨d.length - (i + 1), by omega, i + 1, _, rfl, rfl, by omega, hH2, S.up1 (S.drop (S.up1 hS))⟩
    · refine wp_skip ?_; refine block_normal ?_; refine seq_normal ?_; refine wp_region ?_; refine wpO_cons ?_; refine op1_add rfl rfl rfl (by exact wrap_i64 (by omega) (by omega)) ?_; refine zw1 ?_; refine wpO_nil ?_
      exact ⟨d.length - (i + 1), by omega, i + 1, _, rfl, rfl, by omega, hH1, S.up1 hS⟩
  · obtain rfl : i = d.length := by omega
    refine wp_exit ?_; refine seq_exit ?_; refine iter_exit ?_; refine block_exit ?_; refine seq_normal ?_; refine wp_seq ?_; refine zsr ?_; refine zw1 ?_; refine wpO_cons ?_; refine op1_len rfl rfl ?_; refine zw1 ?_; refine zns ?_; refine wp_block ?_
    refine wp_loop [93] (fun j vs H' => ∃ (i : Nat) (T : Tb), vs = [.int .i64 i] ∧ j = nq + 1 - i ∧ i ≤ nq + 1 ∧ Held T L ∧ (∀ k ∈ L.take i, T.m.refs k = 0) ∧ S B H' (sl 1 (.slice a0 (nq + 1) c0) (i64s L) :: repT t T :: _))
      ⟨_, 0, T, rfl, rfl, by omega, hH, by simp, hS⟩ ?_
    clear hS hH T
    rintro j vs T' H4 ⟨i, T, rfl, rfl, hi, hH, hz, hS⟩
    refine zsr ?_; refine wpO_cons ?_; refine op1_lss rfl rfl rfl ?_; refine zns ?_; refine wp_seq ?_
    refine wp_dec rfl (fun hlt3 => ?_) (fun hlt3 => ?_)
    · obtain ⟨ab, ao, acs, rfl, _⟩ := S.slBlk hS (by omega)
      obtain ⟨k, hk⟩ : ∃ k, L[i]? = some k := ⟨L[i]'(by omega), by simp⟩
      have hkm := hLm k (List.mem_of_getElem? hk)
      have hkd := hH.one.dom (n := k) hkm.1 hkm.2
      refine wp_skip ?_; refine seq_normal ?_; refine wp_seq ?_; refine wp_block ?_; refine zsr ?_; refine wpO_cons ?_; refine op1_iaddr rfl rfl rfl (by omega) (by omega) ?_; refine wpO_cons ?_
      refine op1_loadL rfl rfl hS rfl (by omega) (i64s_at hk) ?_
      refine zw1 ?_; refine zns ?_; refine wp_region ?_; refine zw1 ?_; refine zw1 ?_; refine wpO_cons ?_; refine op1_call2 rfl (by (conv => lhs; whnf) <;> rfl) (by (conv => lhs; whnf) <;> rfl) ?_
      refine wpF_mono (L12 hH.one.ok.m (S.up1 hS)) ?_
      rintro _ H5 ⟨rfl, hS⟩
      refine wpO_nil ?_; refine block_normal ?_; refine seq_normal ?_; refine wp_region ?_; refine wpO_cons ?_; refine op1_add rfl rfl rfl (by exact wrap_i64 (by omega) (by omega)) ?_; refine zw1 ?_; refine wpO_nil ?_
      refine ⟨nq + 1 - (i + 1), by omega, i + 1, _, rfl, rfl, by omega, hH.unref (k := k), ?_, S.up1 hS⟩
      intro k' hk'
      show (Fa.unref T.m k).2.refs k' = 0
      by_cases hkk : k' = k
      · rw [hkk]; exact hH.zero hkd
      · rw [List.take_add_one, hk] at hk'
        rw [unref_refs, if_neg (fun q => hkk q.1)]
        rcases List.mem_append.1 hk' with h | h
        · exact hz k' h
        · simp at h; exact absurd h hkk
    · obtain rfl : i = nq + 1 := by omega
      rw [List.take_of_length_le (by omega)] at hz
      have hall : ∀ n, T.m.refs n = 0 := fun n => Classical.byContradiction fun h => h (hz n (hH.mem n h))
      refine wp_exit ?_; refine seq_exit ?_; refine iter_exit ?_; refine block_exit ?_; refine seq_normal ?_; refine zsr ?_; refine zw1 ?_; refine wpO_cons ?_; refine op1_call2 rfl (by (conv => lhs; whnf) <;> rfl) (by (conv => lhs; whnf) <;> rfl) ?_
      refine wpF_mono (L19 hH.one.ok hH.one.ix (s := nmP) (S.up1 hS)) ?_
      rw [hH.one.all hall]
      rintro _ H6 ⟨rfl, hS⟩
      unfold usC
      refine zw1 ?_; refine wpO_cons ?_; refine op1_extract rfl rfl rfl ?_; refine wpO_cons ?_; refine op1_extract rfl rfl rfl ?_; refine wpO_cons ?_; refine op1_allocS rfl hS ?_; intro p2 H5 hS; refine wpO_cons ?_; (refine op1_storeNS rfl rfl (by (conv => lhs; whnf) <;> rfl) rfl rfl (S.up0 hS) (Nat.le_of_ble_eq_true rfl) ?_; intro H7 hS; replace hS := S.dn0 hS); refine zw1 ?_; refine zns ?_; refine zsr ?_; refine zw1 ?_; refine wpO_cons ?_; refine op1_eqlI_s rfl rfl rfl ?_; refine zw1 ?_; refine wpO_cons ?_; refine op1_load_3 rfl rfl (by exact S.g0 hS) rfl rfl ?_; refine wpO_cons ?_; refine op1_build rfl ?_; refine bk_one (by (conv => lhs; whnf) <;> rfl) rfl rfl rfl ?_; refine bk_one (by (conv => lhs; whnf) <;> rfl) rfl rfl rfl ?_; refine bk_nil ?_; refine wpO_cons ?_; refine op1_bin_true rfl (by (conv => lhs; whnf) <;> rfl) (by (conv => lhs; whnf) <;> rfl) rfl ?_; refine wpO_cons ?_; refine op1_pick_t rfl rfl (by (conv => lhs; whnf) <;> rfl) ?_; refine zw1 ?_; refine wpO_cons ?_; refine op1_call0 rfl  ?_; refine wpF_known rfl (globAll _) ?_; refine wpO_cons ?_; refine op1_pick_t rfl rfl (by (conv => lhs; whnf) <;> rfl) ?_; refine zw1 ?_; refine zns ?_; refine wp_ret ?_; refine ret_of ?_; refine rk_tmp (by (conv => lhs; whnf) <;> rfl) ?_; refine rk_nil ?_
      rfl
end Go.E.Fa
