/- FramesContiguous: the walk and the law. -/
import Derived.Test.YtlkgacbholklkaaFaAL
namespace Go.E.Fa
open Go Go.E Go.Proofs.Ytlkgacbholklkaa Go.Proofs
set_option linter.unusedVariables false
set_option linter.unusedSimpArgs false
set_option maxRecDepth 100000
/-! ### the first aligned place -/
def OkAt (fr : Nat → Bool) (E cnt g : Nat) : Prop := g + cnt ≤ E ∧ ∀ i, g ≤ i → i < g + cnt → fr i = true
def IsFirst (fr : Nat → Bool) (E cnt al n : Nat) (a : Int) : Prop :=
  (a = -1 ∧ ∀ g, n ≤ g → al ∣ g → ¬ OkAt fr E cnt g) ∨ ∃ m : Nat, a = m ∧ n ≤ m ∧ al ∣ m ∧ OkAt fr E cnt m ∧ ∀ g, n ≤ g → g < m → al ∣ g → ¬ OkAt fr E cnt g
theorem skip_stop {fr : Nat → Bool} {E : Nat} (n : Nat) (h : skip fr E n < E) : fr (skip fr E n) = false := by
  rw [skip.eq_def] at h ⊢
  split
  · rename_i h1
    rw [dif_pos h1] at h
    exact skip_stop (n + 1) h
  · rename_i h1
    rw [dif_neg h1] at h
    by_cases h2 : fr n = true
    · exact absurd ⟨h, h2⟩ h1
    · simpa using h2
termination_by E - n
theorem low_le {al g : Nat} {x : Nat × Nat} (hal : 1 ≤ al) (hd : al ∣ g) (h : x.1 ≤ g) : low al x ≤ g := by
  obtain ⟨q, rfl⟩ := hd
  unfold low
  have : (x.1 + al - 1) / al ≤ q := by
    rw [Nat.div_le_iff_le_mul_add_pred (by omega)]
    omega
  calc (x.1 + al - 1) / al * al ≤ q * al := Nat.mul_le_mul_right _ this
    _ = al * q := Nat.mul_comm _ _
theorem low_dvd {al : Nat} {x : Nat × Nat} : al ∣ low al x := Nat.dvd_mul_left _ _
theorem isFirst_runs {fr : Nat → Bool} {E cnt al : Nat} (hal : 1 ≤ al) (hc : 1 ≤ cnt) (n : Nat) (hn : n ≤ E + 1) : IsFirst fr E cnt al n (atOf cnt al false (runsAt fr E n)) := by
  rw [runsAt.eq_def]
  split
  · rename_i hlt
    have hge := skip_ge fr E n
    have hle := skip_le fr E n (by omega)
    have ih := isFirst_runs (fr := fr) (E := E) (cnt := cnt) (al := al) hal hc (skip fr E n + 1) (by omega)
    have hin : ∀ g, n ≤ g → g ≤ skip fr E n → OkAt fr E cnt g → g < skip fr E n ∧ g + cnt ≤ skip fr E n := by
      intro g h1 h2 h3
      have hs : ¬ (g ≤ skip fr E n ∧ skip fr E n < g + cnt ∧ skip fr E n < E) := by
        rintro ⟨h4, h5, h6⟩
        have := h3.2 _ h4 h5
        rw [skip_stop n h6] at this
        cases this
      have := h3.1
      omega
    have hrest : ∀ a, IsFirst fr E cnt al (skip fr E n + 1) a → (∀ g, n ≤ g → g ≤ skip fr E n → al ∣ g → ¬ OkAt fr E cnt g) → IsFirst fr E cnt al n a := by
      rintro a (⟨h1, h2⟩ | ⟨m, h1, h2, h3, h4, h5⟩) h6
      · refine .inl ⟨h1, fun g g1 g2 g3 => ?_⟩
        by_cases g4 : g ≤ skip fr E n
        · exact h6 g g1 g4 g2 g3
        · exact h2 g (by omega) g2 g3
      · refine .inr ⟨m, h1, by omega, h3, h4, fun g g1 g2 g3 g4 => ?_⟩
        by_cases g5 : g ≤ skip fr E n
        · exact h6 g g1 g5 g3 g4
        · exact h5 g (by omega) g2 g3 g4
    split
    · rename_i hs
      rw [List.singleton_append]
      unfold atOf at ih ⊢
      rw [List.foldl_cons]
      by_cases hf : fits cnt al (n, skip fr E n) = true
      · have e : at1 cnt al false (-1) (n, skip fr E n) = (low al (n, skip fr E n) : Nat) := by
          unfold at1; rw [if_pos hf, if_neg (by simp), if_pos (by omega)]
        rw [e, atOf_more _ _ (by omega)]
        have h1 := low_ge (al := al) (x := (n, skip fr E n)) hal
        have h2 := of_decide_eq_true hf
        simp only at h1 h2
        refine .inr ⟨_, rfl, h1, low_dvd, ⟨by omega, fun i i1 i2 => skip_free (fr := fr) (E := E) n (by omega) (by omega)⟩, fun g g1 g2 g3 _ => ?_⟩
        have := low_le (x := (n, skip fr E n)) hal g3 g1
        omega
      · have e : at1 cnt al false (-1) (n, skip fr E n) = -1 := by unfold at1; rw [if_neg hf]
        rw [e]
        refine hrest _ ih fun g g1 g2 g3 g4 => hf ?_
        have := hin g g1 g2 g4
        have := low_le (x := (n, skip fr E n)) hal g3 g1
        unfold fits
        rw [decide_eq_true_eq]
        simp only
        omega
    · rename_i hs
      rw [List.nil_append]
      refine hrest _ ih fun g g1 g2 g3 g4 => ?_
      have := hin g g1 g2 g4
      omega
  · refine .inl ⟨rfl, fun g g1 g2 g3 => ?_⟩
    have := g3.1
    omega
termination_by E + 1 - n
decreasing_by have := skip_ge fr E n; omega
theorem isFirst_uniq {fr : Nat → Bool} {E cnt al n : Nat} {a b : Int} (h : IsFirst fr E cnt al n a) (k : IsFirst fr E cnt al n b) : a = b := by
  rcases h with ⟨h1, h2⟩ | ⟨m, h1, h2, h3, h4, h5⟩
  · rcases k with ⟨k1, k2⟩ | ⟨m', k1, k2, k3, k4, k5⟩
    · omega
    · exact absurd k4 (h2 m' k2 k3)
  · rcases k with ⟨k1, k2⟩ | ⟨m', k1, k2, k3, k4, k5⟩
    · exact absurd h4 (k2 m h2 h3)
    · by_cases g1 : m < m'
      · exact absurd h4 (k5 m h2 g1 h3)
      · by_cases g2 : m' < m
        · exact absurd k4 (h5 m' k2 g2 k3)
        · omega

theorem OkAt.congr {fr fr' : Nat → Bool} {E cnt g : Nat} (h : ∀ n, n < E → fr n = fr' n) (k : OkAt fr E cnt g) : OkAt fr' E cnt g := ⟨k.1, fun i a b => by rw [← h i (by have := k.1; omega)]; exact k.2 i a b⟩
theorem IsFirst.congr {fr fr' : Nat → Bool} {E cnt al n : Nat} {a : Int} (h : ∀ n, n < E → fr n = fr' n) (k : IsFirst fr E cnt al n a) : IsFirst fr' E cnt al n a := by
  have h' : ∀ n, n < E → fr' n = fr n := fun n hn => (h n hn).symm
  rcases k with ⟨k1, k2⟩ | ⟨m, k1, k2, k3, k4, k5⟩
  · exact .inl ⟨k1, fun g a b c => k2 g a b (c.congr h')⟩
  · exact .inr ⟨m, k1, k2, k3, k4.congr h, fun g a b c d => k5 g a b c (d.congr h')⟩
theorem consec_at {a : Int} {n i : Nat} (h : i < n) : (i64s (consec a n))[i]? = some (.int .i64 (a + i)) := by
  unfold i64s consec
  rw [List.getElem?_map, List.getElem?_map, List.getElem?_range h]
  rfl
def fz (u : Int) (n : Nat) : Bool := decide (bitAnd .u64 (u.fdiv (2 ^ (min (n : Int).toNat (IntKind.bits .u64)))) 1 = 0)
theorem L3 {B : AHeap} {u n al : Int} (hn : 0 ≤ n ∧ n ≤ 255) (ha : 0 ≤ al ∧ al ≤ 255) : wpF C 3 [.int .u64 u, .int .u8 n, .int .u8 al] B fun v _ => v = .bool true := by
  have hS := S.start B
  refine wpF_ofW o3 rfl rfl ?_
  obtain ⟨nq, hnq, hnq1⟩ : ∃ q : Nat, n.tmod 16 = q ∧ q ≤ 15 := ⟨(n.tmod 16).toNat, by rw [Int.tmod_eq_emod_of_nonneg hn.1]; omega, by rw [Int.tmod_eq_emod_of_nonneg hn.1]; omega⟩
  obtain ⟨aq, haq, haq1⟩ : ∃ q : Nat, al.tmod 5 = q ∧ q ≤ 4 := ⟨(al.tmod 5).toNat, by rw [Int.tmod_eq_emod_of_nonneg ha.1]; omega, by rw [Int.tmod_eq_emod_of_nonneg ha.1]; omega⟩
  refine zsr ?_; refine zw1 ?_; refine zns ?_; refine zsr ?_; refine zw1 ?_; refine wpO_cons ?_; refine op1_rem rfl rfl rfl (by omega) ?_; refine wpO_cons ?_; refine op1_convInt rfl rfl (by exact wrap_i64 (by omega) (by omega)) ?_; refine wpO_cons ?_; refine op1_add rfl rfl rfl (by exact wrap_i64 (by omega) (by omega)) ?_; refine zw1 ?_; refine wpO_cons ?_; refine op1_rem rfl rfl rfl (by omega) ?_; refine wpO_cons ?_
  rw [hnq]
  skip
  rw [haq]
  refine op1_shl rfl rfl rfl (by omega) ?_
  obtain ⟨k, hk, hk1, hk2, hk3⟩ : ∃ k : Nat, IntKind.wrap .i64 (1 * 2 ^ (min (aq : Int).toNat (IntKind.bits .i64))) = k ∧ 1 ≤ k ∧ k ≤ 16 ∧ bitAnd .i64 k (k - 1) = 0 := by
    have : aq = 0 ∨ aq = 1 ∨ aq = 2 ∨ aq = 3 ∨ aq = 4 := by omega
    rcases this with rfl | rfl | rfl | rfl | rfl
    · exact ⟨1, by decide +kernel⟩
    · exact ⟨2, by decide +kernel⟩
    · exact ⟨4, by decide +kernel⟩
    · exact ⟨8, by decide +kernel⟩
    · exact ⟨16, by decide +kernel⟩
  rw [hk]
  refine zw1 ?_; refine zw1 ?_; refine zns ?_; refine zsr ?_; refine wpO_cons ?_; refine op1_build rfl ?_; refine bk_one (by (conv => lhs; whnf) <;> rfl) rfl rfl rfl ?_; refine bk_one (by (conv => lhs; whnf) <;> rfl) rfl rfl rfl ?_; refine bk_one (by (conv => lhs; whnf) <;> rfl) rfl rfl rfl ?_; refine bk_nil ?_; refine wpO_cons ?_; refine op1_bsliceS rfl hS ?_; refine bk_agg rfl rfl rfl rfl ?_; refine bk_nil ?_; intro p1 H1 hS; refine wpO_cons ?_; refine op1_call1 rfl (by (conv => lhs; whnf) <;> rfl) ?_
  replace hS := S.slNew (l := 1) (es := 5) hS rfl
  have e0 : newE [poolP 0 64] = 0 := by decide +kernel
  refine wpF_mono (L10 (pls := [poolP 0 64]) (by decide) (by intro p hp; rw [List.mem_singleton] at hp; subst hp; decide) RD.head hS) ?_
  rintro _ H1 ⟨_, hok⟩
  obtain ⟨t, T, rfl, hTp, hF, hS⟩ := hok e0
  clear hok
  have hO := One.fresh hTp hF
  have hz : ∀ n, T.m.refs n = 0 := hF.m.refs
  clear hF hTp
  refine zw1 ?_; refine wpO_cons ?_; refine op1_extract rfl rfl rfl ?_; refine wpO_cons ?_; refine op1_extract rfl rfl rfl ?_; refine zw1 ?_; refine zw1 ?_; refine zns ?_; refine wp_seq ?_; refine zsr ?_; refine zw1 ?_; refine wpO_cons ?_; refine op1_neqI_s rfl rfl rfl ?_; refine zw1 ?_; refine zw1 ?_; refine wpO_cons ?_; refine op1_bin_false rfl (by (conv => lhs; whnf) <;> rfl) (by (conv => lhs; whnf) <;> rfl) rfl ?_; refine wpO_cons ?_; refine op1_pick_f rfl rfl (by (conv => lhs; whnf) <;> rfl) ?_; refine zns ?_; refine wp_false rfl ?_; refine wp_skip ?_; refine seq_normal ?_; refine wp_seq ?_; refine zsr ?_; refine zw1 ?_; refine wpO_cons ?_; refine op1_build rfl ?_; refine bk_one (by (conv => lhs; whnf) <;> rfl) rfl rfl rfl ?_; refine bk_one (by (conv => lhs; whnf) <;> rfl) rfl rfl rfl ?_; refine bk_nil ?_; refine wpO_cons ?_; refine op1_call2 rfl (by (conv => lhs; whnf) <;> rfl) (by (conv => lhs; whnf) <;> rfl) ?_
  refine wpF_mono (L11 (T := T) (an := none) (cn := 0) (ns := []) (cnt := (64 : Nat)) (al := 1) (cg := false) (top := false) hO.ok hO.ix (by decide) (by decide) RD.nil hS) ?_
  rw [hO.alloc1 (by decide) (by decide)]
  have hfr : ordP T.m (poolP 0 64) false = consec 0 64 := freeP_all (f := 0) (c := 64) fun n _ _ => hz n
  rw [hfr, if_neg (by decide), show (consec 0 64).take 64 = consec 0 64 by decide]
  rintro _ H2 ⟨v0, rfl, hS⟩
  obtain ⟨a0, c0, rfl⟩ := hS.i1
  replace hO := hO.takes (l := consec 0 64)
  have hr1 : ∀ n : Nat, n < 64 → (T.wm ((consec 0 64).foldl (takeF T.pls) T.m)).m.refs n = 1 := by
    intro n hn
    show ((consec 0 64).foldl (takeF T.pls) T.m).refs n = 1
    rw [takes_refs, if_pos (consec_mem.2 (by omega))]
  generalize T.wm ((consec 0 64).foldl (takeF T.pls) T.m) = T1 at *
  clear hfr hz
  have hl64 : (consec 0 64).length = 64 := by decide
  rw [hl64] at *
  simp only
  refine zw1 ?_; refine wpO_cons ?_; refine op1_extract rfl rfl rfl ?_; refine wpO_cons ?_; refine op1_extract rfl rfl rfl ?_; refine zw1 ?_; refine zw1 ?_; refine zns ?_; refine zsr ?_; refine zw1 ?_; refine wpO_cons ?_; refine op1_neqI_s rfl rfl rfl ?_; refine zw1 ?_; refine zw1 ?_; refine wpO_cons ?_; refine op1_len rfl rfl ?_; refine wpO_cons ?_; refine op1_neqI_s rfl rfl rfl ?_; refine wpO_cons ?_; refine op1_pick_f rfl rfl (by (conv => lhs; whnf) <;> rfl) ?_; refine zns ?_; refine wp_false rfl ?_; refine wp_skip ?_; refine seq_normal ?_; refine wp_seq ?_; refine zsr ?_; refine zw1 ?_; refine zns ?_; refine wp_block ?_
  have hS0 := S.drop hS
  refine wp_loop [13] (fun j vs H' => ∃ (f : Nat) (T : Tb), vs = [.int .i64 f] ∧ j = 64 - f ∧ f ≤ 64 ∧ One T 0 64 ∧ (∀ n : Nat, n < 64 → T.m.refs n = if n < f then (if fz u n then 0 else 1) else 1) ∧ S B H' (repT t T :: _))
    ⟨_, 0, T1, rfl, rfl, by omega, hO, fun n hn => by rw [if_neg (by omega)]; exact hr1 n hn, hS0⟩ ?_
  clear hS hS0 hO hr1
  rintro j vs T' H3 ⟨f, T, rfl, rfl, hf, hO, hr, hS⟩
  refine wp_seq ?_; refine zsr ?_; refine zw1 ?_; refine wpO_cons ?_; refine op1_lss rfl rfl rfl ?_; refine zns ?_
  refine wp_dec rfl (fun hlt => ?_) (fun hlt => ?_)
  · refine wp_skip ?_; refine seq_normal ?_; refine wp_seq ?_; refine wp_block ?_; refine zsr ?_; refine zw1 ?_; refine zw1 ?_; refine wpO_cons ?_
    refine op1_shr rfl rfl rfl (by omega) ?_
    refine wpO_cons ?_
    refine op1_and rfl rfl rfl ?_
    refine wpO_cons ?_; refine op1_eqlI rfl rfl rfl ?_; refine zw1 ?_; refine wpO_cons ?_
    refine op1_dec rfl (fun hb => ?_) (fun hb => ?_)
    · have hfz : fz u f = true := decide_eq_true hb
      refine op1_mov rfl (by (conv => lhs; whnf) <;> rfl) ?_; refine zw1 ?_; refine wpO_cons ?_; refine op1_call2 rfl (by (conv => lhs; whnf) <;> rfl) (by (conv => lhs; whnf) <;> rfl) ?_
      refine wpF_mono (L12 hO.ok.m hS) ?_
      have hrf := hr f (by omega)
      rw [if_neg (by omega)] at hrf
      have hd := hO.dom (n := f) (by omega) (by omega)
      have e1 : (unref T.m f).1 = 0 := by unfold unref; rw [if_pos hd, if_neg (by omega)]
      have e2 : ∀ n : Int, (unref T.m f).2.refs n = if n = f then 0 else T.m.refs n := by
        intro n
        rw [unref_refs]
        by_cases h : n = f
        · rw [if_pos ⟨h, hd, by omega⟩, if_pos h]; omega
        · rw [if_neg (fun q => h q.1), if_neg h]
      rw [e1]
      rintro _ H4 ⟨rfl, hS⟩
      refine wpO_cons ?_; refine op1_neqI_s rfl rfl rfl ?_; refine wpO_cons ?_; refine op1_pick_t rfl rfl (by (conv => lhs; whnf) <;> rfl) ?_; refine zns ?_; refine wp_false rfl ?_; refine wp_skip ?_; refine block_normal ?_; refine seq_normal ?_; refine wp_region ?_; refine zw1 ?_; refine wpO_cons ?_; refine op1_add rfl rfl rfl (by exact wrap_i64 (by omega) (by omega)) ?_; refine zw1 ?_; refine wpO_nil ?_
      refine ⟨64 - (f + 1), by omega, f + 1, _, rfl, rfl, by omega, hO.unref (n := f), ?_, hS⟩
      intro n hn
      show (unref T.m f).2.refs n = _
      rw [e2]
      by_cases h : n = f
      · subst h
        rw [if_pos rfl, if_pos (by omega), if_pos hfz]
      · rw [if_neg (by omega), hr n hn]
        by_cases h2 : n < f
        · rw [if_pos h2, if_pos (show n < f + 1 by omega)]
        · rw [if_neg h2, if_neg (by omega)]
    · have hfz : ¬ fz u f = true := fun h => hb (of_decide_eq_true h)
      refine op1_skip rfl ?_; refine wpO_cons ?_; refine op1_skip rfl ?_; refine wpO_cons ?_; refine op1_skip rfl ?_; refine wpO_cons ?_; refine op1_skip rfl ?_; refine wpO_cons ?_; refine op1_pick_f rfl rfl (by (conv => lhs; whnf) <;> rfl) ?_; refine zns ?_; refine wp_false rfl ?_; refine wp_skip ?_; refine block_normal ?_; refine seq_normal ?_; refine wp_region ?_; refine zw1 ?_; refine wpO_cons ?_; refine op1_add rfl rfl rfl (by exact wrap_i64 (by omega) (by omega)) ?_; refine zw1 ?_; refine wpO_nil ?_
      refine ⟨64 - (f + 1), by omega, f + 1, T, rfl, rfl, by omega, hO, ?_, hS⟩
      intro n hn
      rw [hr n hn]
      by_cases h : n = f
      · subst h
        rw [if_neg (by omega), if_pos (by omega), if_neg hfz]
      · by_cases h2 : n < f
        · rw [if_pos h2, if_pos (show n < f + 1 by omega)]
        · rw [if_neg h2, if_neg (by omega)]
  · obtain rfl : f = 64 := by omega
    replace hr : ∀ n : Nat, n < 64 → frB T.m n = fz u n := by
      intro n hn
      have := hr n hn
      rw [if_pos hn] at this
      unfold frB
      rw [this]
      cases fz u n <;> simp
    refine wp_exit ?_; refine seq_exit ?_; refine iter_exit ?_; refine block_exit ?_; refine seq_normal ?_; refine zsr ?_; refine zw1 ?_; refine zns ?_; refine wp_seq ?_; refine zsr ?_; refine zw1 ?_; refine zns ?_; refine wp_block ?_
    refine wp_loop [14, 15] (fun j vs H' => ∃ (f : Nat) (w : Int), vs = [.int .i64 w, .int .i64 f] ∧ j = 100 - f ∧ f ≤ 80 ∧ k ∣ f ∧ H3 = H' ∧
        ((w = -1 ∧ ∀ g, g < f → k ∣ g → ¬ OkAt (fz u) 64 (nq + 1) g) ∨ ∃ m : Nat, w = m ∧ k ∣ m ∧ OkAt (fz u) 64 (nq + 1) m ∧ ∀ g, g < m → k ∣ g → ¬ OkAt (fz u) 64 (nq + 1) g))
      ⟨_, 0, -1, rfl, rfl, by omega, Nat.dvd_zero k, rfl, .inl ⟨rfl, fun g h => by omega⟩⟩ ?_
    rintro j vs T'' H4 ⟨f, w, rfl, rfl, hf80, hkf, rfl, hw⟩
    refine wp_seq ?_
    refine wp_cut [73] (fun vs H' => vs = [.bool (decide (f + (nq + 1) ≤ 64 ∧ w < 0))] ∧ H3 = H') ?_ ?_
    · refine wp_region ?_; refine zw1 ?_; refine zw1 ?_; refine wpO_cons ?_; refine op1_add rfl rfl rfl (by exact wrap_i64 (by omega) (by omega)) ?_; refine wpO_cons ?_; refine op1_leq rfl rfl rfl ?_; refine zw1 ?_; refine wpO_cons ?_
      refine op1_dec rfl (fun h1 => ?_) (fun h1 => ?_)
      · refine op1_mov rfl (by (conv => lhs; whnf) <;> rfl) ?_; refine wpO_cons ?_; refine op1_lss rfl rfl rfl ?_; refine wpO_cons ?_; refine op1_pick_t rfl rfl (by (conv => lhs; whnf) <;> rfl) ?_; refine wpO_nil ?_; refine cut1 (by (conv => lhs; whnf) <;> rfl) ?_
        exact ⟨bool_leaf (by simp [show f + (nq + 1) ≤ 64 by omega]), rfl⟩
      · refine op1_skip rfl ?_; refine wpO_cons ?_; refine op1_skip rfl ?_; refine wpO_cons ?_; refine op1_pick_f rfl rfl (by (conv => lhs; whnf) <;> rfl) ?_; refine wpO_nil ?_; refine cut1 (by (conv => lhs; whnf) <;> rfl) ?_
        exact ⟨bool_leaf (by simp; omega), rfl⟩
    rintro vs2 T2 H5 ⟨rfl, rfl⟩
    refine wp_dec rfl (fun hgo => ?_) (fun hgo => ?_)
    · obtain ⟨rfl, hw2⟩ : w = -1 ∧ ∀ g, g < f → k ∣ g → ¬ OkAt (fz u) 64 (nq + 1) g := by
        rcases hw with h | ⟨m, h, _⟩
        · exact h
        · omega
      refine wp_skip ?_; refine seq_normal ?_; refine wp_seq ?_; refine wp_block ?_; refine zsr ?_; refine zw1 ?_; refine zns ?_; refine wp_seq ?_; refine zsr ?_; refine zw1 ?_; refine zw1 ?_; refine zns ?_; refine wp_block ?_
      refine wp_loop [16, 17] (fun j vs H' => ∃ (b : Bool) (i : Nat), vs = [.bool b, .int .i64 i] ∧ j = f + (nq + 1) - i ∧ f ≤ i ∧ i ≤ f + (nq + 1) ∧ H3 = H' ∧ (b = true ↔ ∀ i', f ≤ i' → i' < i → fz u i' = true))
        ⟨_, true, f, rfl, rfl, by omega, by omega, rfl, by constructor; (intro _ i' a b; omega); (intro _; rfl)⟩ ?_
      rintro j2 vs T3 H5 ⟨b, i, rfl, rfl, hi1, hi2, rfl, hb⟩
      refine wp_seq ?_; refine zsr ?_; refine zw1 ?_; refine zw1 ?_; refine zw1 ?_; refine wpO_cons ?_; refine op1_add rfl rfl rfl (by exact wrap_i64 (by omega) (by omega)) ?_; refine wpO_cons ?_; refine op1_lss rfl rfl rfl ?_; refine zns ?_
      refine wp_dec rfl (fun hlt2 => ?_) (fun hlt2 => ?_)
      · refine wp_skip ?_; refine seq_normal ?_; refine wp_seq ?_; refine wp_block ?_; refine wp_region ?_; refine zw1 ?_; refine zw1 ?_; refine wpO_cons ?_
        cases b
        · refine op1_skip rfl ?_; refine wpO_cons ?_; refine op1_skip rfl ?_; refine wpO_cons ?_; refine op1_skip rfl ?_; refine wpO_cons ?_; refine op1_skip rfl ?_; refine wpO_cons ?_; refine op1_skip rfl ?_; refine wpO_cons ?_; refine op1_pick_f rfl rfl (by (conv => lhs; whnf) <;> rfl) ?_; refine zw1 ?_; refine wpO_nil ?_; refine block_normal ?_; refine seq_normal ?_; refine wp_region ?_; refine zw1 ?_; refine wpO_cons ?_; refine op1_add rfl rfl rfl (by exact wrap_i64 (by omega) (by omega)) ?_; refine zw1 ?_; refine wpO_nil ?_
          refine ⟨f + (nq + 1) - (i + 1), by omega, false, i + 1, rfl, rfl, by omega, by omega, rfl, ?_⟩
          constructor
          · intro h; cases h
          · intro h; exact hb.2 fun i' a b => h i' a (by omega)
        · refine op1_mov rfl (by (conv => lhs; whnf) <;> rfl) ?_; refine zw1 ?_; refine wpO_cons ?_
          refine op1_shr rfl rfl rfl (by omega) ?_
          refine wpO_cons ?_
          refine op1_and rfl rfl rfl ?_
          refine wpO_cons ?_; refine op1_eqlI rfl rfl rfl ?_; refine wpO_cons ?_; refine op1_pick_t rfl rfl (by (conv => lhs; whnf) <;> rfl) ?_; refine zw1 ?_; refine wpO_nil ?_; refine block_normal ?_; refine seq_normal ?_; refine wp_region ?_; refine zw1 ?_; refine wpO_cons ?_; refine op1_add rfl rfl rfl (by exact wrap_i64 (by omega) (by omega)) ?_; refine zw1 ?_; refine wpO_nil ?_
          refine ⟨f + (nq + 1) - (i + 1), by omega, fz u i, i + 1, rfl, rfl, by omega, by omega, rfl, ?_⟩
          constructor
          · intro h i' a b
            by_cases h2 : i' = i
            · rw [h2]; exact h
            · exact hb.1 rfl i' a (by omega)
          · intro h
            exact h i hi1 (by omega)
      · obtain rfl : i = f + (nq + 1) := by omega
        refine wp_exit ?_; refine seq_exit ?_; refine iter_exit ?_; refine block_exit ?_; refine seq_normal ?_; refine zsr ?_; refine zw1 ?_; refine zns ?_
        refine wp_cond rfl (fun hb1 => ?_) (fun hb1 => ?_)
        · refine wp_region ?_; refine zw1 ?_; refine zw1 ?_; refine wpO_nil ?_; refine block_normal ?_; refine seq_normal ?_; refine wp_region ?_; refine zw1 ?_; refine zw1 ?_; refine wpO_cons ?_; refine op1_add rfl rfl rfl (by exact wrap_i64 (by omega) (by omega)) ?_; refine zw1 ?_; refine wpO_nil ?_
          refine ⟨100 - (f + k), by omega, f + k, f, rfl, rfl, by omega, Nat.dvd_add hkf (Nat.dvd_refl k), rfl, .inr ⟨f, rfl, hkf, ⟨hgo.1, hb.1 hb1⟩, hw2⟩⟩
        · refine wp_skip ?_; refine block_normal ?_; refine seq_normal ?_; refine wp_region ?_; refine zw1 ?_; refine zw1 ?_; refine wpO_cons ?_; refine op1_add rfl rfl rfl (by exact wrap_i64 (by omega) (by omega)) ?_; refine zw1 ?_; refine wpO_nil ?_
          refine ⟨100 - (f + k), by omega, f + k, -1, rfl, rfl, by omega, Nat.dvd_add hkf (Nat.dvd_refl k), rfl, .inl ⟨rfl, fun g g1 g2 g3 => ?_⟩⟩
          by_cases g4 : g < f
          · exact hw2 g g4 g2 g3
          · by_cases g5 : g = f
            · subst g5
              rw [hb.2 g3.2] at hb1
              cases hb1
            · have := Nat.le_of_dvd (by omega) (Nat.dvd_sub g2 hkf)
              omega
    · have hfin : IsFirst (fz u) 64 (nq + 1) k 0 w := by
        rcases hw with ⟨rfl, h⟩ | ⟨m, rfl, h1, h2, h3⟩
        · refine .inl ⟨rfl, fun g _ g2 g3 => ?_⟩
          by_cases g4 : g < f
          · exact h g g4 g2 g3
          · have := g3.1; omega
        · exact .inr ⟨m, rfl, by omega, h1, h2, fun g _ g2 g3 => h3 g g2 g3⟩
      refine wp_exit ?_; refine seq_exit ?_; refine iter_exit ?_; refine block_exit ?_; refine seq_normal ?_; refine zsr ?_; refine zw1 ?_; refine zw1 ?_; refine zw1 ?_; refine wpO_cons ?_; refine op1_build rfl ?_; refine bk_one (by (conv => lhs; whnf) <;> rfl) rfl rfl rfl ?_; refine bk_one (by (conv => lhs; whnf) <;> rfl) rfl rfl rfl ?_; refine bk_one (by (conv => lhs; whnf) <;> rfl) rfl rfl rfl ?_; refine bk_nil ?_; refine wpO_cons ?_; refine op1_call2 rfl (by (conv => lhs; whnf) <;> rfl) (by (conv => lhs; whnf) <;> rfl) ?_
      refine wpF_mono (L11 (T := T) (an := none) (cn := 0) (ns := []) (cnt := (nq + 1 : Nat)) (al := k) (cg := true) (top := false) hO.ok hO.ix (by decide) (by omega) RD.nil hS) ?_
      have hat : atP T (nq + 1) k false 0 = w := by
        refine isFirst_uniq (IsFirst.congr hr ?_) hfin
        unfold atP
        rw [hO.poolOf]
        exact isFirst_runs (fr := frB T.m) (E := 64) hk1 (by omega) 0 (by omega)
      rw [hO.allocC (by omega) (by omega) hk1 (by omega) hk3, hat]
      by_cases hw0 : 0 ≤ w
      · rw [if_pos hw0]
        rintro _ H6 ⟨v0, rfl, hS⟩
        obtain ⟨a0, c0, rfl⟩ := hS.i1
        rw [consec_len] at *
        refine zw1 ?_; refine wpO_cons ?_; refine op1_extract rfl rfl rfl ?_; refine wpO_cons ?_; refine op1_extract rfl rfl rfl ?_; refine zw1 ?_; refine zw1 ?_; refine zns ?_; refine wp_seq ?_; refine zsr ?_; refine zw1 ?_; refine wpO_cons ?_; refine op1_lss rfl rfl rfl ?_; refine zns ?_
        refine wp_dec rfl (fun hq => ?_) (fun hq => ?_)
        · omega
        obtain ⟨b, o, cs, rfl, _⟩ := S.slBlk hS (by omega)
        obtain ⟨m, rfl⟩ : ∃ m : Nat, w = m := ⟨w.toNat, by omega⟩
        simp only at hS
        have hm64 : m + (nq + 1) ≤ 64 := by
          rcases hfin with ⟨h, _⟩ | ⟨m', h, _, _, h2, _⟩
          · omega
          · have := h2.1; omega
        refine wp_skip ?_; refine seq_normal ?_; refine zsr ?_; refine zw1 ?_; refine wpO_cons ?_; refine op1_eqlI_s rfl rfl rfl ?_; refine zw1 ?_; refine zw1 ?_; refine wpO_cons ?_; refine op1_len rfl rfl ?_; refine zw1 ?_; refine wpO_cons ?_; refine op1_eqlI_s rfl rfl rfl ?_; refine wpO_cons ?_; refine op1_pick_t rfl rfl (by (conv => lhs; whnf) <;> rfl) ?_; refine zw1 ?_; refine zw1 ?_; refine wpO_cons ?_; refine op1_iaddr rfl rfl rfl (by omega) (by omega) ?_; refine wpO_cons ?_
        refine op1_loadL rfl rfl hS rfl (by omega) (consec_at (i := Int.toNat 0 * 1) (by simp)) ?_
        refine zw1 ?_; refine wpO_cons ?_; refine op1_eqlI_s rfl rfl rfl ?_; refine wpO_cons ?_; refine op1_pick_t rfl rfl (by (conv => lhs; whnf) <;> rfl) ?_; refine zw1 ?_; refine zw1 ?_; refine zw1 ?_; refine wpO_cons ?_; refine op1_sub rfl rfl rfl (by exact wrap_i64 (by omega) (by omega)) ?_; refine wpO_cons ?_; refine op1_iaddr rfl rfl rfl (by omega) (by omega) ?_; refine wpO_cons ?_
        refine op1_loadL rfl rfl hS rfl (by omega) (consec_at (i := ((nq : Int) + 1 - 1).toNat * 1) (by omega)) ?_
        refine zw1 ?_; refine zw1 ?_; refine wpO_cons ?_; refine op1_add rfl rfl rfl (by exact wrap_i64 (by omega) (by omega)) ?_; refine wpO_cons ?_; refine op1_sub rfl rfl rfl (by exact wrap_i64 (by omega) (by omega)) ?_; refine wpO_cons ?_; refine op1_eqlI rfl rfl rfl ?_; refine wpO_cons ?_; refine op1_pick_t rfl rfl (by (conv => lhs; whnf) <;> rfl) ?_; refine zw1 ?_; refine wpO_cons ?_
        refine op1_dec rfl (fun hz1 => ?_) (fun hz1 => ?_)
        · refine op1_call0 rfl  ?_; refine wpF_known rfl (globAll _) ?_; refine wpO_cons ?_; refine op1_pick_t rfl rfl (by (conv => lhs; whnf) <;> rfl) ?_; refine zw1 ?_; refine zns ?_; refine wp_ret ?_; refine ret_of ?_; refine rk_tmp (by (conv => lhs; whnf) <;> rfl) ?_; refine rk_nil ?_
          rfl
        · omega
      · rw [if_neg hw0]
        rintro _ H6 ⟨v0, rfl, hS⟩
        obtain ⟨a0, c0, rfl⟩ := hS.i1
        refine zw1 ?_; refine wpO_cons ?_; refine op1_extract rfl rfl rfl ?_; refine wpO_cons ?_; refine op1_extract rfl rfl rfl ?_; refine zw1 ?_; refine zw1 ?_; refine zns ?_; refine wp_seq ?_; refine zsr ?_; refine zw1 ?_; refine wpO_cons ?_; refine op1_lss rfl rfl rfl ?_; refine zns ?_
        refine wp_dec rfl (fun hq => ?_) (fun hq => ?_)
        · refine zsr ?_; refine zw1 ?_; refine wpO_cons ?_; refine op1_eqlI_s rfl rfl rfl ?_; refine zw1 ?_; refine wpO_cons ?_; refine op1_call0 rfl  ?_; refine wpF_known rfl (globAll _) ?_; refine wpO_cons ?_; refine op1_pick_t rfl rfl (by (conv => lhs; whnf) <;> rfl) ?_; refine zw1 ?_; refine zns ?_; refine wp_ret ?_; refine seq_ret ?_; refine ret_of ?_; refine rk_tmp (by (conv => lhs; whnf) <;> rfl) ?_; refine rk_nil ?_
          rfl
        · omega
end Go.E.Fa
