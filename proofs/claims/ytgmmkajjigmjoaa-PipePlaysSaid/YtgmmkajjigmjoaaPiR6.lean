/- Cancelling: the reference's. -/
import Derived.Test.YtgmmkajjigmjoaaPiR5
namespace Go.E.Pi
open Go Go.E Go.Proofs.Ytgmmkajjigmjoaa Go.Proofs
set_option linter.unusedVariables false
set_option linter.unusedSimpArgs false
set_option maxRecDepth 100000

theorem one_take {css : List (List Value)} (h : css.flatten.all (·.oneCell') = true) {i : Nat} : (css.take i).flatten.all (·.oneCell') = true := by
  have h1 : css = css.take i ++ css.drop i := (List.take_append_drop i css).symm
  rw [h1, List.flatten_append, List.all_append, Bool.and_eq_true] at h
  exact h.1
theorem one_drop {css : List (List Value)} (h : css.flatten.all (·.oneCell') = true) {i : Nat} : (css.drop i).flatten.all (·.oneCell') = true := by
  have h1 : css = css.take i ++ css.drop i := (List.take_append_drop i css).symm
  rw [h1, List.flatten_append, List.all_append, Bool.and_eq_true] at h
  exact h.2
theorem L60 {B H : AHeap} {As : List Asn} {q : Nat} {s : PP} {t : Int} (hS : S B H (repQ q s :: As)) (hok : Ok s) :
    wpF C 60 [.pointer (some ⟨q, 0, none⟩), .int .i64 t] H fun v H' => ∃ ve, v = .tuple ⟨[.agg ⟨[.int .i64 (s.cancelG progQ t).e.thread, .slice none 0 0, .int .i64 (s.cancelG progQ t).e.count, .int .i64 (s.cancelG progQ t).e.err]⟩, ve, .int .i64 (s.cancelG progQ t).err]⟩ ∧
      S B H' (arr 4 endA ve (s.cancelG progQ t).ends :: repQ q (s.cancelG progQ t).s :: As) := by
  have hrl := hok.rl
  have hwl := hok.wl
  obtain ⟨ab, cb, ar, cr, aw, cw, h2, h3, h4, hS⟩ := openQ hS
  refine wpF_ofW o60 rfl rfl ?_
  unfold PP.cancelG
  refine wp_seq ?_; refine wp_region ?_; refine wpO_cons ?_; refine op1_allocS rfl hS ?_; intro p1 H1 hS; refine wpO_cons ?_; refine op1_mov rfl (by (conv => lhs; whnf) <;> rfl) ?_; refine wpO_cons ?_; refine op1_mov rfl (by (conv => lhs; whnf) <;> rfl) ?_; refine wpO_nil ?_; refine seq_normal ?_; refine wp_seq ?_; refine wp_seq ?_; refine wp_region ?_; refine wpO_cons ?_; refine op1_mov rfl (by (conv => lhs; whnf) <;> rfl) ?_; refine wpO_nil ?_; refine seq_normal ?_; refine wp_block ?_
  refine wp_loop [7] (fun k vs H' => ∃ i : Nat, vs = [.int .i64 i] ∧ i + k = s.readers.length ∧ H1 = H' ∧ ∀ j, j < i → (s.readers.map (·.1))[j]? ≠ some t) ⟨s.readers.length, 0, rfl, by omega, rfl, by intro j h; omega⟩ ?_
  rintro k vs T' H2 ⟨i, rfl, hk, rfl, hno⟩
  refine wp_seq ?_; refine wp_seq ?_; refine wp_region ?_; refine wpO_cons ?_; refine op1_mov rfl (by (conv => lhs; whnf) <;> rfl) ?_; refine wpO_cons ?_; refine op1_mov rfl (by (conv => lhs; whnf) <;> rfl) ?_; refine wpO_cons ?_; refine op1_nilchk rfl rfl ?_; refine wpO_cons ?_; refine op1_faddr0 rfl rfl ?_; refine wpO_cons ?_; refine op1_load rfl rfl (by exact S.g1 hS) rfl ?_; refine wpO_cons ?_; refine op1_len rfl rfl ?_; refine wpO_cons ?_; refine op1_lss rfl rfl rfl ?_; refine wpO_nil ?_; refine seq_normal ?_
  refine wp_dec rfl (fun hc => ?_) (fun hc => ?_)
  · have hi : i < s.readers.length := by omega
    obtain ⟨x, hx⟩ : ∃ x, s.readers[i]? = some x := ⟨s.readers[i], by simp [hi]⟩
    obtain ⟨b, off, cs, rfl, hg, hle, htk, hat⟩ := (S.up3 hS).elt hi
    have hat0 := hat 0 (by omega)
    rw [flatMap_get (f := rdC) (es := 2) (fun _ => rfl) hx (by omega)] at hat0
    refine wp_skip ?_; refine seq_normal ?_; refine wp_seq ?_; refine wp_block ?_; refine wp_seq ?_; refine wp_region ?_; refine wpO_cons ?_; refine op1_mov rfl (by (conv => lhs; whnf) <;> rfl) ?_; refine wpO_cons ?_; refine op1_nilchk rfl rfl ?_; refine wpO_cons ?_; refine op1_faddr0 rfl rfl ?_; refine wpO_cons ?_; refine op1_load rfl rfl (by exact S.g1 hS) rfl ?_; refine wpO_cons ?_; refine op1_mov rfl (by (conv => lhs; whnf) <;> rfl) ?_; refine wpO_cons ?_; refine op1_iaddr rfl rfl rfl (by omega) (by omega) ?_; refine wpO_cons ?_; refine op1_faddr rfl rfl ?_; refine wpO_cons ?_
    refine op1_load rfl rfl hg (hat0.trans rfl) ?_
    refine wpO_cons ?_; refine op1_mov rfl (by (conv => lhs; whnf) <;> rfl) ?_; refine wpO_cons ?_; refine op1_eqlI rfl rfl rfl ?_; refine wpO_nil ?_; refine seq_normal ?_
    refine wp_dec rfl (fun he => ?_) (fun he => ?_)
    · have hri : s.rix t = i := ixL_step hno (by rw [List.getElem?_map, hx]; rfl) he
      rw [hri, if_pos (by omega), Int.toNat_natCast]
      refine wp_seq ?_; refine wp_regionD ?_; refine wpD_cons ?_; refine op1_mov rfl (by (conv => lhs; whnf) <;> rfl) ?_; refine wpD_cons ?_; refine op1_bsliceS rfl hS ?_; refine bk_nil ?_; intro p2 H2 hS; refine wpD_cons ?_; refine op1_mov rfl (by (conv => lhs; whnf) <;> rfl) ?_; refine wpD_cons ?_; refine op1_nilchk rfl rfl ?_; refine wpD_cons ?_; refine op1_faddr0 rfl rfl ?_; refine wpD_cons ?_; refine op1_load rfl rfl (by exact S.g2 hS) rfl ?_; refine wpD_cons ?_; refine op1_mov rfl (by (conv => lhs; whnf) <;> rfl) ?_; refine wpD_cons ?_
      have hT := S.drop (S.drop (S.drop (S.drop hS)))
      refine op1_sliceD rfl rfl RD.head hT (bnds_hi (by omega) (by omega)) (by omega) (by simp only [Int.toNat_natCast]; omega) ?_
      simp only [Int.toNat_natCast, Nat.zero_mul, List.drop_zero, Nat.sub_zero]
      intro a5 c5 hd5 hck5
      rw [flatMap_take (f := rdC) (es := 2) (fun _ => rfl)] at hd5
      refine wpD_cons ?_; refine op1_mov rfl (by (conv => lhs; whnf) <;> rfl) ?_; refine wpD_cons ?_; refine op1_nilchk rfl rfl ?_; refine wpD_cons ?_; refine op1_faddr0 rfl rfl ?_; refine wpD_cons ?_; refine op1_load rfl rfl (by exact S.g2 hS) rfl ?_; refine wpD_cons ?_; refine op1_mov rfl (by (conv => lhs; whnf) <;> rfl) ?_; refine wpD_cons ?_; refine op1_add rfl rfl rfl (by exact wrap_i64 (by omega) (by omega)) ?_; refine wpD_cons ?_
      have e3 : ((i : Int) + 1).toNat = i + 1 := by omega
      refine op1_sliceD rfl rfl RD.head hT (bnds_lo (by omega) (by omega) h2) (by omega) (Nat.le_refl _) ?_
      rw [e3]
      intro a6 c6 hd6 hck6
      rw [flatMap_drop (f := rdC) (es := 2) (fun _ => rfl), List.take_of_length_le (by rw [rdC_len]; simp)] at hd6
      refine wpD_cons ?_
      obtain ⟨_, hr5, _⟩ := hd5 _ hT
      replace hS := S.slNew (l := 0) (es := 2) hS rfl
      refine op1_appRS rfl rfl (by (conv => lhs; whnf) <;> rfl) rfl hr5 (by rw [rdC_len]; simp; omega) (rdC_one _) hS (by omega) ?_
      rw [List.nil_append, Nat.zero_add]
      intro a7 c7 H4 hS
      have hT4 := S.drop (S.drop (S.drop (S.drop hS)))
      refine wpD_cons ?_
      obtain ⟨_, hr6, _⟩ := hd6 _ (S.drop (S.drop (S.drop (S.drop hS))))
      refine op1_appRS rfl rfl (by (conv => lhs; whnf) <;> rfl) rfl hr6 (by rw [rdC_len]; simp) (rdC_one _) hS (by omega) ?_
      rw [← List.flatMap_append]
      intro a8 c8 H5 hS
      refine wpD_cons ?_; refine op1_nilchk rfl rfl ?_; refine wpD_cons ?_; refine op1_faddr0 rfl rfl ?_; refine wpD_cons ?_; (refine op1_store1S rfl rfl (by (conv => lhs; whnf) <;> rfl) rfl rfl (S.up2 hS) rfl ?_; intro H3 hS; replace hS := S.dn2 hS); refine wpD_nil ?_; refine dk_of ?_ ?_; refine chk_skip ?_; refine chk_skip ?_; refine chk_skip ?_; refine chk_skip ?_; refine chk_skip ?_; refine chk_cons 15 rfl rfl rfl ?_ ?_; refine chkFs_cons 5 rfl rfl ?_ ?_; exact chk_load rfl (by exact S.g2 (by assumption)) rfl rfl; exact chkFs_nil; refine chk_skip ?_; refine chk_cons 13 rfl rfl rfl ?_ ?_; refine chkFs_cons 5 rfl rfl ?_ ?_
      · exact hck5 _ _ hT rfl
      exact chkFs_nil; refine chk_skip ?_; refine chk_skip ?_; refine chk_skip ?_; refine chk_cons 9 rfl rfl rfl ?_ ?_; refine chkFs_cons 5 rfl rfl ?_ ?_; exact chk_load rfl (by exact S.g2 (by assumption)) rfl rfl; refine chkFs_cons 4 rfl rfl ?_ ?_; exact chk_load rfl (by exact S.g2 (by assumption)) rfl rfl; exact chkFs_nil; refine chk_skip ?_; refine chk_skip ?_; refine chk_cons 6 rfl rfl rfl ?_ ?_; refine chkFs_cons 5 rfl rfl ?_ ?_
      · exact hck6 _ _ hT rfl
      refine chkFs_cons 4 rfl rfl ?_ ?_
      · exact hck6 _ _ hT4 rfl
      exact chkFs_nil; refine chk_skip ?_; refine chk_skip ?_; refine chk_skip ?_; refine chk_skip ?_; refine chk_skip ?_; exact chk_end; refine seq_normal ?_
      have hS := closeQ (s := s.noR i) (S.dn4 (S.dn3 (S.drop (S.up4 hS))))
      refine wp_seq ?_; refine wp_region ?_; refine wpO_cons ?_; refine op1_mov rfl (by (conv => lhs; whnf) <;> rfl) ?_; refine wpO_cons ?_; refine op1_build rfl ?_; refine bk_one (by (conv => lhs; whnf) <;> rfl) rfl rfl rfl ?_; refine bk_one (by (conv => lhs; whnf) <;> rfl) rfl rfl rfl ?_; refine bk_nil ?_; refine wpO_cons ?_; refine op1_mov rfl (by (conv => lhs; whnf) <;> rfl) ?_; refine wpO_cons ?_; refine op1_call1 rfl (by (conv => lhs; whnf) <;> rfl) ?_
      refine wpF_mono (L69 hS (okNoR hok i)) ?_
      rintro ve H6 hS
      refine wpO_cons ?_; (refine op1_storeNS rfl rfl (by (conv => lhs; whnf) <;> rfl) rfl rfl (S.up2 hS) (Nat.le_of_ble_eq_true rfl) ?_; intro H7 hS; replace hS := S.dn2 hS); refine wpO_cons ?_; refine op1_mov rfl (by (conv => lhs; whnf) <;> rfl) ?_; refine wpO_cons ?_; refine op1_mov rfl (by (conv => lhs; whnf) <;> rfl) ?_; refine wpO_nil ?_; refine seq_normal ?_; refine wp_ret ?_; refine block_ret ?_; refine seq_ret ?_; refine iter_ret ?_; refine block_ret ?_; refine seq_ret ?_; refine ret_of ?_; refine rk_cellN rfl (by exact S.g2 hS) rfl rfl ?_; refine rk_tmp (by (conv => lhs; whnf) <;> rfl) ?_; refine rk_tmp (by (conv => lhs; whnf) <;> rfl) ?_; refine rk_nil ?_
      exact ⟨_, rfl, S.dn1 (S.drop (S.up2 (S.dn1 hS)))⟩
    · refine wp_skip ?_; refine block_normal ?_; refine seq_normal ?_; refine wp_region ?_; refine wpO_cons ?_; refine op1_mov rfl (by (conv => lhs; whnf) <;> rfl) ?_; refine wpO_cons ?_; refine op1_add rfl rfl rfl (by exact wrap_i64 (by omega) (by omega)) ?_; refine wpO_cons ?_; refine op1_mov rfl (by (conv => lhs; whnf) <;> rfl) ?_; refine wpO_nil ?_
      refine ⟨k - 1, by omega, i + 1, rfl, by omega, rfl, fun j hj => ?_⟩
      by_cases hji : j = i
      · subst hji
        rw [List.getElem?_map, hx]
        exact fun e => he (Option.some.inj e)
      · exact hno j (by omega)
  · obtain rfl : i = s.readers.length := by omega
    have hr0 : s.rix t = -1 := ixL_none fun j hj => hno j (by simpa using hj)
    rw [hr0, if_neg (by omega)]
    refine wp_exit ?_; refine seq_exit ?_; refine iter_exit ?_; refine block_exit ?_; refine seq_normal ?_; refine wp_seq ?_; refine wp_seq ?_; refine wp_region ?_; refine wpO_cons ?_; refine op1_mov rfl (by (conv => lhs; whnf) <;> rfl) ?_; refine wpO_nil ?_; refine seq_normal ?_; refine wp_block ?_
    obtain ⟨css, hcss, hcl, hS⟩ := S.unarr (S.up4 hS)
    replace hS := S.dn5 (S.dn5 hS)
    refine wp_loop [8] (fun k vs H' => ∃ i : Nat, vs = [.int .i64 i] ∧ i + k = s.writers.length ∧ H1 = H' ∧ ∀ j, j < i → (s.writers.map (·.thread))[j]? ≠ some t) ⟨s.writers.length, 0, rfl, by omega, rfl, by intro j h; omega⟩ ?_
    rintro k vs T' H2 ⟨i, rfl, hk, rfl, hno2⟩
    refine wp_seq ?_; refine wp_seq ?_; refine wp_region ?_; refine wpO_cons ?_; refine op1_mov rfl (by (conv => lhs; whnf) <;> rfl) ?_; refine wpO_cons ?_; refine op1_mov rfl (by (conv => lhs; whnf) <;> rfl) ?_; refine wpO_cons ?_; refine op1_nilchk rfl rfl ?_; refine wpO_cons ?_; refine op1_faddr0 rfl rfl ?_; refine wpO_cons ?_; refine op1_load rfl rfl (by exact S.g1 hS) rfl ?_; refine wpO_cons ?_; refine op1_len rfl rfl ?_; refine wpO_cons ?_; refine op1_lss rfl rfl rfl ?_; refine wpO_nil ?_; refine seq_normal ?_
    refine wp_dec rfl (fun hc => ?_) (fun hc => ?_)
    · have hi : i < s.writers.length := by omega
      obtain ⟨x, hx⟩ : ∃ x, s.writers[i]? = some x := ⟨s.writers[i], by simp [hi]⟩
      obtain ⟨cs0, o0, hcs0, hw1, _⟩ := S.many_at (S.up5 hS) hx
      obtain ⟨avd, cvd, rfl, hvd⟩ := wrA_at hw1
      obtain ⟨b, off, cs, rfl, hg, hle, htk, hat⟩ := (S.up4 hS).elt hi
      have hat0 := hat 0 (by omega)
      have hat2 := hat 2 (by omega)
      rw [flatten_get hcss hcs0 (by omega)] at hat0 hat2
      refine wp_skip ?_; refine seq_normal ?_; refine wp_seq ?_; refine wp_block ?_; refine wp_seq ?_; refine wp_region ?_; refine wpO_cons ?_; refine op1_mov rfl (by (conv => lhs; whnf) <;> rfl) ?_; refine wpO_cons ?_; refine op1_nilchk rfl rfl ?_; refine wpO_cons ?_; refine op1_faddr0 rfl rfl ?_; refine wpO_cons ?_; refine op1_load rfl rfl (by exact S.g1 hS) rfl ?_; refine wpO_cons ?_; refine op1_mov rfl (by (conv => lhs; whnf) <;> rfl) ?_; refine wpO_cons ?_; refine op1_iaddr rfl rfl rfl (by omega) (by omega) ?_; refine wpO_cons ?_; refine op1_faddr rfl rfl ?_; refine wpO_cons ?_
      refine op1_load rfl rfl hg (hat0.trans rfl) ?_
      refine wpO_cons ?_; refine op1_mov rfl (by (conv => lhs; whnf) <;> rfl) ?_; refine wpO_cons ?_; refine op1_eqlI rfl rfl rfl ?_; refine wpO_nil ?_; refine seq_normal ?_
      refine wp_dec rfl (fun he => ?_) (fun he => ?_)
      · have hri : s.wix t = i := ixL_step hno2 (by rw [List.getElem?_map, hx]; rfl) he
        have hda : s.doneAt i = (x.done : Nat) := by unfold PP.doneAt; rw [hx]
        rw [hri, if_pos (by omega), Int.toNat_natCast, hda]
        refine wp_seq ?_; refine wp_region ?_; refine wpO_cons ?_; refine op1_mov rfl (by (conv => lhs; whnf) <;> rfl) ?_; refine wpO_cons ?_; refine op1_nilchk rfl rfl ?_; refine wpO_cons ?_; refine op1_faddr0 rfl rfl ?_; refine wpO_cons ?_; refine op1_load rfl rfl (by exact S.g1 hS) rfl ?_; refine wpO_cons ?_; refine op1_mov rfl (by (conv => lhs; whnf) <;> rfl) ?_; refine wpO_cons ?_; refine op1_iaddr rfl rfl rfl (by omega) (by omega) ?_; refine wpO_cons ?_; refine op1_faddr rfl rfl ?_; refine wpO_cons ?_
        refine op1_load rfl rfl hg (hat2.trans rfl) ?_
        refine wpO_cons ?_; refine op1_mov rfl (by (conv => lhs; whnf) <;> rfl) ?_; refine wpO_nil ?_; refine seq_normal ?_; refine wp_seq ?_; refine wp_regionD ?_; refine wpD_cons ?_; refine op1_mov rfl (by (conv => lhs; whnf) <;> rfl) ?_; refine wpD_cons ?_; refine op1_bsliceS rfl hS ?_; refine bk_nil ?_; intro p2 H2 hS; refine wpD_cons ?_; refine op1_mov rfl (by (conv => lhs; whnf) <;> rfl) ?_; refine wpD_cons ?_; refine op1_nilchk rfl rfl ?_; refine wpD_cons ?_; refine op1_faddr0 rfl rfl ?_; refine wpD_cons ?_; refine op1_load rfl rfl (by exact S.g2 hS) rfl ?_; refine wpD_cons ?_; refine op1_mov rfl (by (conv => lhs; whnf) <;> rfl) ?_; refine wpD_cons ?_
        have hT := S.drop (S.drop (S.drop (S.drop (S.drop hS))))
        refine op1_sliceD rfl rfl RD.head hT (bnds_hi (by omega) (by omega)) (by omega) (by simp only [Int.toNat_natCast]; omega) ?_
        simp only [Int.toNat_natCast, Nat.zero_mul, List.drop_zero, Nat.sub_zero]
        intro a5 c5 hd5 hck5
        rw [flatten_take hcss] at hd5
        refine wpD_cons ?_; refine op1_mov rfl (by (conv => lhs; whnf) <;> rfl) ?_; refine wpD_cons ?_; refine op1_nilchk rfl rfl ?_; refine wpD_cons ?_; refine op1_faddr0 rfl rfl ?_; refine wpD_cons ?_; refine op1_load rfl rfl (by exact S.g2 hS) rfl ?_; refine wpD_cons ?_; refine op1_mov rfl (by (conv => lhs; whnf) <;> rfl) ?_; refine wpD_cons ?_; refine op1_add rfl rfl rfl (by exact wrap_i64 (by omega) (by omega)) ?_; refine wpD_cons ?_
        have e3 : ((i : Int) + 1).toNat = i + 1 := by omega
        refine op1_sliceD rfl rfl RD.head hT (bnds_lo (by omega) (by omega) h3) (by omega) (Nat.le_refl _) ?_
        rw [e3]
        intro a6 c6 hd6 hck6
        have hwone := wr_one (S.up6 hS)
        rw [flatten_drop hcss, List.take_of_length_le (by rw [flat_len 3 _ (fun c hc => hcss c (List.mem_of_mem_drop hc))]; simp; omega)] at hd6
        refine wpD_cons ?_
        obtain ⟨_, hr5, _⟩ := hd5 _ hT
        replace hS := S.slNew (l := 0) (es := 3) hS rfl
        refine op1_appRS rfl rfl (by (conv => lhs; whnf) <;> rfl) rfl hr5 (by rw [flat_len 3 _ (fun c hc => hcss c (List.mem_of_mem_take hc))]; simp; omega) (one_take hwone) hS (by omega) ?_
        rw [List.nil_append, Nat.zero_add]
        intro a7 c7 H4 hS
        have hT4 := S.drop (S.drop (S.drop (S.drop (S.drop hS))))
        refine wpD_cons ?_
        obtain ⟨_, hr6, _⟩ := hd6 _ (S.drop (S.drop (S.drop (S.drop (S.drop hS)))))
        refine op1_appRS rfl rfl (by (conv => lhs; whnf) <;> rfl) rfl hr6 (by rw [flat_len 3 _ (fun c hc => hcss c (List.mem_of_mem_drop hc))]; simp; omega) (one_drop hwone) hS (by omega) ?_
        rw [← List.flatten_append]
        intro a8 c8 H5 hS
        refine wpD_cons ?_; refine op1_nilchk rfl rfl ?_; refine wpD_cons ?_; refine op1_faddr0 rfl rfl ?_; refine wpD_cons ?_; (refine op1_store1S rfl rfl (by (conv => lhs; whnf) <;> rfl) rfl rfl (S.up2 hS) rfl ?_; intro H3 hS; replace hS := S.dn2 hS); refine wpD_nil ?_; refine dk_of ?_ ?_; refine chk_skip ?_; refine chk_skip ?_; refine chk_skip ?_; refine chk_skip ?_; refine chk_skip ?_; refine chk_cons 15 rfl rfl rfl ?_ ?_; refine chkFs_cons 5 rfl rfl ?_ ?_; exact chk_load rfl (by exact S.g2 (by assumption)) rfl rfl; exact chkFs_nil; refine chk_skip ?_; refine chk_cons 13 rfl rfl rfl ?_ ?_; refine chkFs_cons 5 rfl rfl ?_ ?_
        · exact hck5 _ _ hT rfl
        exact chkFs_nil; refine chk_skip ?_; refine chk_skip ?_; refine chk_skip ?_; refine chk_cons 9 rfl rfl rfl ?_ ?_; refine chkFs_cons 5 rfl rfl ?_ ?_; exact chk_load rfl (by exact S.g2 (by assumption)) rfl rfl; refine chkFs_cons 4 rfl rfl ?_ ?_; exact chk_load rfl (by exact S.g2 (by assumption)) rfl rfl; exact chkFs_nil; refine chk_skip ?_; refine chk_skip ?_; refine chk_cons 6 rfl rfl rfl ?_ ?_; refine chkFs_cons 5 rfl rfl ?_ ?_
        · exact hck6 _ _ hT rfl
        refine chkFs_cons 4 rfl rfl ?_ ?_
        · exact hck6 _ _ hT4 rfl
        exact chkFs_nil; refine chk_skip ?_; refine chk_skip ?_; refine chk_skip ?_; refine chk_skip ?_; refine chk_skip ?_; exact chk_end; refine seq_normal ?_
        have h5 := S.manyDel i (S.up5 (S.drop (S.up5 hS))) hcl
        have h6 := S.arrI (S.up1 h5) (fun c hc => by
          rcases List.mem_append.1 hc with h | h
          · exact hcss c (List.mem_of_mem_take h)
          · exact hcss c (List.mem_of_mem_drop h))
        have hS := closeQ (s := s.noW i) (S.dn4 (S.dn4 h6))
        refine wp_seq ?_; refine wp_region ?_; refine wpO_cons ?_; refine op1_mov rfl (by (conv => lhs; whnf) <;> rfl) ?_; refine wpO_cons ?_; refine op1_mov rfl (by (conv => lhs; whnf) <;> rfl) ?_; refine wpO_cons ?_; refine op1_build rfl ?_; refine bk_one (by (conv => lhs; whnf) <;> rfl) rfl rfl rfl ?_; refine bk_one (by (conv => lhs; whnf) <;> rfl) rfl rfl rfl ?_; refine bk_one (by (conv => lhs; whnf) <;> rfl) rfl rfl rfl ?_; refine bk_nil ?_; refine wpO_cons ?_; refine op1_mov rfl (by (conv => lhs; whnf) <;> rfl) ?_; refine wpO_cons ?_; refine op1_call1 rfl (by (conv => lhs; whnf) <;> rfl) ?_
        refine wpF_mono (L69 hS (okNoW hok i)) ?_
        rintro ve H6 hS
        refine wpO_cons ?_; (refine op1_storeNS rfl rfl (by (conv => lhs; whnf) <;> rfl) rfl rfl (S.up2 hS) (Nat.le_of_ble_eq_true rfl) ?_; intro H7 hS; replace hS := S.dn2 hS); refine wpO_cons ?_; refine op1_mov rfl (by (conv => lhs; whnf) <;> rfl) ?_; refine wpO_cons ?_; refine op1_mov rfl (by (conv => lhs; whnf) <;> rfl) ?_; refine wpO_nil ?_; refine seq_normal ?_; refine wp_ret ?_; refine block_ret ?_; refine seq_ret ?_; refine iter_ret ?_; refine block_ret ?_; refine seq_ret ?_; refine ret_of ?_; refine rk_cellN rfl (by exact S.g2 hS) rfl rfl ?_; refine rk_tmp (by (conv => lhs; whnf) <;> rfl) ?_; refine rk_tmp (by (conv => lhs; whnf) <;> rfl) ?_; refine rk_nil ?_
        exact ⟨_, rfl, S.dn1 (S.drop (S.up2 (S.dn1 hS)))⟩
      · refine wp_skip ?_; refine block_normal ?_; refine seq_normal ?_; refine wp_region ?_; refine wpO_cons ?_; refine op1_mov rfl (by (conv => lhs; whnf) <;> rfl) ?_; refine wpO_cons ?_; refine op1_add rfl rfl rfl (by exact wrap_i64 (by omega) (by omega)) ?_; refine wpO_cons ?_; refine op1_mov rfl (by (conv => lhs; whnf) <;> rfl) ?_; refine wpO_nil ?_
        refine ⟨k - 1, by omega, i + 1, rfl, by omega, rfl, fun j hj => ?_⟩
        by_cases hji : j = i
        · subst hji
          rw [List.getElem?_map, hx]
          exact fun e => he (Option.some.inj e)
        · exact hno2 j (by omega)
    · obtain rfl : i = s.writers.length := by omega
      have hr1 : s.wix t = -1 := ixL_none fun j hj => hno2 j (by simpa using hj)
      rw [hr1, if_neg (by omega)]
      refine wp_exit ?_; refine seq_exit ?_; refine iter_exit ?_; refine block_exit ?_; refine seq_normal ?_; refine wp_seq ?_; refine wp_region ?_; refine wpO_cons ?_; refine op1_build rfl ?_; refine bk_nil ?_; refine wpO_cons ?_; (refine op1_storeNS rfl rfl (by (conv => lhs; whnf) <;> rfl) rfl rfl (S.up0 hS) (Nat.le_of_ble_eq_true rfl) ?_; intro H2 hS; replace hS := S.dn0 hS); refine wpO_cons ?_; refine op1_mov rfl (by (conv => lhs; whnf) <;> rfl) ?_; refine wpO_cons ?_; refine op1_mov rfl (by (conv => lhs; whnf) <;> rfl) ?_; refine wpO_nil ?_; refine seq_normal ?_; refine wp_ret ?_; refine ret_of ?_; refine rk_cellN rfl (by exact S.g0 hS) rfl rfl ?_; refine rk_tmp (by (conv => lhs; whnf) <;> rfl) ?_; refine rk_tmp (by (conv => lhs; whnf) <;> rfl) ?_; refine rk_nil ?_
      exact ⟨_, rfl, S.arrNil (closeQ (S.dn3 (S.arrI (S.up4 (S.up4 (S.drop hS))) hcss)))⟩
end Go.E.Pi
