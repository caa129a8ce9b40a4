/- The reference's connection: data. -/
import Derived.Test.YtamcfhhcmjagnaaStR1
namespace Go.E.St
open Go Go.E Go.Proofs.Ytamcfhhcmjagnaa Go.Proofs
set_option linter.unusedVariables false
set_option linter.unusedSimpArgs false
set_option maxRecDepth 100000
section
variable {B H : AHeap} {As : List Asn} {p : Nat} {s : Cn} {g : Sg}
theorem L85 (hok : Ok s) (hS : S B H (repD p s :: As)) : wpF C 85 [ptC p] H fun v H' => ∃ a c, v = .slice a s.dat.1.length c ∧ S B H' (arr 5 sgA v s.dat.1 :: repD p s.dat.2 :: As) := by
  have hol := hok.out
  have hil := hok.inc
  have hsz := hok.size
  have hwd := hok.window
  have hnx := hok.nxt
  have hun := hok.una
  refine wpF_ofW o85 rfl rfl ?_
  obtain ⟨ao, co, ai, ci, ho, hi, hO⟩ := openD hS
  clear hS
  have hS := hO
  clear hO
  unfold rfC at hS
  unfold ptC
  obtain ⟨s0, hs0⟩ : ∃ z, z = s.sent0 := ⟨_, rfl⟩
  have hs0b : 0 ≤ s0 ∧ s0 ≤ 4294967295 := by rw [hs0]; unfold Cn.sent0; rw [wrap_u32]; omega
  have hinv0 : s.nxt = IntKind.u32.wrap (s.una + s0) := by rw [hs0]; unfold Cn.sent0; rw [wrap_u32, wrap_u32]; omega
  obtain ⟨lim, hlim⟩ : ∃ z, z = s.dlim := ⟨_, rfl⟩
  have hlb : 0 ≤ lim ∧ lim ≤ 4096 := by rw [hlim]; unfold Cn.dlim; split <;> omega
  refine zsr ?_; refine zw1 ?_; refine zns ?_; refine zsr ?_; refine wpO_cons ?_; refine op1_bsliceS rfl hS ?_; refine bk_nil ?_; intro p1 H1 hS; refine zw1 ?_; refine zns ?_; refine wp_seq ?_; refine wp_regionD ?_; refine zd1 ?_; refine wpD_cons ?_; refine op1_nilchk rfl rfl ?_; refine wpD_cons ?_; refine op1_faddr0 rfl rfl ?_; refine wpD_cons ?_; refine op1_load rfl rfl (by exact S.g1 hS) rfl ?_; refine zd1 ?_; refine wpD_cons ?_; refine op1_nilchk rfl rfl ?_; refine wpD_cons ?_; refine op1_faddr0 rfl rfl ?_; refine wpD_cons ?_; refine op1_load rfl rfl (by exact S.g1 hS) rfl ?_; refine wpD_cons ?_
  refine op1_subW rfl rfl rfl ?_
  rw [show IntKind.u32.wrap (s.nxt - s.una) = s0 from hs0.symm]
  refine wpD_cons ?_; refine op1_convInt rfl rfl (by exact wrap_i64 (by omega) (by omega)) ?_; refine zd1 ?_; refine wpD_nil ?_; refine dk_of ?_ ?_; (iterate 3 refine chk_skip ?_); refine chk_cons 8 rfl rfl rfl ?_ ?_; refine chkFs_cons 0 rfl rfl ?_ ?_; exact chk_load rfl (by exact S.g1 hS) rfl rfl; exact chkFs_nil; (iterate 3 refine chk_skip ?_); refine chk_cons 4 rfl rfl rfl ?_ ?_; refine chkFs_cons 0 rfl rfl ?_ ?_; exact chk_load rfl (by exact S.g1 hS) rfl rfl; exact chkFs_nil; (iterate 3 refine chk_skip ?_); exact chk_end; refine seq_normal ?_; refine zsr ?_; refine zw1 ?_; refine wpO_cons ?_; refine op1_nilchk rfl rfl ?_; refine wpO_cons ?_; refine op1_faddr0 rfl rfl ?_; refine wpO_cons ?_; refine op1_load rfl rfl (by exact S.g1 hS) rfl ?_; refine zw1 ?_; refine zns ?_
  refine wp_cut [5] (fun vs H' => vs = [.int .i64 lim] ∧ H1 = H') ?_ ?_
  · have hl2 : lim = if s.window = 0 ∧ s0 = 0 then 1 else s.window := by rw [hlim, hs0]; rfl
    refine zsr ?_; refine zw1 ?_; refine wpO_cons ?_; refine op1_nilchk rfl rfl ?_; refine wpO_cons ?_; refine op1_faddr0 rfl rfl ?_; refine wpO_cons ?_; refine op1_load rfl rfl (by exact S.g1 hS) rfl ?_; refine wpO_cons ?_; refine op1_eqlI rfl rfl rfl ?_; refine zw1 ?_; refine wpO_cons ?_
    refine op1_dec rfl (fun h1 => ?_) (fun h1 => ?_)
    · refine op1_mov rfl (by (conv => lhs; whnf) <;> rfl) ?_; refine wpO_cons ?_; refine op1_eqlI rfl rfl rfl ?_; refine wpO_cons ?_; refine op1_pick_t rfl rfl (by (conv => lhs; whnf) <;> rfl) ?_; refine zns ?_
      refine wp_dec rfl (fun h2 => ?_) (fun h2 => ?_)
      · rw [if_pos ⟨h1, h2⟩] at hl2
        refine wp_region ?_; refine zw1 ?_; refine wpO_nil ?_; refine cut1 (by (conv => lhs; whnf) <;> rfl) ?_
        rw [hl2]
        exact ⟨rfl, rfl⟩
      · rw [if_neg (fun h => h2 h.2)] at hl2
        refine wp_skip ?_; refine cut1 (by (conv => lhs; whnf) <;> rfl) ?_
        rw [hl2]
        exact ⟨rfl, rfl⟩
    · rw [if_neg (fun h => h1 h.1)] at hl2
      refine op1_skip rfl ?_; refine wpO_cons ?_; refine op1_skip rfl ?_; refine wpO_cons ?_; refine op1_pick_f rfl rfl (by (conv => lhs; whnf) <;> rfl) ?_; refine zns ?_; refine wp_false rfl ?_; refine wp_skip ?_; refine cut1 (by (conv => lhs; whnf) <;> rfl) ?_
      rw [hl2]
      exact ⟨rfl, rfl⟩
  rintro vs2 T2 H2 ⟨rfl, rfl⟩
  have hdr : s.dl lim s.out.length s0 s.nxt = s.dr := by rw [hlim, hs0]; rfl
  have hS0 := S.up1 (S.arrI (E := sgA) (xs := []) (css := []) (S.up1 (S.many_nil (S.slNew (l := 0) (es := 5) hS rfl))) (by simp))
  replace hS0 := closeD (s := s) (S.up3 (S.up3 (S.up3 (S.up1 hS0))))
  skip
  refine wp_cut [3, 4] (fun vs H' => ∃ (al : Option Addr) (cl : Nat), vs = [.slice al s.dr.1.length cl, .int .i64 s.dr.2.1] ∧ S B H' (repD p { s with nxt := s.dr.2.2 } :: arr 5 sgA (.slice al s.dr.1.length cl) s.dr.1 :: As)) ?_ ?_
  · refine wp_block ?_
    refine wp_loop [3, 4] (fun k vs H' => ∃ (f : Nat) (sent nx : Int) (l : List Sg) (al : Option Addr) (cl : Nat), vs = [.slice al l.length cl, .int .i64 sent] ∧ k = (s.out.length - sent).toNat ∧ 0 ≤ sent ∧ sent ≤ 4294967295 ∧ (0 ≤ nx ∧ nx ≤ 4294967295) ∧ nx = IntKind.u32.wrap (s.una + sent) ∧
        (l.length : Int) + max 0 (s.out.length - sent) ≤ 4096 ∧ s.out.length - sent ≤ f ∧ l ++ (s.dl lim f sent nx).1 = s.dr.1 ∧ (s.dl lim f sent nx).2 = s.dr.2 ∧ S B H' (repD p { s with nxt := nx } :: arr 5 sgA (.slice al l.length cl) l :: As))
      ⟨_, s.out.length, s0, s.nxt, [], some ⟨p1, 0, none⟩, 0, rfl, rfl, hs0b.1, hs0b.2, hnx, hinv0, by simp; omega, by omega, by rw [hdr]; rfl, by rw [hdr], hS0⟩ ?_
    clear hS hS0 ho hi
    rintro k vs T3 H3 ⟨f, sent, nx, l, al, cl, rfl, rfl, hse, hse2, hnxb, hinv, hlen, hf, hd1, hd2, hS⟩
    have hS0 := hS
    obtain ⟨ao, co, ai, ci, ho, hi, hO⟩ := openD hS
    clear hS
    have hS := hO
    clear hO
    unfold rfC at hS
    dsimp only at hS ho hi
    refine wp_seq ?_; refine zsr ?_; refine zw1 ?_; refine zw1 ?_; refine wpO_cons ?_; refine op1_nilchk rfl rfl ?_; refine wpO_cons ?_; refine op1_faddr0 rfl rfl ?_; refine wpO_cons ?_; refine op1_load rfl rfl (by exact S.g0 hS) rfl ?_; refine wpO_cons ?_; refine op1_len rfl rfl ?_; refine wpO_cons ?_; refine op1_lss rfl rfl rfl ?_; refine zw1 ?_; refine wpO_cons ?_
    refine op1_dec rfl (fun h1 => ?_) (fun h1 => ?_)
    rotate_left
    · rw [dl_stop s lim f (fun h => h1 h.1)] at hd1 hd2
      refine op1_skip rfl ?_; refine wpO_cons ?_; refine op1_skip rfl ?_; refine wpO_cons ?_; refine op1_skip rfl ?_; refine wpO_cons ?_; refine op1_pick_f rfl rfl (by (conv => lhs; whnf) <;> rfl) ?_; refine zns ?_; refine wp_false rfl ?_; refine wp_exit ?_; refine seq_exit ?_; refine iter_exit ?_; refine block_exit ?_; refine cut2 (by (conv => lhs; whnf) <;> rfl) (by (conv => lhs; whnf) <;> rfl) ?_
      have e1 : l = s.dr.1 := by simpa using hd1
      have e2 : sent = s.dr.2.1 := congrArg (·.1) hd2
      have e3 : nx = s.dr.2.2 := congrArg (·.2) hd2
      subst e1 e2 e3
      exact ⟨al, cl, rfl, hS0⟩
    refine op1_mov rfl (by (conv => lhs; whnf) <;> rfl) ?_; refine zw1 ?_; refine wpO_cons ?_; refine op1_lss rfl rfl rfl ?_; refine wpO_cons ?_; refine op1_pick_t rfl rfl (by (conv => lhs; whnf) <;> rfl) ?_; refine zns ?_
    refine wp_dec rfl (fun h2 => ?_) (fun h2 => ?_)
    rotate_left
    · rw [dl_stop s lim f (fun h => h2 h.2)] at hd1 hd2
      refine wp_exit ?_; refine seq_exit ?_; refine iter_exit ?_; refine block_exit ?_; refine cut2 (by (conv => lhs; whnf) <;> rfl) (by (conv => lhs; whnf) <;> rfl) ?_
      have e1 : l = s.dr.1 := by simpa using hd1
      have e2 : sent = s.dr.2.1 := congrArg (·.1) hd2
      have e3 : nx = s.dr.2.2 := congrArg (·.2) hd2
      subst e1 e2 e3
      exact ⟨al, cl, rfl, hS0⟩
    clear hS0
    obtain ⟨n, hn⟩ : ∃ n : Nat, n = (s.dn lim sent).toNat := ⟨_, rfl⟩
    have hnd : s.dn lim sent = min (min s.size (s.out.length - sent)) (lim - sent) := rfl
    have hni : (n : Int) = min (min s.size (s.out.length - sent)) (lim - sent) := by omega
    have hnd2 : s.dn lim sent = n := by omega
    obtain ⟨sn, rfl⟩ : ∃ sn : Nat, sent = sn := ⟨sent.toNat, by omega⟩
    have hse3 : sn + n ≤ s.out.length := by omega
    have hn1 : 1 ≤ n := by omega
    obtain ⟨f, rfl⟩ : ∃ f', f = f' + 1 := ⟨f - 1, by omega⟩
    rw [Cn.dl, if_pos ⟨h1, h2⟩, hnd2, Int.toNat_natCast, Int.toNat_natCast] at hd1 hd2
    have hdl : ((s.out.drop sn).take n).length = n := by rw [List.length_take, List.length_drop]; omega
    refine wp_skip ?_; refine seq_normal ?_; refine wp_block ?_; refine wp_seq ?_; refine wp_regionD ?_; refine zd1 ?_; refine wpD_cons ?_; refine op1_nilchk rfl rfl ?_; refine wpD_cons ?_; refine op1_faddr0 rfl rfl ?_; refine wpD_cons ?_; refine op1_load rfl rfl (by exact S.g0 hS) rfl ?_; refine zd1 ?_; refine wpD_cons ?_; refine op1_nilchk rfl rfl ?_; refine wpD_cons ?_; refine op1_faddr0 rfl rfl ?_; refine wpD_cons ?_; refine op1_load rfl rfl (by exact S.g0 hS) rfl ?_; refine wpD_cons ?_; refine op1_len rfl rfl ?_; refine zd1 ?_; refine wpD_cons ?_; refine op1_sub rfl rfl rfl (by exact wrap_i64 (by omega) (by omega)) ?_; refine zd1 ?_; refine zd1 ?_; refine wpD_cons ?_; refine op1_sub rfl rfl rfl (by exact wrap_i64 (by omega) (by omega)) ?_; refine wpD_cons ?_
    refine op1_min3 rfl rfl rfl rfl ?_
    rw [← hni]
    refine zd1 ?_; refine wpD_nil ?_; refine dk_of ?_ ?_; (iterate 3 refine chk_skip ?_); refine chk_cons 13 rfl rfl rfl ?_ ?_; refine chkFs_cons 0 rfl rfl ?_ ?_; exact chk_load rfl (by exact S.g0 hS) rfl rfl; exact chkFs_nil; (iterate 3 refine chk_skip ?_); refine chk_cons 9 rfl rfl rfl ?_ ?_; refine chkFs_cons 0 rfl rfl ?_ ?_; exact chk_load rfl (by exact S.g0 hS) rfl rfl; exact chkFs_nil; refine chk_cons 8 rfl rfl rfl ?_ ?_; refine chkFs_cons 0 rfl rfl ?_ ?_; exact chk_len rfl rfl; exact chkFs_nil; (iterate 7 refine chk_skip ?_); exact chk_end; refine seq_normal ?_; refine wp_seq ?_; refine wp_regionD ?_; refine zd1 ?_; refine zd1 ?_; refine wpD_cons ?_; refine op1_nilchk rfl rfl ?_; refine wpD_cons ?_; refine op1_faddr0 rfl rfl ?_; refine wpD_cons ?_; refine op1_load rfl rfl (by exact S.g0 hS) rfl ?_; refine zd1 ?_; refine wpD_cons ?_
    refine op1_convInt rfl rfl (by rw [wrap_u32]; omega) ?_
    refine wpD_cons ?_
    refine op1_addW rfl rfl rfl ?_
    rw [← hinv]
    refine zd1 ?_; refine wpD_cons ?_; refine op1_nilchk rfl rfl ?_; refine wpD_cons ?_; refine op1_faddr0 rfl rfl ?_; refine wpD_cons ?_; refine op1_load rfl rfl (by exact S.g0 hS) rfl ?_; refine zd1 ?_; refine wpD_cons ?_; refine op1_bsliceS rfl hS ?_; refine bk_nil ?_; intro p2 H2 hS; refine zd1 ?_; refine wpD_cons ?_; refine op1_nilchk rfl rfl ?_; refine wpD_cons ?_; refine op1_faddr0 rfl rfl ?_; refine wpD_cons ?_; refine op1_load rfl rfl (by exact S.g1 hS) rfl ?_; refine zd1 ?_; refine zd1 ?_; refine zd1 ?_; refine wpD_cons ?_; refine op1_add rfl rfl rfl (by exact wrap_i64 (by omega) (by omega)) ?_; refine wpD_cons ?_
    replace hS := S.slNew (l := 0) (es := 1) hS rfl
    have hT := hS
    refine op1_sliceD rfl rfl (RD.cons (RD.cons RD.head)) hS (bnds_both (by omega) (by omega) (by omega)) (by simp only [Int.toNat_natCast]; omega) (by omega) ?_
    simp only [Nat.mul_one, show (sn : Int).toNat = sn from rfl, show ((sn : Int) + (n : Int)).toNat = sn + n by omega, show sn + n - sn = n by omega]
    intro a1 c1 hd1' hck
    rw [u8s_drop, u8s_take] at hd1'
    obtain ⟨r1, hr1, _⟩ := hd1' _ hS
    refine wpD_cons ?_; refine op1_call1 rfl (by (conv => lhs; whnf) <;> rfl) ?_
    refine wpF_mono (L78 (s := { s with nxt := nx }) hil (S.up1 hS)) ?_
    rintro _ H5 ⟨rfl, rfl⟩
    refine wpD_cons ?_
    refine op1_appRS rfl rfl (by (conv => lhs; whnf) <;> rfl) rfl hr1 (by simp [hdl]) (u8s_one _) hS (by omega) ?_
    rw [List.nil_append, Nat.zero_add]
    intro a2 c2 H6 hS
    have hT2 := hS
    obtain ⟨css, hcss, hcl, hS⟩ := S.unarr (S.up4 hS)
    have hone := sg_one (S.up1 hS)
    refine wpD_cons ?_; refine op1_build rfl ?_; refine bk_one (by (conv => lhs; whnf) <;> rfl) rfl rfl rfl ?_; refine bk_one (by (conv => lhs; whnf) <;> rfl) rfl rfl rfl ?_; refine bk_one (by (conv => lhs; whnf) <;> rfl) rfl rfl rfl ?_; refine bk_one (by (conv => lhs; whnf) <;> rfl) rfl rfl rfl ?_; refine bk_one (by (conv => lhs; whnf) <;> rfl) rfl rfl rfl ?_; refine bk_nil ?_; refine wpD_cons ?_; refine op1_bsliceS rfl hS ?_; refine bk_agg rfl rfl rfl rfl ?_; refine bk_nil ?_; intro p3 H4 hS; refine wpD_cons ?_; (refine op1_appBS rfl rfl (by (conv => lhs; whnf) <;> rfl) rfl (S.g0 hS) rfl rfl (S.up1 hS) (by omega) ?_; intro a3 c3 H5 hS; replace hS := S.dn1 hS; replace hS := S.drop hS); refine zd1 ?_; refine wpD_nil ?_; refine dk_of ?_ ?_; (iterate 4 refine chk_skip ?_); refine chk_cons 25 rfl rfl rfl ?_ ?_; refine chkFs_cons 6 rfl rfl ?_ ?_; exact chk_load rfl (by exact S.g1 hT) rfl rfl; refine chkFs_cons 5 rfl rfl ?_ ?_; exact chk_load rfl (by exact S.g1 hT) rfl rfl; refine chkFs_cons 2 rfl rfl ?_ ?_; exact chk_load rfl (by exact S.g4 (by assumption)) rfl rfl; exact chkFs_nil; (iterate 6 refine chk_skip ?_); refine chk_cons 18 rfl rfl rfl ?_ ?_; refine chkFs_cons 6 rfl rfl ?_ ?_; exact chk_load rfl (by exact S.g1 hT) rfl rfl; refine chkFs_cons 5 rfl rfl ?_ ?_; exact chk_load rfl (by exact S.g1 hT) rfl rfl; refine chkFs_cons 2 rfl rfl ?_ ?_; exact chk_load rfl (by exact S.g4 (by assumption)) rfl rfl; exact chkFs_nil; (iterate 5 refine chk_skip ?_); refine chk_cons 12 rfl rfl rfl ?_ ?_; refine chkFs_cons 6 rfl rfl ?_ ?_; exact chk_load rfl (by exact S.g1 hT) rfl rfl; refine chkFs_cons 5 rfl rfl ?_ ?_; exact chk_load rfl (by exact S.g1 hT) rfl rfl; exact chkFs_nil; (iterate 4 refine chk_skip ?_); refine chk_cons 7 rfl rfl rfl ?_ ?_; refine chkFs_cons 6 rfl rfl ?_ ?_
    · exact hck _ _ hT rfl
    refine chkFs_cons 5 rfl rfl ?_ ?_
    · exact hck _ _ hT rfl
    exact chkFs_nil; (iterate 6 refine chk_skip ?_); exact chk_end; refine seq_normal ?_; refine zsr ?_; refine zw1 ?_; refine zw1 ?_; refine wpO_cons ?_; refine op1_add rfl rfl rfl (by exact wrap_i64 (by omega) (by omega)) ?_; refine zw1 ?_; refine zns ?_; refine wp_region ?_; refine zw1 ?_; refine wpO_cons ?_; refine op1_nilchk rfl rfl ?_; refine wpO_cons ?_; refine op1_faddr0 rfl rfl ?_; refine wpO_cons ?_; refine op1_load rfl rfl (by exact S.g3 hS) rfl ?_; refine zw1 ?_; refine wpO_cons ?_
    refine op1_convInt rfl rfl (by rw [wrap_u32]; omega) ?_
    refine wpO_cons ?_
    refine op1_addW rfl rfl rfl ?_
    refine wpO_cons ?_; refine op1_nilchk rfl rfl ?_; refine wpO_cons ?_; refine op1_faddr0 rfl rfl ?_; refine wpO_cons ?_; (refine op1_store1S rfl rfl (by (conv => lhs; whnf) <;> rfl) rfl rfl (S.up3 hS) rfl ?_; intro H7 hS; replace hS := S.dn3 hS); refine wpO_nil ?_; refine block_normal ?_
    have ea2 : Value.slice a2 n c2 = Value.slice a2 ((s.out.drop sn).take n).length c2 := by rw [hdl]
    have h9 := sg_snoc (g := s.sgm 2 nx ((s.out.drop sn).take n)) (l := l) (n := l.length) (ad := a2) (cd := c2) hcss rfl (S.up1 (S.up2 (by rw [ea2] at hS; exact hS)))
    refine ⟨(s.out.length - ((sn : Int) + n)).toNat, by omega, f, (sn : Int) + n, IntKind.u32.wrap (nx + n), l ++ [s.sgm 2 nx ((s.out.drop sn).take n)], _, _, by rw [List.length_append]; rfl, rfl, by omega, by omega, by rw [wrap_u32]; omega, by rw [hinv, wrap_u32, wrap_u32, wrap_u32]; omega, by rw [List.length_append]; simp; omega, by omega, by rw [List.append_assoc]; exact hd1, hd2, ?_⟩
    exact closeD (s := { s with nxt := IntKind.u32.wrap (nx + n) }) (S.up3 (S.up3 (S.up3 h9)))
  clear hS hS0
  rintro vs3 T3 H3 ⟨al, cl, rfl, hS⟩
  have hdfl : ∀ g ∈ s.dr.1, g.fl = 2 := dl_fl s _ _ _ _
  have hdle : s.dr.1.length ≤ 4096 := by
    have h1 := dl_len s s.dlim hsz.1 s.out.length s.sent0 s.nxt (by rw [← hs0]; omega)
    have h2 : s.dr.1 = (s.dl s.dlim s.out.length s.sent0 s.nxt).1 := rfl
    have h3 : 0 ≤ s.sent0 := by rw [← hs0]; omega
    rw [h2]; omega
  unfold Cn.dat
  obtain ⟨l, hl⟩ : ∃ z, z = s.dr.1 := ⟨_, rfl⟩
  obtain ⟨sent, hsent⟩ : ∃ z, z = s.dr.2.1 := ⟨_, rfl⟩
  obtain ⟨N, hN⟩ : ∃ z, z = s.dr.2.2 := ⟨_, rfl⟩
  rw [← hl] at hdfl hdle
  rw [← hl, ← hN] at hS
  rw [← hl, ← hsent, ← hN]
  clear hl hN
  obtain ⟨fin, hfin⟩ : ∃ z, z = s.finNow sent := ⟨_, rfl⟩
  rw [← hfin]
  have hS0 := hS
  obtain ⟨ao, co, ai, ci, ho, hi, hO⟩ := openD hS
  clear hS
  have hS := hO
  clear hO
  unfold rfC at hS
  dsimp only at hS ho hi
  refine wp_seq ?_
  refine wp_cut [124] (fun vs H' => vs = [.bool fin] ∧ H3 = H') ?_ ?_
  · obtain ⟨f1, hf1⟩ : ∃ z, z = s.asked := ⟨_, rfl⟩
    obtain ⟨f2, hf2⟩ : ∃ z, z = s.finSent := ⟨_, rfl⟩
    obtain ⟨f3, hf3⟩ : ∃ z, z = s.finGone := ⟨_, rfl⟩
    have hfin2 : fin = (f1 && (!f2 && (!f3 && decide (sent = s.out.length)))) := by rw [hfin, hf1, hf2, hf3]; rfl
    rw [← hf1, ← hf2, ← hf3] at hS
    cases f1
    · refine wp_region ?_; refine zw1 ?_; refine wpO_cons ?_; refine op1_nilchk rfl rfl ?_; refine wpO_cons ?_; refine op1_faddr0 rfl rfl ?_; refine wpO_cons ?_; refine op1_load rfl rfl (by exact S.g0 hS) rfl ?_; refine zw1 ?_; refine wpO_cons ?_; refine op1_skip rfl ?_; refine wpO_cons ?_; refine op1_skip rfl ?_; refine wpO_cons ?_; refine op1_skip rfl ?_; refine wpO_cons ?_; refine op1_skip rfl ?_; refine wpO_cons ?_; refine op1_skip rfl ?_; refine wpO_cons ?_; refine op1_pick_f rfl rfl (by (conv => lhs; whnf) <;> rfl) ?_; refine zw1 ?_; refine wpO_cons ?_; refine op1_skip rfl ?_; refine wpO_cons ?_; refine op1_skip rfl ?_; refine wpO_cons ?_; refine op1_skip rfl ?_; refine wpO_cons ?_; refine op1_skip rfl ?_; refine wpO_cons ?_; refine op1_skip rfl ?_; refine wpO_cons ?_; refine op1_pick_f rfl rfl (by (conv => lhs; whnf) <;> rfl) ?_; refine zw1 ?_; refine wpO_cons ?_; refine op1_skip rfl ?_; refine wpO_cons ?_; refine op1_skip rfl ?_; refine wpO_cons ?_; refine op1_skip rfl ?_; refine wpO_cons ?_; refine op1_skip rfl ?_; refine wpO_cons ?_; refine op1_skip rfl ?_; refine wpO_cons ?_; refine op1_skip rfl ?_; refine wpO_cons ?_; refine op1_skip rfl ?_; refine wpO_cons ?_; refine op1_pick_f rfl rfl (by (conv => lhs; whnf) <;> rfl) ?_; refine wpO_nil ?_; refine cut1 (by (conv => lhs; whnf) <;> rfl) ?_
      rw [hfin2]
      exact ⟨rfl, rfl⟩
    cases f2
    rotate_left
    · refine wp_region ?_; refine zw1 ?_; refine wpO_cons ?_; refine op1_nilchk rfl rfl ?_; refine wpO_cons ?_; refine op1_faddr0 rfl rfl ?_; refine wpO_cons ?_; refine op1_load rfl rfl (by exact S.g0 hS) rfl ?_; refine zw1 ?_; refine zw1 ?_; refine wpO_cons ?_; refine op1_nilchk rfl rfl ?_; refine wpO_cons ?_; refine op1_faddr0 rfl rfl ?_; refine wpO_cons ?_; refine op1_load rfl rfl (by exact S.g0 hS) rfl ?_; refine wpO_cons ?_; refine op1_not_t rfl rfl ?_; refine wpO_cons ?_; refine op1_pick_t rfl rfl (by (conv => lhs; whnf) <;> rfl) ?_; refine zw1 ?_; refine wpO_cons ?_; refine op1_skip rfl ?_; refine wpO_cons ?_; refine op1_skip rfl ?_; refine wpO_cons ?_; refine op1_skip rfl ?_; refine wpO_cons ?_; refine op1_skip rfl ?_; refine wpO_cons ?_; refine op1_skip rfl ?_; refine wpO_cons ?_; refine op1_pick_f rfl rfl (by (conv => lhs; whnf) <;> rfl) ?_; refine zw1 ?_; refine wpO_cons ?_; refine op1_skip rfl ?_; refine wpO_cons ?_; refine op1_skip rfl ?_; refine wpO_cons ?_; refine op1_skip rfl ?_; refine wpO_cons ?_; refine op1_skip rfl ?_; refine wpO_cons ?_; refine op1_skip rfl ?_; refine wpO_cons ?_; refine op1_skip rfl ?_; refine wpO_cons ?_; refine op1_skip rfl ?_; refine wpO_cons ?_; refine op1_pick_f rfl rfl (by (conv => lhs; whnf) <;> rfl) ?_; refine wpO_nil ?_; refine cut1 (by (conv => lhs; whnf) <;> rfl) ?_
      rw [hfin2]
      exact ⟨rfl, rfl⟩
    cases f3
    rotate_left
    · refine wp_region ?_; refine zw1 ?_; refine wpO_cons ?_; refine op1_nilchk rfl rfl ?_; refine wpO_cons ?_; refine op1_faddr0 rfl rfl ?_; refine wpO_cons ?_; refine op1_load rfl rfl (by exact S.g0 hS) rfl ?_; refine zw1 ?_; refine zw1 ?_; refine wpO_cons ?_; refine op1_nilchk rfl rfl ?_; refine wpO_cons ?_; refine op1_faddr0 rfl rfl ?_; refine wpO_cons ?_; refine op1_load rfl rfl (by exact S.g0 hS) rfl ?_; refine wpO_cons ?_; refine op1_not_f rfl rfl ?_; refine wpO_cons ?_; refine op1_pick_t rfl rfl (by (conv => lhs; whnf) <;> rfl) ?_; refine zw1 ?_; refine zw1 ?_; refine wpO_cons ?_; refine op1_nilchk rfl rfl ?_; refine wpO_cons ?_; refine op1_faddr0 rfl rfl ?_; refine wpO_cons ?_; refine op1_load rfl rfl (by exact S.g0 hS) rfl ?_; refine wpO_cons ?_; refine op1_not_t rfl rfl ?_; refine wpO_cons ?_; refine op1_pick_t rfl rfl (by (conv => lhs; whnf) <;> rfl) ?_; refine zw1 ?_; refine wpO_cons ?_; refine op1_skip rfl ?_; refine wpO_cons ?_; refine op1_skip rfl ?_; refine wpO_cons ?_; refine op1_skip rfl ?_; refine wpO_cons ?_; refine op1_skip rfl ?_; refine wpO_cons ?_; refine op1_skip rfl ?_; refine wpO_cons ?_; refine op1_skip rfl ?_; refine wpO_cons ?_; refine op1_skip rfl ?_; refine wpO_cons ?_; refine op1_pick_f rfl rfl (by (conv => lhs; whnf) <;> rfl) ?_; refine wpO_nil ?_; refine cut1 (by (conv => lhs; whnf) <;> rfl) ?_
      rw [hfin2]
      exact ⟨rfl, rfl⟩
    refine wp_region ?_; refine zw1 ?_; refine wpO_cons ?_; refine op1_nilchk rfl rfl ?_; refine wpO_cons ?_; refine op1_faddr0 rfl rfl ?_; refine wpO_cons ?_; refine op1_load rfl rfl (by exact S.g0 hS) rfl ?_; refine zw1 ?_; refine zw1 ?_; refine wpO_cons ?_; refine op1_nilchk rfl rfl ?_; refine wpO_cons ?_; refine op1_faddr0 rfl rfl ?_; refine wpO_cons ?_; refine op1_load rfl rfl (by exact S.g0 hS) rfl ?_; refine wpO_cons ?_; refine op1_not_f rfl rfl ?_; refine wpO_cons ?_; refine op1_pick_t rfl rfl (by (conv => lhs; whnf) <;> rfl) ?_; refine zw1 ?_; refine zw1 ?_; refine wpO_cons ?_; refine op1_nilchk rfl rfl ?_; refine wpO_cons ?_; refine op1_faddr0 rfl rfl ?_; refine wpO_cons ?_; refine op1_load rfl rfl (by exact S.g0 hS) rfl ?_; refine wpO_cons ?_; refine op1_not_f rfl rfl ?_; refine wpO_cons ?_; refine op1_pick_t rfl rfl (by (conv => lhs; whnf) <;> rfl) ?_; refine zw1 ?_; refine zw1 ?_; refine zw1 ?_; refine wpO_cons ?_; refine op1_nilchk rfl rfl ?_; refine wpO_cons ?_; refine op1_faddr0 rfl rfl ?_; refine wpO_cons ?_; refine op1_load rfl rfl (by exact S.g0 hS) rfl ?_; refine wpO_cons ?_; refine op1_len rfl rfl ?_; refine wpO_cons ?_; refine op1_eqlI rfl rfl rfl ?_; refine wpO_cons ?_; refine op1_pick_t rfl rfl (by (conv => lhs; whnf) <;> rfl) ?_; refine wpO_nil ?_; refine cut1 (by (conv => lhs; whnf) <;> rfl) ?_
    rw [hfin2]
    exact ⟨rfl, rfl⟩
  rintro vs4 T4 H4 ⟨rfl, rfl⟩
  cases fin
  · rw [if_neg (by simp)]
    refine wp_false rfl ?_; refine wp_skip ?_; refine seq_normal ?_; refine zsr ?_; refine zw1 ?_; refine zw1 ?_; refine zns ?_; refine wp_ret ?_; refine ret_of ?_; refine rk_tmp (by (conv => lhs; whnf) <;> rfl) ?_; refine rk_nil ?_
    exact ⟨_, _, rfl, S.up1 hS0⟩
  rw [if_pos rfl]
  refine wp_true rfl ?_
  refine wp_cut [3] (fun vs H' => ∃ (l3 : List Sg) (g : Sg) (al : Option Addr) (cl : Nat), vs = [.slice al (l3.length + 1) cl] ∧ l3.length ≤ 4096 ∧ g.fl = 2 ∧ addFin s N l = l3 ++ [{ g with fl := 6 }] ∧ S B H' (repD p { s with nxt := N } :: arr 5 sgA (.slice al (l3.length + 1) cl) (l3 ++ [g]) :: As)) ?_ ?_
  · refine zsr ?_; refine zw1 ?_; refine wpO_cons ?_; refine op1_len rfl rfl ?_; refine wpO_cons ?_; refine op1_eqlI rfl rfl rfl ?_; refine zns ?_
    refine wp_dec rfl (fun h1 => ?_) (fun h1 => ?_)
    · obtain rfl : l = [] := List.eq_nil_of_length_eq_zero (by omega)
      refine wp_regionD ?_; refine zd1 ?_; refine zd1 ?_; refine wpD_cons ?_; refine op1_nilchk rfl rfl ?_; refine wpD_cons ?_; refine op1_faddr0 rfl rfl ?_; refine wpD_cons ?_; refine op1_load rfl rfl (by exact S.g0 hS) rfl ?_; refine zd1 ?_; refine wpD_cons ?_; refine op1_nilchk rfl rfl ?_; refine wpD_cons ?_; refine op1_faddr0 rfl rfl ?_; refine wpD_cons ?_; refine op1_load rfl rfl (by exact S.g0 hS) rfl ?_; refine zd1 ?_; refine wpD_cons ?_; refine op1_call1 rfl (by (conv => lhs; whnf) <;> rfl) ?_
      refine wpF_mono (L78 (s := { s with nxt := N }) hil hS) ?_
      rintro _ H5 ⟨rfl, rfl⟩
      have hT := hS
      obtain ⟨css, hcss, hcl, hS⟩ := S.unarr (S.up3 hS)
      have hone := sg_one (S.up1 hS)
      refine wpD_cons ?_; refine op1_build rfl ?_; refine bk_one (by (conv => lhs; whnf) <;> rfl) rfl rfl rfl ?_; refine bk_one (by (conv => lhs; whnf) <;> rfl) rfl rfl rfl ?_; refine bk_one (by (conv => lhs; whnf) <;> rfl) rfl rfl rfl ?_; refine bk_one (by (conv => lhs; whnf) <;> rfl) rfl rfl rfl ?_; refine bk_nil ?_; refine wpD_cons ?_; refine op1_bsliceS rfl hS ?_; refine bk_agg rfl rfl rfl rfl ?_; refine bk_nil ?_; intro p2 H2 hS; refine wpD_cons ?_; (refine op1_appBS rfl rfl (by (conv => lhs; whnf) <;> rfl) rfl (S.g0 hS) rfl rfl (S.up1 hS) (by omega) ?_; intro a1 c1 H4 hS; replace hS := S.dn1 hS; replace hS := S.drop hS); refine zd1 ?_; refine wpD_nil ?_; refine dk_of ?_ ?_; (iterate 4 refine chk_skip ?_); refine chk_cons 11 rfl rfl rfl ?_ ?_; refine chkFs_cons 5 rfl rfl ?_ ?_; exact chk_load rfl (by exact S.g2 (by assumption)) rfl rfl; refine chkFs_cons 2 rfl rfl ?_ ?_; exact chk_load rfl (by exact S.g3 (by assumption)) rfl rfl; exact chkFs_nil; (iterate 3 refine chk_skip ?_); refine chk_cons 7 rfl rfl rfl ?_ ?_; refine chkFs_cons 5 rfl rfl ?_ ?_; exact chk_load rfl (by exact S.g2 (by assumption)) rfl rfl; refine chkFs_cons 2 rfl rfl ?_ ?_; exact chk_load rfl (by exact S.g3 (by assumption)) rfl rfl; exact chkFs_nil; (iterate 6 refine chk_skip ?_); exact chk_end; refine cut1 (by (conv => lhs; whnf) <;> rfl) ?_
      have h9 := sg_snoc (g := s.sgm 2 N []) (l := []) (n := 0) (ad := none) (cd := 0) hcss rfl (S.up1 (S.slNil hS))
      exact ⟨[], s.sgm 2 N [], _, _, rfl, by simp, rfl, rfl, closeD (s := { s with nxt := N }) (S.up3 (S.up3 (S.up3 h9)))⟩
    · refine wp_skip ?_; refine cut1 (by (conv => lhs; whnf) <;> rfl) ?_
      obtain ⟨l3, g, rfl⟩ : ∃ l3 g, l = l3 ++ [g] := ⟨l.dropLast, l.getLast (by rintro rfl; simp at h1), (List.dropLast_concat_getLast _).symm⟩
      rw [List.length_append, List.length_singleton] at hS0 hdle
      rw [List.length_append, List.length_singleton]
      exact ⟨l3, g, al, cl, rfl, by omega, hdfl g (by simp), addFin_snoc _ _ _ _, hS0⟩
  clear hS hS0 hdfl hdle
  rintro vs5 T5 H5 ⟨l3, g, al, cl, rfl, hl3, hg2, hadd, hS⟩
  rw [hadd]
  obtain ⟨css, hcss, hcl, hS⟩ := S.unarr (S.up1 hS)
  obtain ⟨css, cs1, rfl, hS⟩ := S.many_unapp (S.up1 hS)
  obtain ⟨cs, rfl, hS⟩ := S.many_unone (S.up1 hS)
  obtain ⟨ag, cg, rfl, hcg, hS⟩ := sgA_un hS
  replace hS := S.up3 hS
  obtain ⟨ao, co, ai, ci, ho, hi, hO⟩ := openD hS
  clear hS
  have hS := hO
  clear hO
  unfold rfC at hS
  dsimp only at hS ho hi
  have hcl3 : css.length = l3.length := S.many_len (S.up4 hS)
  have hfl5 : css.flatten.length = l3.length * 5 := by
    rw [← hcl3]
    exact flat_len5 css fun c hc => hcss c (by simp [hc])
  obtain ⟨lb, lo, lcs, rfl, _⟩ := S.slBlk (S.up5 hS) (by omega)
  have ef : (css ++ [sgC g (.slice ag g.data.length cg)]).flatten = css.flatten ++ sgC g (.slice ag g.data.length cg) := by simp
  rw [ef] at hS
  refine zsr ?_; refine zw1 ?_; refine zw1 ?_; refine wpO_cons ?_; refine op1_len rfl rfl ?_; refine wpO_cons ?_; refine op1_sub rfl rfl rfl (by exact wrap_i64 (by omega) (by omega)) ?_; refine wpO_cons ?_; refine op1_iaddr rfl rfl rfl (by omega) (by omega) ?_; refine wpO_cons ?_; refine op1_faddr rfl rfl ?_; refine wpO_cons ?_
  rw [show ((l3.length + 1 : Nat) : Int) - 1 = (l3.length : Int) by omega]
  skip
  refine op1_store1L (k := l3.length * 5) rfl rfl (by (conv => lhs; whnf) <;> rfl) rfl rfl (S.up5 hS) (by omega) ?_
  intro H6 hS
  replace hS := S.dn5 hS
  have eset : (css.flatten ++ sgC g (.slice ag g.data.length cg)).set (l3.length * 5) (.int .i64 6) = css.flatten ++ sgC { g with fl := 6 } (.slice ag g.data.length cg) := by
    rw [List.set_append_right _ _ (by omega), hfl5, Nat.sub_self]; rfl
  rw [eset] at hS
  refine zns ?_; refine zsr ?_; refine zw1 ?_; refine wpO_cons ?_; refine op1_nilchk rfl rfl ?_; refine wpO_cons ?_; refine op1_faddr0 rfl rfl ?_; refine wpO_cons ?_; (refine op1_store1S rfl rfl (by (conv => lhs; whnf) <;> rfl) rfl rfl (S.up0 hS) rfl ?_; intro H2 hS; replace hS := S.dn0 hS); refine zns ?_; refine wp_region ?_; refine zw1 ?_; refine wpO_cons ?_; refine op1_nilchk rfl rfl ?_; refine wpO_cons ?_; refine op1_faddr0 rfl rfl ?_; refine wpO_cons ?_; refine op1_load rfl rfl (by exact S.g0 hS) rfl ?_; refine wpO_cons ?_
  refine op1_addW rfl rfl rfl ?_
  refine wpO_cons ?_; refine op1_nilchk rfl rfl ?_; refine wpO_cons ?_; refine op1_faddr0 rfl rfl ?_; refine wpO_cons ?_; (refine op1_store1S rfl rfl (by (conv => lhs; whnf) <;> rfl) rfl rfl (S.up0 hS) rfl ?_; intro H4 hS; replace hS := S.dn0 hS); refine zns ?_; refine zsr ?_; refine zw1 ?_; refine zw1 ?_; refine zns ?_; refine wp_ret ?_; refine ret_of ?_; refine rk_tmp (by (conv => lhs; whnf) <;> rfl) ?_; refine rk_nil ?_
  have h9 := sg_snoc (g := { g with fl := 6 }) (l := l3) (n := l3.length) (fun c hc => hcss c (by simp [hc])) rfl (S.up2 (S.dn3 (closeD (s := { s with nxt := IntKind.u32.wrap (N + 1), finSent := true }) hS)))
  rw [List.length_append] at h9
  refine ⟨some ⟨lb, lo, none⟩, cl, ?_, h9⟩
  show Value.slice _ _ _ = Value.slice _ (l3 ++ [_]).length _
  rw [List.length_append]
  rfl
end
end Go.E.St
