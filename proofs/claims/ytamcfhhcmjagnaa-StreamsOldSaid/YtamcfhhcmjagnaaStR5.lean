/- The reference's connection: data. -/
import Derived.Test.YtamcfhhcmjagnaaStR1
import Derived.Test.YtamcfhhcmjagnaaStCy
namespace Go.E.St
open Go Go.E Go.Proofs.Ytamcfhhcmjagnaa Go.Proofs
set_option linter.unusedVariables false
set_option linter.unusedSimpArgs false
set_option maxRecDepth 100000
section
variable {B H : AHeap} {As : List Asn} {p : Nat} {s : Cn} {g : Sg}
theorem L85 (hok : Ok s) (hS : S B H (repD p s :: As)) : wpF C 85 [ptC p] H fun v H' => ∃ a c, v = .slice a s.dat.1.length c ∧ S B H' (arr 5 sgA v s.dat.1 :: repD p s.dat.2 :: As) := by
  have hol := hok.out
  have hil := hok.inc
  have hsz := hok.size
  have hwd := hok.window
  have hnx := hok.nxt
  have hun := hok.una
  refine wpF_ofW o85 rfl rfl ?_
  obtain ⟨ao, co, ai, ci, ho, hi, hO⟩ := openD hS
  clear hS
  have hS := hO
  clear hO
  unfold rfC at hS
  unfold ptC
  obtain ⟨s0, hs0⟩ : ∃ z, z = s.sent0 := ⟨_, rfl⟩
  have hs0b : 0 ≤ s0 ∧ s0 ≤ 4294967295 := by rw [hs0]; unfold Cn.sent0; rw [wrap_u32]; omega
  have hinv0 : s.nxt = IntKind.u32.wrap (s.una + s0) := by rw [hs0]; unfold Cn.sent0; rw [wrap_u32, wrap_u32]; omega
  obtain ⟨lim, hlim⟩ : ∃ z, z = s.dlim := ⟨_, rfl⟩
  have hlb : 0 ≤ lim ∧ lim ≤ 4096 := by rw [hlim]; unfold Cn.dlim; split <;> omega
  refine zsr ?_; refine zw1 ?_; refine zns ?_; refine zsr ?_; refine wpO_cons ?_; refine op1_bsliceS rfl hS ?_; refine bk_nil ?_; intro p1 H1 hS; refine zw1 ?_; refine zns ?_; refine wp_seq ?_; refine wp_regionD ?_; refine zd1 ?_; refine zm ?_; refine zg ?_; refine zj (S.g1 hS) ?_; refine zd1 ?_; refine zm ?_; refine zg ?_; refine zj (S.g1 hS) ?_; refine wpD_cons ?_
  refine op1_subW rfl rfl rfl ?_
  rw [show IntKind.u32.wrap (s.nxt - s.una) = s0 from hs0.symm]
  refine wpD_cons ?_; refine op1_convInt rfl rfl (by exact wrap_i64 (by omega) (by omega)) ?_; refine zd1 ?_; refine wpD_nil ?_; refine dk_of ?_ ?_; (iterate 3 refine chk_skip ?_); refine zx 8 ?_ ?_; refine zy 0 ?_ ?_; exact zq (S.g1 hS); exact chkFs_nil; (iterate 3 refine chk_skip ?_); refine zx 4 ?_ ?_; refine zy 0 ?_ ?_; exact zq (S.g1 hS); exact chkFs_nil; (iterate 3 refine chk_skip ?_); exact chk_end; refine seq_normal ?_; refine zsr ?_; refine zw1 ?_; refine zn ?_; refine zf ?_; refine zh (S.g1 hS) ?_; refine zw1 ?_; refine zns ?_
  refine wp_cut [5] (fun vs H' => vs = [.int .i64 lim] ∧ H1 = H') ?_ ?_
  · have hl2 : lim = if s.window = 0 ∧ s0 = 0 then 1 else s.window := by rw [hlim, hs0]; rfl
    refine zsr ?_; refine zw1 ?_; refine zn ?_; refine zf ?_; refine zh (S.g1 hS) ?_; refine wpO_cons ?_; refine op1_eqlI rfl rfl rfl ?_; refine zw1 ?_; refine wpO_cons ?_
    refine op1_dec rfl (fun h1 => ?_) (fun h1 => ?_)
    · refine op1_mov rfl (by (conv => lhs; whnf) <;> rfl) ?_; refine wpO_cons ?_; refine op1_eqlI rfl rfl rfl ?_; refine zt ?_; refine zns ?_
      refine wp_dec rfl (fun h2 => ?_) (fun h2 => ?_)
      · rw [if_pos ⟨h1, h2⟩] at hl2
        refine wp_region ?_; refine zw1 ?_; refine wpO_nil ?_; refine cut1 (by (conv => lhs; whnf) <;> rfl) ?_
        rw [hl2]
        exact ⟨rfl, rfl⟩
      · rw [if_neg (fun h => h2 h.2)] at hl2
        refine wp_skip ?_; refine cut1 (by (conv => lhs; whnf) <;> rfl) ?_
        rw [hl2]
        exact ⟨rfl, rfl⟩
    · rw [if_neg (fun h => h1 h.1)] at hl2
      refine op1_skip rfl ?_; refine zk ?_; refine zu ?_; refine zns ?_; refine wp_false rfl ?_; refine wp_skip ?_; refine cut1 (by (conv => lhs; whnf) <;> rfl) ?_
      rw [hl2]
      exact ⟨rfl, rfl⟩
  rintro vs2 T2 H2 ⟨rfl, rfl⟩
  have hdr : s.dl lim s.out.length s0 s.nxt = s.dr := by rw [hlim, hs0]; rfl
  have hS0 := S.up1 (S.arrI (E := sgA) (xs := []) (css := []) (S.up1 (S.many_nil (S.slNew (l := 0) (es := 5) hS rfl))) (by simp))
  replace hS0 := closeD (s := s) (S.up3 (S.up3 (S.up3 (S.up1 hS0))))
  skip
  refine wp_cut [3, 4] (fun vs H' => ∃ (al : Option Addr) (cl : Nat), vs = [.slice al s.dr.1.length cl, .int .i64 s.dr.2.1] ∧ S B H' (repD p { s with nxt := s.dr.2.2 } :: arr 5 sgA (.slice al s.dr.1.length cl) s.dr.1 :: As)) ?_ ?_
  · refine wp_block ?_
    refine wp_loop [3, 4] (fun k vs H' => ∃ (f : Nat) (sent nx : Int) (l : List Sg) (al : Option Addr) (cl : Nat), vs = [.slice al l.length cl, .int .i64 sent] ∧ k = (s.out.length - sent).toNat ∧ 0 ≤ sent ∧ sent ≤ 4294967295 ∧ (0 ≤ nx ∧ nx ≤ 4294967295) ∧ nx = IntKind.u32.wrap (s.una + sent) ∧
        (l.length : Int) + max 0 (s.out.length - sent) ≤ 4096 ∧ s.out.length - sent ≤ f ∧ l ++ (s.dl lim f sent nx).1 = s.dr.1 ∧ (s.dl lim f sent nx).2 = s.dr.2 ∧ S B H' (repD p { s with nxt := nx } :: arr 5 sgA (.slice al l.length cl) l :: As))
      ⟨_, s.out.length, s0, s.nxt, [], some ⟨p1, 0, none⟩, 0, rfl, rfl, hs0b.1, hs0b.2, hnx, hinv0, by simp; omega, by omega, by rw [hdr]; rfl, by rw [hdr], hS0⟩ ?_
    clear hS hS0 ho hi
    rintro k vs T3 H3 ⟨f, sent, nx, l, al, cl, rfl, rfl, hse, hse2, hnxb, hinv, hlen, hf, hd1, hd2, hS⟩
    have hS0 := hS
    obtain ⟨ao, co, ai, ci, ho, hi, hO⟩ := openD hS
    clear hS
    have hS := hO
    clear hO
    unfold rfC at hS
    dsimp only at hS ho hi
    refine wp_seq ?_; refine zsr ?_; refine zw1 ?_; refine zw1 ?_; refine zn ?_; refine zf ?_; refine zh (S.g0 hS) ?_; refine wpO_cons ?_; refine op1_len rfl rfl ?_; refine wpO_cons ?_; refine op1_lss rfl rfl rfl ?_; refine zw1 ?_; refine wpO_cons ?_
    refine op1_dec rfl (fun h1 => ?_) (fun h1 => ?_)
    rotate_left
    · rw [dl_stop s lim f (fun h => h1 h.1)] at hd1 hd2
      refine op1_skip rfl ?_; refine zk ?_; refine zk ?_; refine zu ?_; refine zns ?_; refine wp_false rfl ?_; refine wp_exit ?_; refine seq_exit ?_; refine iter_exit ?_; refine block_exit ?_; refine cut2 (by (conv => lhs; whnf) <;> rfl) (by (conv => lhs; whnf) <;> rfl) ?_
      have e1 : l = s.dr.1 := by simpa using hd1
      have e2 : sent = s.dr.2.1 := congrArg (·.1) hd2
      have e3 : nx = s.dr.2.2 := congrArg (·.2) hd2
      subst e1 e2 e3
      exact ⟨al, cl, rfl, hS0⟩
    refine op1_mov rfl (by (conv => lhs; whnf) <;> rfl) ?_; refine zw1 ?_; refine wpO_cons ?_; refine op1_lss rfl rfl rfl ?_; refine zt ?_; refine zns ?_
    refine wp_dec rfl (fun h2 => ?_) (fun h2 => ?_)
    rotate_left
    · rw [dl_stop s lim f (fun h => h2 h.2)] at hd1 hd2
      refine wp_exit ?_; refine seq_exit ?_; refine iter_exit ?_; refine block_exit ?_; refine cut2 (by (conv => lhs; whnf) <;> rfl) (by (conv => lhs; whnf) <;> rfl) ?_
      have e1 : l = s.dr.1 := by simpa using hd1
      have e2 : sent = s.dr.2.1 := congrArg (·.1) hd2
      have e3 : nx = s.dr.2.2 := congrArg (·.2) hd2
      subst e1 e2 e3
      exact ⟨al, cl, rfl, hS0⟩
    clear hS0
    obtain ⟨n, hn⟩ : ∃ n : Nat, n = (s.dn lim sent).toNat := ⟨_, rfl⟩
    have hnd : s.dn lim sent = min (min s.size (s.out.length - sent)) (lim - sent) := rfl
    have hni : (n : Int) = min (min s.size (s.out.length - sent)) (lim - sent) := by omega
    have hnd2 : s.dn lim sent = n := by omega
    obtain ⟨sn, rfl⟩ : ∃ sn : Nat, sent = sn := ⟨sent.toNat, by omega⟩
    have hse3 : sn + n ≤ s.out.length := by omega
    have hn1 : 1 ≤ n := by omega
    obtain ⟨f, rfl⟩ : ∃ f', f = f' + 1 := ⟨f - 1, by omega⟩
    rw [Cn.dl, if_pos ⟨h1, h2⟩, hnd2, Int.toNat_natCast, Int.toNat_natCast] at hd1 hd2
    have hdl : ((s.out.drop sn).take n).length = n := by rw [List.length_take, List.length_drop]; omega
    refine wp_skip ?_; refine seq_normal ?_; refine wp_block ?_; refine wp_seq ?_; refine wp_regionD ?_; refine zd1 ?_; refine zm ?_; refine zg ?_; refine zj (S.g0 hS) ?_; refine zd1 ?_; refine zm ?_; refine zg ?_; refine zj (S.g0 hS) ?_; refine wpD_cons ?_; refine op1_len rfl rfl ?_; refine zd1 ?_; refine wpD_cons ?_; refine op1_sub rfl rfl rfl (by exact wrap_i64 (by omega) (by omega)) ?_; refine zd1 ?_; refine zd1 ?_; refine wpD_cons ?_; refine op1_sub rfl rfl rfl (by exact wrap_i64 (by omega) (by omega)) ?_; refine wpD_cons ?_
    refine op1_min3 rfl rfl rfl rfl ?_
    rw [← hni]
    refine zd1 ?_; refine wpD_nil ?_; refine dk_of ?_ ?_; (iterate 3 refine chk_skip ?_); refine zx 13 ?_ ?_; refine zy 0 ?_ ?_; exact zq (S.g0 hS); exact chkFs_nil; (iterate 3 refine chk_skip ?_); refine zx 9 ?_ ?_; refine zy 0 ?_ ?_; exact zq (S.g0 hS); exact chkFs_nil; refine zx 8 ?_ ?_; refine zy 0 ?_ ?_; exact chk_len rfl rfl; exact chkFs_nil; (iterate 7 refine chk_skip ?_); exact chk_end; refine seq_normal ?_; refine wp_seq ?_; refine wp_regionD ?_; refine zd1 ?_; refine zd1 ?_; refine zm ?_; refine zg ?_; refine zj (S.g0 hS) ?_; refine zd1 ?_; refine wpD_cons ?_
    refine op1_convInt rfl rfl (by rw [wrap_u32]; omega) ?_
    refine wpD_cons ?_
    refine op1_addW rfl rfl rfl ?_
    rw [← hinv]
    refine zd1 ?_; refine zm ?_; refine zg ?_; refine zj (S.g0 hS) ?_; refine zd1 ?_; refine wpD_cons ?_; refine op1_bsliceS rfl hS ?_; refine bk_nil ?_; intro p2 H2 hS; refine zd1 ?_; refine zm ?_; refine zg ?_; refine zj (S.g1 hS) ?_; refine zd1 ?_; refine zd1 ?_; refine zd1 ?_; refine wpD_cons ?_; refine op1_add rfl rfl rfl (by exact wrap_i64 (by omega) (by omega)) ?_; refine wpD_cons ?_
    replace hS := S.slNew (l := 0) (es := 1) hS rfl
    have hT := hS
    refine op1_sliceD rfl rfl (RD.cons (RD.cons RD.head)) hS (bnds_both (by omega) (by omega) (by omega)) (by simp only [Int.toNat_natCast]; omega) (by omega) ?_
    simp only [Nat.mul_one, show (sn : Int).toNat = sn from rfl, show ((sn : Int) + (n : Int)).toNat = sn + n by omega, show sn + n - sn = n by omega]
    intro a1 c1 hd1' hck
    rw [u8s_drop, u8s_take] at hd1'
    obtain ⟨r1, hr1, _⟩ := hd1' _ hS
    refine wpD_cons ?_; refine op1_call1 rfl (by (conv => lhs; whnf) <;> rfl) ?_
    refine wpF_mono (L78 (s := { s with nxt := nx }) hil (S.up1 hS)) ?_
    rintro _ H5 ⟨rfl, rfl⟩
    refine wpD_cons ?_
    refine op1_appRS rfl rfl (by (conv => lhs; whnf) <;> rfl) rfl hr1 (by simp [hdl]) (u8s_one _) hS (by omega) ?_
    rw [List.nil_append, Nat.zero_add]
    intro a2 c2 H6 hS
    have hT2 := hS
    obtain ⟨css, hcss, hcl, hS⟩ := S.unarr (S.up4 hS)
    have hone := sg_one (S.up1 hS)
    refine wpD_cons ?_; refine op1_build rfl ?_; refine bk_one (by (conv => lhs; whnf) <;> rfl) rfl rfl rfl ?_; refine bk_one (by (conv => lhs; whnf) <;> rfl) rfl rfl rfl ?_; refine bk_one (by (conv => lhs; whnf) <;> rfl) rfl rfl rfl ?_; refine bk_one (by (conv => lhs; whnf) <;> rfl) rfl rfl rfl ?_; refine bk_one (by (conv => lhs; whnf) <;> rfl) rfl rfl rfl ?_; refine bk_nil ?_; refine wpD_cons ?_; refine op1_bsliceS rfl hS ?_; refine bk_agg rfl rfl rfl rfl ?_; refine bk_nil ?_; intro p3 H4 hS; refine wpD_cons ?_; (refine op1_appBS rfl rfl (by (conv => lhs; whnf) <;> rfl) rfl (S.g0 hS) rfl rfl (S.up1 hS) (by omega) ?_; intro a3 c3 H5 hS; replace hS := S.dn1 hS; replace hS := S.drop hS); refine zd1 ?_; refine wpD_nil ?_; refine dk_of ?_ ?_; (iterate 4 refine chk_skip ?_); refine zx 25 ?_ ?_; refine zy 6 ?_ ?_; exact zq (S.g1 hT); refine zy 5 ?_ ?_; exact zq (S.g1 hT); refine zy 2 ?_ ?_; exact chk_load rfl (by exact S.g4 (by assumption)) rfl rfl; exact chkFs_nil; (iterate 6 refine chk_skip ?_); refine zx 18 ?_ ?_; refine zy 6 ?_ ?_; exact zq (S.g1 hT); refine zy 5 ?_ ?_; exact zq (S.g1 hT); refine zy 2 ?_ ?_; exact chk_load rfl (by exact S.g4 (by assumption)) rfl rfl; exact chkFs_nil; (iterate 5 refine chk_skip ?_); refine zx 12 ?_ ?_; refine zy 6 ?_ ?_; exact zq (S.g1 hT); refine zy 5 ?_ ?_; exact zq (S.g1 hT); exact chkFs_nil; (iterate 4 refine chk_skip ?_); refine zx 7 ?_ ?_; refine zy 6 ?_ ?_
    · exact hck _ _ hT rfl
    refine zy 5 ?_ ?_
    · exact hck _ _ hT rfl
    exact chkFs_nil; (iterate 6 refine chk_skip ?_); exact chk_end; refine seq_normal ?_; refine zsr ?_; refine zw1 ?_; refine zw1 ?_; refine wpO_cons ?_; refine op1_add rfl rfl rfl (by exact wrap_i64 (by omega) (by omega)) ?_; refine zw1 ?_; refine zns ?_; refine wp_region ?_; refine zw1 ?_; refine zn ?_; refine zf ?_; refine zh (S.g3 hS) ?_; refine zw1 ?_; refine wpO_cons ?_
    refine op1_convInt rfl rfl (by rw [wrap_u32]; omega) ?_
    refine wpO_cons ?_
    refine op1_addW rfl rfl rfl ?_
    refine zn ?_; refine zf ?_; refine wpO_cons ?_; (refine op1_store1S rfl rfl (by (conv => lhs; whnf) <;> rfl) rfl rfl (S.up3 hS) rfl ?_; intro H7 hS; replace hS := S.dn3 hS); refine wpO_nil ?_; refine block_normal ?_
    have ea2 : Value.slice a2 n c2 = Value.slice a2 ((s.out.drop sn).take n).length c2 := by rw [hdl]
    have h9 := sg_snoc (g := s.sgm 2 nx ((s.out.drop sn).take n)) (l := l) (n := l.length) (ad := a2) (cd := c2) hcss rfl (S.up1 (S.up2 (by rw [ea2] at hS; exact hS)))
    refine ⟨(s.out.length - ((sn : Int) + n)).toNat, by omega, f, (sn : Int) + n, IntKind.u32.wrap (nx + n), l ++ [s.sgm 2 nx ((s.out.drop sn).take n)], _, _, by rw [List.length_append]; rfl, rfl, by omega, by omega, by rw [wrap_u32]; omega, by rw [hinv, wrap_u32, wrap_u32, wrap_u32]; omega, by rw [List.length_append]; simp; omega, by omega, by rw [List.append_assoc]; exact hd1, hd2, ?_⟩
    exact closeD (s := { s with nxt := IntKind.u32.wrap (nx + n) }) (S.up3 (S.up3 (S.up3 h9)))
  clear hS hS0
  rintro vs3 T3 H3 ⟨al, cl, rfl, hS⟩
  have hdfl : ∀ g ∈ s.dr.1, g.fl = 2 := dl_fl s _ _ _ _
  have hdle : s.dr.1.length ≤ 4096 := by
    have h1 := dl_len s s.dlim hsz.1 s.out.length s.sent0 s.nxt (by rw [← hs0]; omega)
    have h2 : s.dr.1 = (s.dl s.dlim s.out.length s.sent0 s.nxt).1 := rfl
    have h3 : 0 ≤ s.sent0 := by rw [← hs0]; omega
    rw [h2]; omega
  unfold Cn.dat
  obtain ⟨l, hl⟩ : ∃ z, z = s.dr.1 := ⟨_, rfl⟩
  obtain ⟨sent, hsent⟩ : ∃ z, z = s.dr.2.1 := ⟨_, rfl⟩
  obtain ⟨N, hN⟩ : ∃ z, z = s.dr.2.2 := ⟨_, rfl⟩
  rw [← hl] at hdfl hdle
  rw [← hl, ← hN] at hS
  rw [← hl, ← hsent, ← hN]
  clear hl hN
  obtain ⟨fin, hfin⟩ : ∃ z, z = s.finNow sent := ⟨_, rfl⟩
  rw [← hfin]
  have hS0 := hS
  obtain ⟨ao, co, ai, ci, ho, hi, hO⟩ := openD hS
  clear hS
  have hS := hO
  clear hO
  unfold rfC at hS
  dsimp only at hS ho hi
  refine wp_seq ?_
  refine wp_cut [124] (fun vs H' => vs = [.bool fin] ∧ H3 = H') ?_ ?_
  · obtain ⟨f1, hf1⟩ : ∃ z, z = s.asked := ⟨_, rfl⟩
    obtain ⟨f2, hf2⟩ : ∃ z, z = s.finSent := ⟨_, rfl⟩
    obtain ⟨f3, hf3⟩ : ∃ z, z = s.finGone := ⟨_, rfl⟩
    have hfin2 : fin = (f1 && (!f2 && (!f3 && decide (sent = s.out.length)))) := by rw [hfin, hf1, hf2, hf3]; rfl
    rw [← hf1, ← hf2, ← hf3] at hS
    cases f1
    · refine wp_region ?_; refine zw1 ?_; refine zn ?_; refine zf ?_; refine zh (S.g0 hS) ?_; refine zw1 ?_; (iterate 5 refine zk ?_); refine zu ?_; refine zw1 ?_; (iterate 5 refine zk ?_); refine zu ?_; refine zw1 ?_; (iterate 7 refine zk ?_); refine zu ?_; refine wpO_nil ?_; refine cut1 (by (conv => lhs; whnf) <;> rfl) ?_
      rw [hfin2]
      exact ⟨rfl, rfl⟩
    cases f2
    rotate_left
    · refine wp_region ?_; refine zw1 ?_; refine zn ?_; refine zf ?_; refine zh (S.g0 hS) ?_; refine zw1 ?_; refine zw1 ?_; refine zn ?_; refine zf ?_; refine zh (S.g0 hS) ?_; refine wpO_cons ?_; refine op1_not_t rfl rfl ?_; refine zt ?_; refine zw1 ?_; (iterate 5 refine zk ?_); refine zu ?_; refine zw1 ?_; (iterate 7 refine zk ?_); refine zu ?_; refine wpO_nil ?_; refine cut1 (by (conv => lhs; whnf) <;> rfl) ?_
      rw [hfin2]
      exact ⟨rfl, rfl⟩
    cases f3
    rotate_left
    · refine wp_region ?_; refine zw1 ?_; refine zn ?_; refine zf ?_; refine zh (S.g0 hS) ?_; refine zw1 ?_; refine zw1 ?_; refine zn ?_; refine zf ?_; refine zh (S.g0 hS) ?_; refine wpO_cons ?_; refine op1_not_f rfl rfl ?_; refine zt ?_; refine zw1 ?_; refine zw1 ?_; refine zn ?_; refine zf ?_; refine zh (S.g0 hS) ?_; refine wpO_cons ?_; refine op1_not_t rfl rfl ?_; refine zt ?_; refine zw1 ?_; (iterate 7 refine zk ?_); refine zu ?_; refine wpO_nil ?_; refine cut1 (by (conv => lhs; whnf) <;> rfl) ?_
      rw [hfin2]
      exact ⟨rfl, rfl⟩
    refine wp_region ?_; refine zw1 ?_; refine zn ?_; refine zf ?_; refine zh (S.g0 hS) ?_; refine zw1 ?_; refine zw1 ?_; refine zn ?_; refine zf ?_; refine zh (S.g0 hS) ?_; refine wpO_cons ?_; refine op1_not_f rfl rfl ?_; refine zt ?_; refine zw1 ?_; refine zw1 ?_; refine zn ?_; refine zf ?_; refine zh (S.g0 hS) ?_; refine wpO_cons ?_; refine op1_not_f rfl rfl ?_; refine zt ?_; refine zw1 ?_; refine zw1 ?_; refine zw1 ?_; refine zn ?_; refine zf ?_; refine zh (S.g0 hS) ?_; refine wpO_cons ?_; refine op1_len rfl rfl ?_; refine wpO_cons ?_; refine op1_eqlI rfl rfl rfl ?_; refine zt ?_; refine wpO_nil ?_; refine cut1 (by (conv => lhs; whnf) <;> rfl) ?_
    rw [hfin2]
    exact ⟨rfl, rfl⟩
  rintro vs4 T4 H4 ⟨rfl, rfl⟩
  cases fin
  · rw [if_neg (by simp)]
    refine wp_false rfl ?_; refine wp_skip ?_; refine seq_normal ?_; refine zsr ?_; refine zw1 ?_; refine zw1 ?_; refine zns ?_; refine wp_ret ?_; refine ret_of ?_; refine zr ?_; refine rk_nil ?_
    exact ⟨_, _, rfl, S.up1 hS0⟩
  rw [if_pos rfl]
  refine wp_true rfl ?_
  refine wp_cut [3] (fun vs H' => ∃ (l3 : List Sg) (g : Sg) (al : Option Addr) (cl : Nat), vs = [.slice al (l3.length + 1) cl] ∧ l3.length ≤ 4096 ∧ g.fl = 2 ∧ addFin s N l = l3 ++ [{ g with fl := 6 }] ∧ S B H' (repD p { s with nxt := N } :: arr 5 sgA (.slice al (l3.length + 1) cl) (l3 ++ [g]) :: As)) ?_ ?_
  · refine zsr ?_; refine zw1 ?_; refine wpO_cons ?_; refine op1_len rfl rfl ?_; refine wpO_cons ?_; refine op1_eqlI rfl rfl rfl ?_; refine zns ?_
    refine wp_dec rfl (fun h1 => ?_) (fun h1 => ?_)
    · obtain rfl : l = [] := List.eq_nil_of_length_eq_zero (by omega)
      refine wp_regionD ?_; refine zd1 ?_; refine zd1 ?_; refine zm ?_; refine zg ?_; refine zj (S.g0 hS) ?_; refine zd1 ?_; refine zm ?_; refine zg ?_; refine zj (S.g0 hS) ?_; refine zd1 ?_; refine wpD_cons ?_; refine op1_call1 rfl (by (conv => lhs; whnf) <;> rfl) ?_
      refine wpF_mono (L78 (s := { s with nxt := N }) hil hS) ?_
      rintro _ H5 ⟨rfl, rfl⟩
      have hT := hS
      obtain ⟨css, hcss, hcl, hS⟩ := S.unarr (S.up3 hS)
      have hone := sg_one (S.up1 hS)
      refine wpD_cons ?_; refine op1_build rfl ?_; refine bk_one (by (conv => lhs; whnf) <;> rfl) rfl rfl rfl ?_; refine bk_one (by (conv => lhs; whnf) <;> rfl) rfl rfl rfl ?_; refine bk_one (by (conv => lhs; whnf) <;> rfl) rfl rfl rfl ?_; refine bk_one (by (conv => lhs; whnf) <;> rfl) rfl rfl rfl ?_; refine bk_nil ?_; refine wpD_cons ?_; refine op1_bsliceS rfl hS ?_; refine bk_agg rfl rfl rfl rfl ?_; refine bk_nil ?_; intro p2 H2 hS; refine wpD_cons ?_; (refine op1_appBS rfl rfl (by (conv => lhs; whnf) <;> rfl) rfl (S.g0 hS) rfl rfl (S.up1 hS) (by omega) ?_; intro a1 c1 H4 hS; replace hS := S.dn1 hS; replace hS := S.drop hS); refine zd1 ?_; refine wpD_nil ?_; refine dk_of ?_ ?_; (iterate 4 refine chk_skip ?_); refine zx 11 ?_ ?_; refine zy 5 ?_ ?_; exact chk_load rfl (by exact S.g2 (by assumption)) rfl rfl; refine zy 2 ?_ ?_; exact chk_load rfl (by exact S.g3 (by assumption)) rfl rfl; exact chkFs_nil; (iterate 3 refine chk_skip ?_); refine zx 7 ?_ ?_; refine zy 5 ?_ ?_; exact chk_load rfl (by exact S.g2 (by assumption)) rfl rfl; refine zy 2 ?_ ?_; exact chk_load rfl (by exact S.g3 (by assumption)) rfl rfl; exact chkFs_nil; (iterate 6 refine chk_skip ?_); exact chk_end; refine cut1 (by (conv => lhs; whnf) <;> rfl) ?_
      have h9 := sg_snoc (g := s.sgm 2 N []) (l := []) (n := 0) (ad := none) (cd := 0) hcss rfl (S.up1 (S.slNil hS))
      exact ⟨[], s.sgm 2 N [], _, _, rfl, by simp, rfl, rfl, closeD (s := { s with nxt := N }) (S.up3 (S.up3 (S.up3 h9)))⟩
    · refine wp_skip ?_; refine cut1 (by (conv => lhs; whnf) <;> rfl) ?_
      obtain ⟨l3, g, rfl⟩ : ∃ l3 g, l = l3 ++ [g] := ⟨l.dropLast, l.getLast (by rintro rfl; simp at h1), (List.dropLast_concat_getLast _).symm⟩
      rw [List.length_append, List.length_singleton] at hS0 hdle
      rw [List.length_append, List.length_singleton]
      exact ⟨l3, g, al, cl, rfl, by omega, hdfl g (by simp), addFin_snoc _ _ _ _, hS0⟩
  clear hS hS0 hdfl hdle
  rintro vs5 T5 H5 ⟨l3, g, al, cl, rfl, hl3, hg2, hadd, hS⟩
  rw [hadd]
  obtain ⟨css, hcss, hcl, hS⟩ := S.unarr (S.up1 hS)
  obtain ⟨css, cs1, rfl, hS⟩ := S.many_unapp (S.up1 hS)
  obtain ⟨cs, rfl, hS⟩ := S.many_unone (S.up1 hS)
  obtain ⟨ag, cg, rfl, hcg, hS⟩ := sgA_un hS
  replace hS := S.up3 hS
  obtain ⟨ao, co, ai, ci, ho, hi, hO⟩ := openD hS
  clear hS
  have hS := hO
  clear hO
  unfold rfC at hS
  dsimp only at hS ho hi
  have hcl3 : css.length = l3.length := S.many_len (S.up4 hS)
  have hfl5 : css.flatten.length = l3.length * 5 := by
    rw [← hcl3]
    exact flat_len5 css fun c hc => hcss c (by simp [hc])
  obtain ⟨lb, lo, lcs, rfl, _⟩ := S.slBlk (S.up5 hS) (by omega)
  have ef : (css ++ [sgC g (.slice ag g.data.length cg)]).flatten = css.flatten ++ sgC g (.slice ag g.data.length cg) := by simp
  rw [ef] at hS
  refine zsr ?_; refine zw1 ?_; refine zw1 ?_; refine wpO_cons ?_; refine op1_len rfl rfl ?_; refine wpO_cons ?_; refine op1_sub rfl rfl rfl (by exact wrap_i64 (by omega) (by omega)) ?_; refine wpO_cons ?_; refine op1_iaddr rfl rfl rfl (by omega) (by omega) ?_; refine wpO_cons ?_; refine op1_faddr rfl rfl ?_; refine wpO_cons ?_
  rw [show ((l3.length + 1 : Nat) : Int) - 1 = (l3.length : Int) by omega]
  skip
  refine op1_store1L (k := l3.length * 5) rfl rfl (by (conv => lhs; whnf) <;> rfl) rfl rfl (S.up5 hS) (by omega) ?_
  intro H6 hS
  replace hS := S.dn5 hS
  have eset : (css.flatten ++ sgC g (.slice ag g.data.length cg)).set (l3.length * 5) (.int .i64 6) = css.flatten ++ sgC { g with fl := 6 } (.slice ag g.data.length cg) := by
    rw [List.set_append_right _ _ (by omega), hfl5, Nat.sub_self]; rfl
  rw [eset] at hS
  refine zns ?_; refine zsr ?_; refine zw1 ?_; refine zn ?_; refine zf ?_; refine wpO_cons ?_; (refine op1_store1S rfl rfl (by (conv => lhs; whnf) <;> rfl) rfl rfl (S.up0 hS) rfl ?_; intro H2 hS; replace hS := S.dn0 hS); refine zns ?_; refine wp_region ?_; refine zw1 ?_; refine zn ?_; refine zf ?_; refine zh (S.g0 hS) ?_; refine wpO_cons ?_
  refine op1_addW rfl rfl rfl ?_
  refine zn ?_; refine zf ?_; refine wpO_cons ?_; (refine op1_store1S rfl rfl (by (conv => lhs; whnf) <;> rfl) rfl rfl (S.up0 hS) rfl ?_; intro H4 hS; replace hS := S.dn0 hS); refine zns ?_; refine zsr ?_; refine zw1 ?_; refine zw1 ?_; refine zns ?_; refine wp_ret ?_; refine ret_of ?_; refine zr ?_; refine rk_nil ?_
  have h9 := sg_snoc (g := { g with fl := 6 }) (l := l3) (n := l3.length) (fun c hc => hcss c (by simp [hc])) rfl (S.up2 (S.dn3 (closeD (s := { s with nxt := IntKind.u32.wrap (N + 1), finSent := true }) hS)))
  rw [List.length_append] at h9
  refine ⟨some ⟨lb, lo, none⟩, cl, ?_, h9⟩
  show Value.slice _ _ _ = Value.slice _ (l3 ++ [_]).length _
  rw [List.length_append]
  rfl
end
end Go.E.St
/- The reference's connection: Output, Next. -/
namespace Go.E.St
open Go Go.E Go.Proofs.Ytamcfhhcmjagnaa Go.Proofs
set_option linter.unusedVariables false
set_option linter.unusedSimpArgs false
set_option maxRecDepth 100000
def Cn.oA (s : Cn) : List Sg × Cn := if s.st = 2 ∧ s.nxt = s.first then ([⟨1, s.first, 0, 4096 - s.inc.length, []⟩], { s with nxt := IntKind.u32.wrap (s.nxt + 1) }) else ([], s)
def Cn.oB (s : Cn) : List Sg × Cn := if s.st = 3 ∧ s.nxt = s.first then ([s.sgm 3 s.first []], { s with nxt := IntKind.u32.wrap (s.nxt + 1) }) else ([], s)
def Cn.oD (s : Cn) : List Sg × Cn := if s.st = 4 ∨ s.st = 5 ∨ s.st = 6 ∨ s.st = 7 then s.dat else ([], s)
theorem oA_segs {s : Cn} (h : s.st = 2) : s.segs = s.oA := by
  unfold Cn.segs Cn.oA Cn.hello
  rw [if_pos (.inl h), if_pos h]
  by_cases h1 : s.nxt = s.first
  · rw [if_neg (fun k => k h1), if_pos ⟨h, h1⟩]
  · rw [if_pos h1, if_neg (fun k => h1 k.2)]
theorem oB_segs {s : Cn} (h : s.st = 3) : s.segs = s.oB := by
  by_cases h1 : s.nxt = s.first
  · unfold Cn.segs Cn.oB Cn.hello
    rw [if_pos (.inr h), if_neg (fun k => k h1), if_neg (by omega), if_pos ⟨h, h1⟩]
  · unfold Cn.segs Cn.oB
    rw [if_pos (.inr h), if_pos h1, if_neg (fun k => h1 k.2)]
theorem le15 {a : Int} (b : Int) (h : a = b) (hb : 0 ≤ b ∧ b ≤ 15) : 0 ≤ a ∧ a ≤ 15 := h ▸ hb
theorem oD_segs {s : Cn} (h : s.st ≠ 2) (h' : s.st ≠ 3) : s.segs = s.oD := by
  unfold Cn.segs Cn.oD
  rw [if_neg (by omega)]
theorem segs_fl {s : Cn} : ∀ g ∈ s.segs.1, 0 ≤ g.fl ∧ g.fl ≤ 15 := by
  have haf : ∀ (c : Cn) (nx : Int) (l : List Sg), (∀ g ∈ l, g.fl = 2) → ∀ g ∈ addFin c nx l, 0 ≤ g.fl ∧ g.fl ≤ 15 := by
    intro c nx l
    induction l with
    | nil =>
      intro _ g h
      rw [addFin, List.mem_singleton] at h
      rw [h]; exact le15 6 rfl (by decide)
    | cons a l ih =>
      intro hl g h
      cases l with
      | nil =>
        rw [addFin, List.mem_singleton] at h
        rw [h]; exact le15 6 rfl (by decide)
      | cons b l =>
        rw [addFin] at h
        · rcases List.mem_cons.1 h with h | h
          · rw [h, hl a (by simp)]; exact ⟨by decide, by decide⟩
          · exact ih (fun x hx => hl x (by simp at hx ⊢; right; exact hx)) g h
        · intro h; cases h
  intro g hg
  unfold Cn.segs at hg
  split at hg
  · split at hg
    · simp at hg
    · rw [List.mem_singleton] at hg
      rw [hg]; unfold Cn.hello; split
      · exact le15 1 rfl (by decide)
      · exact le15 3 rfl (by decide)
  split at hg
  · unfold Cn.dat at hg
    split at hg
    · exact haf s _ _ (dl_fl s _ _ _ _) g hg
    · rw [dl_fl s _ _ _ _ g hg]; exact ⟨by decide, by decide⟩
  · simp at hg
theorem ackd_fl {s : Cn} {l : List Sg} (h : ∀ g ∈ l, 0 ≤ g.fl ∧ g.fl ≤ 15) : ∀ g ∈ s.ackd l, 0 ≤ g.fl ∧ g.fl ≤ 15 := by
  intro g hg
  unfold Cn.ackd at hg
  split at hg
  · rw [List.mem_singleton] at hg
    rw [hg]; exact ⟨by show (0 : Int) ≤ 2; decide, by show (2 : Int) ≤ 15; decide⟩
  · exact h g hg
section
variable {B H : AHeap} {As : List Asn} {p : Nat} {s : Cn} {g : Sg}
theorem sg_nil {b : Nat} (h : S B H (pto b (.cells [] 5 false) :: As)) : S B H (arr 5 sgA (.slice (some ⟨b, 0, none⟩) 0 0) [] :: As) :=
  S.arrI (E := sgA) (xs := []) (css := []) (S.up1 (S.many_nil (S.slNew (l := 0) (es := 5) h rfl))) (by simp)
theorem L56 {now : Int} (hok : Ok s) (hS : S B H (repD p s :: As)) :
    wpF C 56 [ptC p, .int .i64 now] H fun v H' => ∃ a c, v = .tuple ⟨[.slice a (s.output now).2.1.length c, .int .i64 (s.output now).1]⟩ ∧ S B H' (arr 5 sgA (.slice a (s.output now).2.1.length c) (s.output now).2.1 :: repD p (s.output now).2.2 :: As) := by
  have hcl := hok.clock
  have htm := hok.tmo
  have hsi := hok.since
  have hrp := hok.reps
  refine wpF_ofW o56 rfl rfl ?_
  have hS0 := hS
  obtain ⟨ao, co, ai, ci, ho, hi, hO⟩ := openD hS
  clear hS
  have hS := hO
  clear hO
  unfold rfC at hS
  unfold ptC
  refine zsr ?_; refine zw1 ?_; refine zw1 ?_; refine zns ?_; refine wp_seq ?_; refine zsr ?_; refine zw1 ?_; refine wpO_cons ?_; refine op1_call1 rfl (by (conv => lhs; whnf) <;> rfl) ?_
  refine wpF_mono L79 ?_
  rintro _ H2 ⟨rfl, rfl⟩
  by_cases h1 : 0 ≤ now ∧ now ≤ 1099511627776
  rotate_left
  · have e : s.output now = (34, [], s) := by unfold Cn.output; rw [if_pos h1]
    rw [decide_eq_false h1, e]
    refine wpO_cons ?_; refine op1_not_f rfl rfl ?_; refine zns ?_; refine wp_true rfl ?_; refine zsr ?_; refine zw1 ?_; refine zw1 ?_; refine zns ?_; refine wp_ret ?_; refine seq_ret ?_; refine ret_of ?_; refine zr ?_; refine zr ?_; refine rk_nil ?_
    exact ⟨none, 0, rfl, S.arrNil hS0⟩
  rw [decide_eq_true h1]
  refine wpO_cons ?_; refine op1_not_t rfl rfl ?_; refine zns ?_; refine wp_false rfl ?_; refine wp_skip ?_; refine seq_normal ?_; refine wp_seq ?_; refine zsr ?_; refine zw1 ?_; refine zw1 ?_; refine zn ?_; refine zf ?_; refine zh (S.g0 hS) ?_; refine wpO_cons ?_; refine op1_lss rfl rfl rfl ?_; refine zns ?_
  refine wp_dec rfl (fun h2 => ?_) (fun h2 => ?_)
  · have e : s.output now = (30, [], s) := by unfold Cn.output; rw [if_neg (fun h => h h1), if_pos h2]
    rw [e]
    refine zsr ?_; refine zw1 ?_; refine zw1 ?_; refine zns ?_; refine wp_ret ?_; refine seq_ret ?_; refine ret_of ?_; refine zr ?_; refine zr ?_; refine rk_nil ?_
    exact ⟨none, 0, rfl, S.arrNil hS0⟩
  refine wp_skip ?_; refine seq_normal ?_; refine wp_seq ?_; refine zsr ?_; refine zw1 ?_; refine zn ?_; refine zf ?_; refine zh (S.g0 hS) ?_; refine zns ?_
  obtain ⟨rs, hrs⟩ : ∃ z, z = s.rst := ⟨_, rfl⟩
  rw [← hrs]
  cases rs
  rotate_left
  · have e : s.output now = (0, [⟨10, s.nxt, s.rcv, 0, []⟩], { s with clock := now, rst := false }) := by unfold Cn.output; rw [if_neg (fun h => h h1), if_neg h2, ← hrs, if_pos rfl]
    rw [e]
    refine wp_true rfl ?_; refine zsr ?_; refine zw1 ?_; refine zw1 ?_; refine zw1 ?_; refine zn ?_; refine zf ?_; refine wpO_cons ?_; (refine op1_store1S rfl rfl (by (conv => lhs; whnf) <;> rfl) rfl rfl (S.up0 hS) rfl ?_; intro H1 hS; replace hS := S.dn0 hS); refine zn ?_; refine zf ?_; refine wpO_cons ?_; (refine op1_store1S rfl rfl (by (conv => lhs; whnf) <;> rfl) rfl rfl (S.up0 hS) rfl ?_; intro H2 hS; replace hS := S.dn0 hS); refine zns ?_; refine wp_seq ?_; refine wp_regionD ?_; refine zd1 ?_; refine zm ?_; refine zg ?_; refine zj (S.g0 hS) ?_; refine zd1 ?_; refine zm ?_; refine zg ?_; refine zj (S.g0 hS) ?_; refine wpD_cons ?_; refine op1_build rfl ?_; refine bk_one (by (conv => lhs; whnf) <;> rfl) rfl rfl rfl ?_; refine bk_one (by (conv => lhs; whnf) <;> rfl) rfl rfl rfl ?_; refine bk_one (by (conv => lhs; whnf) <;> rfl) rfl rfl rfl ?_; refine bk_nil ?_; refine wpD_cons ?_; refine op1_bsliceS rfl hS ?_; refine bk_agg rfl rfl rfl rfl ?_; refine bk_nil ?_; intro p1 H3 hS; refine zd1 ?_; refine zd1 ?_; refine wpD_nil ?_; refine dk_of ?_ ?_; (iterate 3 refine chk_skip ?_); refine zx 9 ?_ ?_; refine zy 0 ?_ ?_; exact zq (S.g1 hS); exact chkFs_nil; (iterate 3 refine chk_skip ?_); refine zx 5 ?_ ?_; refine zy 0 ?_ ?_; exact zq (S.g1 hS); exact chkFs_nil; (iterate 4 refine chk_skip ?_); exact chk_end; refine seq_normal ?_; refine wp_ret ?_; refine seq_ret ?_; refine ret_of ?_; refine zr ?_; refine zr ?_; refine rk_nil ?_
    exact ⟨some ⟨p1, 0, none⟩, 1, rfl, sg_single (g := ⟨10, s.nxt, s.rcv, 0, []⟩) (vd := .slice none 0 0) (S.up1 (S.slNil (S.up1 (closeD (s := { s with clock := now, rst := false }) (S.up3 (S.up3 (S.up3 hS)))))))⟩
  refine wp_false rfl ?_; refine wp_skip ?_; refine seq_normal ?_; refine wp_seq ?_; refine zsr ?_; refine zw1 ?_; refine zn ?_; refine zf ?_; refine zh (S.g0 hS) ?_; refine wpO_cons ?_; refine op1_eqlI rfl rfl rfl ?_; refine zns ?_
  refine wp_dec rfl (fun h3 => ?_) (fun h3 => ?_)
  · have e : s.output now = (4, [], s) := by unfold Cn.output; rw [if_neg (fun h => h h1), if_neg h2, ← hrs, if_neg (by simp), if_pos h3]
    rw [e]
    refine zsr ?_; refine zw1 ?_; refine zw1 ?_; refine zns ?_; refine wp_ret ?_; refine seq_ret ?_; refine ret_of ?_; refine zr ?_; refine zr ?_; refine rk_nil ?_
    exact ⟨none, 0, rfl, S.arrNil hS0⟩
  refine wp_skip ?_; refine seq_normal ?_; refine wp_seq ?_; refine zsr ?_; refine zw1 ?_; refine zn ?_; refine zf ?_; refine zh (S.g0 hS) ?_; refine wpO_cons ?_; refine op1_eqlI rfl rfl rfl ?_; refine zns ?_
  refine wp_dec rfl (fun h4 => ?_) (fun h4 => ?_)
  · have e : s.output now = (35, [], s) := by unfold Cn.output; rw [if_neg (fun h => h h1), if_neg h2, ← hrs, if_neg (by simp), if_neg h3, if_pos h4]
    rw [e]
    refine zsr ?_; refine zw1 ?_; refine zw1 ?_; refine zns ?_; refine wp_ret ?_; refine seq_ret ?_; refine ret_of ?_; refine zr ?_; refine zr ?_; refine rk_nil ?_
    exact ⟨none, 0, rfl, S.arrNil hS0⟩
  have eo : s.output now = if s.lateB now = true then (4, [], s.late now) else (0, ({ s.late now with clock := now } : Cn).sent now) := by unfold Cn.output; rw [if_neg (fun h => h h1), if_neg h2, ← hrs, if_neg (by simp), if_neg h3, if_neg h4]
  refine wp_skip ?_; refine seq_normal ?_
  refine wp_cutR [] (fun vs H' => vs = [] ∧ s.output now = (0, ({ s.late now with clock := now } : Cn).sent now) ∧ S B H' (repD p (s.late now) :: As)) ?_ ?_
  · obtain ⟨ru, hru⟩ : ∃ z, z = s.run := ⟨_, rfl⟩
    have hw : s.waits now = (!ru || decide (now - s.since < s.tmo)) := by rw [hru]; rfl
    refine wp_seq ?_; refine wp_regionD ?_; refine zd1 ?_; refine zm ?_; refine zg ?_; refine zj (S.g0 hS) ?_; refine zd1 ?_; refine wpD_cons ?_
    rw [← hru]
    cases ru
    · have e1 : s.lateB now = false := by unfold Cn.lateB; rw [hw]; rfl
      have e2 : s.late now = s := by unfold Cn.late; rw [hw]; rfl
      rw [eo, e1, if_neg (by simp), e2]
      refine op1_skip rfl ?_; (iterate 10 refine zl ?_); refine wpD_cons ?_; refine op1_pick_f rfl rfl (by (conv => lhs; whnf) <;> rfl) ?_; refine wpD_nil ?_; refine dk_of ?_ ?_; (iterate 3 refine chk_skip ?_); refine zx 14 ?_ ?_; refine zy 0 ?_ ?_
      · exact chk_load rfl (S.g0 hS) rfl (by show Value.bool false = Value.bool s.run; rw [← hru])
      exact chkFs_nil; (iterate 5 refine chk_skip ?_); refine chk_unw 8 rfl rfl rfl ?_; (iterate 4 refine chk_skip ?_); refine chk_unw 3 rfl rfl rfl ?_; (iterate 2 refine chk_skip ?_); exact chk_end; refine seq_normal ?_; refine wp_false rfl ?_; refine wp_skip ?_
      exact cutR0 ⟨rfl, rfl, hS0⟩
    refine op1_mov rfl (by (conv => lhs; whnf) <;> rfl) ?_; refine zd1 ?_; refine zm ?_; refine zg ?_; refine zj (S.g0 hS) ?_; refine wpD_cons ?_; refine op1_sub rfl rfl rfl (by exact wrap_i64 (by omega) (by omega)) ?_; refine zd1 ?_; refine zm ?_; refine zg ?_; refine zj (S.g0 hS) ?_; refine wpD_cons ?_; refine op1_geq rfl rfl rfl ?_; refine wpD_cons ?_; refine op1_pick_t rfl rfl (by (conv => lhs; whnf) <;> rfl) ?_; refine wpD_nil ?_; refine dk_of ?_ ?_; (iterate 3 refine chk_skip ?_); refine zx 14 ?_ ?_; refine zy 0 ?_ ?_
    · exact chk_load rfl (S.g0 hS) rfl (by show Value.bool true = Value.bool s.run; rw [← hru])
    exact chkFs_nil; (iterate 5 refine chk_skip ?_); refine zx 8 ?_ ?_; refine zy 0 ?_ ?_; exact zq (S.g0 hS); exact chkFs_nil; (iterate 4 refine chk_skip ?_); refine zx 3 ?_ ?_; refine zy 0 ?_ ?_; exact zq (S.g0 hS); exact chkFs_nil; (iterate 2 refine chk_skip ?_); exact chk_end; refine seq_normal ?_
    refine wp_dec rfl (fun h5 => ?_) (fun h5 => ?_)
    rotate_left
    · have e1 : s.lateB now = false := by unfold Cn.lateB; rw [hw, decide_eq_true (by omega)]; rfl
      have e2 : s.late now = s := by unfold Cn.late; rw [hw, decide_eq_true (by omega)]; rfl
      rw [eo, e1, if_neg (by simp), e2]
      refine wp_skip ?_
      exact cutR0 ⟨rfl, rfl, hS0⟩
    rw [decide_eq_false (by omega)] at hw
    refine wp_seq ?_; refine zsr ?_; refine zw1 ?_; refine zn ?_; refine zf ?_; refine zh (S.g0 hS) ?_; refine wpO_cons ?_; refine op1_eqlI rfl rfl rfl ?_; refine zns ?_
    refine wp_dec rfl (fun h6 => ?_) (fun h6 => ?_)
    · have e1 : s.lateB now = true := by unfold Cn.lateB; rw [hw, decide_eq_true h6]; rfl
      have e2 : s.late now = { s with st := 9 } := by unfold Cn.late; rw [hw, if_neg (by simp), if_pos h6]
      rw [eo, e1, if_pos rfl, e2]
      refine zsr ?_; refine zw1 ?_; refine zn ?_; refine zf ?_; refine wpO_cons ?_; (refine op1_store1S rfl rfl (by (conv => lhs; whnf) <;> rfl) rfl rfl (S.up0 hS) rfl ?_; intro H1 hS; replace hS := S.dn0 hS); refine zns ?_; refine zsr ?_; refine zw1 ?_; refine zw1 ?_; refine zns ?_; refine wp_ret ?_; refine seq_ret ?_
      refine cutR_ret ?_
      refine ret_of ?_; refine zr ?_; refine zr ?_; refine rk_nil ?_
      exact ⟨none, 0, rfl, S.arrNil (closeD (s := { s with st := 9 }) hS)⟩
    · have e1 : s.lateB now = false := by unfold Cn.lateB; rw [hw, decide_eq_false h6]; rfl
      have e2 : s.late now = s.back now := by unfold Cn.late; rw [hw, if_neg (by simp), if_neg h6]
      rw [eo, e1, if_neg (by simp), e2]
      refine wp_skip ?_; refine seq_normal ?_; refine zsr ?_; refine zw1 ?_; refine zw1 ?_; refine zw1 ?_; refine zn ?_; refine zf ?_; refine zh (S.g0 hS) ?_; refine zn ?_; refine zf ?_; refine wpO_cons ?_; (refine op1_store1S rfl rfl (by (conv => lhs; whnf) <;> rfl) rfl rfl (S.up0 hS) rfl ?_; intro H1 hS; replace hS := S.dn0 hS); refine zn ?_; refine zf ?_; refine wpO_cons ?_; (refine op1_store1S rfl rfl (by (conv => lhs; whnf) <;> rfl) rfl rfl (S.up0 hS) rfl ?_; intro H2 hS; replace hS := S.dn0 hS); refine zns ?_; refine zsr ?_; refine zw1 ?_; refine zw1 ?_; refine zn ?_; refine zf ?_; refine zh (S.g0 hS) ?_; refine wpO_cons ?_; refine op1_mul rfl rfl rfl (by exact wrap_i64 (by omega) (by omega)) ?_; refine wpO_cons ?_; refine op1_min rfl rfl rfl ?_; refine zn ?_; refine zf ?_; refine wpO_cons ?_; (refine op1_store1S rfl rfl (by (conv => lhs; whnf) <;> rfl) rfl rfl (S.up0 hS) rfl ?_; intro H3 hS; replace hS := S.dn0 hS); refine zns ?_; refine zsr ?_; refine zw1 ?_; refine zn ?_; refine zf ?_; refine zh (S.g0 hS) ?_; refine wpO_cons ?_; refine op1_add rfl rfl rfl (by exact wrap_i64 (by omega) (by omega)) ?_; refine zn ?_; refine zf ?_; refine wpO_cons ?_; (refine op1_store1S rfl rfl (by (conv => lhs; whnf) <;> rfl) rfl rfl (S.up0 hS) rfl ?_; intro H4 hS; replace hS := S.dn0 hS); refine zns ?_; refine wp_region ?_; refine zw1 ?_; refine zw1 ?_; refine zn ?_; refine zf ?_; refine wpO_cons ?_; (refine op1_store1S rfl rfl (by (conv => lhs; whnf) <;> rfl) rfl rfl (S.up0 hS) rfl ?_; intro H5 hS; replace hS := S.dn0 hS); refine wpO_nil ?_
      exact cutR0 ⟨rfl, rfl, closeD (s := s.back now) hS⟩
  clear hS hS0 eo
  rintro vs2 T2 H2 ⟨rfl, hout, hS⟩
  rw [hout]
  clear hout
  have hok1 := hok.late (now := now) h1
  obtain ⟨s1, hs1⟩ : ∃ z : Cn, z = { s.late now with clock := now } := ⟨_, rfl⟩
  have hok2 : Ok s1 := by
    rw [hs1]
    exact ⟨hok1.first, hok1.una, hok1.nxt, hok1.rcv, hok1.size, hok1.window, hok1.out, hok1.inc, hok1.pat, hok1.tmo, hok1.since, h1, hok1.reps, hok1.st, hok1.syn⟩
  rw [← hs1]
  obtain ⟨ao, co, ai, ci, ho, hi, hO⟩ := openD hS
  clear hS
  have hS := hO
  clear hO
  unfold rfC at hS
  refine zsr ?_; refine zw1 ?_; refine zw1 ?_; refine zn ?_; refine zf ?_; refine wpO_cons ?_; (refine op1_store1S rfl rfl (by (conv => lhs; whnf) <;> rfl) rfl rfl (S.up0 hS) rfl ?_; intro H1 hS; replace hS := S.dn0 hS); refine zns ?_; refine zsr ?_; refine wpO_cons ?_; refine op1_bsliceS rfl hS ?_; refine bk_nil ?_; intro p1 H3 hS; refine zw1 ?_; refine zns ?_
  have hS1 := closeD (s := { s.late now with clock := now }) (S.up3 (S.up3 (S.up3 hS)))
  rw [← hs1] at hS1
  clear hS hok1 hs1
  have hS := S.up1 (sg_nil (S.up1 hS1))
  clear hS1
  have hok3 := hok2.segs
  have hsd := segs_data hok2.size.2
  have hsf := segs_fl (s := s1)
  have hsl := segs_len hok2
  have hil1 := hok2.inc
  refine wp_cut [6] (fun vs H' => ∃ (l : List Sg) (c : Cn) (n : Nat) (al : Option Addr) (cl : Nat), vs = [.slice al n cl] ∧ n = l.length ∧ ((s1.segs = (l, c) ∧ c.st = 2) ∨ (s1.st ≠ 2 ∧ l = [] ∧ c = s1)) ∧ S B H' (repD p c :: arr 5 sgA (.slice al n cl) l :: As)) ?_ ?_
  · have hS0 := hS
    obtain ⟨ao, co, ai, ci, ho, hi, hO⟩ := openD hS
    clear hS
    have hS := hO
    clear hO
    unfold rfC at hS
    refine wp_seq ?_; refine wp_regionD ?_; refine zd1 ?_; refine zm ?_; refine zg ?_; refine zj (S.g0 hS) ?_; refine wpD_cons ?_; refine op1_eqlI rfl rfl rfl ?_; refine zd1 ?_; refine wpD_cons ?_
    refine op1_dec rfl (fun h5 => ?_) (fun h5 => ?_)
    rotate_left
    · refine op1_skip rfl ?_; (iterate 8 refine zl ?_); refine wpD_cons ?_; refine op1_pick_f rfl rfl (by (conv => lhs; whnf) <;> rfl) ?_; refine wpD_nil ?_; refine dk_of ?_ ?_; (iterate 3 refine chk_skip ?_); refine zx 13 ?_ ?_; refine zy 0 ?_ ?_; exact zq (S.g0 hS); exact chkFs_nil; (iterate 5 refine chk_skip ?_); refine chk_unw 7 rfl rfl rfl ?_; (iterate 3 refine chk_skip ?_); refine chk_unw 3 rfl rfl rfl ?_; (iterate 2 refine chk_skip ?_); exact chk_end; refine seq_normal ?_; refine wp_false rfl ?_; refine wp_skip ?_; refine cut1 (by (conv => lhs; whnf) <;> rfl) ?_
      exact ⟨[], s1, 0, _, _, rfl, rfl, .inr ⟨h5, rfl, rfl⟩, hS0⟩
    have es := oA_segs h5
    unfold Cn.oA at es
    refine op1_mov rfl (by (conv => lhs; whnf) <;> rfl) ?_; refine zm ?_; refine zg ?_; refine zj (S.g0 hS) ?_; refine zd1 ?_; refine zm ?_; refine zg ?_; refine zj (S.g0 hS) ?_; refine wpD_cons ?_; refine op1_eqlI rfl rfl rfl ?_; refine wpD_cons ?_; refine op1_pick_t rfl rfl (by (conv => lhs; whnf) <;> rfl) ?_; refine wpD_nil ?_; refine dk_of ?_ ?_; (iterate 3 refine chk_skip ?_); refine zx 13 ?_ ?_; refine zy 0 ?_ ?_; exact zq (S.g0 hS); exact chkFs_nil; (iterate 5 refine chk_skip ?_); refine zx 7 ?_ ?_; refine zy 0 ?_ ?_; exact zq (S.g0 hS); exact chkFs_nil; (iterate 3 refine chk_skip ?_); refine zx 3 ?_ ?_; refine zy 0 ?_ ?_; exact zq (S.g0 hS); exact chkFs_nil; (iterate 2 refine chk_skip ?_); exact chk_end; refine seq_normal ?_
    refine wp_dec rfl (fun h6 => ?_) (fun h6 => ?_)
    rotate_left
    · rw [if_neg (fun h => h6 h.2)] at es
      refine wp_skip ?_; refine cut1 (by (conv => lhs; whnf) <;> rfl) ?_
      exact ⟨[], s1, 0, _, _, rfl, rfl, .inl ⟨es, h5⟩, hS0⟩
    rw [if_pos ⟨h5, h6⟩] at es
    refine wp_seq ?_; refine wp_regionD ?_; refine zd1 ?_; refine zd1 ?_; refine zm ?_; refine zg ?_; refine zj (S.g0 hS) ?_; refine zd1 ?_; refine wpD_cons ?_; refine op1_call1 rfl (by (conv => lhs; whnf) <;> rfl) ?_
    refine wpF_mono (L78 (s := s1) (by omega) hS) ?_
    rintro _ H5 ⟨rfl, rfl⟩
    have hT := hS
    obtain ⟨css, hcss, hcl', hS⟩ := S.unarr (S.up3 hS)
    have hone := sg_one (S.up1 hS)
    refine wpD_cons ?_; refine op1_build rfl ?_; refine bk_one (by (conv => lhs; whnf) <;> rfl) rfl rfl rfl ?_; refine bk_one (by (conv => lhs; whnf) <;> rfl) rfl rfl rfl ?_; refine bk_one (by (conv => lhs; whnf) <;> rfl) rfl rfl rfl ?_; refine bk_nil ?_; refine wpD_cons ?_; refine op1_bsliceS rfl hS ?_; refine bk_agg rfl rfl rfl rfl ?_; refine bk_nil ?_; intro p2 H4 hS; refine wpD_cons ?_; (refine op1_appBS rfl rfl (by (conv => lhs; whnf) <;> rfl) rfl (S.g0 hS) rfl rfl (S.up1 hS) (by omega) ?_; intro a1 c1 H5 hS; replace hS := S.dn1 hS; replace hS := S.drop hS); refine zd1 ?_; refine wpD_nil ?_; refine dk_of ?_ ?_; (iterate 4 refine chk_skip ?_); refine zx 7 ?_ ?_; refine zy 5 ?_ ?_; exact chk_load rfl (by exact S.g2 (by assumption)) rfl rfl; refine zy 2 ?_ ?_; exact chk_load rfl (by exact S.g3 (by assumption)) rfl rfl; exact chkFs_nil; (iterate 6 refine chk_skip ?_); exact chk_end; refine seq_normal ?_; refine wp_region ?_; refine zw1 ?_; refine zn ?_; refine zf ?_; refine zh (S.g2 hS) ?_; refine wpO_cons ?_
    refine op1_addW rfl rfl rfl ?_
    refine zn ?_; refine zf ?_; refine wpO_cons ?_; (refine op1_store1S rfl rfl (by (conv => lhs; whnf) <;> rfl) rfl rfl (S.up2 hS) rfl ?_; intro H6 hS; replace hS := S.dn2 hS); refine wpO_nil ?_; refine cut1 (by (conv => lhs; whnf) <;> rfl) ?_
    have h9 := sg_snoc (g := ⟨1, s1.first, 0, 4096 - s1.inc.length, []⟩) (l := []) (n := 0) (ad := none) (cd := 0) hcss rfl (S.up1 (S.slNil hS))
    exact ⟨_, _, 1, _, _, rfl, rfl, .inl ⟨es, h5⟩, closeD (s := { s1 with nxt := IntKind.u32.wrap (s1.nxt + 1) }) (S.up3 (S.up3 (S.up3 h9)))⟩
  clear hS
  rintro vs3 T3 H3 ⟨l, c, n, al, cl, rfl, hn, hlc, hS⟩
  skip
  refine wp_cut [6] (fun vs H' => ∃ (l : List Sg) (c : Cn) (n : Nat) (al : Option Addr) (cl : Nat), vs = [.slice al n cl] ∧ n = l.length ∧ ((s1.segs = (l, c) ∧ (c.st = 2 ∨ c.st = 3)) ∨ (s1.segs = s1.oD ∧ l = [] ∧ c = s1)) ∧ S B H' (repD p c :: arr 5 sgA (.slice al n cl) l :: As)) ?_ ?_
  · have hS0 := hS
    obtain ⟨ao, co, ai, ci, ho, hi, hO⟩ := openD hS
    clear hS
    have hS := hO
    clear hO
    unfold rfC at hS
    refine wp_seq ?_; refine wp_regionD ?_; refine zd1 ?_; refine zm ?_; refine zg ?_; refine zj (S.g0 hS) ?_; refine wpD_cons ?_; refine op1_eqlI rfl rfl rfl ?_; refine zd1 ?_; refine wpD_cons ?_
    refine op1_dec rfl (fun h5 => ?_) (fun h5 => ?_)
    rotate_left
    · refine op1_skip rfl ?_; (iterate 8 refine zl ?_); refine wpD_cons ?_; refine op1_pick_f rfl rfl (by (conv => lhs; whnf) <;> rfl) ?_; refine wpD_nil ?_; refine dk_of ?_ ?_; (iterate 3 refine chk_skip ?_); refine zx 13 ?_ ?_; refine zy 0 ?_ ?_; exact zq (S.g0 hS); exact chkFs_nil; (iterate 5 refine chk_skip ?_); refine chk_unw 7 rfl rfl rfl ?_; (iterate 3 refine chk_skip ?_); refine chk_unw 3 rfl rfl rfl ?_; (iterate 2 refine chk_skip ?_); exact chk_end; refine seq_normal ?_; refine wp_false rfl ?_; refine wp_skip ?_; refine cut1 (by (conv => lhs; whnf) <;> rfl) ?_
      refine ⟨l, c, n, _, _, rfl, hn, ?_, hS0⟩
      rcases hlc with ⟨k1, k2⟩ | ⟨k1, k2, k3⟩
      · exact .inl ⟨k1, .inl k2⟩
      · exact .inr ⟨oD_segs k1 (by rw [← k3]; exact h5), k2, k3⟩
    obtain ⟨k1, rfl, rfl⟩ : s1.st ≠ 2 ∧ l = [] ∧ c = s1 := by
      rcases hlc with ⟨k1, k2⟩ | k
      · omega
      · exact k
    obtain rfl : n = 0 := hn
    have es := oB_segs h5
    unfold Cn.oB at es
    refine op1_mov rfl (by (conv => lhs; whnf) <;> rfl) ?_; refine zm ?_; refine zg ?_; refine zj (S.g0 hS) ?_; refine zd1 ?_; refine zm ?_; refine zg ?_; refine zj (S.g0 hS) ?_; refine wpD_cons ?_; refine op1_eqlI rfl rfl rfl ?_; refine wpD_cons ?_; refine op1_pick_t rfl rfl (by (conv => lhs; whnf) <;> rfl) ?_; refine wpD_nil ?_; refine dk_of ?_ ?_; (iterate 3 refine chk_skip ?_); refine zx 13 ?_ ?_; refine zy 0 ?_ ?_; exact zq (S.g0 hS); exact chkFs_nil; (iterate 5 refine chk_skip ?_); refine zx 7 ?_ ?_; refine zy 0 ?_ ?_; exact zq (S.g0 hS); exact chkFs_nil; (iterate 3 refine chk_skip ?_); refine zx 3 ?_ ?_; refine zy 0 ?_ ?_; exact zq (S.g0 hS); exact chkFs_nil; (iterate 2 refine chk_skip ?_); exact chk_end; refine seq_normal ?_
    refine wp_dec rfl (fun h6 => ?_) (fun h6 => ?_)
    rotate_left
    · rw [if_neg (fun h => h6 h.2)] at es
      refine wp_skip ?_; refine cut1 (by (conv => lhs; whnf) <;> rfl) ?_
      exact ⟨[], c, 0, _, _, rfl, rfl, .inl ⟨es, .inr h5⟩, hS0⟩
    rw [if_pos ⟨h5, h6⟩] at es
    refine wp_seq ?_; refine wp_regionD ?_; refine zd1 ?_; refine zd1 ?_; refine zm ?_; refine zg ?_; refine zj (S.g0 hS) ?_; refine zd1 ?_; refine zm ?_; refine zg ?_; refine zj (S.g0 hS) ?_; refine zd1 ?_; refine wpD_cons ?_; refine op1_call1 rfl (by (conv => lhs; whnf) <;> rfl) ?_
    refine wpF_mono (L78 (s := c) (by omega) hS) ?_
    rintro _ H5 ⟨rfl, rfl⟩
    have hT := hS
    obtain ⟨css, hcss, hcl', hS⟩ := S.unarr (S.up3 hS)
    have hone := sg_one (S.up1 hS)
    refine wpD_cons ?_; refine op1_build rfl ?_; refine bk_one (by (conv => lhs; whnf) <;> rfl) rfl rfl rfl ?_; refine bk_one (by (conv => lhs; whnf) <;> rfl) rfl rfl rfl ?_; refine bk_one (by (conv => lhs; whnf) <;> rfl) rfl rfl rfl ?_; refine bk_one (by (conv => lhs; whnf) <;> rfl) rfl rfl rfl ?_; refine bk_nil ?_; refine wpD_cons ?_; refine op1_bsliceS rfl hS ?_; refine bk_agg rfl rfl rfl rfl ?_; refine bk_nil ?_; intro p2 H4 hS; refine wpD_cons ?_; (refine op1_appBS rfl rfl (by (conv => lhs; whnf) <;> rfl) rfl (S.g0 hS) rfl rfl (S.up1 hS) (by omega) ?_; intro a1 c1 H5 hS; replace hS := S.dn1 hS; replace hS := S.drop hS); refine zd1 ?_; refine wpD_nil ?_; refine dk_of ?_ ?_; (iterate 4 refine chk_skip ?_); refine zx 11 ?_ ?_; refine zy 5 ?_ ?_; exact chk_load rfl (by exact S.g2 (by assumption)) rfl rfl; refine zy 2 ?_ ?_; exact chk_load rfl (by exact S.g3 (by assumption)) rfl rfl; exact chkFs_nil; (iterate 3 refine chk_skip ?_); refine zx 7 ?_ ?_; refine zy 5 ?_ ?_; exact chk_load rfl (by exact S.g2 (by assumption)) rfl rfl; refine zy 2 ?_ ?_; exact chk_load rfl (by exact S.g3 (by assumption)) rfl rfl; exact chkFs_nil; (iterate 6 refine chk_skip ?_); exact chk_end; refine seq_normal ?_; refine wp_region ?_; refine zw1 ?_; refine zn ?_; refine zf ?_; refine zh (S.g2 hS) ?_; refine wpO_cons ?_
    refine op1_addW rfl rfl rfl ?_
    refine zn ?_; refine zf ?_; refine wpO_cons ?_; (refine op1_store1S rfl rfl (by (conv => lhs; whnf) <;> rfl) rfl rfl (S.up2 hS) rfl ?_; intro H6 hS; replace hS := S.dn2 hS); refine wpO_nil ?_; refine cut1 (by (conv => lhs; whnf) <;> rfl) ?_
    have h9 := sg_snoc (g := c.sgm 3 c.first []) (l := []) (n := 0) (ad := none) (cd := 0) hcss rfl (S.up1 (S.slNil hS))
    exact ⟨_, _, 1, _, _, rfl, rfl, .inl ⟨es, .inr h5⟩, closeD (s := { c with nxt := IntKind.u32.wrap (c.nxt + 1) }) (S.up3 (S.up3 (S.up3 h9)))⟩
  clear hS hlc
  rintro vs4 T4 H4 ⟨l, c, n, al, cl, rfl, hn, hlc, hS⟩
  skip
  refine wp_cut [6] (fun vs H' => ∃ (al : Option Addr) (cl : Nat), vs = [.slice al s1.segs.1.length cl] ∧ S B H' (repD p s1.segs.2 :: arr 5 sgA (.slice al s1.segs.1.length cl) s1.segs.1 :: As)) ?_ ?_
  · have hS0 := hS
    obtain ⟨ao, co, ai, ci, ho, hi, hO⟩ := openD hS
    clear hS
    have hS := hO
    clear hO
    unfold rfC at hS
    skip
    refine wp_cut [203] (fun vs H' => vs = [.bool (decide (c.st = 4 ∨ c.st = 5 ∨ c.st = 6 ∨ c.st = 7))] ∧ H4 = H') ?_ ?_
    · refine wp_region ?_; refine zw1 ?_; refine zn ?_; refine zf ?_; refine zh (S.g0 hS) ?_; refine wpO_cons ?_; refine op1_eqlI rfl rfl rfl ?_; refine zw1 ?_; refine wpO_cons ?_
      refine op1_dec rfl (fun h4 => ?_) (fun h4 => ?_)
      · refine op1_skip rfl ?_; (iterate 4 refine zk ?_); refine zt ?_; refine zw1 ?_; (iterate 5 refine zk ?_); refine zt ?_; refine zw1 ?_; (iterate 5 refine zk ?_); refine zt ?_; refine wpO_nil ?_; refine cut1 (by (conv => lhs; whnf) <;> rfl) ?_
        exact ⟨bool_leaf (by simp [h4]), rfl⟩
      refine op1_mov rfl (by (conv => lhs; whnf) <;> rfl) ?_; refine zn ?_; refine zf ?_; refine zh (S.g0 hS) ?_; refine wpO_cons ?_; refine op1_eqlI rfl rfl rfl ?_; refine zu ?_; refine zw1 ?_; refine wpO_cons ?_
      refine op1_dec rfl (fun h5 => ?_) (fun h5 => ?_)
      · refine op1_skip rfl ?_; (iterate 4 refine zk ?_); refine zt ?_; refine zw1 ?_; (iterate 5 refine zk ?_); refine zt ?_; refine wpO_nil ?_; refine cut1 (by (conv => lhs; whnf) <;> rfl) ?_
        exact ⟨bool_leaf (by simp [h5]), rfl⟩
      refine op1_mov rfl (by (conv => lhs; whnf) <;> rfl) ?_; refine zn ?_; refine zf ?_; refine zh (S.g0 hS) ?_; refine wpO_cons ?_; refine op1_eqlI rfl rfl rfl ?_; refine zu ?_; refine zw1 ?_; refine wpO_cons ?_
      refine op1_dec rfl (fun h6 => ?_) (fun h6 => ?_)
      · refine op1_skip rfl ?_; (iterate 4 refine zk ?_); refine zt ?_; refine wpO_nil ?_; refine cut1 (by (conv => lhs; whnf) <;> rfl) ?_
        exact ⟨bool_leaf (by simp [h6]), rfl⟩
      · refine op1_mov rfl (by (conv => lhs; whnf) <;> rfl) ?_; refine zn ?_; refine zf ?_; refine zh (S.g0 hS) ?_; refine wpO_cons ?_; refine op1_eqlI rfl rfl rfl ?_; refine zu ?_; refine wpO_nil ?_; refine cut1 (by (conv => lhs; whnf) <;> rfl) ?_
        exact ⟨bool_leaf (by simp [h4, h5, h6]), rfl⟩
    rintro vs5 T5 H5 ⟨rfl, rfl⟩
    refine wp_dec rfl (fun h5 => ?_) (fun h5 => ?_)
    rotate_left
    · refine wp_skip ?_; refine cut1 (by (conv => lhs; whnf) <;> rfl) ?_
      subst hn
      rcases hlc with ⟨k1, k2⟩ | ⟨k1, rfl, rfl⟩
      · rw [k1]
        exact ⟨_, _, rfl, hS0⟩
      · have e : c.segs = ([], c) := by rw [k1]; unfold Cn.oD; rw [if_neg h5]
        rw [e]
        exact ⟨_, _, rfl, hS0⟩
    obtain ⟨k1, rfl, rfl⟩ : s1.segs = s1.oD ∧ l = [] ∧ c = s1 := by
      rcases hlc with ⟨k1, k2⟩ | k
      · omega
      · exact k
    obtain rfl : n = 0 := hn
    have e : c.segs = c.dat := by rw [k1]; unfold Cn.oD; rw [if_pos h5]
    have hdl5 : c.dat.1.length ≤ 5000 := by rw [← e]; exact hsl
    rw [e]
    clear k1 e hlc
    refine wp_region ?_; refine zw1 ?_; refine zw1 ?_; refine wpO_cons ?_; refine op1_call1 rfl (by (conv => lhs; whnf) <;> rfl) ?_
    refine wpF_mono (L85 hok2 hS0) ?_
    clear hS hS0
    rintro _ H6 ⟨a6, c6, rfl, hS⟩
    obtain ⟨css, hcss, hcl', hS⟩ := S.unarr hS
    have hone := sg_one (S.up1 hS)
    have hlen := flat_len5 css hcss
    rw [hcl'] at hlen
    obtain ⟨r6, hr6, _⟩ := S.rd hS
    obtain ⟨cs0, hcs0, hcl0, hS⟩ := S.unarr (S.up3 hS)
    obtain rfl : cs0 = [] := List.eq_nil_of_length_eq_zero hcl0
    refine wpO_cons ?_
    refine op1_appRS rfl rfl (by (conv => lhs; whnf) <;> rfl) rfl hr6 hlen hone hS (by show 0 + _ ≤ _; omega) ?_
    rw [Nat.zero_add, List.flatten_nil, List.nil_append]
    intro a7 c7 H7 hS
    refine zw1 ?_; refine wpO_nil ?_; refine cut1 (by (conv => lhs; whnf) <;> rfl) ?_
    exact ⟨_, _, rfl, S.up1 (S.arrI (S.drop (S.up1 (S.drop (S.up2 hS)))) hcss)⟩
  clear hS hlc
  rintro vs5 T5 H5 ⟨al, cl, rfl, hS⟩
  unfold Cn.sent
  obtain ⟨l, hl⟩ : ∃ z, z = s1.segs.1 := ⟨_, rfl⟩
  obtain ⟨s2, hs2⟩ : ∃ z, z = s1.segs.2 := ⟨_, rfl⟩
  rw [← hl, ← hs2] at hS
  rw [← hl] at hsd hsl hsf
  rw [← hs2] at hok3
  rw [← hl, ← hs2]
  clear hl hs2
  have hil2 := hok3.inc
  have hd2 := ackd_data (s := s2) hsd
  have hf2 := ackd_fl (s := s2) hsf
  have hl2l : (s2.ackd l).length ≤ 5001 := by unfold Cn.ackd; split; simp; omega
  obtain ⟨l2, hl2⟩ : ∃ z, z = s2.ackd l := ⟨_, rfl⟩
  skip
  refine wp_cut [6] (fun vs H' => ∃ (al : Option Addr) (cl : Nat), vs = [.slice al l2.length cl] ∧ S B H' (repD p s2 :: arr 5 sgA (.slice al l2.length cl) l2 :: As)) ?_ ?_
  · rw [hl2]
    unfold Cn.ackd
    obtain ⟨f1, hf1⟩ : ∃ z, z = s2.due := ⟨_, rfl⟩
    obtain ⟨f3, hf3⟩ : ∃ z, z = s2.synced := ⟨_, rfl⟩
    rw [← hf1, ← hf3]
    have hS0 := hS
    obtain ⟨ao, co, ai, ci, ho, hi, hO⟩ := openD hS
    clear hS
    have hS := hO
    clear hO
    unfold rfC at hS
    have hT := hS
    rw [← hf1, ← hf3] at hS
    cases f1
    · rw [if_neg (by simp)]
      refine zsr ?_; refine zw1 ?_; refine zn ?_; refine zf ?_; refine zh (S.g0 hS) ?_; refine zw1 ?_; (iterate 3 refine zk ?_); refine zu ?_; refine zw1 ?_; (iterate 4 refine zk ?_); refine zu ?_; refine zns ?_; refine wp_false rfl ?_; refine wp_skip ?_; refine cut1 (by (conv => lhs; whnf) <;> rfl) ?_
      exact ⟨al, cl, rfl, hS0⟩
    refine zsr ?_; refine zw1 ?_; refine zn ?_; refine zf ?_; refine zh (S.g0 hS) ?_; refine zw1 ?_; refine zw1 ?_; refine wpO_cons ?_; refine op1_len rfl rfl ?_; refine wpO_cons ?_; refine op1_eqlI rfl rfl rfl ?_; refine zt ?_; refine zw1 ?_; refine wpO_cons ?_
    refine op1_dec rfl (fun h1 => ?_) (fun h1 => ?_)
    rotate_left
    · rw [if_neg (fun h => h1 (by omega))]
      refine op1_skip rfl ?_; (iterate 3 refine zk ?_); refine zu ?_; refine zns ?_; refine wp_false rfl ?_; refine wp_skip ?_; refine cut1 (by (conv => lhs; whnf) <;> rfl) ?_
      exact ⟨al, cl, rfl, hS0⟩
    refine op1_mov rfl (by (conv => lhs; whnf) <;> rfl) ?_; refine zn ?_; refine zf ?_; refine zh (S.g0 hS) ?_; refine zt ?_; refine zns ?_
    cases f3
    · rw [if_neg (by simp)]
      refine wp_false rfl ?_; refine wp_skip ?_; refine cut1 (by (conv => lhs; whnf) <;> rfl) ?_
      exact ⟨al, cl, rfl, hS0⟩
    rw [if_pos ⟨rfl, by omega, rfl⟩]
    obtain rfl : l = [] := List.eq_nil_of_length_eq_zero (by omega)
    refine wp_true rfl ?_; refine wp_regionD ?_; refine zd1 ?_; refine zd1 ?_; refine zm ?_; refine zg ?_; refine zj (S.g0 hS) ?_; refine zd1 ?_; refine zm ?_; refine zg ?_; refine zj (S.g0 hS) ?_; refine zd1 ?_; refine wpD_cons ?_; refine op1_call1 rfl (by (conv => lhs; whnf) <;> rfl) ?_
    refine wpF_mono (L78 (s := s2) (by omega) hT) ?_
    rintro _ H6 ⟨rfl, rfl⟩
    obtain ⟨css, hcss, hcl', hS⟩ := S.unarr (S.up3 hT)
    have hone := sg_one (S.up1 hS)
    refine wpD_cons ?_; refine op1_build rfl ?_; refine bk_one (by (conv => lhs; whnf) <;> rfl) rfl rfl rfl ?_; refine bk_one (by (conv => lhs; whnf) <;> rfl) rfl rfl rfl ?_; refine bk_one (by (conv => lhs; whnf) <;> rfl) rfl rfl rfl ?_; refine bk_one (by (conv => lhs; whnf) <;> rfl) rfl rfl rfl ?_; refine bk_nil ?_; refine wpD_cons ?_; refine op1_bsliceS rfl hS ?_; refine bk_agg rfl rfl rfl rfl ?_; refine bk_nil ?_; intro p2 H6 hS; refine wpD_cons ?_; (refine op1_appBS rfl rfl (by (conv => lhs; whnf) <;> rfl) rfl (S.g0 hS) rfl rfl (S.up1 hS) (by omega) ?_; intro a1 c1 H7 hS; replace hS := S.dn1 hS; replace hS := S.drop hS); refine zd1 ?_; refine wpD_nil ?_; refine dk_of ?_ ?_; (iterate 4 refine chk_skip ?_); refine zx 11 ?_ ?_; refine zy 5 ?_ ?_; exact chk_load rfl (by exact S.g2 (by assumption)) rfl rfl; refine zy 2 ?_ ?_; exact chk_load rfl (by exact S.g3 (by assumption)) rfl rfl; exact chkFs_nil; (iterate 3 refine chk_skip ?_); refine zx 7 ?_ ?_; refine zy 5 ?_ ?_; exact chk_load rfl (by exact S.g2 (by assumption)) rfl rfl; refine zy 2 ?_ ?_; exact chk_load rfl (by exact S.g3 (by assumption)) rfl rfl; exact chkFs_nil; (iterate 6 refine chk_skip ?_); exact chk_end; refine cut1 (by (conv => lhs; whnf) <;> rfl) ?_
    have h9 := sg_snoc (g := s2.sgm 2 s2.nxt []) (l := []) (n := 0) (ad := none) (cd := 0) hcss rfl (S.up1 (S.slNil hS))
    exact ⟨_, _, rfl, closeD (S.up3 (S.up3 (S.up3 h9)))⟩
  rw [← hl2] at hd2 hl2l hf2 ⊢
  clear hS
  rintro vs6 T6 H6 ⟨al, cl, rfl, hS⟩
  refine wp_seq ?_; refine zsr ?_; refine zw1 ?_; refine zns ?_; refine wp_block ?_
  refine wp_loop [7] (fun k vs H' => ∃ i : Nat, vs = [.int .i64 i] ∧ k = l2.length - i ∧ i ≤ l2.length ∧ S B H' (arr 5 sgA (.slice al l2.length cl) l2 :: repD p ((l2.take i).foldl (Cn.mark now) s2) :: As)) ⟨_, 0, rfl, rfl, by omega, S.up1 hS⟩ ?_
  clear hS
  rintro k vs T7 H7 ⟨i, rfl, rfl, hi, hS⟩
  refine wp_seq ?_; refine zsr ?_; refine zw1 ?_; refine zw1 ?_; refine wpO_cons ?_; refine op1_len rfl rfl ?_; refine wpO_cons ?_; refine op1_lss rfl rfl rfl ?_; refine zns ?_
  refine wp_dec rfl (fun h1 => ?_) (fun h1 => ?_)
  rotate_left
  · obtain rfl : i = l2.length := by omega
    rw [List.take_length] at hS
    refine wp_exit ?_; refine seq_exit ?_; refine iter_exit ?_; refine block_exit ?_; refine seq_normal ?_; refine zsr ?_; refine zw1 ?_; refine zw1 ?_; refine zw1 ?_; refine zns ?_; refine wp_ret ?_; refine ret_of ?_; refine zr ?_; refine zr ?_; refine rk_nil ?_
    exact ⟨al, cl, rfl, hS⟩
  obtain ⟨g, hg⟩ : ∃ g, l2[i]? = some g := ⟨l2[i]'(by omega), by simp⟩
  have hgd := hd2 g (List.mem_of_getElem? hg)
  have hgf := hf2 g (List.mem_of_getElem? hg)
  have htk : (l2.take (i + 1)).foldl (Cn.mark now) s2 = Cn.mark now ((l2.take i).foldl (Cn.mark now) s2) g := by rw [List.take_add_one, hg, Option.toList_some, List.foldl_append]; rfl
  obtain ⟨s3, hs3⟩ : ∃ z, z = (l2.take i).foldl (Cn.mark now) s2 := ⟨_, rfl⟩
  rw [← hs3] at hS htk
  obtain ⟨css, hcss, hcl', hS⟩ := S.unarr hS
  obtain ⟨cs, og, hcs, hA, _⟩ := S.many_at (S.up1 hS) hg
  obtain ⟨ag, cg, rfl⟩ := sgA_at hA
  have hcut := flatten_cut hcss hcs
  have hat : css.flatten[i * 5]? = some (.int .i64 g.fl) := flatten_get (j := 0) hcss hcs (by decide)
  obtain ⟨lb, lo, lcs, rfl, _⟩ := S.slBlk hS (by omega)
  replace hS := S.up2 hS
  obtain ⟨ao, co, ai, ci, ho, hi, hO⟩ := openD hS
  clear hS
  have hS := hO
  clear hO
  unfold rfC at hS
  unfold sgC at hcut
  obtain ⟨f2, hf2'⟩ : ∃ z, z = has g.fl 2 := ⟨_, rfl⟩
  obtain ⟨du, hdu⟩ : ∃ z, z = (s3.due && !has g.fl 2) := ⟨_, rfl⟩
  have hdu2 : du = (s3.due && !f2) := by rw [hdu, hf2']
  refine wp_skip ?_; refine seq_normal ?_; refine wp_seq ?_; refine wp_block ?_
  refine wp_cut [] (fun vs H' => vs = [] ∧ S B H' (pto p (.cells (rfC { s3 with due := du } (.slice ao s3.out.length co) (.slice ai s3.inc.length ci)) 0 false) :: sl 1 (.slice ao s3.out.length co) (u8s s3.out) :: sl 1 (.slice ai s3.inc.length ci) (u8s s3.inc) :: sl 5 (.slice (some ⟨lb, lo, none⟩) l2.length cl) css.flatten :: many sgA l2 css :: As)) ?_ ?_
  · refine zsr ?_; refine zw1 ?_; refine zw1 ?_; refine wpO_cons ?_; refine op1_iaddr rfl rfl rfl (by omega) (by omega) ?_; refine wpO_cons ?_; refine op1_faddr rfl rfl ?_; refine wpO_cons ?_
    refine op1_loadL (k := i * 5) rfl rfl (S.up3 hS) (by simp) (by omega) hat ?_
    refine wpO_cons ?_; refine op1_call2 rfl (by (conv => lhs; whnf) <;> rfl) (by (conv => lhs; whnf) <;> rfl) ?_
    refine wpF_mono (L40 (k := 2) hgf (by decide)) ?_
    rw [← hf2']
    rintro _ H8 ⟨rfl, rfl⟩
    cases f2
    · have e1 : du = s3.due := by rw [hdu2]; simp
      rw [e1]
      refine zns ?_; refine wp_false rfl ?_; refine wp_skip ?_; refine cut0  ?_
      exact ⟨rfl, hS⟩
    · have e1 : du = false := by rw [hdu2]; simp
      rw [e1]
      refine zns ?_; refine wp_true rfl ?_; refine wp_region ?_; refine zw1 ?_; refine zn ?_; refine zf ?_; refine wpO_cons ?_; (refine op1_store1S rfl rfl (by (conv => lhs; whnf) <;> rfl) rfl rfl (S.up0 hS) rfl ?_; intro H8 hS; replace hS := S.dn0 hS); refine wpO_nil ?_; refine cut0  ?_
      exact ⟨rfl, hS⟩
  clear hS
  rintro vs8 T8 H8 ⟨rfl, hS⟩
  unfold rfC at hS
  dsimp only at hS
  have hmk : Cn.mark now s3 g = { s3 with due := du, run := s3.run || decide (0 < lenS g), since := if 0 < lenS g ∧ s3.run = false then now else s3.since } := by unfold Cn.mark; rw [← hdu]
  have hb1 := b2n_b (has g.fl 1)
  have hb4 := b2n_b (has g.fl 4)
  have hlsb : 0 ≤ lenS g ∧ lenS g ≤ 300 := by unfold lenS; omega
  refine zsr ?_; refine zw1 ?_; refine zw1 ?_; refine wpO_cons ?_; refine op1_iaddr rfl rfl rfl (by omega) (by omega) ?_; refine wpO_cons ?_; refine op1_loadNL rfl rfl (S.up3 hS) rfl rfl (by omega) rfl ?_; refine wpO_cons ?_; refine op1_call1 rfl (by (conv => lhs; whnf) <;> rfl) ?_
  rw [show (i : Int).toNat = i from rfl, hcut]
  skip
  refine wpF_mono (L81 (g := g) hgf (by omega) hS) ?_
  clear hS
  rintro _ H9 ⟨rfl, hS⟩
  rw [hmk] at htk
  clear hmk hdu
  refine wpO_cons ?_; refine op1_gtr rfl rfl rfl ?_; refine zw1 ?_; refine wpO_cons ?_
  refine op1_dec rfl (fun h2 => ?_) (fun h2 => ?_)
  rotate_left
  · rw [decide_eq_false h2, Bool.or_false, if_neg (fun h => h2 h.1)] at htk
    refine op1_skip rfl ?_; (iterate 4 refine zk ?_); refine zu ?_; refine zns ?_; refine wp_false rfl ?_; refine wp_skip ?_; refine block_normal ?_; refine seq_normal ?_; refine wp_region ?_; refine zw1 ?_; refine wpO_cons ?_; refine op1_add rfl rfl rfl (by exact wrap_i64 (by omega) (by omega)) ?_; refine zw1 ?_; refine wpO_nil ?_
    refine ⟨l2.length - (i + 1), by omega, i + 1, rfl, rfl, by omega, ?_⟩
    rw [htk]
    have h9 := closeD (s := { s3 with due := du }) hS
    exact S.arrI (S.dn2 h9) hcss
  rw [decide_eq_true h2, Bool.or_true] at htk
  obtain ⟨ru, hru⟩ : ∃ z, z = s3.run := ⟨_, rfl⟩
  rw [← hru] at htk
  refine op1_mov rfl (by (conv => lhs; whnf) <;> rfl) ?_; refine zn ?_; refine zf ?_; refine zh (S.g0 hS) ?_; refine wpO_cons ?_; refine op1_not rfl rfl ?_; refine zt ?_; refine zns ?_
  rw [← hru]
  cases ru
  · rw [if_pos ⟨h2, rfl⟩] at htk
    refine wp_true rfl ?_; refine wp_region ?_; refine zw1 ?_; refine zw1 ?_; refine zw1 ?_; refine zn ?_; refine zf ?_; refine wpO_cons ?_; (refine op1_store1S rfl rfl (by (conv => lhs; whnf) <;> rfl) rfl rfl (S.up0 hS) rfl ?_; intro H10 hS; replace hS := S.dn0 hS); refine zn ?_; refine zf ?_; refine wpO_cons ?_; (refine op1_store1S rfl rfl (by (conv => lhs; whnf) <;> rfl) rfl rfl (S.up0 hS) rfl ?_; intro H11 hS; replace hS := S.dn0 hS); refine wpO_nil ?_; refine block_normal ?_; refine seq_normal ?_; refine wp_region ?_; refine zw1 ?_; refine wpO_cons ?_; refine op1_add rfl rfl rfl (by exact wrap_i64 (by omega) (by omega)) ?_; refine zw1 ?_; refine wpO_nil ?_
    refine ⟨l2.length - (i + 1), by omega, i + 1, rfl, rfl, by omega, ?_⟩
    rw [htk]
    have h9 := closeD (s := { s3 with due := du, run := true, since := now }) hS
    exact S.arrI (S.dn2 h9) hcss
  · rw [if_neg (by simp)] at htk
    refine wp_false rfl ?_; refine wp_skip ?_; refine block_normal ?_; refine seq_normal ?_; refine wp_region ?_; refine zw1 ?_; refine wpO_cons ?_; refine op1_add rfl rfl rfl (by exact wrap_i64 (by omega) (by omega)) ?_; refine zw1 ?_; refine wpO_nil ?_
    refine ⟨l2.length - (i + 1), by omega, i + 1, rfl, rfl, by omega, ?_⟩
    rw [htk]
    have e9 : ({ s3 with due := du, run := true, since := s3.since } : Cn) = { s3 with due := du } := by rw [hru]
    rw [e9]
    have h9 := closeD (s := { s3 with due := du }) hS
    exact S.arrI (S.dn2 h9) hcss
theorem L59 (hok : Ok s) (hS : S B H (repD p s :: As)) : wpF C 59 [ptC p] H fun v H' => v = .tuple ⟨[.int .i64 s.next.1, .bool s.next.2]⟩ ∧ S B H' (repD p s :: As) := by
  have hcl := hok.clock
  have hsi := hok.since
  have htm := hok.tmo
  refine wpF_ofW o59 rfl rfl ?_
  have hS0 := hS
  obtain ⟨ao, co, ai, ci, ho, hi, hO⟩ := openD hS
  clear hS
  have hS := hO
  clear hO
  unfold rfC at hS
  unfold ptC Cn.next
  obtain ⟨ol, hol⟩ : ∃ z, z = (s.output s.clock).2.1.length := ⟨_, rfl⟩
  rw [← hol]
  refine zsr ?_; refine zw1 ?_; refine zw1 ?_; refine zns ?_; refine zsr ?_; refine zw1 ?_; refine wpO_cons ?_; refine op1_call1 rfl (by (conv => lhs; whnf) <;> rfl) ?_
  refine wpF_mono (L86 hok hS0) ?_
  clear hS hS0
  rintro _ H2 ⟨q, rfl, hS⟩
  have hU := S.up1 hS
  obtain ⟨ao2, co2, ai2, ci2, ho2, hi2, hU⟩ := openD hU
  unfold rfC at hU
  unfold ptC
  refine zw1 ?_; refine zns ?_; refine wp_seq ?_; refine zsr ?_; refine zw1 ?_; refine zw1 ?_; refine zn ?_; refine zf ?_; refine zh (S.g0 hU) ?_; refine wpO_cons ?_; refine op1_call2 rfl (by (conv => lhs; whnf) <;> rfl) (by (conv => lhs; whnf) <;> rfl) ?_
  refine wpF_mono (L56 (now := s.clock) hok hS) ?_
  clear hS hU
  rintro _ H3 ⟨a, c, rfl, hS⟩
  rw [← hol]
  have hS0 := S.drop (S.drop hS)
  clear hS
  have hS := hS0
  obtain ⟨ao, co, ai, ci, ho, hi, hO⟩ := openD hS
  clear hS
  have hS := hO
  clear hO
  unfold rfC at hS
  refine zw1 ?_; refine wpO_cons ?_; refine op1_extract rfl rfl rfl ?_; refine wpO_cons ?_; refine op1_extract rfl rfl rfl ?_; refine zw1 ?_; refine zw1 ?_; refine zns ?_; refine zsr ?_; refine zw1 ?_; refine wpO_cons ?_; refine op1_len rfl rfl ?_; refine wpO_cons ?_; refine op1_gtr rfl rfl rfl ?_; refine zns ?_
  refine wp_dec rfl (fun h1 => ?_) (fun h1 => ?_)
  · rw [if_pos (by omega)]
    refine zsr ?_; refine zw1 ?_; refine zn ?_; refine zf ?_; refine zh (S.g0 hS) ?_; refine zw1 ?_; refine zw1 ?_; refine zns ?_; refine wp_ret ?_; refine seq_ret ?_; refine ret_of ?_; refine zr ?_; refine zr ?_; refine rk_nil ?_
    exact ⟨rfl, hS0⟩
  rw [if_neg (by omega)]
  refine wp_skip ?_; refine seq_normal ?_
  obtain ⟨ru, hru⟩ : ∃ z, z = s.run := ⟨_, rfl⟩
  rw [← hru]
  refine wp_seq ?_; refine zsr ?_; refine zw1 ?_; refine zn ?_; refine zf ?_; refine zh (S.g0 hS) ?_; refine wpO_cons ?_; refine op1_neqI rfl rfl rfl ?_; refine zw1 ?_; refine wpO_cons ?_
  refine op1_ndec rfl (fun h2 => ?_) (fun h2 => ?_)
  · refine op1_mov rfl (by (conv => lhs; whnf) <;> rfl) ?_; refine zn ?_; refine zf ?_; refine zh (S.g0 hS) ?_; refine zt ?_; refine zns ?_
    rw [← hru]
    cases ru
    · rw [if_neg (by simp)]
      refine wp_false rfl ?_; refine wp_skip ?_; refine seq_normal ?_; refine zsr ?_; refine zw1 ?_; refine zw1 ?_; refine zns ?_; refine wp_ret ?_; refine ret_of ?_; refine zr ?_; refine zr ?_; refine rk_nil ?_
      exact ⟨rfl, hS0⟩
    · rw [if_pos ⟨h2, rfl⟩]
      refine wp_true rfl ?_; refine wp_seq ?_; refine wp_regionD ?_; refine zd1 ?_; refine zm ?_; refine zg ?_; refine zj (S.g0 hS) ?_; refine zd1 ?_; refine zm ?_; refine zg ?_; refine zj (S.g0 hS) ?_; refine zd1 ?_; refine zm ?_; refine zg ?_; refine zj (S.g0 hS) ?_; refine wpD_cons ?_; refine op1_add rfl rfl rfl (by exact wrap_i64 (by omega) (by omega)) ?_; refine wpD_cons ?_; refine op1_max rfl rfl rfl ?_; refine zd1 ?_; refine zd1 ?_; refine wpD_nil ?_; refine dk_of ?_ ?_; (iterate 3 refine chk_skip ?_); refine zx 13 ?_ ?_; refine zy 0 ?_ ?_; exact zq (S.g0 hS); exact chkFs_nil; (iterate 3 refine chk_skip ?_); refine zx 9 ?_ ?_; refine zy 0 ?_ ?_; exact zq (S.g0 hS); exact chkFs_nil; (iterate 3 refine chk_skip ?_); refine zx 5 ?_ ?_; refine zy 0 ?_ ?_; exact zq (S.g0 hS); exact chkFs_nil; (iterate 4 refine chk_skip ?_); exact chk_end; refine seq_normal ?_; refine wp_ret ?_; refine seq_ret ?_; refine ret_of ?_; refine zr ?_; refine zr ?_; refine rk_nil ?_
      exact ⟨rfl, hS0⟩
  · rw [if_neg (fun h => h.1 h2)]
    refine op1_skip rfl ?_; (iterate 3 refine zk ?_); refine zu ?_; refine zns ?_; refine wp_false rfl ?_; refine wp_skip ?_; refine seq_normal ?_; refine zsr ?_; refine zw1 ?_; refine zw1 ?_; refine zns ?_; refine wp_ret ?_; refine ret_of ?_; refine zr ?_; refine zr ?_; refine rk_nil ?_
    exact ⟨rfl, hS0⟩
end
end Go.E.St
