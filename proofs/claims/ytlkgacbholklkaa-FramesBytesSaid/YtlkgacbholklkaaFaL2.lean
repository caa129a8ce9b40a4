/- FramesBytes: the walk and the law. -/
import Derived.Test.YtlkgacbholklkaaFaAL
import Derived.Test.YtlkgacbholklkaaFaF789
namespace Go.E.Fa
open Go Go.E Go.Proofs.Ytlkgacbholklkaa Go.Proofs
set_option linter.unusedVariables false
set_option linter.unusedSimpArgs false
set_option maxRecDepth 100000
theorem get_put {l d : List Int} {o : Nat} (h : o ≤ l.length) : ((putAt l o d).drop o).take d.length = d := by
  unfold putAt
  rw [List.append_assoc, List.drop_append, List.drop_eq_nil_of_le (by rw [List.length_take]; exact Nat.min_le_left _ _), List.length_take, Nat.min_eq_left h, Nat.sub_self, List.drop_zero, List.nil_append, List.take_append, List.take_of_length_le (Nat.le_refl _), Nat.sub_self, List.take_zero, List.append_nil]

theorem TbOk.setDat {T : Tb} {n : Int} {b : Nat} {l : List Int} (h : TbOk T) (hl : l.length = 64) : TbOk (T.wm (T.m.setDat n (some (b, l)))) := by
  refine ⟨⟨h.m.nd, h.m.refs⟩, fun p hp => (h.pls p hp).of rfl, h.len, h.pool, ?_⟩
  intro k d hd
  have hd : (if k = n then some (b, l) else T.m.dat k) = some d := hd
  split at hd
  · cases hd; exact hl
  · exact h.dat k d hd
theorem put_len {l d : List Int} {o : Nat} (h : o + d.length ≤ l.length) : (putAt l o d).length = l.length := by
  unfold putAt
  simp only [List.length_append, List.length_take, List.length_drop]
  omega
theorem chk_b2s {Tf T : FEnv} {x : NOpd} {d : Nat} {H : AHeap} {u v : Value} (hx : x.evF T = u) (hs : b2sN H u = some v) (hd : Tf d = v) : chkF1 (.b2s x) d Tf T H := by
  refine ⟨H, ?_⟩
  simp only [NOp.sub, eop, ev_subF, hx, hs, Option.map_some, hd]
theorem L6 {B : AHeap} {x y off : Int} {vd : Value} {d : List Int} {r : List Nat} (hx : 0 ≤ x ∧ x ≤ 255) (hy : 0 ≤ y ∧ y ≤ 255) (ho : 0 ≤ off ∧ off ≤ 255) (hr : RdS B 1 vd (u8s d) r) (hlt : ∀ b ∈ r, b < B.next) :
    wpF C 6 [.agg ⟨[.int .u8 x, .int .u8 y]⟩, .int .u8 off, vd] B fun v _ => v = .bool true := by
  have hS := S.start B
  have hd : ∀ As, RD B As 1 vd (u8s d) := fun As => RD.base hr hlt
  obtain ⟨ad, cd, rfl⟩ := (hd _).u1 hS
  refine wpF_ofW o6 rfl rfl ?_
  refine zsr ?_; refine wpO_cons ?_; refine op1_boxNS rfl rfl rfl hS ?_; intro p1 H1 hS; refine zw1 ?_; refine zns ?_; refine wp_seq ?_; refine zsr ?_; refine zw1 ?_; refine wpO_cons ?_; refine op1_len rfl rfl ?_; refine wpO_cons ?_; refine op1_gtr rfl rfl rfl ?_; refine zns ?_
  refine wp_dec rfl (fun h64 => ?_) (fun h64 => ?_)
  · refine zsr ?_; refine wpO_cons ?_; refine op1_call0 rfl  ?_; refine wpF_known rfl (globAll _) ?_; refine zw1 ?_; refine zns ?_; refine wp_ret ?_; refine seq_ret ?_; refine ret_of ?_; refine rk_tmp (by (conv => lhs; whnf) <;> rfl) ?_; refine rk_nil ?_
    rfl
  refine wp_skip ?_; refine seq_normal ?_; refine zsr ?_; refine zw1 ?_; refine wpO_cons ?_; refine op1_convInt rfl rfl (by exact wrap_i64 (by omega) (by omega)) ?_; refine zw1 ?_; refine wpO_cons ?_; refine op1_len rfl rfl ?_; refine wpO_cons ?_; refine op1_sub rfl rfl rfl (by exact wrap_i64 (by omega) (by omega)) ?_; refine wpO_cons ?_; refine op1_add rfl rfl rfl (by exact wrap_i64 (by omega) (by omega)) ?_; refine wpO_cons ?_; refine op1_rem rfl rfl rfl (by omega) ?_; refine zw1 ?_; refine zns ?_; refine wp_seq ?_; refine wp_regionD ?_; refine wpD_cons ?_; refine op1_iaddrArr rfl rfl rfl (by omega) (by omega) ?_; refine wpD_cons ?_; refine op1_load rfl rfl (by exact S.g0 hS) rfl ?_; refine wpD_cons ?_; refine op1_convInt rfl rfl (by exact wrap_i64 (by omega) (by omega)) ?_; refine wpD_cons ?_; refine op1_rem rfl rfl rfl (by omega) ?_; refine wpD_cons ?_; refine op1_iaddrArr rfl rfl rfl (by omega) (by omega) ?_; refine wpD_cons ?_; refine op1_load rfl rfl (by exact S.g0 hS) rfl ?_; refine wpD_cons ?_; refine op1_convInt rfl rfl (by exact wrap_i64 (by omega) (by omega)) ?_; refine wpD_cons ?_; refine op1_rem rfl rfl rfl (by omega) ?_; refine zd1 ?_; refine zd1 ?_; refine wpD_nil ?_; refine dk_of ?_ ?_; refine chk_skip ?_; refine chk_cons 9 rfl rfl rfl ?_ ?_; refine chkFs_cons 0 rfl rfl ?_ ?_; exact chk_load rfl (by exact S.g0 hS) rfl rfl; exact chkFs_nil; (iterate 3 refine chk_skip ?_); refine chk_cons 5 rfl rfl rfl ?_ ?_; refine chkFs_cons 0 rfl rfl ?_ ?_; exact chk_load rfl (by exact S.g0 hS) rfl rfl; exact chkFs_nil; (iterate 4 refine chk_skip ?_); exact chk_end; refine seq_normal ?_; refine zsr ?_; refine wpO_cons ?_; refine op1_build rfl ?_; refine bk_one (by (conv => lhs; whnf) <;> rfl) rfl rfl rfl ?_; refine bk_one (by (conv => lhs; whnf) <;> rfl) rfl rfl rfl ?_; refine bk_one (by (conv => lhs; whnf) <;> rfl) rfl rfl rfl ?_; refine bk_nil ?_; refine wpO_cons ?_; refine op1_bsliceS rfl hS ?_; refine bk_agg rfl rfl rfl rfl ?_; refine bk_nil ?_; intro p2 H2 hS; refine wpO_cons ?_; refine op1_call1 rfl (by (conv => lhs; whnf) <;> rfl) ?_
  obtain ⟨at_, hat, hat1⟩ : ∃ q : Nat, off.tmod (64 - d.length + 1) = q ∧ q + d.length ≤ 64 := by
    have h1 := Int.emod_nonneg off (b := 64 - d.length + 1) (by omega)
    have h2 := Int.emod_lt_of_pos off (b := 64 - d.length + 1) (by omega)
    refine ⟨(off.tmod (64 - d.length + 1)).toNat, ?_, ?_⟩
    · rw [Int.tmod_eq_emod_of_nonneg ho.1]; omega
    · rw [Int.tmod_eq_emod_of_nonneg ho.1]; omega
  obtain ⟨xq, hxq, hxq1⟩ : ∃ q : Nat, x.tmod 8 = q ∧ q ≤ 7 := ⟨(x.tmod 8).toNat, by rw [Int.tmod_eq_emod_of_nonneg hx.1]; omega, by rw [Int.tmod_eq_emod_of_nonneg hx.1]; omega⟩
  obtain ⟨yq, hyq, hyq1⟩ : ∃ q : Nat, y.tmod 8 = q ∧ q ≤ 7 := ⟨(y.tmod 8).toNat, by rw [Int.tmod_eq_emod_of_nonneg hy.1]; omega, by rw [Int.tmod_eq_emod_of_nonneg hy.1]; omega⟩
  rw [hat, hxq, hyq]
  replace hS := S.slNew (l := 1) (es := 5) hS rfl
  have e0 : newE [poolP 0 8] = 0 := by decide +kernel
  refine wpF_mono (L10 (pls := [poolP 0 8]) (by decide) (by intro p hp; rw [List.mem_singleton] at hp; subst hp; decide) RD.head hS) ?_
  rintro _ H1 ⟨_, hok⟩
  obtain ⟨t, T, rfl, hTp, hF, hS⟩ := hok e0
  clear hok
  have hO := One.fresh hTp hF
  have hz : ∀ n, T.m.refs n = 0 := hF.m.refs
  clear hF hTp
  refine zw1 ?_; refine wpO_cons ?_; refine op1_extract rfl rfl rfl ?_; refine wpO_cons ?_; refine op1_extract rfl rfl rfl ?_; refine zw1 ?_; refine zw1 ?_; refine zns ?_; refine wp_seq ?_; refine zsr ?_; refine zw1 ?_; refine wpO_cons ?_; refine op1_neqI_s rfl rfl rfl ?_; refine zw1 ?_; refine zw1 ?_; refine wpO_cons ?_; refine op1_bin_false rfl (by (conv => lhs; whnf) <;> rfl) (by (conv => lhs; whnf) <;> rfl) rfl ?_; refine wpO_cons ?_; refine op1_pick_f rfl rfl (by (conv => lhs; whnf) <;> rfl) ?_; refine zns ?_; refine wp_false rfl ?_; refine wp_skip ?_; refine seq_normal ?_; refine wp_seq ?_; refine zsr ?_; refine zw1 ?_; refine wpO_cons ?_; refine op1_build rfl ?_; refine bk_one (by (conv => lhs; whnf) <;> rfl) rfl rfl rfl ?_; refine bk_one (by (conv => lhs; whnf) <;> rfl) rfl rfl rfl ?_; refine bk_nil ?_; refine wpO_cons ?_; refine op1_call2 rfl (by (conv => lhs; whnf) <;> rfl) (by (conv => lhs; whnf) <;> rfl) ?_
  refine wpF_mono (L11 (T := T) (an := none) (cn := 0) (ns := []) (cnt := (8 : Nat)) (al := 1) (cg := false) (top := false) hO.ok hO.ix (by decide) (by decide) RD.nil hS) ?_
  rw [hO.alloc1 (by decide) (by decide)]
  have hfr : ordP T.m (poolP 0 8) false = consec 0 8 := freeP_all (f := 0) (c := 8) fun n _ _ => hz n
  rw [hfr, if_neg (by decide), show (consec 0 8).take 8 = consec 0 8 by decide]
  rintro _ H2 ⟨v0, rfl, hS⟩
  obtain ⟨a0, c0, rfl⟩ := hS.i1
  replace hO := hO.takes (l := consec 0 8)
  have hr1 : ∀ n : Nat, n ≤ 7 → (T.wm ((consec 0 8).foldl (takeF T.pls) T.m)).m.refs n = 1 := by
    intro n hn
    show ((consec 0 8).foldl (takeF T.pls) T.m).refs n = 1
    rw [takes_refs, if_pos (consec_mem.2 (by omega))]
  generalize T.wm ((consec 0 8).foldl (takeF T.pls) T.m) = T1 at *
  clear hfr hz
  simp only
  refine zw1 ?_; refine wpO_cons ?_; refine op1_extract rfl rfl rfl ?_; refine wpO_cons ?_; refine op1_extract rfl rfl rfl ?_; refine zw1 ?_; refine zw1 ?_; refine zns ?_; refine zsr ?_; refine zw1 ?_; refine wpO_cons ?_; refine op1_neqI_s rfl rfl rfl ?_; (iterate 4 refine zw1 ?_); refine wpO_cons ?_; refine op1_bsliceS rfl hS ?_; refine bk_nil ?_; intro p3 H3 hS; refine zw1 ?_; refine wpO_cons ?_
  replace hS := S.slNew (l := 0) (es := 1) hS rfl
  obtain ⟨r2, hr2, _⟩ := hd _ _ hS
  refine op1_appRS rfl rfl (by (conv => lhs; whnf) <;> rfl) rfl hr2 (by simp) (u8s_one _) hS (by omega) ?_
  rw [List.nil_append, Nat.zero_add]
  intro a1 c1 H4 hS
  refine wpO_cons ?_; refine op1_call4 rfl (by (conv => lhs; whnf) <;> rfl) (by (conv => lhs; whnf) <;> rfl) (by (conv => lhs; whnf) <;> rfl) (by (conv => lhs; whnf) <;> rfl) ?_
  refine wpF_mono (L20 (T := T1) (n := xq) (off := at_) hO.ok RD.head (by omega) (S.up2 hS)) ?_
  have hip : InPage at_ d.length := by unfold InPage; omega
  have hxd := hO.dom (n := xq) (by omega) (by omega)
  have hyd := hO.dom (n := yq) (by omega) (by omega)
  have hxr := hr1 xq hxq1
  have hyr := hr1 yq hyq1
  have eio : ioE T1.m xq at_ d.length = 0 := by unfold ioE; rw [if_pos hxd, if_neg (by omega), if_pos hip]
  rw [eio]
  rintro _ H5 ⟨rfl, _, hw⟩
  obtain ⟨pb, hS⟩ := hw rfl
  clear hw
  rw [hO.dat] at hS
  rw [show ((at_ : Nat) : Int).toNat = at_ from rfl, show pageOf none = zeros from rfl] at hS
  have hok2 := hO.ok.setDat (n := xq) (b := pb) (l := putAt zeros at_ d) (by rw [put_len (by rw [show zeros.length = 64 by decide]; omega)]; decide)
  refine wpO_cons ?_; refine op1_neqI_s rfl rfl rfl ?_; refine wpO_cons ?_; refine op1_pick_f rfl rfl (by (conv => lhs; whnf) <;> rfl) ?_; refine zns ?_; refine wp_false rfl ?_; refine wp_skip ?_; refine seq_normal ?_; refine zsr ?_; (iterate 4 refine zw1 ?_); refine wpO_cons ?_; refine op1_len rfl rfl ?_; refine wpO_cons ?_; refine op1_call4 rfl (by (conv => lhs; whnf) <;> rfl) (by (conv => lhs; whnf) <;> rfl) (by (conv => lhs; whnf) <;> rfl) (by (conv => lhs; whnf) <;> rfl) ?_
  refine wpF_mono (L21 (n := xq) (off := at_) (k := d.length) (by omega) hok2 hS) ?_
  have e1 : readM (T1.wm (T1.m.setDat xq (some (pb, putAt zeros at_ d)))).m xq at_ d.length = d := by
    unfold readM
    have : ioE (T1.wm (T1.m.setDat xq (some (pb, putAt zeros at_ d)))).m xq at_ d.length = 0 := eio
    rw [this, if_pos rfl]
    have e2 : (T1.wm (T1.m.setDat xq (some (pb, putAt zeros at_ d)))).m.dat xq = some (pb, putAt zeros at_ d) := by simp [Tb.wm, Fm.setDat]
    rw [e2, Int.toNat_natCast, Int.toNat_natCast]
    exact get_put (by rw [show zeros.length = 64 by decide]; omega)
  rw [e1]
  have eio1 : ioE (T1.wm (T1.m.setDat xq (some (pb, putAt zeros at_ d)))).m xq at_ d.length = 0 := eio
  rw [eio1]
  rintro _ H6 ⟨w1, rfl, hS⟩
  obtain ⟨aw1, cw1, rfl⟩ := hS.u1
  refine zw1 ?_; refine wpO_cons ?_; refine op1_extract rfl rfl rfl ?_; refine wpO_cons ?_; refine op1_extract rfl rfl rfl ?_; refine zw1 ?_; refine zw1 ?_; refine zns ?_; refine zsr ?_; refine zw1 ?_; refine zw1 ?_; refine wpO_cons ?_; refine op1_call4 rfl (by (conv => lhs; whnf) <;> rfl) (by (conv => lhs; whnf) <;> rfl) (by (conv => lhs; whnf) <;> rfl) (by (conv => lhs; whnf) <;> rfl) ?_
  refine wpF_mono (L21 (n := yq) (off := 0) (k := 64) (by omega) hok2 (S.up1 hS)) ?_
  have eio2 : ioE (T1.wm (T1.m.setDat xq (some (pb, putAt zeros at_ d)))).m yq 0 64 = 0 := by
    show ioE T1.m yq 0 64 = 0
    unfold ioE; rw [if_pos hyd, if_neg (by omega), if_pos (by unfold InPage; omega)]
  rw [eio2]
  obtain ⟨dy, hdy⟩ : ∃ z, z = readM (T1.wm (T1.m.setDat xq (some (pb, putAt zeros at_ d)))).m yq 0 64 := ⟨_, rfl⟩
  rw [← hdy]
  rintro _ H7 ⟨w2, rfl, hS⟩
  obtain ⟨aw2, cw2, rfl⟩ := hS.u1
  refine zw1 ?_; refine wpO_cons ?_; refine op1_extract rfl rfl rfl ?_; refine wpO_cons ?_; refine op1_extract rfl rfl rfl ?_; refine zw1 ?_; refine zw1 ?_; refine zns ?_; refine wp_seq ?_; refine zsr ?_; refine zw1 ?_; refine wpO_cons ?_; refine op1_neqI_s rfl rfl rfl ?_; refine zw1 ?_; refine zw1 ?_; refine wpO_cons ?_; refine op1_neqI_s rfl rfl rfl ?_; refine wpO_cons ?_; refine op1_pick_f rfl rfl (by (conv => lhs; whnf) <;> rfl) ?_; refine zw1 ?_; refine zw1 ?_; refine wpO_cons ?_
  obtain ⟨rw1, hw1, _⟩ := (S.up2 hS).rd
  refine op1_b2s rfl (by (conv => lhs; whnf) <;> rfl) hw1.b2sU ?_
  refine zw1 ?_; refine wpO_cons ?_
  obtain ⟨rw2, hw2, _⟩ := hd _ _ hS
  refine op1_b2s rfl (by (conv => lhs; whnf) <;> rfl) hw2.b2sU ?_
  refine wpO_cons ?_
  refine op1_neqSD rfl rfl rfl ?_
  rw [decide_eq_true rfl]
  refine wpO_cons ?_; refine op1_pick_f rfl rfl (by (conv => lhs; whnf) <;> rfl) ?_; refine zns ?_; refine wp_false rfl ?_; refine wp_skip ?_; refine seq_normal ?_; refine wp_seq ?_; refine wp_regionD ?_; refine zd1 ?_; refine zd1 ?_; refine wpD_cons ?_; refine op1_eqlI rfl rfl rfl ?_; refine zd1 ?_; refine wpD_cons ?_
  refine op1_dec rfl (fun hxy => ?_) (fun hxy => ?_)
  · refine op1_skip rfl ?_; refine wpD_cons ?_; refine op1_skip rfl ?_; refine wpD_cons ?_; refine op1_skip rfl ?_; refine wpD_cons ?_; refine op1_skip rfl ?_; refine wpD_cons ?_; refine op1_skip rfl ?_; refine wpD_cons ?_; refine op1_pick_t rfl rfl (by (conv => lhs; whnf) <;> rfl) ?_; refine zd1 ?_; refine wpD_cons ?_; refine op1_call0 rfl  ?_; refine wpF_known rfl (globAll _) ?_; refine wpD_cons ?_; refine op1_pick_t rfl rfl (by (conv => lhs; whnf) <;> rfl) ?_; refine zd1 ?_; refine wpD_nil ?_; refine dk_of ?_ ?_; (iterate 5 refine chk_skip ?_); refine chk_unw 9 rfl rfl rfl ?_; refine chk_skip ?_; refine chk_unw 7 rfl rfl rfl ?_; (iterate 6 refine chk_skip ?_); exact chk_end; refine seq_normal ?_; refine wp_ret ?_; refine ret_of ?_; refine rk_tmp (by (conv => lhs; whnf) <;> rfl) ?_; refine rk_nil ?_
    rfl
  · have hdz : dy = zeros := by
      rw [hdy]
      unfold readM
      rw [eio2, if_pos rfl]
      have e2 : (T1.wm (T1.m.setDat xq (some (pb, putAt zeros at_ d)))).m.dat yq = none := by
        show (if (yq : Int) = xq then _ else T1.m.dat yq) = none
        rw [if_neg (fun h => hxy h.symm), hO.dat]
      rw [e2]
      decide
    subst hdz
    refine op1_mov rfl (by (conv => lhs; whnf) <;> rfl) ?_; refine wpD_cons ?_
    obtain ⟨rw3, hw3, _⟩ := hS.rd
    refine op1_b2s rfl (by (conv => lhs; whnf) <;> rfl) hw3.b2sU ?_
    refine wpD_cons ?_
    refine op1_mksliceS rfl rfl rfl (by omega) (Int.le_refl _) (by omega) hS ?_
    intro p4 H8 hS
    rw [zero_u8s, show List.replicate (Int.toNat 64) (0 : Int) = zeros from rfl] at hS
    replace hS := S.slNew (l := 64) (es := 1) hS (by rw [u8s_length]; decide)
    refine wpD_cons ?_
    obtain ⟨rw4, hw4, _⟩ := hS.rd
    refine op1_b2s rfl (by (conv => lhs; whnf) <;> rfl) hw4.b2sU ?_
    refine wpD_cons ?_
    refine op1_eqlSD rfl rfl rfl ?_
    rw [decide_eq_true rfl]
    refine wpD_cons ?_; refine op1_pick_f rfl rfl (by (conv => lhs; whnf) <;> rfl) ?_; refine zd1 ?_; refine wpD_cons ?_; refine op1_call0 rfl  ?_; refine wpF_known rfl (globAll _) ?_; refine wpD_cons ?_; refine op1_pick_t rfl rfl (by (conv => lhs; whnf) <;> rfl) ?_; refine zd1 ?_; refine wpD_nil ?_; refine dk_of ?_ ?_; (iterate 5 refine chk_skip ?_); refine chk_cons 9 rfl rfl rfl ?_ ?_; refine chkFs_cons 3 rfl rfl ?_ ?_
    obtain ⟨rw5, hw5, _⟩ := (S.up1 hS).rd
    · exact chk_b2s rfl hw5.b2sU rfl
    exact chkFs_nil; refine chk_skip ?_; refine chk_cons 7 rfl rfl rfl ?_ ?_; refine chkFs_cons 3 rfl rfl ?_ ?_
    · exact chk_b2s rfl hw4.b2sU rfl
    exact chkFs_nil; (iterate 6 refine chk_skip ?_); exact chk_end; refine seq_normal ?_; refine wp_ret ?_; refine ret_of ?_; refine rk_tmp (by (conv => lhs; whnf) <;> rfl) ?_; refine rk_nil ?_
    rfl
end Go.E.Fa
