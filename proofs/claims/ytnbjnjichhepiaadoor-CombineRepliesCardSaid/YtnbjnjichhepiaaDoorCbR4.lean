/- Combine: DecodeResults. -/
import Derived.Test.YtnbjnjichhepiaaDoorCbR1
import Derived.Test.YtnbjnjichhepiaaDoorCbD3
namespace Go.E.Cb
open Go Go.E Go.Proofs.YtnbjnjichhepiaaDoor.base Go.Proofs.YtnbjnjichhepiaaDoor Go.Proofs
set_option linter.unusedVariables false
set_option linter.unusedSimpArgs false
set_option maxRecDepth 100000
def lnR (m : List Int) : Nat := (fld m 4 4).toNat
def badX (m : List Int) : Prop := m.length < 16 ∨ 40 ≤ fld m 0 4 ∨ 16384 < fld m 4 4 ∨ m.length < 16 + lnR m
instance (m : List Int) : Decidable (badX m) := by unfold badX; infer_instance
def fstR (m : List Int) : Rs := ⟨fld m 0 4, IntKind.i64.wrap (fld m 8 8), (m.drop 16).take (lnR m)⟩
def dnR : Nat → List Int → Int
  | 0, l => if l.length = 0 then 0 else 18
  | k + 1, l => if l.length = 0 then 0 else if badX l then 12 else dnR k (l.drop (16 + lnR l))
def dpR : Nat → List Int → List Rs
  | 0, l => []
  | k + 1, l => if l.length = 0 then [] else fstR l :: dpR k (l.drop (16 + lnR l))
def decRE (l : List Int) : Int := dnR 16 l
def decRB (l : List Int) : List Rs := if decRE l = 0 then dpR 16 l else []
theorem decRB_err {l : List Int} (h : decRE l ≠ 0) : decRB l = [] := by unfold decRB; rw [if_neg h]
theorem dpR_len (k : Nat) (l : List Int) : (dpR k l).length ≤ k := by
  induction k generalizing l with
  | zero => simp [dpR]
  | succ k ih => rw [dpR]; split <;> simp [ih]
theorem decRB_len (m : List Int) : (decRB m).length ≤ 16 := by
  unfold decRB
  split
  · exact dpR_len _ _
  · simp
theorem fstR_ok {l : List Int} (h : Byt l) (hl : l.length ≤ 1000000000) : RsN (fstR l) where
  err := by have := fld4 h 0; unfold fstR I64; simp only; omega
  val := wi64 _
  data := by unfold fstR; simp only [List.length_take, List.length_drop]; omega
  byte := (h.drop _).take _
theorem dpR_ok (k : Nat) {m : List Int} (hb : Byt m) (hl : m.length ≤ 1000000000) : ∀ p ∈ dpR k m, RsN p := by
  induction k generalizing m with
  | zero => intro p hp; cases hp
  | succ k ih =>
    intro p hp
    rw [dpR] at hp
    split at hp
    · cases hp
    rcases List.mem_cons.1 hp with rfl | hp
    · exact fstR_ok hb hl
    · exact ih (hb.drop _) (by rw [List.length_drop]; omega) p hp
theorem decRB_ok {m : List Int} (hb : Byt m) (hl : m.length ≤ 1000000000) : ∀ p ∈ decRB m, RsN p := by
  unfold decRB
  split
  · exact dpR_ok _ hb hl
  · intro p hp; cases hp
theorem prtR_ok {xs : List RX} {l : List Rs} (e : prtR xs = l) (h : ∀ p ∈ l, RsN p) : ∀ x ∈ xs, RsN x.1 := fun x hx => h _ (by rw [← e]; exact List.mem_map_of_mem (f := (·.1)) hx)
theorem prtR_len {xs : List RX} {l : List Rs} (e : prtR xs = l) : xs.length = l.length := by rw [← e]; simp [prtR]
theorem sub16 {H : AHeap} {p a n c : Nat} {l : List Int} (hg : H.get p = .cells (u8s (l.take 16)) 0 false) (h : a + n ≤ 16) (hl : 16 ≤ l.length) (hc : n ≤ c) : RdS H 1 (.slice (some ⟨p, a, none⟩) n c) (u8s ((l.drop a).take n)) [p] := by
  have h1 := RdS.blk (es := 1) (off := a) (l := n) (c := c) hg (by unfold u8s; rw [List.length_map, List.length_take]; omega) (.inl rfl) hc
  have e : ((u8s (l.take 16)).drop a).take (n * 1) = u8s ((l.drop a).take n) := by
    unfold u8s
    rw [Nat.mul_one, ← List.map_drop, ← List.map_take, List.drop_take, List.take_take, Nat.min_eq_left (by omega)]
  rwa [e] at h1
section
variable {B H : AHeap} {As : List Asn}
theorem L26 {v : Value} {l : List Int} (hd : RD B As 1 v (u8s l)) (hb : Byt l) (hl : l.length ≤ 1000000) (hS : S B H As) : wpF C 26 [v] H fun w H' => ∃ out ys, w = .tuple ⟨[out, .int .i64 (decRE l)]⟩ ∧ prtR ys = decRB l ∧ S B H' (sl 3 out (ys.flatMap rowR) :: datR ys :: As) := by
  obtain ⟨r, hr, _⟩ := hd _ hS
  obtain ⟨a, c, rfl⟩ := hr.u1
  clear hr
  refine wpF_ofW o26 rfl rfl ?_
  refine zsr ?_; refine zw1 ?_; refine zw1 ?_; refine zns ?_; refine zsr ?_; refine zw1 ?_; refine zns ?_; refine wp_seq ?_; refine zsr ?_; refine zw1 ?_; refine zw1 ?_; refine zns ?_; refine wp_block ?_
  have e0 : decRE l = dnR 16 l := rfl
  have eB : decRE l = 0 → decRB l = dpR 16 l := fun h => by unfold decRB; rw [if_pos h]
  obtain ⟨N, hN0⟩ : ∃ N, N = dnR 16 l := ⟨_, rfl⟩
  obtain ⟨P, hP0⟩ : ∃ P, P = dpR 16 l := ⟨_, rfl⟩
  rw [← hN0] at e0
  rw [← hP0] at eB
  refine wp_loop [4, 5] (fun k vs H' => ∃ (a' : Option Addr) (c' : Nat) (ys : List RX) (a2 : Option Addr) (c2 : Nat) (m : List Int), vs = [.slice a' ys.length c', .slice a2 m.length c2] ∧ k = 16 - ys.length ∧ ys.length ≤ 16 ∧ m.length ≤ 1000000 ∧ Byt m ∧ RD B As 1 (.slice a2 m.length c2) (u8s m) ∧ N = dnR (16 - ys.length) m ∧ P = prtR ys ++ dpR (16 - ys.length) m ∧ S B H' (sl 3 (.slice a' ys.length c') (ys.flatMap rowR) :: datR ys :: As)) ⟨_, none, 0, [], a, c, l, rfl, rfl, by simp, hl, hb, hd, hN0, hP0, S.slNil (datR_nil hS)⟩ ?_
  clear hS
  rintro k vs T' H1 ⟨a', c', ys, a2, c2, m, rfl, rfl, hyl, hml, hmb, hmd, hN, hP, hS⟩
  refine wp_seq ?_; refine zsr ?_; refine zw1 ?_; refine wpO_cons ?_; refine op1_len rfl rfl ?_; refine wpO_cons ?_; refine op1_gtr rfl rfl rfl ?_; refine zns ?_
  refine wp_dec rfl (fun hc => ?_) (fun hc => ?_)
  · refine wp_skip ?_; refine seq_normal ?_; refine wp_block ?_; refine wp_seq ?_; refine zsr ?_; refine zw1 ?_; refine wpO_cons ?_; refine op1_len rfl rfl ?_; refine wpO_cons ?_; refine op1_eqlI rfl rfl rfl ?_; refine zns ?_
    refine wp_dec rfl (fun h3 => ?_) (fun h3 => ?_)
    · refine zsr ?_; refine zw1 ?_; refine zw1 ?_; refine zns ?_; refine wp_ret ?_; refine seq_ret ?_; refine block_ret ?_; refine iter_ret ?_; refine block_ret ?_; refine seq_ret ?_; refine ret_of ?_; refine zr ?_; refine zr ?_; refine rk_nil ?_
      have e1 : N = 18 := by rw [hN, show 16 - ys.length = 0 by omega, dnR, if_neg (by omega)]
      have hE : decRE l = 18 := e0.trans e1
      exact ⟨.slice none 0 0, [], by rw [hE]; rfl, by rw [decRB_err (by rw [hE]; decide)]; rfl, S.slNil (datR_nil (S.drop (S.drop hS)))⟩
    have ek : 16 - ys.length = (16 - (ys.length + 1)) + 1 := by omega
    rw [ek, dnR, if_neg (by omega)] at hN
    rw [ek, dpR, if_neg (by omega)] at hP
    clear ek
    refine wp_skip ?_; refine seq_normal ?_; refine wp_seq ?_; refine zsr ?_; refine zw1 ?_; refine wpO_cons ?_; refine op1_len rfl rfl ?_; refine wpO_cons ?_; refine op1_lss rfl rfl rfl ?_; refine zns ?_
    refine wp_dec rfl (fun h4 => ?_) (fun h4 => ?_)
    · refine zsr ?_; refine zw1 ?_; refine zw1 ?_; refine zns ?_; refine wp_ret ?_; refine seq_ret ?_; refine block_ret ?_; refine iter_ret ?_; refine block_ret ?_; refine seq_ret ?_; refine ret_of ?_; refine zr ?_; refine zr ?_; refine rk_nil ?_
      have e1 : N = 12 := by rw [hN, if_pos (.inl (by omega))]
      have hE : decRE l = 12 := e0.trans e1
      exact ⟨.slice none 0 0, [], by rw [hE]; rfl, by rw [decRB_err (by rw [hE]; decide)]; rfl, S.slNil (datR_nil (S.drop (S.drop hS)))⟩
    have hl16 : 16 ≤ m.length := by omega
    have hxN := fstR_ok hmb (by omega)
    have b0 := fld4 hmb 0
    have b4 := fld4 hmb 4
    have v0 : IntKind.i64.wrap (valB ((m.drop 0).take 4)) = fld m 0 4 := wi64_id (by unfold fld at b0; omega) (by unfold fld at b0; omega)
    have v4 : IntKind.i64.wrap (valB ((m.drop 4).take 4)) = (lnR m : Int) := by unfold lnR; rw [wi64_id (by unfold fld at b4; omega) (by unfold fld at b4; omega)]; unfold fld at b4 ⊢; omega
    have e4 : fld m 4 4 = (lnR m : Int) := by unfold lnR; omega
    obtain ⟨r1, hr1, _⟩ := hmd _ (S.drop (S.drop hS))
    have hcap := hr1.le_cap
    refine wp_skip ?_; refine seq_normal ?_; refine zsr ?_; refine zw1 ?_; refine wpO_cons ?_
    refine op1_sliceD rfl rfl hmd (S.drop (S.drop hS)) (bnds_hi (by decide) (by omega)) (by decide) (by rw [show (16 : Int).toNat = 16 from rfl]; omega) ?_
    intro a3 c3 hd3 _
    have hd3 : RD B As 1 (.slice a3 16 c3) (u8s (m.take 16)) := by
      rw [show u8s (m.take 16) = (u8s m).take 16 from by unfold u8s; rw [List.map_take]]
      exact hd3
    obtain ⟨r2, hr2, _⟩ := hd3 _ (S.drop (S.drop hS))
    obtain ⟨b2, off2, cs2, e2, ro2, rfl, hg2, hcl2, hrow2⟩ := RdS.cut hr2 (by decide)
    refine wpO_cons ?_
    refine op1_s2ap rfl rfl (by decide) ?_
    refine wpO_cons ?_
    refine op1_loadN (vs := u8s (m.take 16)) rfl rfl hg2 hcl2 hrow2 ?_
    refine wpO_cons ?_; refine op1_allocS rfl hS ?_; intro p1 H2 hS; refine wpO_cons ?_
    refine op1_storeNS rfl rfl rfl (by unfold u8s; rw [List.length_map, List.length_take]; omega) (u8s_one _) hS (by decide) ?_
    clear hS
    intro H3 hS
    have hS : S B H3 (pto p1 (.cells (u8s (m.take 16)) 0 false) :: sl 3 (.slice a' ys.length c') (ys.flatMap rowR) :: datR ys :: As) := by simpa using hS
    refine zns ?_; refine wp_seq ?_; refine wp_regionD ?_; refine wpD_cons ?_
    refine op1_sliceArr (i := 0) (h := 4) (m := 16) rfl rfl rfl (S.up0 hS).get ?_
    refine wpD_cons ?_
    refine op1_sliceArr (i := 4) (h := 8) (m := 16) rfl rfl rfl (S.up0 hS).get ?_
    refine wpD_cons ?_; refine op1_call1 rfl (by (conv => lhs; whnf) <;> rfl) ?_
    refine wpF_mono (L48 (sub16 (a := 0) (n := 4) (S.up0 hS).get (by decide) (by omega) (by decide)) ((hmb.drop _).take _) (by rw [List.length_take]; omega)) ?_
    rintro _ _ ⟨rfl, rfl⟩
    rw [v0]
    refine wpD_cons ?_; refine op1_call1 rfl (by (conv => lhs; whnf) <;> rfl) ?_
    refine wpF_mono (L48 (sub16 (a := 4) (n := 4) (S.up0 hS).get (by decide) (by omega) (by decide)) ((hmb.drop _).take _) (by rw [List.length_take]; omega)) ?_
    rintro _ _ ⟨rfl, rfl⟩
    rw [v4]
    refine zd1 ?_; refine zd1 ?_; refine wpD_nil ?_; refine dk_of ?_ ?_; refine zx 6 ?_ ?_; refine zy 4 ?_ ?_
    · exact chk_sliceArr (i := 0) (h := 4) (m := 16) rfl rfl hS.get rfl
    exact chkFs_nil; refine zx 5 ?_ ?_; refine zy 4 ?_ ?_
    · exact chk_sliceArr (i := 4) (h := 8) (m := 16) rfl rfl hS.get rfl
    refine zy 3 ?_ ?_
    · exact chk_sliceArr (i := 4) (h := 8) (m := 16) rfl rfl hS.get rfl
    exact chkFs_nil; (iterate 4 refine chk_skip ?_); exact chk_end; refine seq_normal ?_
    refine wp_seq ?_; refine zsr ?_; refine zw1 ?_; refine wpO_cons ?_; refine op1_geq rfl rfl rfl ?_; refine zw1 ?_; refine wpO_cons ?_
    refine op1_dec rfl (fun h5 => ?_) (fun h5 => ?_)
    · refine op1_skip rfl ?_; refine zk ?_; refine zt ?_; refine zw1 ?_; (iterate 5 refine zk ?_); refine zt ?_; refine zns ?_; refine wp_true rfl ?_; refine zsr ?_; refine zw1 ?_; refine zw1 ?_; refine zns ?_; refine wp_ret ?_; refine seq_ret ?_; refine block_ret ?_; refine iter_ret ?_; refine block_ret ?_; refine seq_ret ?_; refine ret_of ?_; refine zr ?_; refine zr ?_; refine rk_nil ?_
      have e1 : N = 12 := by rw [hN, if_pos (by unfold badX; omega)]
      have hE : decRE l = 12 := e0.trans e1
      exact ⟨.slice none 0 0, [], by rw [hE]; rfl, by rw [decRB_err (by rw [hE]; decide)]; rfl, S.slNil (datR_nil (S.drop (S.drop (S.drop hS))))⟩
    refine op1_mov rfl (by (conv => lhs; whnf) <;> rfl) ?_; refine wpO_cons ?_; refine op1_gtr rfl rfl rfl ?_; refine zu ?_; refine zw1 ?_; refine wpO_cons ?_
    refine op1_dec rfl (fun h6 => ?_) (fun h6 => ?_)
    · refine op1_skip rfl ?_; (iterate 4 refine zk ?_); refine zt ?_; refine zns ?_; refine wp_true rfl ?_; refine zsr ?_; refine zw1 ?_; refine zw1 ?_; refine zns ?_; refine wp_ret ?_; refine seq_ret ?_; refine block_ret ?_; refine iter_ret ?_; refine block_ret ?_; refine seq_ret ?_; refine ret_of ?_; refine zr ?_; refine zr ?_; refine rk_nil ?_
      have e1 : N = 12 := by rw [hN, if_pos (by unfold badX; omega)]
      have hE : decRE l = 12 := e0.trans e1
      exact ⟨.slice none 0 0, [], by rw [hE]; rfl, by rw [decRB_err (by rw [hE]; decide)]; rfl, S.slNil (datR_nil (S.drop (S.drop (S.drop hS))))⟩
    refine op1_mov rfl (by (conv => lhs; whnf) <;> rfl) ?_; refine zw1 ?_; refine wpO_cons ?_; refine op1_len rfl rfl ?_; refine wpO_cons ?_; refine op1_sub rfl rfl rfl (by exact wrap_i64 (by omega) (by omega)) ?_; refine wpO_cons ?_; refine op1_gtr rfl rfl rfl ?_; refine zu ?_; refine zns ?_
    refine wp_dec rfl (fun h7 => ?_) (fun h7 => ?_)
    · refine zsr ?_; refine zw1 ?_; refine zw1 ?_; refine zns ?_; refine wp_ret ?_; refine seq_ret ?_; refine block_ret ?_; refine iter_ret ?_; refine block_ret ?_; refine seq_ret ?_; refine ret_of ?_; refine zr ?_; refine zr ?_; refine rk_nil ?_
      have e1 : N = 12 := by rw [hN, if_pos (by unfold badX; omega)]
      have hE : decRE l = 12 := e0.trans e1
      exact ⟨.slice none 0 0, [], by rw [hE]; rfl, by rw [decRB_err (by rw [hE]; decide)]; rfl, S.slNil (datR_nil (S.drop (S.drop (S.drop hS))))⟩
    rw [if_neg (by unfold badX; omega)] at hN
    refine wp_skip ?_; refine seq_normal ?_; refine zsr ?_; refine zw1 ?_; refine wpO_cons ?_; refine op1_add rfl rfl rfl (by exact wrap_i64 (by omega) (by omega)) ?_; refine zw1 ?_; refine zns ?_; refine wp_seq ?_; refine wp_regionD ?_; refine zd1 ?_; refine zd1 ?_; refine wpD_cons ?_
    refine op1_sliceArr (i := 8) (h := 16) (m := 16) rfl rfl rfl (S.up0 hS).get ?_
    refine zd1 ?_; refine zd1 ?_; refine wpD_cons ?_
    refine op1_sliceD rfl rfl hmd (S.drop (S.drop (S.drop hS))) (bnds_both (by decide) (by omega) (by omega)) (by omega) (by omega) ?_
    rw [show (16 : Int).toNat = 16 from rfl, show (16 + (lnR m : Int)).toNat = 16 + lnR m by omega, Nat.add_sub_cancel_left, Nat.mul_one, Nat.mul_one]
    intro a5 c5 hd5 hck5
    rw [show ((u8s m).drop 16).take (lnR m) = u8s ((m.drop 16).take (lnR m)) from by unfold u8s; rw [← List.map_drop, ← List.map_take]] at hd5
    obtain ⟨r5, hr5, _⟩ := hd5 _ (S.drop (S.drop (S.drop hS)))
    have hl5 : ((m.drop 16).take (lnR m)).length = lnR m := by rw [List.length_take, List.length_drop]; omega
    refine wpD_cons ?_; refine op1_call1 rfl (by (conv => lhs; whnf) <;> rfl) ?_
    refine wpF_mono (L48 (sub16 (a := 8) (n := 8) (S.up0 hS).get (by decide) (by omega) (by decide)) ((hmb.drop _).take _) (by rw [List.length_take]; omega)) ?_
    rintro _ _ ⟨rfl, rfl⟩
    rw [show valB ((m.drop 8).take 8) = fld m 8 8 from rfl]
    refine wpD_cons ?_
    have hT := hS
    refine op1_appN rfl rfl rfl rfl hr5 (by unfold u8s; rw [List.length_map, hl5, Nat.mul_one]) (u8s_one _) hS (by omega) ?_
    clear hS
    intro a7 c7 H7 hS
    have hT7 := hS
    refine wpD_cons ?_; refine op1_build rfl ?_; refine bk_one (by (conv => lhs; whnf) <;> rfl) rfl rfl rfl ?_; refine bk_one (by (conv => lhs; whnf) <;> rfl) rfl rfl rfl ?_; refine bk_one (by (conv => lhs; whnf) <;> rfl) rfl rfl rfl ?_; refine bk_nil ?_; refine wpD_cons ?_; refine op1_bsliceS rfl hS ?_; refine bk_agg rfl rfl rfl rfl ?_; refine bk_nil ?_; intro p2 H4 hS; refine wpD_cons ?_; (refine op1_appBS rfl rfl (by (conv => lhs; whnf) <;> rfl) rfl (S.g0 hS) rfl rfl (S.up3 hS) (by omega) ?_; intro a1 c1 H5 hS; replace hS := S.dn3 hS; replace hS := S.drop hS); refine zd1 ?_; refine wpD_nil ?_; refine dk_of ?_ ?_; (iterate 2 refine chk_skip ?_); refine zx 10 ?_ ?_; refine zy 6 ?_ ?_
    · first | exact chk_sliceArr (i := 8) (h := 16) (m := 16) rfl rfl hT.get rfl | exact chk_sliceArr (i := 8) (h := 16) (m := 16) rfl rfl (S.up1 hT7).get rfl | exact hck5 _ _ (S.drop (S.drop (S.drop hT))) rfl | exact hck5 _ _ (S.drop (S.drop (S.drop (S.drop hT7)))) rfl
    exact chkFs_nil; (iterate 2 refine chk_skip ?_); refine zx 7 ?_ ?_; refine zy 6 ?_ ?_
    · first | exact chk_sliceArr (i := 8) (h := 16) (m := 16) rfl rfl hT.get rfl | exact chk_sliceArr (i := 8) (h := 16) (m := 16) rfl rfl (S.up1 hT7).get rfl | exact hck5 _ _ (S.drop (S.drop (S.drop hT))) rfl | exact hck5 _ _ (S.drop (S.drop (S.drop (S.drop hT7)))) rfl
    refine zy 5 ?_ ?_
    · first | exact chk_sliceArr (i := 8) (h := 16) (m := 16) rfl rfl hT.get rfl | exact chk_sliceArr (i := 8) (h := 16) (m := 16) rfl rfl (S.up1 hT7).get rfl | exact hck5 _ _ (S.drop (S.drop (S.drop hT))) rfl | exact hck5 _ _ (S.drop (S.drop (S.drop (S.drop hT7)))) rfl
    exact chkFs_nil; (iterate 6 refine chk_skip ?_); exact chk_end; refine seq_normal ?_; refine wp_region ?_; refine zw1 ?_; refine zw1 ?_; refine wpO_cons ?_
    skip
    refine op1_sliceD rfl rfl hmd (S.drop (S.drop (S.drop (S.drop hS)))) (bnds_lo (by omega) (by omega) (by omega)) (by omega) (by omega) ?_
    intro a9 c9 hd9 _
    have hml2 : (m.drop (16 + lnR m)).length = m.length - (16 + lnR m) := by rw [List.length_drop]
    rw [show (16 + (lnR m : Int)).toNat = 16 + lnR m by omega, Nat.mul_one, Nat.mul_one, show (((u8s m).drop (16 + lnR m)).take (m.length - (16 + lnR m))) = u8s (m.drop (16 + lnR m)) from by unfold u8s; rw [← List.map_drop, List.take_of_length_le (by rw [List.length_map, hml2]; omega)], ← hml2] at hd9
    refine zw1 ?_; refine wpO_nil ?_; refine block_normal ?_
    have hxL : (fstR m).data.length = lnR m := hl5
    obtain ⟨x, hx, hsv, ex⟩ : ∃ x : RX, x.1 = fstR m ∧ x.sv = .slice a7 (lnR m) c7 ∧ rowR x = [.int .i64 (fld m 0 4), .int .i64 (IntKind.i64.wrap (fld m 8 8)), .slice a7 (lnR m) c7] := by
      refine ⟨(fstR m, a7, c7), rfl, ?_, ?_⟩
      · unfold RX.sv
        simp only
        rw [hxL]
      · unfold rowR RX.sv
        simp only
        rw [hxL]
        rfl
    have hS : S B H5 (sl 1 (.slice a7 (lnR m) c7) (u8s (fstR m).data) :: pto p1 (.cells (u8s (m.take 16)) 0 false) :: sl 3 (.slice a1 (ys.length + 1) c1) (ys.flatMap rowR ++ [.int .i64 (fld m 0 4), .int .i64 (IntKind.i64.wrap (fld m 8 8)), .slice a7 (lnR m) c7]) :: datR ys :: As) := hS
    rw [← ex, ← hsv, ← hx] at hS
    rw [← hx] at hP
    have hfin : S B H5 (sl 3 (.slice a1 (ys ++ [x]).length c1) ((ys ++ [x]).flatMap rowR) :: datR (ys ++ [x]) :: As) := by
      rw [show (ys ++ [x]).flatMap rowR = ys.flatMap rowR ++ rowR x by simp [List.flatMap_append], List.length_append]
      exact S.up1 (datR_snoc (S.up1 (S.up2 (S.drop (S.up1 hS)))))
    refine iter_normal ⟨16 - (ys.length + 1), by omega, a1, c1, ys ++ [x], a9, c9, m.drop (16 + lnR m), by rw [List.length_append, show (16 + (lnR m : Int)).toNat = 16 + lnR m by omega, hml2]; rfl, by rw [List.length_append]; rfl, by rw [List.length_append]; simp; omega, by omega, hmb.drop _, hd9, by rw [List.length_append]; exact hN, ?_, hfin⟩
    rw [hP, List.length_append]
    unfold prtR
    rw [List.map_append, List.append_assoc]
    rfl
  · refine wp_exit ?_; refine seq_exit ?_; refine iter_exit ?_; refine block_exit ?_; refine seq_normal ?_; refine zsr ?_; refine zw1 ?_; refine zw1 ?_; refine zw1 ?_; refine zns ?_; refine wp_ret ?_; refine ret_of ?_; refine zr ?_; refine zr ?_; refine rk_nil ?_
    have hm0 : m.length = 0 := by omega
    have e1 : N = 0 := by
      rw [hN]
      cases 16 - ys.length with
      | zero => rw [dnR, if_pos hm0]
      | succ k => rw [dnR, if_pos hm0]
    have e2 : P = prtR ys := by
      rw [hP]
      cases 16 - ys.length with
      | zero => rw [dpR, List.append_nil]
      | succ k => rw [dpR, if_pos hm0, List.append_nil]
    exact ⟨_, ys, by rw [e0, e1]; rfl, by rw [eB (e0.trans e1), e2], hS⟩
end
end Go.E.Cb
/- Combine: the reference's DecodeResults. -/
namespace Go.E.Cb
open Go Go.E Go.Proofs.YtnbjnjichhepiaaDoor.base Go.Proofs.YtnbjnjichhepiaaDoor Go.Proofs
set_option linter.unusedVariables false
set_option linter.unusedSimpArgs false
set_option maxRecDepth 100000
section
variable {B H : AHeap} {As : List Asn}
theorem L27 {v : Value} {l : List Int} (hd : RD B As 1 v (u8s l)) (hb : Byt l) (hl : l.length ≤ 1000000) (hS : S B H As) : wpF C 27 [v] H fun w H' => ∃ out ys, w = .tuple ⟨[out, .int .i64 (decRE l)]⟩ ∧ prtR ys = decRB l ∧ S B H' (sl 3 out (ys.flatMap rowR) :: datR ys :: As) := by
  obtain ⟨r, hr, _⟩ := hd _ hS
  obtain ⟨a, c, rfl⟩ := hr.u1
  clear hr
  refine wpF_ofW o27 rfl rfl ?_
  refine zsr ?_; refine zw1 ?_; refine zw1 ?_; refine zns ?_; refine zsr ?_; refine wpO_cons ?_; refine op1_bsliceS rfl hS ?_; refine bk_nil ?_; intro p1 H1 hS; refine zw1 ?_; refine zns ?_; refine wp_seq ?_; refine wp_block ?_
  have e0 : decRE l = dnR 16 l := rfl
  have eB : decRE l = 0 → decRB l = dpR 16 l := fun h => by unfold decRB; rw [if_pos h]
  obtain ⟨N, hN0⟩ : ∃ N, N = dnR 16 l := ⟨_, rfl⟩
  obtain ⟨P, hP0⟩ : ∃ P, P = dpR 16 l := ⟨_, rfl⟩
  rw [← hN0] at e0
  rw [← hP0] at eB
  replace hS := S.up1 (datR_nil (S.slNew (l := 0) (es := 3) hS rfl))
  refine wp_loop [0, 4] (fun k vs H' => ∃ (a' : Option Addr) (c' : Nat) (ys : List RX) (a2 : Option Addr) (c2 : Nat) (m : List Int), vs = [.slice a2 m.length c2, .slice a' ys.length c'] ∧ k = 16 - ys.length ∧ ys.length ≤ 16 ∧ m.length ≤ 1000000 ∧ Byt m ∧ RD B As 1 (.slice a2 m.length c2) (u8s m) ∧ N = dnR (16 - ys.length) m ∧ P = prtR ys ++ dpR (16 - ys.length) m ∧ S B H' (sl 3 (.slice a' ys.length c') (ys.flatMap rowR) :: datR ys :: As)) ⟨_, _, 0, [], a, c, l, rfl, rfl, by simp, hl, hb, hd, hN0, hP0, hS⟩ ?_
  clear hS
  rintro k vs T' H1 ⟨a', c', ys, a2, c2, m, rfl, rfl, hyl, hml, hmb, hmd, hN, hP, hS⟩
  refine wp_seq ?_; refine zsr ?_; refine zw1 ?_; refine wpO_cons ?_; refine op1_len rfl rfl ?_; refine wpO_cons ?_; refine op1_gtr rfl rfl rfl ?_; refine zns ?_
  refine wp_dec rfl (fun hc => ?_) (fun hc => ?_)
  · refine wp_skip ?_; refine seq_normal ?_; refine wp_block ?_; refine wp_seq ?_; refine zsr ?_; refine zw1 ?_; refine wpO_cons ?_; refine op1_len rfl rfl ?_; refine wpO_cons ?_; refine op1_eqlI rfl rfl rfl ?_; refine zns ?_
    refine wp_dec rfl (fun h3 => ?_) (fun h3 => ?_)
    · refine zsr ?_; refine zw1 ?_; refine zw1 ?_; refine zns ?_; refine wp_ret ?_; refine seq_ret ?_; refine block_ret ?_; refine iter_ret ?_; refine block_ret ?_; refine seq_ret ?_; refine ret_of ?_; refine zr ?_; refine zr ?_; refine rk_nil ?_
      have e1 : N = 18 := by rw [hN, show 16 - ys.length = 0 by omega, dnR, if_neg (by omega)]
      have hE : decRE l = 18 := e0.trans e1
      exact ⟨.slice none 0 0, [], by rw [hE]; rfl, by rw [decRB_err (by rw [hE]; decide)]; rfl, S.slNil (datR_nil (S.drop (S.drop hS)))⟩
    have ek : 16 - ys.length = (16 - (ys.length + 1)) + 1 := by omega
    rw [ek, dnR, if_neg (by omega)] at hN
    rw [ek, dpR, if_neg (by omega)] at hP
    clear ek
    refine wp_skip ?_; refine seq_normal ?_; refine wp_seq ?_; refine zsr ?_; refine zw1 ?_; refine wpO_cons ?_; refine op1_len rfl rfl ?_; refine wpO_cons ?_; refine op1_lss rfl rfl rfl ?_; refine zw1 ?_; refine wpO_cons ?_
    refine op1_dec rfl (fun h4 => ?_) (fun h4 => ?_)
    · refine op1_skip rfl ?_; refine zk ?_; refine zk ?_; refine zt ?_; refine zw1 ?_; (iterate 3 refine zk ?_); refine zt ?_; refine zw1 ?_; (iterate 7 refine zk ?_); refine zt ?_; refine zns ?_; refine wp_true rfl ?_; refine zsr ?_; refine zw1 ?_; refine zw1 ?_; refine zns ?_; refine wp_ret ?_; refine seq_ret ?_; refine block_ret ?_; refine iter_ret ?_; refine block_ret ?_; refine seq_ret ?_; refine ret_of ?_; refine zr ?_; refine zr ?_; refine rk_nil ?_
      have e1 : N = 12 := by rw [hN, if_pos (.inl (by omega))]
      have hE : decRE l = 12 := e0.trans e1
      exact ⟨.slice none 0 0, [], by rw [hE]; rfl, by rw [decRB_err (by rw [hE]; decide)]; rfl, S.slNil (datR_nil (S.drop (S.drop hS)))⟩
    have hl16 : 16 ≤ m.length := by omega
    have hxN := fstR_ok hmb (by omega)
    have b0 := fld4 hmb 0
    have b4 := fld4 hmb 4
    have b8 := fld8 hmb 8
    have e4 : fld m 4 4 = (lnR m : Int) := by unfold lnR; omega
    obtain ⟨r1, hr1, _⟩ := hmd _ (S.drop (S.drop hS))
    have hcap := hr1.le_cap
    refine op1_mov rfl (by (conv => lhs; whnf) <;> rfl) ?_; refine wpO_cons ?_; refine op1_call3 rfl (by (conv => lhs; whnf) <;> rfl) (by (conv => lhs; whnf) <;> rfl) (by (conv => lhs; whnf) <;> rfl) ?_
    refine wpF_mono (L49 (at_ := 0) (n := 4) hr1 hmb (by decide) (by omega) (by omega)) ?_
    rintro _ _ ⟨rfl, rfl⟩
    rw [show valB ((m.drop 0).take 4) = fld m 0 4 from rfl]
    refine wpO_cons ?_; refine op1_geq rfl rfl rfl ?_; refine zu ?_; refine zw1 ?_; refine wpO_cons ?_
    refine op1_dec rfl (fun h5 => ?_) (fun h5 => ?_)
    · refine op1_skip rfl ?_; refine zk ?_; refine zk ?_; refine zt ?_; refine zw1 ?_; (iterate 7 refine zk ?_); refine zt ?_; refine zns ?_; refine wp_true rfl ?_; refine zsr ?_; refine zw1 ?_; refine zw1 ?_; refine zns ?_; refine wp_ret ?_; refine seq_ret ?_; refine block_ret ?_; refine iter_ret ?_; refine block_ret ?_; refine seq_ret ?_; refine ret_of ?_; refine zr ?_; refine zr ?_; refine rk_nil ?_
      have e1 : N = 12 := by rw [hN, if_pos (by unfold badX; omega)]
      have hE : decRE l = 12 := e0.trans e1
      exact ⟨.slice none 0 0, [], by rw [hE]; rfl, by rw [decRB_err (by rw [hE]; decide)]; rfl, S.slNil (datR_nil (S.drop (S.drop hS)))⟩
    refine op1_mov rfl (by (conv => lhs; whnf) <;> rfl) ?_; refine wpO_cons ?_; refine op1_call3 rfl (by (conv => lhs; whnf) <;> rfl) (by (conv => lhs; whnf) <;> rfl) (by (conv => lhs; whnf) <;> rfl) ?_
    refine wpF_mono (L49 (at_ := 4) (n := 4) hr1 hmb (by decide) (by omega) (by omega)) ?_
    rintro _ _ ⟨rfl, rfl⟩
    rw [show valB ((m.drop 4).take 4) = (lnR m : Int) from e4]
    refine wpO_cons ?_; refine op1_gtr rfl rfl rfl ?_; refine zu ?_; refine zw1 ?_; refine wpO_cons ?_
    refine op1_dec rfl (fun h6 => ?_) (fun h6 => ?_)
    · refine op1_skip rfl ?_; (iterate 6 refine zk ?_); refine zt ?_; refine zns ?_; refine wp_true rfl ?_; refine zsr ?_; refine zw1 ?_; refine zw1 ?_; refine zns ?_; refine wp_ret ?_; refine seq_ret ?_; refine block_ret ?_; refine iter_ret ?_; refine block_ret ?_; refine seq_ret ?_; refine ret_of ?_; refine zr ?_; refine zr ?_; refine rk_nil ?_
      have e1 : N = 12 := by rw [hN, if_pos (by unfold badX; omega)]
      have hE : decRE l = 12 := e0.trans e1
      exact ⟨.slice none 0 0, [], by rw [hE]; rfl, by rw [decRB_err (by rw [hE]; decide)]; rfl, S.slNil (datR_nil (S.drop (S.drop hS)))⟩
    refine op1_mov rfl (by (conv => lhs; whnf) <;> rfl) ?_; refine wpO_cons ?_; refine op1_len rfl rfl ?_; refine wpO_cons ?_; refine op1_convInt rfl rfl (by exact wrap_u64 (by omega) (by omega)) ?_; refine zw1 ?_; refine wpO_cons ?_; refine op1_call3 rfl (by (conv => lhs; whnf) <;> rfl) (by (conv => lhs; whnf) <;> rfl) (by (conv => lhs; whnf) <;> rfl) ?_
    refine wpF_mono (L49 (at_ := 4) (n := 4) hr1 hmb (by decide) (by omega) (by omega)) ?_
    rintro _ _ ⟨rfl, rfl⟩
    rw [show valB ((m.drop 4).take 4) = (lnR m : Int) from e4]
    refine wpO_cons ?_; refine op1_add rfl rfl rfl (by exact wrap_u64 (by omega) (by omega)) ?_; refine wpO_cons ?_; refine op1_lss rfl rfl rfl ?_; refine zu ?_; refine zns ?_
    refine wp_dec rfl (fun h7 => ?_) (fun h7 => ?_)
    · refine zsr ?_; refine zw1 ?_; refine zw1 ?_; refine zns ?_; refine wp_ret ?_; refine seq_ret ?_; refine block_ret ?_; refine iter_ret ?_; refine block_ret ?_; refine seq_ret ?_; refine ret_of ?_; refine zr ?_; refine zr ?_; refine rk_nil ?_
      have e1 : N = 12 := by rw [hN, if_pos (by unfold badX; omega)]
      have hE : decRE l = 12 := e0.trans e1
      exact ⟨.slice none 0 0, [], by rw [hE]; rfl, by rw [decRB_err (by rw [hE]; decide)]; rfl, S.slNil (datR_nil (S.drop (S.drop hS)))⟩
    rw [if_neg (by unfold badX; omega)] at hN
    refine wp_skip ?_; refine seq_normal ?_; refine zsr ?_; refine zw1 ?_; refine wpO_cons ?_; refine op1_call3 rfl (by (conv => lhs; whnf) <;> rfl) (by (conv => lhs; whnf) <;> rfl) (by (conv => lhs; whnf) <;> rfl) ?_
    refine wpF_mono (L49 (at_ := 4) (n := 4) hr1 hmb (by decide) (by omega) (by omega)) ?_
    rintro _ _ ⟨rfl, rfl⟩
    rw [show valB ((m.drop 4).take 4) = (lnR m : Int) from e4]
    refine wpO_cons ?_; refine op1_convInt rfl rfl (by exact wrap_i64 (by omega) (by omega)) ?_; refine wpO_cons ?_; refine op1_add rfl rfl rfl (by exact wrap_i64 (by omega) (by omega)) ?_; refine zw1 ?_; refine zns ?_; refine wp_seq ?_; refine wp_regionD ?_; refine zd1 ?_; refine zd1 ?_; refine zd1 ?_; refine wpD_cons ?_; refine op1_bsliceS rfl hS ?_; refine bk_nil ?_; intro p2 H2 hS; refine zd1 ?_; refine zd1 ?_; refine wpD_cons ?_
    replace hS := S.slNew (l := 0) (es := 1) hS rfl
    have hT := hS
    refine op1_sliceD rfl rfl hmd (S.drop (S.drop (S.drop hS))) (bnds_both (by decide) (by omega) (by omega)) (by omega) (by omega) ?_
    rw [show (16 : Int).toNat = 16 from rfl, show (16 + (lnR m : Int)).toNat = 16 + lnR m by omega, Nat.add_sub_cancel_left, Nat.mul_one, Nat.mul_one]
    intro a5 c5 hd5 hck5
    rw [show ((u8s m).drop 16).take (lnR m) = u8s ((m.drop 16).take (lnR m)) from by unfold u8s; rw [← List.map_drop, ← List.map_take]] at hd5
    obtain ⟨r5, hr5, _⟩ := hd5 _ (S.drop (S.drop (S.drop hS)))
    obtain ⟨r6, hr6, _⟩ := hmd _ (S.drop (S.drop (S.drop hS)))
    have hl5 : ((m.drop 16).take (lnR m)).length = lnR m := by rw [List.length_take, List.length_drop]; omega
    refine wpD_cons ?_; refine op1_call3 rfl (by (conv => lhs; whnf) <;> rfl) (by (conv => lhs; whnf) <;> rfl) (by (conv => lhs; whnf) <;> rfl) ?_
    refine wpF_mono (L49 (at_ := 0) (n := 4) hr6 hmb (by decide) (by omega) (by omega)) ?_
    rintro _ _ ⟨rfl, rfl⟩
    rw [show valB ((m.drop 0).take 4) = fld m 0 4 from rfl]
    refine wpD_cons ?_; refine op1_convInt rfl rfl (by exact wrap_i64 (by omega) (by omega)) ?_; refine wpD_cons ?_; refine op1_call3 rfl (by (conv => lhs; whnf) <;> rfl) (by (conv => lhs; whnf) <;> rfl) (by (conv => lhs; whnf) <;> rfl) ?_
    refine wpF_mono (L49 (at_ := 8) (n := 8) hr6 hmb (by decide) (by omega) (by omega)) ?_
    rintro _ _ ⟨rfl, rfl⟩
    rw [show valB ((m.drop 8).take 8) = fld m 8 8 from rfl]
    refine wpD_cons ?_
    refine op1_convIntW rfl rfl ?_
    refine wpD_cons ?_
    refine op1_appRS rfl rfl rfl rfl hr5 (by unfold u8s; rw [List.length_map, hl5, Nat.mul_one]) (u8s_one _) hS (by omega) ?_
    clear hS
    intro a7 c7 H7 hS
    have hT7 := hS
    refine wpD_cons ?_; refine op1_build rfl ?_; refine bk_one (by (conv => lhs; whnf) <;> rfl) rfl rfl rfl ?_; refine bk_one (by (conv => lhs; whnf) <;> rfl) rfl rfl rfl ?_; refine bk_one (by (conv => lhs; whnf) <;> rfl) rfl rfl rfl ?_; refine bk_nil ?_; refine wpD_cons ?_; refine op1_bsliceS rfl hS ?_; refine bk_agg rfl rfl rfl rfl ?_; refine bk_nil ?_; intro p3 H3 hS; refine wpD_cons ?_; (refine op1_appBS rfl rfl (by (conv => lhs; whnf) <;> rfl) rfl (S.g0 hS) rfl rfl (S.up2 hS) (by omega) ?_; intro a1 c1 H4 hS; replace hS := S.dn2 hS; replace hS := S.drop hS); refine zd1 ?_; refine wpD_nil ?_; refine dk_of ?_ ?_; (iterate 6 refine chk_skip ?_); refine zx 10 ?_ ?_; refine zy 9 ?_ ?_
    · first | exact hck5 _ _ (S.drop (S.drop (S.drop hT))) rfl | exact hck5 _ _ (S.drop (S.drop (S.drop hT7))) rfl
    refine zy 7 ?_ ?_
    · first | exact hck5 _ _ (S.drop (S.drop (S.drop hT))) rfl | exact hck5 _ _ (S.drop (S.drop (S.drop hT7))) rfl
    refine zy 5 ?_ ?_
    · first | exact hck5 _ _ (S.drop (S.drop (S.drop hT))) rfl | exact hck5 _ _ (S.drop (S.drop (S.drop hT7))) rfl
    exact chkFs_nil; (iterate 9 refine chk_skip ?_); exact chk_end; refine seq_normal ?_; refine wp_region ?_; refine zw1 ?_; refine zw1 ?_; refine wpO_cons ?_
    skip
    refine op1_sliceD rfl rfl hmd (S.drop (S.drop (S.drop hS))) (bnds_lo (by omega) (by omega) (by omega)) (by omega) (by omega) ?_
    intro a9 c9 hd9 _
    have hml2 : (m.drop (16 + lnR m)).length = m.length - (16 + lnR m) := by rw [List.length_drop]
    rw [show (16 + (lnR m : Int)).toNat = 16 + lnR m by omega, Nat.mul_one, Nat.mul_one, show (((u8s m).drop (16 + lnR m)).take (m.length - (16 + lnR m))) = u8s (m.drop (16 + lnR m)) from by unfold u8s; rw [← List.map_drop, List.take_of_length_le (by rw [List.length_map, hml2]; omega)], ← hml2] at hd9
    refine zw1 ?_; refine wpO_nil ?_; refine block_normal ?_
    have hxL : (fstR m).data.length = lnR m := hl5
    obtain ⟨x, hx, hsv, ex⟩ : ∃ x : RX, x.1 = fstR m ∧ x.sv = .slice a7 (0 + lnR m) c7 ∧ rowR x = [.int .i64 (fld m 0 4), .int .i64 (IntKind.i64.wrap (fld m 8 8)), .slice a7 (0 + lnR m) c7] := by
      refine ⟨(fstR m, a7, c7), rfl, ?_, ?_⟩
      · unfold RX.sv
        simp only
        rw [hxL, Nat.zero_add]
      · unfold rowR RX.sv
        simp only
        rw [hxL, Nat.zero_add]
        rfl
    have hS : S B H4 (sl 1 (.slice a7 (0 + lnR m) c7) (u8s (fstR m).data) :: sl 3 (.slice a1 (ys.length + 1) c1) (ys.flatMap rowR ++ [.int .i64 (fld m 0 4), .int .i64 (IntKind.i64.wrap (fld m 8 8)), .slice a7 (0 + lnR m) c7]) :: datR ys :: As) := hS
    rw [← ex, ← hsv, ← hx] at hS
    rw [← hx] at hP
    have hfin : S B H4 (sl 3 (.slice a1 (ys ++ [x]).length c1) ((ys ++ [x]).flatMap rowR) :: datR (ys ++ [x]) :: As) := by
      rw [show (ys ++ [x]).flatMap rowR = ys.flatMap rowR ++ rowR x by simp [List.flatMap_append], List.length_append]
      exact S.up1 (datR_snoc (S.up1 (S.up2 hS)))
    refine iter_normal ⟨16 - (ys.length + 1), by omega, a1, c1, ys ++ [x], a9, c9, m.drop (16 + lnR m), by rw [List.length_append, show (16 + (lnR m : Int)).toNat = 16 + lnR m by omega, hml2]; rfl, by rw [List.length_append]; rfl, by rw [List.length_append]; simp; omega, by omega, hmb.drop _, hd9, by rw [List.length_append]; exact hN, ?_, hfin⟩
    rw [hP, List.length_append]
    unfold prtR
    rw [List.map_append, List.append_assoc]
    rfl
  · refine wp_exit ?_; refine seq_exit ?_; refine iter_exit ?_; refine block_exit ?_; refine seq_normal ?_; refine zsr ?_; refine zw1 ?_; refine zw1 ?_; refine zw1 ?_; refine zns ?_; refine wp_ret ?_; refine ret_of ?_; refine zr ?_; refine zr ?_; refine rk_nil ?_
    have hm0 : m.length = 0 := by omega
    have e1 : N = 0 := by
      rw [hN]
      cases 16 - ys.length with
      | zero => rw [dnR, if_pos hm0]
      | succ k => rw [dnR, if_pos hm0]
    have e2 : P = prtR ys := by
      rw [hP]
      cases 16 - ys.length with
      | zero => rw [dpR, List.append_nil]
      | succ k => rw [dpR, if_pos hm0, List.append_nil]
    exact ⟨_, ys, by rw [e0, e1]; rfl, by rw [eB (e0.trans e1), e2], hS⟩
end
end Go.E.Cb
/- Combine: CombineReplies. -/
namespace Go.E.Cb
open Go Go.E Go.ChangeShapes Go.WideShapes Go.ChangeAt Go.RowKit Go.Proofs.YtnbjnjichhepiaaDoor.base Go.Proofs.YtnbjnjichhepiaaDoor Go.Proofs
set_option linter.unusedVariables false
set_option linter.unusedSimpArgs false
set_option maxRecDepth 100000
theorem encR_cuts {p : Rs} {R m : List Int} (hm : m = encR p ++ R) :
    (m.drop 0).take 4 = leB (un p.err) 4 ∧ (m.drop 4).take 4 = leB (un p.data.length) 4 ∧ (m.drop 8).take 8 = leB (un p.val) 8 ∧ (m.drop 16).take p.data.length = p.data ∧ m.drop (16 + p.data.length) = R := by
  unfold encR at hm
  generalize hk : leB (un p.err) 4 = K at hm ⊢
  generalize hmm : leB (un p.data.length) 4 = M at hm ⊢
  generalize ht : leB (un p.val) 8 = V at hm ⊢
  have lk : K.length = 4 := by rw [← hk, leB_len]
  have lm : M.length = 4 := by rw [← hmm, leB_len]
  have lv : V.length = 8 := by rw [← ht, leB_len]
  clear hk hmm ht
  simp only [List.append_assoc] at hm
  refine ⟨cutL (A := []) hm rfl lk, cutL (A := K) hm lk lm, cutL (A := K ++ M) (by rw [hm]; simp only [List.append_assoc]; rfl) (by simp [*]) lv, cutL (A := K ++ M ++ V) (by rw [hm]; simp only [List.append_assoc]; rfl) (by simp [*]) rfl, ?_⟩
  have : m = (K ++ M ++ V ++ p.data) ++ R := by rw [hm]; simp
  rw [this, List.drop_left' (by simp [*]; omega)]
theorem first_encR {p : Rs} {R m : List Int} (hp : RsN p) (hc : errR p = 0) (hm : m = encR p ++ R) : ¬ badX m ∧ fstR m = p ∧ m.drop (16 + lnR m) = R := by
  obtain ⟨c1, c2, c3, c4, c5⟩ := encR_cuts hm
  have hs := errR_small hc
  have hlen : m.length = 16 + p.data.length + R.length := by rw [hm, List.length_append, encR_len]
  have f1 : fld m 0 4 = p.err := by unfold fld; rw [vl c1, un_sm 4 (by omega) (by simp; omega) (by decide)]
  have f2 : fld m 4 4 = p.data.length := by unfold fld; rw [vl c2, un_sm 4 (by omega) (by simp; omega) (by decide)]
  have f3 : IntKind.i64.wrap (fld m 8 8) = p.val := by unfold fld; rw [vl c3, wi64_un hp.val]
  have f4 : lnR m = p.data.length := by unfold lnR; rw [f2]; simp
  refine ⟨?_, ?_, by rw [f4, c5]⟩
  · unfold badX
    rw [f1, f2, f4, hlen]
    omega
  · unfold fstR
    rw [f1, f3, f4, c4]
theorem dec_encR {k : Nat} {l : List Rs} (hk : l.length ≤ k) (hp : ∀ p ∈ l, RsN p) (hc : ∀ p ∈ l, errR p = 0) : dnR k (l.flatMap encR) = 0 ∧ dpR k (l.flatMap encR) = l := by
  induction l generalizing k with
  | nil => cases k <;> exact ⟨rfl, rfl⟩
  | cons p l ih =>
    cases k with
    | zero => simp at hk
    | succ k =>
      obtain ⟨h1, h2⟩ := ih (k := k) (by simpa using hk) (fun q hq => hp q (by simp [hq])) (fun q hq => hc q (by simp [hq]))
      have e0 : (p :: l).flatMap encR = encR p ++ l.flatMap encR := List.flatMap_cons
      have h0 : ¬ ((p :: l).flatMap encR).length = 0 := by rw [e0, List.length_append, encR_len]; omega
      obtain ⟨h3, h4, h5⟩ := first_encR (m := (p :: l).flatMap encR) (R := l.flatMap encR) (hp p (by simp)) (hc p (by simp)) e0
      rw [dnR, dpR, if_neg h0, if_neg h0, if_neg h3, h4, h5, h1, h2]
      exact ⟨rfl, rfl⟩
theorem backR {l : List Rs} (hp : ∀ p ∈ l, RsN p) (h : encRE l = 0) : decRE (encRB l) = 0 ∧ decRB (encRB l) = l ∧ (encRB l).length ≤ 262400 := by
  have hB : encRB l = l.flatMap encR := by unfold encRB; rw [if_pos h]
  unfold encRE at h
  split at h
  · cases h
  rename_i h1
  have hz := erL_zero.1 h
  obtain ⟨h4, h5⟩ := dec_encR (k := 16) (l := l) (by omega) hp hz
  have e : decRE (encRB l) = 0 := by unfold decRE; rw [hB, h4]
  have hlen := flR_len hz
  refine ⟨e, ?_, by rw [hB]; omega⟩
  unfold decRB
  rw [if_pos e, hB, h5]
theorem encR_byt {p : Rs} (hp : RsN p) : Byt (encR p) := by
  unfold encR
  have h := fun x k => leB_byte x k
  exact (((Byt.app (h _ _) (h _ _)).app (h _ _)).app hp.byte)
theorem encRB_byt {l : List Rs} (h : ∀ p ∈ l, RsN p) : Byt (encRB l) := by
  unfold encRB
  split
  · intro x hx
    obtain ⟨p, hp, hx⟩ := List.mem_flatMap.1 hx
    exact encR_byt (h p hp) x hx
  · intro x hx; cases hx
theorem ut45 : Tryd.prog.underlying 45 = some (.slice 48) := by kernel_rfl
theorem ut28 : Tryd.prog.underlying 28 = some (.int .i64) := by kernel_rfl
theorem ut48 : fieldsOf Tryd.prog 48 = some [(28,0),(2,1),(25,2)] := by kernel_rfl
theorem co28 : Tryd.prog.cellsOf 28 = 1 := by kernel_rfl
theorem co48 : Tryd.prog.cellsOf 48 = 3 := by kernel_rfl
theorem ga45 : aggT Tryd.prog 45 = false := by kernel_rfl
theorem rx_of {gs : List AObj} {us : List Value} {n : Nat} (h : OkA Tryd.prog gs (n + 3) 48 us) : ∃ x : RX, us = rowR x ∧ RsN x.1 ∧ ∃ r, RdS (startH gs) 1 x.sv (u8s x.1.data) r ∧ ∀ b ∈ r, b < (startH gs).next := by
  obtain ⟨hl, hf⟩ := h.struct ut48 co48
  match us, hl with
  | [v0, v1, v2], _ =>
    obtain ⟨a0, e0, h0⟩ := (hf (28, 0) (by simp)).i64 ut28
    obtain ⟨a1, e1, h1⟩ := (hf (2, 1) (by simp)).i64 ut2
    obtain ⟨d, l, c, r, e5, h5, h6, h7, h8⟩ := (hf (25, 2) (by simp)).byteS ut25 co5 ut5
    simp only [co2, co28, co25, List.drop_zero, List.take_succ_cons, List.take_zero, List.drop_succ_cons] at e0 e1 e5
    cases e0; cases e1; cases e5
    exact ⟨(⟨a0, a1, l⟩, d, c), rfl, ⟨h0, h1, h5, h8⟩, r, h6, h7⟩
theorem rss_of {gs : List AObj} {n : Nat} {a : Value} (h : ∃ cells, a = argV Tryd.prog 45 cells ∧ OkA Tryd.prog gs (n + 4) 45 cells) : ∃ xs, ∀ As, RS (startH gs) As a xs := by
  obtain ⟨cells, rfl, h⟩ := h
  obtain ⟨d, l, c, r, rfl, h1, h2, h3, h4⟩ := h.slice (X := RX) (f := rowR) (Q := fun x => RsN x.1 ∧ ∃ r, RdS (startH gs) 1 x.sv (u8s x.1.data) r ∧ ∀ b ∈ r, b < (startH gs).next) ut45 co48 rowR_len (fun us h => rx_of h)
  refine ⟨l, fun As => ⟨?_, fun x hx => ?_, fun x hx => (h4 x hx).1, h1⟩⟩
  · unfold argV
    rw [ga45]
    exact RD.base h2 h3
  · obtain ⟨_, r, h5, h6⟩ := h4 x hx
    exact RD.base h5 h6
section
variable {B : AHeap}
theorem L5 {v w : Value} {xs : List RX} {l : List Int} (hB : Glob objs B) (hd0 : ∀ As, RD B As 1 w (u8s l)) (hb : Byt l) (hl9 : l.length ≤ 9223372036854775807) (hP0 : ∀ As, RS B As v xs) : wpF C 5 [v, w] B fun v _ => v = .bool true := by
  have hS := S.start B
  obtain ⟨r0, hr0, _⟩ := hd0 [] _ hS
  obtain ⟨a, c, rfl⟩ := hr0.u1
  clear hr0
  obtain ⟨r1, hr1, _⟩ := (hP0 []).rd _ hS
  obtain ⟨a1, n, c1, rfl, hn⟩ := hr1.shape
  rw [fm_len rowR_len] at hn
  obtain rfl : n = xs.length := by omega
  have hlen := (hP0 []).len
  clear hr1 hn
  refine wpF_ofW o5 rfl rfl ?_
  refine zsr ?_; refine zw1 ?_; refine zns ?_; refine wp_seq ?_; refine zsr ?_; refine zw1 ?_; refine wpO_cons ?_; refine op1_len rfl rfl ?_; refine wpO_cons ?_; refine op1_gtr rfl rfl rfl ?_; refine zw1 ?_; refine wpO_cons ?_
  refine op1_dec rfl (fun h1 => ?_) (fun h1 => ?_)
  · refine op1_skip rfl ?_; refine zk ?_; refine zk ?_; refine zt ?_; refine zw1 ?_; refine zk ?_; refine zk ?_; refine zt ?_; refine zw1 ?_; refine zk ?_; refine zk ?_; refine zt ?_; refine zns ?_; refine wp_true rfl ?_; refine zsr ?_; refine wpO_cons ?_; refine op1_call0 rfl  ?_; refine wpF_known rfl (glob_of hB hS) ?_; refine zw1 ?_; refine zns ?_; refine wp_ret ?_; refine seq_ret ?_; refine ret_of ?_; refine zr ?_; refine rk_nil ?_
    rfl
  refine op1_mov rfl (by (conv => lhs; whnf) <;> rfl) ?_; refine wpO_cons ?_; refine op1_len rfl rfl ?_; refine wpO_cons ?_; refine op1_gtr rfl rfl rfl ?_; refine zu ?_; refine zw1 ?_; refine wpO_cons ?_
  refine op1_dec rfl (fun h2 => ?_) (fun h2 => ?_)
  · refine op1_skip rfl ?_; refine zk ?_; refine zt ?_; refine zw1 ?_; refine zk ?_; refine zk ?_; refine zt ?_; refine zns ?_; refine wp_true rfl ?_; refine zsr ?_; refine wpO_cons ?_; refine op1_call0 rfl  ?_; refine wpF_known rfl (glob_of hB hS) ?_; refine zw1 ?_; refine zns ?_; refine wp_ret ?_; refine seq_ret ?_; refine ret_of ?_; refine zr ?_; refine rk_nil ?_
    rfl
  refine op1_mov rfl (by (conv => lhs; whnf) <;> rfl) ?_; refine wpO_cons ?_; refine op1_call2 rfl (by (conv => lhs; whnf) <;> rfl) (by (conv => lhs; whnf) <;> rfl) ?_
  refine wpF_mono (L21 (hP0 []) hS) ?_
  rintro _ H1 ⟨rfl, hS1⟩
  clear hS
  have hS := hS1
  clear hS1
  by_cases hf : ∃ a ∈ xs, bigR a.1
  · rw [decide_eq_true hf]
    refine zu ?_; refine zw1 ?_; refine zk ?_; refine zk ?_; refine zt ?_; refine zns ?_; refine wp_true rfl ?_; refine zsr ?_; refine wpO_cons ?_; refine op1_call0 rfl  ?_; refine wpF_known rfl (glob_of hB hS) ?_; refine zw1 ?_; refine zns ?_; refine wp_ret ?_; refine seq_ret ?_; refine ret_of ?_; refine zr ?_; refine rk_nil ?_
    rfl
  rw [decide_eq_false hf]
  have hxd : ∀ x ∈ xs, x.1.data.length ≤ 20000 := fun x hx => by
    have : ¬ bigR x.1 := fun h => hf ⟨x, hx, h⟩
    unfold bigR at this
    omega
  have hokL : ∀ p ∈ prtR xs, RsN p := fun p hp => by
    obtain ⟨x, hx, e⟩ := List.mem_map.1 hp
    rw [← e]
    exact (hP0 []).ok x hx
  have hpl : (prtR xs).length = xs.length := by simp [prtR]
  refine zu ?_; refine zw1 ?_; refine wpO_cons ?_; refine op1_call0 rfl  ?_; refine wpF_known rfl (glob_of hB hS) ?_; refine wpO_cons ?_; refine op1_not_t rfl rfl ?_; refine zu ?_; refine zns ?_; refine wp_false rfl ?_; refine wp_skip ?_; refine seq_normal ?_; refine zsr ?_; refine zw1 ?_; refine zns ?_; refine wp_seq ?_; refine zsr ?_; refine zw1 ?_; refine wpO_cons ?_; refine op1_len rfl rfl ?_; refine zw1 ?_; refine zns ?_; refine wp_block ?_
  refine wp_loop [5, 37] (fun k vs H' => ∃ (i : Nat) (a' : Option Addr) (c' : Nat) (ys : List RX), vs = [.slice a' ys.length c', .int .i64 i] ∧ k = xs.length - i ∧ i ≤ xs.length ∧ ys.length = i ∧ prtR ys = (prtR xs).take i ∧ S B H' (sl 3 (.slice a' ys.length c') (ys.flatMap rowR) :: datR ys :: [])) ⟨_, 0, none, 0, [], rfl, rfl, by omega, rfl, rfl, S.slNil (datR_nil hS)⟩ ?_
  clear hS
  rintro k vs T' H1 ⟨i, a', c', ys, rfl, rfl, hi, hyl, hyp, hS⟩
  refine zsr ?_; refine wpO_cons ?_; refine op1_lss rfl rfl rfl ?_; refine zns ?_; refine wp_seq ?_
  refine wp_dec rfl (fun hc => ?_) (fun hc => ?_)
  · obtain ⟨y, hy⟩ : ∃ y, xs[i]? = some y := ⟨_, List.getElem?_eq_getElem (by omega)⟩
    have hym := List.mem_of_getElem? hy
    obtain ⟨r0, hr0, _⟩ := (hP0 []).rd _ (S.drop (S.drop hS))
    obtain ⟨b, off, cs, e1, ro, rfl, hg, hle, hrow⟩ := RdS.row rowR_len hr0 rfl hy
    refine wp_skip ?_; refine seq_normal ?_; refine wp_seq ?_; refine wp_block ?_; refine zsr ?_; refine wpO_cons ?_; refine op1_iaddr rfl rfl rfl (by omega) (by omega) ?_; refine wpO_cons ?_
    refine op1_loadN rfl rfl hg (by simp only [Int.toNat_natCast]; omega) (by simp only [Int.toNat_natCast]; exact hrow) ?_
    unfold rowR RX.sv
    refine wpO_cons ?_; refine op1_allocS rfl hS ?_; intro p1 H2 hS; refine wpO_cons ?_; (refine op1_storeNS rfl rfl (by (conv => lhs; whnf) <;> rfl) rfl rfl (S.up0 hS) (Nat.le_of_ble_eq_true rfl) ?_; intro H3 hS; replace hS := S.dn0 hS); refine zns ?_; refine wp_regionD ?_; refine zd1 ?_; refine zg ?_; refine zj (S.g0 hS) ?_; refine zg ?_; refine zj (S.g0 hS) ?_; refine zg ?_; refine zj (S.g0 hS) ?_; refine wpD_cons ?_; refine op1_call1 rfl (by (conv => lhs; whnf) <;> rfl) ?_
    have hT := hS
    clear hS
    refine wpF_mono (L23 (v := y.sv) ((hP0 _).dat y hym) (by have := hxd y hym; omega) hT) ?_
    rintro w1 H4 hS
    obtain ⟨aw, cw, rfl⟩ := S.u1 hS
    have hT4 := hS
    refine wpD_cons ?_; refine op1_build rfl ?_; refine bk_one (by (conv => lhs; whnf) <;> rfl) rfl rfl rfl ?_; refine bk_one (by (conv => lhs; whnf) <;> rfl) rfl rfl rfl ?_; refine bk_one (by (conv => lhs; whnf) <;> rfl) rfl rfl rfl ?_; refine bk_nil ?_; refine wpD_cons ?_; refine op1_bsliceS rfl hS ?_; refine bk_agg rfl rfl rfl rfl ?_; refine bk_nil ?_; intro p2 H5 hS; refine wpD_cons ?_; (refine op1_appBS rfl rfl (by (conv => lhs; whnf) <;> rfl) rfl (S.g0 hS) rfl rfl (S.up3 hS) (by omega) ?_; intro a1 c2 H6 hS; replace hS := S.dn3 hS; replace hS := S.drop hS); refine zd1 ?_; refine wpD_nil ?_; refine dk_of ?_ ?_; (iterate 2 refine chk_skip ?_); refine zx 10 ?_ ?_; refine zy 5 ?_ ?_; exact zq (S.g0 hT); refine zy 2 ?_ ?_; exact chk_load rfl (by exact S.g2 (by assumption)) rfl rfl; exact chkFs_nil; refine chk_skip ?_; refine zx 8 ?_ ?_; refine zy 5 ?_ ?_; exact zq (S.g0 hT); refine zy 2 ?_ ?_; exact chk_load rfl (by exact S.g2 (by assumption)) rfl rfl; exact chkFs_nil; refine chk_skip ?_; refine zx 6 ?_ ?_; refine zy 5 ?_ ?_; exact zq (S.g0 hT); exact chkFs_nil; (iterate 5 refine chk_skip ?_); exact chk_end; refine block_normal ?_; refine seq_normal ?_; refine wp_region ?_; refine wpO_cons ?_; refine op1_add rfl rfl rfl (by exact wrap_i64 (by omega) (by omega)) ?_; refine zw1 ?_; refine wpO_nil ?_
    obtain ⟨z, hz, hzv, ez⟩ : ∃ z : RX, z.1 = y.1 ∧ z.sv = .slice aw y.1.data.length cw ∧ rowR z = [.int .i64 y.1.err, .int .i64 y.1.val, .slice aw y.1.data.length cw] := ⟨(y.1, aw, cw), rfl, rfl, rfl⟩
    have hS : S B H6 (sl 1 (.slice aw y.1.data.length cw) (u8s y.1.data) :: pto p1 (.cells [.int .i64 y.1.err, .int .i64 y.1.val, .slice y.2.1 y.1.data.length y.2.2] 0 false) :: sl 3 (.slice a1 (ys.length + 1) c2) (ys.flatMap rowR ++ [.int .i64 y.1.err, .int .i64 y.1.val, .slice aw y.1.data.length cw]) :: datR ys :: []) := hS
    rw [← ez, ← hzv, ← hz] at hS
    have hfin : S B H6 (sl 3 (.slice a1 (ys ++ [z]).length c2) ((ys ++ [z]).flatMap rowR) :: datR (ys ++ [z]) :: []) := by
      rw [show (ys ++ [z]).flatMap rowR = ys.flatMap rowR ++ rowR z by simp [List.flatMap_append], List.length_append]
      exact S.up1 (datR_snoc (S.up1 (S.up2 (S.drop (S.up1 hS)))))
    have hzp : (prtR xs)[i]? = some z.1 := by unfold prtR; rw [List.getElem?_map, hy, hz]; rfl
    refine iter_normal ⟨xs.length - (i + 1), by omega, i + 1, a1, c2, ys ++ [z], by rw [List.length_append]; rfl, rfl, by omega, by rw [List.length_append, hyl]; rfl, ?_, hfin⟩
    unfold prtR at hyp hzp ⊢
    rw [List.map_append, hyp, List.take_add_one, hzp]
    rfl
  rw [List.take_of_length_le (by omega)] at hyp
  have hyo := prtR_ok hyp hokL
  have hyl2 : ys.length = xs.length := by rw [prtR_len hyp, hpl]
  have hPy : ∀ As, RS B (sl 3 (.slice a' ys.length c') (ys.flatMap rowR) :: datR ys :: As) (.slice a' ys.length c') ys := fun As => RS.own hyo (by omega)
  refine wp_exit ?_; refine seq_exit ?_; refine iter_exit ?_; refine block_exit ?_; refine seq_normal ?_; refine zsr ?_; refine zw1 ?_; refine wpO_cons ?_; refine op1_call1 rfl (by (conv => lhs; whnf) <;> rfl) ?_
  refine wpF_mono (L24 (hP0 _) hS) ?_
  rintro _ H2 ⟨o1, rfl, hS2⟩
  clear hS
  have hS := hS2
  clear hS2
  refine zw1 ?_; refine wpO_cons ?_; refine op1_extract rfl rfl rfl ?_; refine wpO_cons ?_; refine op1_extract rfl rfl rfl ?_; refine zw1 ?_; refine zw1 ?_; refine zns ?_; refine zsr ?_; refine zw1 ?_; refine wpO_cons ?_; refine op1_call1 rfl (by (conv => lhs; whnf) <;> rfl) ?_
  refine wpF_mono (L25 (hPy _).cons hS) ?_
  rintro _ H3 ⟨o2, rfl, hS3⟩
  clear hS
  have hS := hS3
  clear hS3
  rw [hyp] at hS ⊢
  refine zw1 ?_; refine wpO_cons ?_; refine op1_extract rfl rfl rfl ?_; refine wpO_cons ?_; refine op1_extract rfl rfl rfl ?_; refine zw1 ?_; refine zw1 ?_; refine zns ?_; refine zsr ?_; refine zw1 ?_; refine wpO_cons ?_; refine op1_call1 rfl (by (conv => lhs; whnf) <;> rfl) ?_
  refine wpF_mono (L26 (hd0 _) hb (by omega) hS) ?_
  rintro _ H4 ⟨o3, zs, rfl, hzs, hS4⟩
  clear hS
  have hS := hS4
  clear hS4
  refine zw1 ?_; refine wpO_cons ?_; refine op1_extract rfl rfl rfl ?_; refine wpO_cons ?_; refine op1_extract rfl rfl rfl ?_; refine zw1 ?_; refine zw1 ?_; refine zns ?_; refine zsr ?_; refine zw1 ?_; refine wpO_cons ?_; refine op1_call1 rfl (by (conv => lhs; whnf) <;> rfl) ?_
  refine wpF_mono (L27 (hd0 _) hb (by omega) hS) ?_
  rintro _ H5 ⟨o4, ws, rfl, hws, hS5⟩
  clear hS
  have hS := hS5
  clear hS5
  refine zw1 ?_; refine wpO_cons ?_; refine op1_extract rfl rfl rfl ?_; refine wpO_cons ?_; refine op1_extract rfl rfl rfl ?_; refine zw1 ?_; refine zw1 ?_; refine zns ?_; refine wp_seq ?_; refine zsr ?_; refine zw1 ?_; refine zw1 ?_; refine wpO_cons ?_; refine op1_neqI_s rfl rfl rfl ?_; refine zw1 ?_; refine zw1 ?_; refine zw1 ?_; refine wpO_cons ?_; refine op1_call2 rfl (by (conv => lhs; whnf) <;> rfl) (by (conv => lhs; whnf) <;> rfl) ?_
  obtain ⟨q1, hq1, _⟩ := S.rd (S.up5 hS)
  obtain ⟨q2, hq2, _⟩ := S.rd (S.up4 hS)
  refine wpF_mono (L16 hq1 hq2) ?_
  rintro _ H6 ⟨rfl, rfl⟩
  refine wpO_cons ?_; refine op1_not_t rfl rfl ?_; refine zu ?_; refine zw1 ?_; refine zw1 ?_; refine zw1 ?_; refine wpO_cons ?_; refine op1_neqI_s rfl rfl rfl ?_; refine zu ?_; refine zw1 ?_; refine zw1 ?_; refine zw1 ?_; refine wpO_cons ?_; refine op1_call3 rfl (by (conv => lhs; whnf) <;> rfl) (by (conv => lhs; whnf) <;> rfl) (by (conv => lhs; whnf) <;> rfl) ?_
  have hlb := decRB_len l
  have hoz := prtR_ok hzs (decRB_ok hb (by omega))
  have how := prtR_ok hws (decRB_ok hb (by omega))
  have hlz := prtR_len hzs
  have hlw := prtR_len hws
  have hPw : RS B (sl 3 o4 (ws.flatMap rowR) :: datR ws :: sl 3 o3 (zs.flatMap rowR) :: datR zs :: sl 1 o2 (u8s (encRB (prtR xs))) :: sl 1 o1 (u8s (encRB (prtR xs))) :: sl 3 (.slice a' ys.length c') (ys.flatMap rowR) :: datR ys :: []) o4 ws := RS.own how (by omega)
  have hPz : RS B (sl 3 o4 (ws.flatMap rowR) :: datR ws :: sl 3 o3 (zs.flatMap rowR) :: datR zs :: sl 1 o2 (u8s (encRB (prtR xs))) :: sl 1 o1 (u8s (encRB (prtR xs))) :: sl 3 (.slice a' ys.length c') (ys.flatMap rowR) :: datR ys :: []) o3 zs := (RS.own hoz (by omega)).cons.cons
  refine wpF_mono (L28 (f := 29) hPz hPw (hws.trans hzs.symm) (fun x hx y hy e H6 A1 A2 hS6 => L29 e (hPz.dat x hx).cons.cons (hPw.dat y hy).cons.cons hS6) hS) ?_
  rintro _ H7 ⟨rfl, hS7⟩
  clear hS
  have hS := hS7
  clear hS7
  refine wpO_cons ?_; refine op1_not_t rfl rfl ?_; refine zu ?_; refine zns ?_; refine wp_false rfl ?_; refine wp_skip ?_; refine seq_normal ?_; refine wp_seq ?_; refine zsr ?_; refine zw1 ?_; refine wpO_cons ?_; refine op1_neqI rfl rfl rfl ?_; refine zns ?_
  refine wp_ndec rfl (fun h3 => ?_) (fun h3 => ?_)
  · refine zsr ?_; refine zw1 ?_; refine zns ?_; refine wp_ret ?_; refine seq_ret ?_; refine ret_of ?_; refine zr ?_; refine rk_nil ?_
    rfl
  obtain ⟨k1, k2, k3⟩ := backR hokL h3
  have hb2 := encRB_byt hokL
  generalize encRB (prtR xs) = b2 at hS hb2 k1 k2 k3 hPw hPz
  refine wp_skip ?_; refine seq_normal ?_; refine zsr ?_; refine zw1 ?_; refine wpO_cons ?_; refine op1_call1 rfl (by (conv => lhs; whnf) <;> rfl) ?_
  refine wpF_mono (L26 (l := b2) RD.head.cons.cons.cons.cons.cons hb2 (by omega) hS) ?_
  rintro _ H8 ⟨o5, us, rfl, hus, hS8⟩
  clear hS
  have hS := hS8
  clear hS8
  rw [k1]
  rw [k2] at hus
  have hou := prtR_ok hus hokL
  have hlu := prtR_len hus
  refine zw1 ?_; refine wpO_cons ?_; refine op1_extract rfl rfl rfl ?_; refine wpO_cons ?_; refine op1_extract rfl rfl rfl ?_; refine zw1 ?_; refine zw1 ?_; refine zns ?_; refine zsr ?_; refine zw1 ?_; refine wpO_cons ?_; refine op1_eqlI_s rfl rfl rfl ?_; refine zw1 ?_; refine zw1 ?_; refine zw1 ?_; refine wpO_cons ?_; refine op1_call3 rfl (by (conv => lhs; whnf) <;> rfl) (by (conv => lhs; whnf) <;> rfl) (by (conv => lhs; whnf) <;> rfl) ?_
  have hPu := RS.own (B := B) (v := o5) (As := sl 3 o4 (ws.flatMap rowR) :: datR ws :: sl 3 o3 (zs.flatMap rowR) :: datR zs :: sl 1 o2 (u8s b2) :: sl 1 o1 (u8s b2) :: sl 3 (.slice a' ys.length c') (ys.flatMap rowR) :: datR ys :: []) hou (by omega)
  have hPm := ((((((((hPy []).cons (A := sl 1 o1 (u8s b2))).cons (A := sl 1 o2 (u8s b2))).cons (A := datR zs)).cons (A := sl 3 o3 (zs.flatMap rowR))).cons (A := datR ws)).cons (A := sl 3 o4 (ws.flatMap rowR))).cons (A := datR us)).cons (A := sl 3 o5 (us.flatMap rowR))
  refine wpF_mono (L28 (f := 29) hPu hPm (hyp.trans hus.symm) (fun x hx y hy e H6 A1 A2 hS6 => L29 e (hPu.dat x hx).cons.cons (hPm.dat y hy).cons.cons hS6) hS) ?_
  rintro _ H9 ⟨rfl, hS9⟩
  refine zt ?_; refine zw1 ?_; refine zns ?_; refine wp_ret ?_; refine ret_of ?_; refine zr ?_; refine rk_nil ?_
  rfl
end
end Go.E.Cb
