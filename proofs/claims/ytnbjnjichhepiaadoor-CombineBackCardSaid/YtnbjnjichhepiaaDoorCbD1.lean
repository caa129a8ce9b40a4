/- Combine: the first part of a message. -/
import Derived.Test.YtnbjnjichhepiaaDoorCbF4
namespace Go.E.Cb
open Go Go.E Go.Proofs.YtnbjnjichhepiaaDoor.base Go.Proofs.YtnbjnjichhepiaaDoor Go.Proofs
set_option linter.unusedVariables false
set_option linter.unusedSimpArgs false
set_option maxRecDepth 100000
section
variable {C : Callees} {T Tf : FEnv} {B H : AHeap} {As : List Asn} {K : KO} {d : Nat} {g : Option (Nat × Bool)}
theorem op1_s2ap {n : Nat} {x : NOpd} {a : Addr} {l c : Nat} (hw : wantedF g T = true) (hx : x.evF T = .slice (some a) l c) (h : 0 < n ∧ n ≤ l) (k : K (upd T d (.pointer (some a))) H) : op1 C ⟨some d, .s2ap n x, g⟩ T H K := by
  refine op1_val hw ?_ k
  simp only [NOp.sub, eop, ev_subF, hx, if_pos h]
theorem chk_sliceArr {n es : Nat} {x : NOpd} {lo hi mx : Option NOpd} {b o i h m : Nat} {cs : List Value} {es' : Nat} {ro : Bool} (hx : x.evF T = .pointer (some ⟨b, o, none⟩)) (hb : sliceBnds n n (lo.map (·.evF T)) (hi.map (·.evF T)) (mx.map (·.evF T)) = some (i, h, m)) (hg : H.get b = .cells cs es' ro) (hd : Tf d = .slice (some ⟨b, o + i * es, none⟩) (h - i) (m - i)) : chkF1 (.sliceArr n es x lo hi mx) d Tf T H := by
  refine ⟨H, ?_⟩
  simp only [NOp.sub, eop, ev_subF, hx, subOpt_ev', hb, Option.bind_some, hg, hd]
theorem chk_b2s {x : NOpd} {v : Value} (hs : b2sN H (x.evF T) = some v) (hd : Tf d = v) : chkF1 (.b2s x) d Tf T H := by
  refine ⟨H, ?_⟩
  simp only [NOp.sub, eop, ev_subF, hs, Option.map_some, hd]
end
theorem RdS.cut {H : AHeap} {es : Nat} {a : Option Addr} {l c : Nat} {xs : List Value} {r : List Nat} (h : RdS H es (.slice a l c) xs r) (hl : 0 < l) : ∃ b off cs e ro, a = some ⟨b, off, none⟩ ∧ H.get b = .cells cs e ro ∧ off + l * es ≤ cs.length ∧ (cs.drop off).take (l * es) = xs := by
  cases h with
  | nil => omega
  | empty a => omega
  | blk hg hc he hl => exact ⟨_, _, _, _, _, rfl, hg, hc, rfl⟩
def fld (l : List Int) (a n : Nat) : Int := valB ((l.drop a).take n)
def nmL (l : List Int) : Nat := (fld l 24 2).toNat
def dtL (l : List Int) : Nat := (fld l 26 2).toNat
def allL (l : List Int) : Nat := 28 + nmL l + dtL l
def at0 (l : List Int) (i : Nat) : Int := l.getD i 0
def badF (l : List Int) : Prop := l.length < 28 ∨ 1 < at0 l 2 ∨ at0 l 3 ≠ 0 ∨ fld l 4 4 ≠ allL l ∨ l.length < allL l ∨ ¬ (at0 l 2 = 1 ↔ allL l < l.length)
instance (l : List Int) : Decidable (badF l) := by unfold badF; infer_instance
def byS (l : List Int) : ByteArray := ⟨⟨l.map fun n => UInt8.ofNat n.toNat⟩⟩
def fstP (l : List Int) : Pt := ⟨fld l 0 2, IntKind.i32.wrap (fld l 8 4), IntKind.i64.wrap (fld l 12 8), fld l 20 4, byS ((l.drop 28).take (nmL l)), (l.drop (28 + nmL l)).take (dtL l)⟩
def Byt (l : List Int) : Prop := ∀ b ∈ l, 0 ≤ b ∧ b ≤ 255
theorem Byt.drop {l : List Int} (h : Byt l) (n : Nat) : Byt (l.drop n) := fun b hb => h b (List.mem_of_mem_drop hb)
theorem Byt.take {l : List Int} (h : Byt l) (n : Nat) : Byt (l.take n) := fun b hb => h b (List.mem_of_mem_take hb)
theorem fld_b {l : List Int} (h : Byt l) (a n : Nat) : 0 ≤ fld l a n ∧ fld l a n < 256 ^ n := by
  have h1 := valB_b ((l.drop a).take n) ((h.drop a).take n)
  refine ⟨h1.1, Int.lt_of_lt_of_le h1.2 ?_⟩
  rw [List.length_take]
  obtain ⟨d, hd⟩ : ∃ d, n = min n (l.drop a).length + d := ⟨n - min n (l.drop a).length, by omega⟩
  have hp : (256 : Int) ^ n = 256 ^ min n (l.drop a).length * 256 ^ d := by rw [← Int.pow_add, ← hd]
  rw [hp]
  have h2 := p256 d
  have h3 := p256 (min n (l.drop a).length)
  have := Int.mul_le_mul_of_nonneg_left (show (1 : Int) ≤ 256 ^ d by omega) (Int.le_of_lt h3)
  rwa [Int.mul_one] at this
theorem fld2 {l : List Int} (h : Byt l) (a : Nat) : 0 ≤ fld l a 2 ∧ fld l a 2 ≤ 65535 := by have := fld_b h a 2; simp at this; omega
theorem fld4 {l : List Int} (h : Byt l) (a : Nat) : 0 ≤ fld l a 4 ∧ fld l a 4 ≤ 4294967295 := by have := fld_b h a 4; simp at this; omega
theorem fld8 {l : List Int} (h : Byt l) (a : Nat) : 0 ≤ fld l a 8 ∧ fld l a 8 ≤ 18446744073709551615 := by have := fld_b h a 8; simp at this; omega
theorem wi32 (x : Int) : -2147483648 ≤ IntKind.i32.wrap x ∧ IntKind.i32.wrap x ≤ 2147483647 := by
  unfold IntKind.wrap
  simp only [IntKind.bits, IntKind.signed]
  simp
  split <;> omega
theorem wi64 (x : Int) : -9223372036854775808 ≤ IntKind.i64.wrap x ∧ IntKind.i64.wrap x ≤ 9223372036854775807 := by
  unfold IntKind.wrap
  simp only [IntKind.bits, IntKind.signed]
  simp
  split <;> omega
theorem wi64_id {x : Int} (h : -9223372036854775808 ≤ x) (h2 : x ≤ 9223372036854775807) : IntKind.i64.wrap x = x := by
  unfold IntKind.wrap
  simp only [IntKind.bits, IntKind.signed]
  simp
  split <;> omega
theorem byS_size (l : List Int) : (byS l).size = l.length := by simp [byS, ByteArray.size]
theorem fstN {l : List Int} (h : Byt l) (hl : l.length ≤ 1000000000) : PtN (fstP l) where
  kind := by have := fld2 h 0; unfold fstP I64; simp only; omega
  hnd := by have := wi32 (fld l 8 4); unfold fstP I64; simp only; omega
  off := wi64 _
  cnt := by have := fld4 h 20; unfold fstP I64; simp only; omega
  name := by unfold fstP; simp only [byS_size, List.length_take, List.length_drop]; omega
  data := by unfold fstP; simp only [List.length_take, List.length_drop]; omega
  byte := (h.drop _).take _
theorem sub28 {H : AHeap} {p a n c : Nat} {l : List Int} (hg : H.get p = .cells (u8s (l.take 28)) 0 false) (h : a + n ≤ 28) (hl : 28 ≤ l.length) (hc : n ≤ c) : RdS H 1 (.slice (some ⟨p, a, none⟩) n c) (u8s ((l.drop a).take n)) [p] := by
  have h1 := RdS.blk (es := 1) (off := a) (l := n) (c := c) hg (by unfold u8s; rw [List.length_map, List.length_take]; omega) (.inl rfl) hc
  have e : ((u8s (l.take 28)).drop a).take (n * 1) = u8s ((l.drop a).take n) := by
    unfold u8s
    rw [Nat.mul_one, ← List.map_drop, ← List.map_take, List.drop_take, List.take_take, Nat.min_eq_left (by omega)]
  rwa [e] at h1
theorem g28 {l : List Int} {i : Nat} (h : i < 28) (hl : 28 ≤ l.length) : (u8s (l.take 28))[i]? = some (.int .u8 (at0 l i)) := by
  unfold u8s at0
  rw [List.getElem?_map, List.getElem?_take, if_pos h, List.getD_eq_getElem?_getD, List.getElem?_eq_getElem (by omega)]
  rfl
theorem at0_b {l : List Int} (h : Byt l) (i : Nat) : 0 ≤ at0 l i ∧ at0 l i ≤ 255 := by
  unfold at0
  rw [List.getD_eq_getElem?_getD]
  cases hx : l[i]? with
  | none => simp
  | some x => exact h x (List.mem_of_getElem? hx)
def z6 : List Value := [.int .i64 0, .int .i64 0, .int .i64 0, .int .i64 0, .string ⟨#[]⟩, .slice none 0 0]
section
variable {B H : AHeap} {As : List Asn}
theorem L46 {v : Value} {l : List Int} (hd : RD B As 1 v (u8s l)) (hb : Byt l) (hl : l.length ≤ 1000000) (hS : S B H As) : wpF C 46 [v] H fun w H' =>
    (badF l ∧ w = .tuple ⟨[.agg ⟨z6⟩, .int .i64 0]⟩ ∧ S B H' As) ∨ (¬ badF l ∧ ∃ x : PX, x.1 = fstP l ∧ w = .tuple ⟨[.agg ⟨rowP x⟩, .int .i64 (allL l)]⟩ ∧ S B H' (sl 1 x.sv (u8s x.1.data) :: As)) := by
  obtain ⟨r, hr, _⟩ := hd _ hS
  obtain ⟨a, c, rfl⟩ := hr.u1
  refine wpF_ofW o46 rfl rfl ?_
  refine zsr ?_; refine wpO_cons ?_; refine op1_allocS rfl hS ?_; intro p1 H1 hS; refine zw1 ?_; refine zns ?_; refine wp_seq ?_; refine zsr ?_; refine zw1 ?_; refine wpO_cons ?_; refine op1_len rfl rfl ?_; refine wpO_cons ?_; refine op1_lss rfl rfl rfl ?_; refine zns ?_
  refine wp_dec rfl (fun h1 => ?_) (fun h1 => ?_)
  · refine zsr ?_; refine wpO_cons ?_; refine op1_build rfl ?_; refine bk_nil ?_; refine wpO_cons ?_; (refine op1_storeNS rfl rfl (by (conv => lhs; whnf) <;> rfl) rfl rfl (S.up0 hS) (Nat.le_of_ble_eq_true rfl) ?_; intro H2 hS; replace hS := S.dn0 hS); refine zw1 ?_; refine zns ?_; refine wp_ret ?_; refine seq_ret ?_; refine ret_of ?_; refine rk_cellN rfl (by exact S.g0 hS) rfl rfl ?_; refine zr ?_; refine rk_nil ?_
    exact .inl ⟨.inl (by omega), rfl, S.drop hS⟩
  refine wp_skip ?_; refine seq_normal ?_; refine zsr ?_; refine zw1 ?_; refine wpO_cons ?_
  obtain ⟨b, off, cs, e, ro, rfl, _, hg, hcl, hcj⟩ := hr.at (i := 0) (by omega)
  have hd1 : RD B (pto p1 (.cells z6 0 false) :: As) 1 (.slice (some ⟨b, off, none⟩) l.length c) (u8s l) := hd.cons
  have hS : S B H1 (pto p1 (.cells z6 0 false) :: As) := hS
  obtain ⟨r1, hr1, _⟩ := hd1 _ hS
  refine op1_sliceD rfl rfl hd1 hS (bnds_hi (by decide) (by have := hr.le_cap; omega)) (by decide) (by rw [show (28 : Int).toNat = 28 from rfl]; omega) ?_
  intro a' c' hd2 _
  have hd2 : RD B (pto p1 (.cells z6 0 false) :: As) 1 (.slice a' 28 c') (u8s (l.take 28)) := by
    rw [show u8s (l.take 28) = (u8s l).take 28 from by unfold u8s; rw [List.map_take]]
    exact hd2
  obtain ⟨r2, hr2, _⟩ := hd2 _ hS
  obtain ⟨b2, off2, cs2, e2, ro2, rfl, hg2, hcl2, hrow2⟩ := RdS.cut hr2 (by decide)
  refine wpO_cons ?_
  refine op1_s2ap rfl rfl (by decide) ?_
  refine wpO_cons ?_
  refine op1_loadN (vs := u8s (l.take 28)) rfl rfl hg2 hcl2 hrow2 ?_
  refine wpO_cons ?_; refine op1_allocS rfl hS ?_; intro p2 H2 hS; refine wpO_cons ?_
  refine op1_storeNS rfl rfl rfl (by unfold u8s; rw [List.length_map, List.length_take]; omega) (u8s_one _) hS (by decide) ?_
  clear hS
  intro H3 hS
  have hS : S B H3 (pto p2 (.cells (u8s (l.take 28)) 0 false) :: pto p1 (.cells z6 0 false) :: As) := by simpa using hS
  refine zns ?_; refine wp_seq ?_; refine wp_regionD ?_; refine wpD_cons ?_
  refine op1_sliceArr (i := 24) (h := 26) (m := 28) rfl rfl rfl (S.up0 hS).get ?_
  refine wpD_cons ?_
  refine op1_sliceArr (i := 26) (h := 28) (m := 28) rfl rfl rfl (S.up0 hS).get ?_
  refine wpD_cons ?_; refine op1_call1 rfl (by (conv => lhs; whnf) <;> rfl) ?_
  have b24 := fld2 hb 24
  have b26 := fld2 hb 26
  have b4 := fld4 hb 4
  have b0 := fld2 hb 0
  have b8 := fld4 hb 8
  have b20 := fld4 hb 20
  have v24 : IntKind.i64.wrap (valB ((l.drop 24).take 2)) = (nmL l : Int) := by unfold nmL; rw [wi64_id (by unfold fld at b24; omega) (by unfold fld at b24; omega)]; unfold fld at b24 ⊢; omega
  have v26 : IntKind.i64.wrap (valB ((l.drop 26).take 2)) = (dtL l : Int) := by unfold dtL; rw [wi64_id (by unfold fld at b26; omega) (by unfold fld at b26; omega)]; unfold fld at b26 ⊢; omega
  have v4 : IntKind.i64.wrap (valB ((l.drop 4).take 4)) = fld l 4 4 := wi64_id (by unfold fld at b4; omega) (by unfold fld at b4; omega)
  have v0 : IntKind.i64.wrap (valB ((l.drop 0).take 2)) = fld l 0 2 := wi64_id (by unfold fld at b0; omega) (by unfold fld at b0; omega)
  have v8 : IntKind.i64.wrap (valB ((l.drop 8).take 4)) = fld l 8 4 := wi64_id (by unfold fld at b8; omega) (by unfold fld at b8; omega)
  have v20 : IntKind.i64.wrap (valB ((l.drop 20).take 4)) = fld l 20 4 := wi64_id (by unfold fld at b20; omega) (by unfold fld at b20; omega)
  have hnm : nmL l ≤ 65535 := by unfold nmL; omega
  have hdt : dtL l ≤ 65535 := by unfold dtL; omega
  have hal : (allL l : Int) = 28 + (nmL l : Int) + dtL l := by unfold allL; omega
  refine wpF_mono (L48 (sub28 (a := 24) (n := 2) (S.up0 hS).get (by decide) (by omega) (by decide)) ((hb.drop _).take _) (by rw [List.length_take]; omega)) ?_
  rintro _ _ ⟨rfl, rfl⟩
  rw [v24]
  refine wpD_cons ?_; refine op1_call1 rfl (by (conv => lhs; whnf) <;> rfl) ?_
  refine wpF_mono (L48 (sub28 (a := 26) (n := 2) (S.up0 hS).get (by decide) (by omega) (by decide)) ((hb.drop _).take _) (by rw [List.length_take]; omega)) ?_
  rintro _ _ ⟨rfl, rfl⟩
  rw [v26]
  refine zd1 ?_; refine zd1 ?_; refine wpD_nil ?_; refine dk_of ?_ ?_; refine zx 6 ?_ ?_; refine zy 4 ?_ ?_
  · exact chk_sliceArr (i := 24) (h := 26) (m := 28) rfl rfl hS.get rfl
  exact chkFs_nil; refine zx 5 ?_ ?_; refine zy 4 ?_ ?_
  · exact chk_sliceArr (i := 26) (h := 28) (m := 28) rfl rfl hS.get rfl
  refine zy 3 ?_ ?_
  · exact chk_sliceArr (i := 26) (h := 28) (m := 28) rfl rfl hS.get rfl
  exact chkFs_nil; (iterate 4 refine chk_skip ?_); exact chk_end; refine seq_normal ?_
  refine zsr ?_; refine zw1 ?_; refine wpO_cons ?_; refine op1_add rfl rfl rfl (by exact wrap_i64 (by omega) (by omega)) ?_; refine zw1 ?_; refine wpO_cons ?_; refine op1_add rfl rfl rfl (by exact wrap_i64 (by omega) (by omega)) ?_; refine zw1 ?_; refine zns ?_; refine wp_seq ?_
  have a2 := at0_b hb 2
  have a3 := at0_b hb 3
  have hl28 : 28 ≤ l.length := by omega
  have hF : badF l ↔ (1 < at0 l 2 ∨ at0 l 3 ≠ 0 ∨ fld l 4 4 ≠ 28 + (nmL l : Int) + dtL l ∨ (l.length : Int) < 28 + (nmL l : Int) + dtL l ∨ ¬ (at0 l 2 = 1 ↔ 28 + (nmL l : Int) + dtL l < (l.length : Int))) := by
    unfold badF
    rw [hal]
    constructor
    · rintro (h | h | h | h | h | h)
      · omega
      · exact .inl h
      · exact .inr (.inl h)
      · exact .inr (.inr (.inl h))
      · exact .inr (.inr (.inr (.inl (by omega))))
      · exact .inr (.inr (.inr (.inr fun h2 => h (h2.trans (by omega)))))
    · rintro (h | h | h | h | h)
      · exact .inr (.inl h)
      · exact .inr (.inr (.inl h))
      · exact .inr (.inr (.inr (.inl h)))
      · exact .inr (.inr (.inr (.inr (.inl (by omega)))))
      · exact .inr (.inr (.inr (.inr (.inr fun h2 => h (h2.trans (by omega))))))
  refine wp_cut [53] (fun vs H' => vs = [.bool (decide (badF l))] ∧ H3 = H') ?_ ?_
  · refine wp_region ?_; refine wpO_cons ?_; refine op1_iaddrArr rfl rfl rfl (by omega) (by omega) ?_; refine wpO_cons ?_
    refine op1_load rfl rfl hS.get (g28 (i := 2) (by decide) hl28) ?_
    refine wpO_cons ?_; refine op1_gtr rfl rfl rfl ?_; refine zw1 ?_; refine wpO_cons ?_
    refine op1_dec rfl (fun h2 => ?_) (fun h2 => ?_)
    · refine op1_skip rfl ?_; refine zk ?_; refine zk ?_; refine zt ?_; refine zw1 ?_; (iterate 4 refine zk ?_); refine zt ?_; refine zw1 ?_; (iterate 4 refine zk ?_); refine zt ?_; refine zw1 ?_; (iterate 8 refine zk ?_); refine zt ?_; refine wpO_nil ?_; refine cut1 (by (conv => lhs; whnf) <;> rfl) ?_
      exact ⟨by rw [decide_eq_true (hF.2 (.inl h2))], rfl⟩
    refine op1_iaddrArr rfl rfl rfl (by omega) (by omega) ?_; refine wpO_cons ?_
    refine op1_load rfl rfl hS.get (g28 (i := 3) (by decide) hl28) ?_
    refine wpO_cons ?_; refine op1_neqI rfl rfl rfl ?_; refine zu ?_; refine zw1 ?_; refine wpO_cons ?_
    refine op1_ndec rfl (fun h3 => ?_) (fun h3 => ?_)
    · refine op1_skip rfl ?_; (iterate 3 refine zk ?_); refine zt ?_; refine zw1 ?_; (iterate 4 refine zk ?_); refine zt ?_; refine zw1 ?_; (iterate 8 refine zk ?_); refine zt ?_; refine wpO_nil ?_; refine cut1 (by (conv => lhs; whnf) <;> rfl) ?_
      exact ⟨by rw [decide_eq_true (hF.2 (.inr (.inl h3)))], rfl⟩
    skip
    refine op1_sliceArr (i := 4) (h := 8) (m := 28) rfl rfl rfl (S.up0 hS).get ?_
    refine wpO_cons ?_; refine op1_call1 rfl (by (conv => lhs; whnf) <;> rfl) ?_
    refine wpF_mono (L48 (sub28 (a := 4) (n := 4) (S.up0 hS).get (by decide) (by omega) (by decide)) ((hb.drop _).take _) (by rw [List.length_take]; omega)) ?_
    rintro _ _ ⟨rfl, rfl⟩
    rw [v4]
    refine zw1 ?_; refine wpO_cons ?_; refine op1_neqI rfl rfl rfl ?_; refine zu ?_; refine zw1 ?_; refine wpO_cons ?_
    refine op1_ndec rfl (fun h4 => ?_) (fun h4 => ?_)
    · refine op1_skip rfl ?_; (iterate 3 refine zk ?_); refine zt ?_; refine zw1 ?_; (iterate 8 refine zk ?_); refine zt ?_; refine wpO_nil ?_; refine cut1 (by (conv => lhs; whnf) <;> rfl) ?_
      exact ⟨by rw [decide_eq_true (hF.2 (.inr (.inr (.inl h4))))], rfl⟩
    refine op1_mov rfl (by (conv => lhs; whnf) <;> rfl) ?_; refine wpO_cons ?_; refine op1_len rfl rfl ?_; refine zw1 ?_; refine wpO_cons ?_; refine op1_lss rfl rfl rfl ?_; refine zu ?_; refine zw1 ?_; refine wpO_cons ?_
    refine op1_dec rfl (fun h5 => ?_) (fun h5 => ?_)
    · refine op1_skip rfl ?_; (iterate 7 refine zk ?_); refine zt ?_; refine wpO_nil ?_; refine cut1 (by (conv => lhs; whnf) <;> rfl) ?_
      exact ⟨by rw [decide_eq_true (hF.2 (.inr (.inr (.inr (.inl h5)))))], rfl⟩
    refine op1_iaddrArr rfl rfl rfl (by omega) (by omega) ?_; refine wpO_cons ?_
    refine op1_load rfl rfl hS.get (g28 (i := 2) (by decide) hl28) ?_
    refine wpO_cons ?_; refine op1_eqlI rfl rfl rfl ?_; refine zw1 ?_; refine wpO_cons ?_; refine op1_len rfl rfl ?_; refine zw1 ?_; refine wpO_cons ?_; refine op1_gtr rfl rfl rfl ?_; refine wpO_cons ?_; refine op1_neqB rfl rfl rfl rfl ?_; refine zu ?_; refine wpO_nil ?_; refine cut1 (by (conv => lhs; whnf) <;> rfl) ?_
    refine ⟨bool_leaf ?_, rfl⟩
    rw [hF]
    by_cases x1 : at0 l 2 = 1 <;> by_cases x2 : 28 + (nmL l : Int) + dtL l < (l.length : Int) <;> simp [x1, x2, h3, h4, h5, h2]
  rintro vs T4 H4 ⟨rfl, rfl⟩
  refine wp_dec rfl (fun hbad => ?_) (fun hbad => ?_)
  · refine zsr ?_; refine wpO_cons ?_; refine op1_build rfl ?_; refine bk_nil ?_; refine wpO_cons ?_; (refine op1_storeNS rfl rfl (by (conv => lhs; whnf) <;> rfl) rfl rfl (S.up1 hS) (Nat.le_of_ble_eq_true rfl) ?_; intro H4 hS; replace hS := S.dn1 hS); refine zw1 ?_; refine zns ?_; refine wp_ret ?_; refine seq_ret ?_; refine ret_of ?_; refine rk_cellN rfl (by exact S.g1 hS) rfl rfl ?_; refine zr ?_; refine rk_nil ?_
    exact .inl ⟨hbad, rfl, S.drop (S.drop hS)⟩
  clear hF
  have hnl : 28 + (nmL l : Int) + dtL l ≤ l.length := by unfold badF at hbad; omega
  have hcap : l.length ≤ c := hr.le_cap
  refine wp_skip ?_; refine seq_normal ?_; refine wp_seq ?_; refine wp_regionD ?_; refine wpD_cons ?_
  refine op1_sliceArr (i := 0) (h := 2) (m := 28) rfl rfl rfl (S.up0 hS).get ?_
  refine wpD_cons ?_
  refine op1_sliceArr (i := 8) (h := 12) (m := 28) rfl rfl rfl (S.up0 hS).get ?_
  refine wpD_cons ?_
  refine op1_sliceArr (i := 12) (h := 20) (m := 28) rfl rfl rfl (S.up0 hS).get ?_
  refine wpD_cons ?_
  refine op1_sliceArr (i := 20) (h := 24) (m := 28) rfl rfl rfl (S.up0 hS).get ?_
  refine zd1 ?_; refine zd1 ?_; refine wpD_cons ?_; refine op1_add rfl rfl rfl (by exact wrap_i64 (by omega) (by omega)) ?_; refine wpD_cons ?_
  have w8 := wi32 (fld l 8 4)
  refine op1_sliceD rfl rfl hd.cons.cons hS (bnds_both (by decide) (by omega) (by omega)) (by omega) (by omega) ?_
  rw [show (28 : Int).toNat = 28 from rfl, show (28 + (nmL l : Int)).toNat = 28 + nmL l by omega, Nat.add_sub_cancel_left, Nat.mul_one, Nat.mul_one]
  intro a5 c5 hd5 hck5
  rw [show ((u8s l).drop 28).take (nmL l) = u8s ((l.drop 28).take (nmL l)) from by unfold u8s; rw [← List.map_drop, ← List.map_take]] at hd5
  obtain ⟨r5, hr5, _⟩ := hd5 _ hS
  have hl5 : ((l.drop 28).take (nmL l)).length = nmL l := by rw [List.length_take, List.length_drop]; omega
  refine wpD_cons ?_
  refine op1_b2s rfl (by (conv => lhs; whnf) <;> rfl) hr5.b2sU ?_
  refine zd1 ?_; refine zd1 ?_; refine wpD_cons ?_; refine op1_add rfl rfl rfl (by exact wrap_i64 (by omega) (by omega)) ?_; refine zd1 ?_; refine wpD_cons ?_
  refine op1_sliceD rfl rfl hd.cons.cons hS (bnds_both (by omega) (by omega) (by omega)) (by omega) (by omega) ?_
  rw [show (28 + (nmL l : Int)).toNat = 28 + nmL l by omega, show (28 + (nmL l : Int) + (dtL l : Int)).toNat = 28 + nmL l + dtL l by omega, Nat.add_sub_cancel_left, Nat.mul_one, Nat.mul_one]
  intro a6 c6 hd6 hck6
  rw [show ((u8s l).drop (28 + nmL l)).take (dtL l) = u8s ((l.drop (28 + nmL l)).take (dtL l)) from by unfold u8s; rw [← List.map_drop, ← List.map_take]] at hd6
  obtain ⟨r6, hr6, _⟩ := hd6 _ hS
  have hl6 : ((l.drop (28 + nmL l)).take (dtL l)).length = dtL l := by rw [List.length_take, List.length_drop]; omega
  refine zd1 ?_; refine wpD_cons ?_; refine op1_call1 rfl (by (conv => lhs; whnf) <;> rfl) ?_
  refine wpF_mono (L48 (sub28 (a := 0) (n := 2) (S.up0 hS).get (by decide) (by omega) (by decide)) ((hb.drop _).take _) (by rw [List.length_take]; omega)) ?_
  rintro _ _ ⟨rfl, rfl⟩
  rw [v0]
  refine wpD_cons ?_; refine op1_call1 rfl (by (conv => lhs; whnf) <;> rfl) ?_
  refine wpF_mono (L48 (sub28 (a := 8) (n := 4) (S.up0 hS).get (by decide) (by omega) (by decide)) ((hb.drop _).take _) (by rw [List.length_take]; omega)) ?_
  rintro _ _ ⟨rfl, rfl⟩
  rw [v8]
  refine wpD_cons ?_
  refine op1_convIntW rfl rfl ?_
  refine wpD_cons ?_; refine op1_convInt rfl rfl (by exact wrap_i64 (by omega) (by omega)) ?_; refine wpD_cons ?_; refine op1_call1 rfl (by (conv => lhs; whnf) <;> rfl) ?_
  refine wpF_mono (L48 (sub28 (a := 12) (n := 8) (S.up0 hS).get (by decide) (by omega) (by decide)) ((hb.drop _).take _) (by rw [List.length_take]; omega)) ?_
  rintro _ _ ⟨rfl, rfl⟩
  rw [show valB ((l.drop 12).take 8) = fld l 12 8 from rfl]
  refine wpD_cons ?_; refine op1_call1 rfl (by (conv => lhs; whnf) <;> rfl) ?_
  refine wpF_mono (L48 (sub28 (a := 20) (n := 4) (S.up0 hS).get (by decide) (by omega) (by decide)) ((hb.drop _).take _) (by rw [List.length_take]; omega)) ?_
  rintro _ _ ⟨rfl, rfl⟩
  rw [v20]
  refine wpD_cons ?_
  have hT := hS
  refine op1_appN rfl rfl rfl rfl hr6 (by unfold u8s; rw [List.length_map, hl6, Nat.mul_one]) (u8s_one _) hS (by omega) ?_
  clear hS
  intro a7 c7 H7 hS
  have hT7 := hS
  obtain ⟨r57, hr57, _⟩ := hd5 _ (S.drop hS)
  refine wpD_cons ?_; refine op1_build rfl ?_; refine bk_one (by (conv => lhs; whnf) <;> rfl) rfl rfl rfl ?_; refine bk_one (by (conv => lhs; whnf) <;> rfl) rfl rfl rfl ?_; refine bk_one (by (conv => lhs; whnf) <;> rfl) rfl rfl rfl ?_; refine bk_one (by (conv => lhs; whnf) <;> rfl) rfl rfl rfl ?_; refine bk_one (by (conv => lhs; whnf) <;> rfl) rfl rfl rfl ?_; refine bk_one (by (conv => lhs; whnf) <;> rfl) rfl rfl rfl ?_; refine bk_nil ?_; refine wpD_cons ?_; (refine op1_storeNS rfl rfl (by (conv => lhs; whnf) <;> rfl) rfl rfl (S.up2 hS) (Nat.le_of_ble_eq_true rfl) ?_; intro H4 hS; replace hS := S.dn2 hS); refine zd1 ?_; refine wpD_nil ?_; refine dk_of ?_ ?_; refine zx 25 ?_ ?_; refine zy 10 ?_ ?_
  · first | exact chk_sliceArr (i := 0) (h := 2) (m := 28) rfl rfl hT.get rfl | exact chk_sliceArr (i := 8) (h := 12) (m := 28) rfl rfl hT.get rfl | exact chk_sliceArr (i := 12) (h := 20) (m := 28) rfl rfl hT.get rfl | exact chk_sliceArr (i := 20) (h := 24) (m := 28) rfl rfl hT.get rfl | exact hck5 _ _ hT rfl | exact hck5 _ _ (S.drop hT7) rfl | exact hck6 _ _ hT rfl | exact hck6 _ _ (S.drop hT7) rfl | exact chk_b2s hr5.b2sU rfl | exact chk_b2s hr57.b2sU rfl
  exact chkFs_nil; refine zx 24 ?_ ?_; refine zy 10 ?_ ?_
  · first | exact chk_sliceArr (i := 0) (h := 2) (m := 28) rfl rfl hT.get rfl | exact chk_sliceArr (i := 8) (h := 12) (m := 28) rfl rfl hT.get rfl | exact chk_sliceArr (i := 12) (h := 20) (m := 28) rfl rfl hT.get rfl | exact chk_sliceArr (i := 20) (h := 24) (m := 28) rfl rfl hT.get rfl | exact hck5 _ _ hT rfl | exact hck5 _ _ (S.drop hT7) rfl | exact hck6 _ _ hT rfl | exact hck6 _ _ (S.drop hT7) rfl | exact chk_b2s hr5.b2sU rfl | exact chk_b2s hr57.b2sU rfl
  refine zy 9 ?_ ?_
  · first | exact chk_sliceArr (i := 0) (h := 2) (m := 28) rfl rfl hT.get rfl | exact chk_sliceArr (i := 8) (h := 12) (m := 28) rfl rfl hT.get rfl | exact chk_sliceArr (i := 12) (h := 20) (m := 28) rfl rfl hT.get rfl | exact chk_sliceArr (i := 20) (h := 24) (m := 28) rfl rfl hT.get rfl | exact hck5 _ _ hT rfl | exact hck5 _ _ (S.drop hT7) rfl | exact hck6 _ _ hT rfl | exact hck6 _ _ (S.drop hT7) rfl | exact chk_b2s hr5.b2sU rfl | exact chk_b2s hr57.b2sU rfl
  exact chkFs_nil; refine zx 23 ?_ ?_; refine zy 10 ?_ ?_
  · first | exact chk_sliceArr (i := 0) (h := 2) (m := 28) rfl rfl hT.get rfl | exact chk_sliceArr (i := 8) (h := 12) (m := 28) rfl rfl hT.get rfl | exact chk_sliceArr (i := 12) (h := 20) (m := 28) rfl rfl hT.get rfl | exact chk_sliceArr (i := 20) (h := 24) (m := 28) rfl rfl hT.get rfl | exact hck5 _ _ hT rfl | exact hck5 _ _ (S.drop hT7) rfl | exact hck6 _ _ hT rfl | exact hck6 _ _ (S.drop hT7) rfl | exact chk_b2s hr5.b2sU rfl | exact chk_b2s hr57.b2sU rfl
  refine zy 9 ?_ ?_
  · first | exact chk_sliceArr (i := 0) (h := 2) (m := 28) rfl rfl hT.get rfl | exact chk_sliceArr (i := 8) (h := 12) (m := 28) rfl rfl hT.get rfl | exact chk_sliceArr (i := 12) (h := 20) (m := 28) rfl rfl hT.get rfl | exact chk_sliceArr (i := 20) (h := 24) (m := 28) rfl rfl hT.get rfl | exact hck5 _ _ hT rfl | exact hck5 _ _ (S.drop hT7) rfl | exact hck6 _ _ hT rfl | exact hck6 _ _ (S.drop hT7) rfl | exact chk_b2s hr5.b2sU rfl | exact chk_b2s hr57.b2sU rfl
  refine zy 6 ?_ ?_
  · first | exact chk_sliceArr (i := 0) (h := 2) (m := 28) rfl rfl hT.get rfl | exact chk_sliceArr (i := 8) (h := 12) (m := 28) rfl rfl hT.get rfl | exact chk_sliceArr (i := 12) (h := 20) (m := 28) rfl rfl hT.get rfl | exact chk_sliceArr (i := 20) (h := 24) (m := 28) rfl rfl hT.get rfl | exact hck5 _ _ hT rfl | exact hck5 _ _ (S.drop hT7) rfl | exact hck6 _ _ hT rfl | exact hck6 _ _ (S.drop hT7) rfl | exact chk_b2s hr5.b2sU rfl | exact chk_b2s hr57.b2sU rfl
  exact chkFs_nil; refine zx 22 ?_ ?_; refine zy 10 ?_ ?_
  · first | exact chk_sliceArr (i := 0) (h := 2) (m := 28) rfl rfl hT.get rfl | exact chk_sliceArr (i := 8) (h := 12) (m := 28) rfl rfl hT.get rfl | exact chk_sliceArr (i := 12) (h := 20) (m := 28) rfl rfl hT.get rfl | exact chk_sliceArr (i := 20) (h := 24) (m := 28) rfl rfl hT.get rfl | exact hck5 _ _ hT rfl | exact hck5 _ _ (S.drop hT7) rfl | exact hck6 _ _ hT rfl | exact hck6 _ _ (S.drop hT7) rfl | exact chk_b2s hr5.b2sU rfl | exact chk_b2s hr57.b2sU rfl
  refine zy 9 ?_ ?_
  · first | exact chk_sliceArr (i := 0) (h := 2) (m := 28) rfl rfl hT.get rfl | exact chk_sliceArr (i := 8) (h := 12) (m := 28) rfl rfl hT.get rfl | exact chk_sliceArr (i := 12) (h := 20) (m := 28) rfl rfl hT.get rfl | exact chk_sliceArr (i := 20) (h := 24) (m := 28) rfl rfl hT.get rfl | exact hck5 _ _ hT rfl | exact hck5 _ _ (S.drop hT7) rfl | exact hck6 _ _ hT rfl | exact hck6 _ _ (S.drop hT7) rfl | exact chk_b2s hr5.b2sU rfl | exact chk_b2s hr57.b2sU rfl
  refine zy 6 ?_ ?_
  · first | exact chk_sliceArr (i := 0) (h := 2) (m := 28) rfl rfl hT.get rfl | exact chk_sliceArr (i := 8) (h := 12) (m := 28) rfl rfl hT.get rfl | exact chk_sliceArr (i := 12) (h := 20) (m := 28) rfl rfl hT.get rfl | exact chk_sliceArr (i := 20) (h := 24) (m := 28) rfl rfl hT.get rfl | exact hck5 _ _ hT rfl | exact hck5 _ _ (S.drop hT7) rfl | exact hck6 _ _ hT rfl | exact hck6 _ _ (S.drop hT7) rfl | exact chk_b2s hr5.b2sU rfl | exact chk_b2s hr57.b2sU rfl
  refine zy 5 ?_ ?_
  · first | exact chk_sliceArr (i := 0) (h := 2) (m := 28) rfl rfl hT.get rfl | exact chk_sliceArr (i := 8) (h := 12) (m := 28) rfl rfl hT.get rfl | exact chk_sliceArr (i := 12) (h := 20) (m := 28) rfl rfl hT.get rfl | exact chk_sliceArr (i := 20) (h := 24) (m := 28) rfl rfl hT.get rfl | exact hck5 _ _ hT rfl | exact hck5 _ _ (S.drop hT7) rfl | exact hck6 _ _ hT rfl | exact hck6 _ _ (S.drop hT7) rfl | exact chk_b2s hr5.b2sU rfl | exact chk_b2s hr57.b2sU rfl
  exact chkFs_nil; (iterate 3 refine chk_skip ?_); refine zx 18 ?_ ?_; refine zy 10 ?_ ?_
  · first | exact chk_sliceArr (i := 0) (h := 2) (m := 28) rfl rfl hT.get rfl | exact chk_sliceArr (i := 8) (h := 12) (m := 28) rfl rfl hT.get rfl | exact chk_sliceArr (i := 12) (h := 20) (m := 28) rfl rfl hT.get rfl | exact chk_sliceArr (i := 20) (h := 24) (m := 28) rfl rfl hT.get rfl | exact hck5 _ _ hT rfl | exact hck5 _ _ (S.drop hT7) rfl | exact hck6 _ _ hT rfl | exact hck6 _ _ (S.drop hT7) rfl | exact chk_b2s hr5.b2sU rfl | exact chk_b2s hr57.b2sU rfl
  refine zy 9 ?_ ?_
  · first | exact chk_sliceArr (i := 0) (h := 2) (m := 28) rfl rfl hT.get rfl | exact chk_sliceArr (i := 8) (h := 12) (m := 28) rfl rfl hT.get rfl | exact chk_sliceArr (i := 12) (h := 20) (m := 28) rfl rfl hT.get rfl | exact chk_sliceArr (i := 20) (h := 24) (m := 28) rfl rfl hT.get rfl | exact hck5 _ _ hT rfl | exact hck5 _ _ (S.drop hT7) rfl | exact hck6 _ _ hT rfl | exact hck6 _ _ (S.drop hT7) rfl | exact chk_b2s hr5.b2sU rfl | exact chk_b2s hr57.b2sU rfl
  refine zy 6 ?_ ?_
  · first | exact chk_sliceArr (i := 0) (h := 2) (m := 28) rfl rfl hT.get rfl | exact chk_sliceArr (i := 8) (h := 12) (m := 28) rfl rfl hT.get rfl | exact chk_sliceArr (i := 12) (h := 20) (m := 28) rfl rfl hT.get rfl | exact chk_sliceArr (i := 20) (h := 24) (m := 28) rfl rfl hT.get rfl | exact hck5 _ _ hT rfl | exact hck5 _ _ (S.drop hT7) rfl | exact hck6 _ _ hT rfl | exact hck6 _ _ (S.drop hT7) rfl | exact chk_b2s hr5.b2sU rfl | exact chk_b2s hr57.b2sU rfl
  refine zy 5 ?_ ?_
  · first | exact chk_sliceArr (i := 0) (h := 2) (m := 28) rfl rfl hT.get rfl | exact chk_sliceArr (i := 8) (h := 12) (m := 28) rfl rfl hT.get rfl | exact chk_sliceArr (i := 12) (h := 20) (m := 28) rfl rfl hT.get rfl | exact chk_sliceArr (i := 20) (h := 24) (m := 28) rfl rfl hT.get rfl | exact hck5 _ _ hT rfl | exact hck5 _ _ (S.drop hT7) rfl | exact hck6 _ _ hT rfl | exact hck6 _ _ (S.drop hT7) rfl | exact chk_b2s hr5.b2sU rfl | exact chk_b2s hr57.b2sU rfl
  refine zy 4 ?_ ?_
  · first | exact chk_sliceArr (i := 0) (h := 2) (m := 28) rfl rfl hT.get rfl | exact chk_sliceArr (i := 8) (h := 12) (m := 28) rfl rfl hT.get rfl | exact chk_sliceArr (i := 12) (h := 20) (m := 28) rfl rfl hT.get rfl | exact chk_sliceArr (i := 20) (h := 24) (m := 28) rfl rfl hT.get rfl | exact hck5 _ _ hT rfl | exact hck5 _ _ (S.drop hT7) rfl | exact hck6 _ _ hT rfl | exact hck6 _ _ (S.drop hT7) rfl | exact chk_b2s hr5.b2sU rfl | exact chk_b2s hr57.b2sU rfl
  refine zy 2 ?_ ?_
  · first | exact chk_sliceArr (i := 0) (h := 2) (m := 28) rfl rfl hT.get rfl | exact chk_sliceArr (i := 8) (h := 12) (m := 28) rfl rfl hT.get rfl | exact chk_sliceArr (i := 12) (h := 20) (m := 28) rfl rfl hT.get rfl | exact chk_sliceArr (i := 20) (h := 24) (m := 28) rfl rfl hT.get rfl | exact hck5 _ _ hT rfl | exact hck5 _ _ (S.drop hT7) rfl | exact hck6 _ _ hT rfl | exact hck6 _ _ (S.drop hT7) rfl | exact chk_b2s hr5.b2sU rfl | exact chk_b2s hr57.b2sU rfl
  exact chkFs_nil; refine zx 17 ?_ ?_; refine zy 10 ?_ ?_
  · first | exact chk_sliceArr (i := 0) (h := 2) (m := 28) rfl rfl hT.get rfl | exact chk_sliceArr (i := 8) (h := 12) (m := 28) rfl rfl hT.get rfl | exact chk_sliceArr (i := 12) (h := 20) (m := 28) rfl rfl hT.get rfl | exact chk_sliceArr (i := 20) (h := 24) (m := 28) rfl rfl hT.get rfl | exact hck5 _ _ hT rfl | exact hck5 _ _ (S.drop hT7) rfl | exact hck6 _ _ hT rfl | exact hck6 _ _ (S.drop hT7) rfl | exact chk_b2s hr5.b2sU rfl | exact chk_b2s hr57.b2sU rfl
  refine zy 9 ?_ ?_
  · first | exact chk_sliceArr (i := 0) (h := 2) (m := 28) rfl rfl hT.get rfl | exact chk_sliceArr (i := 8) (h := 12) (m := 28) rfl rfl hT.get rfl | exact chk_sliceArr (i := 12) (h := 20) (m := 28) rfl rfl hT.get rfl | exact chk_sliceArr (i := 20) (h := 24) (m := 28) rfl rfl hT.get rfl | exact hck5 _ _ hT rfl | exact hck5 _ _ (S.drop hT7) rfl | exact hck6 _ _ hT rfl | exact hck6 _ _ (S.drop hT7) rfl | exact chk_b2s hr5.b2sU rfl | exact chk_b2s hr57.b2sU rfl
  refine zy 6 ?_ ?_
  · first | exact chk_sliceArr (i := 0) (h := 2) (m := 28) rfl rfl hT.get rfl | exact chk_sliceArr (i := 8) (h := 12) (m := 28) rfl rfl hT.get rfl | exact chk_sliceArr (i := 12) (h := 20) (m := 28) rfl rfl hT.get rfl | exact chk_sliceArr (i := 20) (h := 24) (m := 28) rfl rfl hT.get rfl | exact hck5 _ _ hT rfl | exact hck5 _ _ (S.drop hT7) rfl | exact hck6 _ _ hT rfl | exact hck6 _ _ (S.drop hT7) rfl | exact chk_b2s hr5.b2sU rfl | exact chk_b2s hr57.b2sU rfl
  refine zy 5 ?_ ?_
  · first | exact chk_sliceArr (i := 0) (h := 2) (m := 28) rfl rfl hT.get rfl | exact chk_sliceArr (i := 8) (h := 12) (m := 28) rfl rfl hT.get rfl | exact chk_sliceArr (i := 12) (h := 20) (m := 28) rfl rfl hT.get rfl | exact chk_sliceArr (i := 20) (h := 24) (m := 28) rfl rfl hT.get rfl | exact hck5 _ _ hT rfl | exact hck5 _ _ (S.drop hT7) rfl | exact hck6 _ _ hT rfl | exact hck6 _ _ (S.drop hT7) rfl | exact chk_b2s hr5.b2sU rfl | exact chk_b2s hr57.b2sU rfl
  refine zy 4 ?_ ?_
  · first | exact chk_sliceArr (i := 0) (h := 2) (m := 28) rfl rfl hT.get rfl | exact chk_sliceArr (i := 8) (h := 12) (m := 28) rfl rfl hT.get rfl | exact chk_sliceArr (i := 12) (h := 20) (m := 28) rfl rfl hT.get rfl | exact chk_sliceArr (i := 20) (h := 24) (m := 28) rfl rfl hT.get rfl | exact hck5 _ _ hT rfl | exact hck5 _ _ (S.drop hT7) rfl | exact hck6 _ _ hT rfl | exact hck6 _ _ (S.drop hT7) rfl | exact chk_b2s hr5.b2sU rfl | exact chk_b2s hr57.b2sU rfl
  refine zy 2 ?_ ?_
  · first | exact chk_sliceArr (i := 0) (h := 2) (m := 28) rfl rfl hT.get rfl | exact chk_sliceArr (i := 8) (h := 12) (m := 28) rfl rfl hT.get rfl | exact chk_sliceArr (i := 12) (h := 20) (m := 28) rfl rfl hT.get rfl | exact chk_sliceArr (i := 20) (h := 24) (m := 28) rfl rfl hT.get rfl | exact hck5 _ _ hT rfl | exact hck5 _ _ (S.drop hT7) rfl | exact hck6 _ _ hT rfl | exact hck6 _ _ (S.drop hT7) rfl | exact chk_b2s hr5.b2sU rfl | exact chk_b2s hr57.b2sU rfl
  exact chkFs_nil; (iterate 4 refine chk_skip ?_); refine zx 12 ?_ ?_; refine zy 10 ?_ ?_
  · first | exact chk_sliceArr (i := 0) (h := 2) (m := 28) rfl rfl hT.get rfl | exact chk_sliceArr (i := 8) (h := 12) (m := 28) rfl rfl hT.get rfl | exact chk_sliceArr (i := 12) (h := 20) (m := 28) rfl rfl hT.get rfl | exact chk_sliceArr (i := 20) (h := 24) (m := 28) rfl rfl hT.get rfl | exact hck5 _ _ hT rfl | exact hck5 _ _ (S.drop hT7) rfl | exact hck6 _ _ hT rfl | exact hck6 _ _ (S.drop hT7) rfl | exact chk_b2s hr5.b2sU rfl | exact chk_b2s hr57.b2sU rfl
  refine zy 9 ?_ ?_
  · first | exact chk_sliceArr (i := 0) (h := 2) (m := 28) rfl rfl hT.get rfl | exact chk_sliceArr (i := 8) (h := 12) (m := 28) rfl rfl hT.get rfl | exact chk_sliceArr (i := 12) (h := 20) (m := 28) rfl rfl hT.get rfl | exact chk_sliceArr (i := 20) (h := 24) (m := 28) rfl rfl hT.get rfl | exact hck5 _ _ hT rfl | exact hck5 _ _ (S.drop hT7) rfl | exact hck6 _ _ hT rfl | exact hck6 _ _ (S.drop hT7) rfl | exact chk_b2s hr5.b2sU rfl | exact chk_b2s hr57.b2sU rfl
  refine zy 6 ?_ ?_
  · first | exact chk_sliceArr (i := 0) (h := 2) (m := 28) rfl rfl hT.get rfl | exact chk_sliceArr (i := 8) (h := 12) (m := 28) rfl rfl hT.get rfl | exact chk_sliceArr (i := 12) (h := 20) (m := 28) rfl rfl hT.get rfl | exact chk_sliceArr (i := 20) (h := 24) (m := 28) rfl rfl hT.get rfl | exact hck5 _ _ hT rfl | exact hck5 _ _ (S.drop hT7) rfl | exact hck6 _ _ hT rfl | exact hck6 _ _ (S.drop hT7) rfl | exact chk_b2s hr5.b2sU rfl | exact chk_b2s hr57.b2sU rfl
  refine zy 5 ?_ ?_
  · first | exact chk_sliceArr (i := 0) (h := 2) (m := 28) rfl rfl hT.get rfl | exact chk_sliceArr (i := 8) (h := 12) (m := 28) rfl rfl hT.get rfl | exact chk_sliceArr (i := 12) (h := 20) (m := 28) rfl rfl hT.get rfl | exact chk_sliceArr (i := 20) (h := 24) (m := 28) rfl rfl hT.get rfl | exact hck5 _ _ hT rfl | exact hck5 _ _ (S.drop hT7) rfl | exact hck6 _ _ hT rfl | exact hck6 _ _ (S.drop hT7) rfl | exact chk_b2s hr5.b2sU rfl | exact chk_b2s hr57.b2sU rfl
  refine zy 4 ?_ ?_
  · first | exact chk_sliceArr (i := 0) (h := 2) (m := 28) rfl rfl hT.get rfl | exact chk_sliceArr (i := 8) (h := 12) (m := 28) rfl rfl hT.get rfl | exact chk_sliceArr (i := 12) (h := 20) (m := 28) rfl rfl hT.get rfl | exact chk_sliceArr (i := 20) (h := 24) (m := 28) rfl rfl hT.get rfl | exact hck5 _ _ hT rfl | exact hck5 _ _ (S.drop hT7) rfl | exact hck6 _ _ hT rfl | exact hck6 _ _ (S.drop hT7) rfl | exact chk_b2s hr5.b2sU rfl | exact chk_b2s hr57.b2sU rfl
  exact chkFs_nil; (iterate 11 refine chk_skip ?_); exact chk_end; refine seq_normal ?_; refine wp_ret ?_; refine ret_of ?_; refine rk_cellN rfl (by exact S.g2 hS) rfl rfl ?_; refine zr ?_; refine rk_nil ?_
  skip
  have hdl : (fstP l).data.length = dtL l := hl6
  have ex : rowP ((fstP l, a7, c7) : PX) = [.int .i64 (fld l 0 2), .int .i64 (IntKind.i32.wrap (fld l 8 4)), .int .i64 (IntKind.i64.wrap (fld l 12 8)), .int .i64 (fld l 20 4), .string (byS ((l.drop 28).take (nmL l))), .slice a7 (dtL l) c7] := by
    unfold rowP Pt.cells PX.sv
    simp only
    rw [hdl]
    rfl
  refine .inr ⟨hbad, (fstP l, a7, c7), rfl, ?_, ?_⟩
  · rw [ex, hal]
    rfl
  · unfold PX.sv
    simp only
    rw [hdl]
    exact S.k2 hS
end
end Go.E.Cb
/- Combine: Decode. -/
namespace Go.E.Cb
open Go Go.E Go.Proofs.YtnbjnjichhepiaaDoor.base Go.Proofs.YtnbjnjichhepiaaDoor Go.Proofs
set_option linter.unusedVariables false
set_option linter.unusedSimpArgs false
set_option maxRecDepth 100000
def decN : Nat → List Int → Int
  | 0, l => if l.length = 0 then 0 else 18
  | k + 1, l => if l.length = 0 then 0 else if badF l then 12 else if ck (fstP l) ≠ 0 then ck (fstP l) else decN k (l.drop (allL l))
def decP : Nat → List Int → List Pt
  | 0, l => []
  | k + 1, l => if l.length = 0 then [] else fstP l :: decP k (l.drop (allL l))
def decE (l : List Int) : Int := if 4096 < l.length then 20 else if l.length = 0 then 9 else decN 16 l
def decB (l : List Int) : List Pt := if decE l = 0 then decP 16 l else []
theorem decB_err {l : List Int} (h : decE l ≠ 0) : decB l = [] := by unfold decB; rw [if_neg h]
theorem decP_len (k : Nat) (l : List Int) : (decP k l).length ≤ k := by
  induction k generalizing l with
  | zero => simp [decP]
  | succ k ih => rw [decP]; split <;> simp [ih]
section
variable {B H : AHeap} {As : List Asn}
theorem L17 {v : Value} {l : List Int} (hB : Glob objs B) (hd : RD B As 1 v (u8s l)) (hb : Byt l) (hl : l.length ≤ 1000000) (hS : S B H As) : wpF C 17 [v] H fun w H' => ∃ out ys, w = .tuple ⟨[out, .int .i64 (decE l)]⟩ ∧ prt ys = decB l ∧ S B H' (sl 6 out (ys.flatMap rowP) :: dats ys :: As) := by
  obtain ⟨r, hr, _⟩ := hd _ hS
  obtain ⟨a, c, rfl⟩ := hr.u1
  clear hr
  refine wpF_ofW o17 rfl rfl ?_
  refine zsr ?_; refine zw1 ?_; refine zw1 ?_; refine zns ?_; refine wp_seq ?_; refine wp_block ?_; refine zsr ?_; refine zw1 ?_; refine wpO_cons ?_; refine op1_len rfl rfl ?_; refine wpO_cons ?_; refine op1_gtr rfl rfl rfl ?_; refine zw1 ?_; refine zns ?_
  refine wp_dec rfl (fun h1 => ?_) (fun h1 => ?_)
  · refine zsr ?_; refine zw1 ?_; refine zw1 ?_; refine zns ?_; refine wp_ret ?_; refine block_ret ?_; refine seq_ret ?_; refine ret_of ?_; refine zr ?_; refine zr ?_; refine rk_nil ?_
    have hE : decE l = 20 := by unfold decE; rw [if_pos (by omega)]
    exact ⟨.slice none 0 0, [], by rw [hE]; rfl, by rw [decB_err (by rw [hE]; decide)]; rfl, S.slNil (dats_nil (hS))⟩
  refine zsr ?_; refine zw1 ?_; refine wpO_cons ?_; refine op1_len rfl rfl ?_; refine wpO_cons ?_; refine op1_eqlI rfl rfl rfl ?_; refine zw1 ?_; refine zns ?_
  refine wp_dec rfl (fun h2 => ?_) (fun h2 => ?_)
  · refine zsr ?_; refine zw1 ?_; refine zw1 ?_; refine zns ?_; refine wp_ret ?_; refine block_ret ?_; refine seq_ret ?_; refine ret_of ?_; refine zr ?_; refine zr ?_; refine rk_nil ?_
    have hE : decE l = 9 := by unfold decE; rw [if_neg (by omega), if_pos (by omega)]
    exact ⟨.slice none 0 0, [], by rw [hE]; rfl, by rw [decB_err (by rw [hE]; decide)]; rfl, S.slNil (dats_nil (hS))⟩
  have e0 : decE l = decN 16 l := by unfold decE; rw [if_neg (by omega), if_neg (by omega)]
  have eB : decE l = 0 → decB l = decP 16 l := fun h => by unfold decB; rw [if_pos h]
  obtain ⟨N, hN0⟩ : ∃ N, N = decN 16 l := ⟨_, rfl⟩
  obtain ⟨P, hP0⟩ : ∃ P, P = decP 16 l := ⟨_, rfl⟩
  rw [← hN0] at e0
  rw [← hP0] at eB
  refine wp_skip ?_; refine block_normal ?_; refine seq_normal ?_; refine zsr ?_; refine zw1 ?_; refine zns ?_; refine wp_seq ?_; refine zsr ?_; refine zw1 ?_; refine zw1 ?_; refine zns ?_; refine wp_block ?_
  refine wp_loop [4, 5] (fun k vs H' => ∃ (a' : Option Addr) (c' : Nat) (ys : List PX) (a2 : Option Addr) (c2 : Nat) (m : List Int), vs = [.slice a' ys.length c', .slice a2 m.length c2] ∧ k = 16 - ys.length ∧ ys.length ≤ 16 ∧ m.length ≤ 1000000 ∧ Byt m ∧ RD B As 1 (.slice a2 m.length c2) (u8s m) ∧ N = decN (16 - ys.length) m ∧ P = prt ys ++ decP (16 - ys.length) m ∧ S B H' (sl 6 (.slice a' ys.length c') (ys.flatMap rowP) :: dats ys :: As)) ⟨_, none, 0, [], a, c, l, rfl, rfl, by simp, hl, hb, hd, hN0, hP0, S.slNil (dats_nil hS)⟩ ?_
  clear hS
  rintro k vs T' H1 ⟨a', c', ys, a2, c2, m, rfl, rfl, hyl, hml, hmb, hmd, hN, hP, hS⟩
  refine wp_seq ?_; refine zsr ?_; refine zw1 ?_; refine wpO_cons ?_; refine op1_len rfl rfl ?_; refine wpO_cons ?_; refine op1_gtr rfl rfl rfl ?_; refine zns ?_
  refine wp_dec rfl (fun hc => ?_) (fun hc => ?_)
  · refine wp_skip ?_; refine seq_normal ?_; refine wp_block ?_; refine wp_seq ?_; refine zsr ?_; refine zw1 ?_; refine wpO_cons ?_; refine op1_len rfl rfl ?_; refine wpO_cons ?_; refine op1_eqlI rfl rfl rfl ?_; refine zns ?_
    refine wp_dec rfl (fun h3 => ?_) (fun h3 => ?_)
    · refine zsr ?_; refine zw1 ?_; refine zw1 ?_; refine zns ?_; refine wp_ret ?_; refine seq_ret ?_; refine block_ret ?_; refine iter_ret ?_; refine block_ret ?_; refine seq_ret ?_; refine ret_of ?_; refine zr ?_; refine zr ?_; refine rk_nil ?_
      have e1 : N = 18 := by rw [hN, show 16 - ys.length = 0 by omega, decN, if_neg (by omega)]
      have hE : decE l = 18 := e0.trans e1
      exact ⟨.slice none 0 0, [], by rw [hE]; rfl, by rw [decB_err (by rw [hE]; decide)]; rfl, S.slNil (dats_nil (S.drop (S.drop hS)))⟩
    have ek : 16 - ys.length = (16 - (ys.length + 1)) + 1 := by omega
    rw [ek, decN, if_neg (by omega)] at hN
    rw [ek, decP, if_neg (by omega)] at hP
    clear ek
    refine wp_skip ?_; refine seq_normal ?_; refine zsr ?_; refine zw1 ?_; refine wpO_cons ?_; refine op1_call1 rfl (by (conv => lhs; whnf) <;> rfl) ?_
    have hT := hS
    clear hS
    refine wpF_mono (L46 hmd.cons.cons hmb hml hT) ?_
    rintro _ H2 (⟨hbad, rfl, hS⟩ | ⟨hbad, x, hx, rfl, hS⟩)
    · refine zw1 ?_; refine wpO_cons ?_; refine op1_extract rfl rfl rfl ?_; refine wpO_cons ?_; refine op1_extract rfl rfl rfl ?_; refine wpO_cons ?_; refine op1_allocS rfl hS ?_; intro p1 H3 hS; refine wpO_cons ?_; (refine op1_storeNS rfl rfl (by (conv => lhs; whnf) <;> rfl) rfl rfl (S.up0 hS) (Nat.le_of_ble_eq_true rfl) ?_; intro H4 hS; replace hS := S.dn0 hS); refine zw1 ?_; refine zns ?_; refine wp_seq ?_; refine zsr ?_; refine zw1 ?_; refine wpO_cons ?_; refine op1_eqlI_s rfl rfl rfl ?_; refine zns ?_; refine wp_true rfl ?_; refine zsr ?_; refine zw1 ?_; refine zw1 ?_; refine zns ?_; refine wp_ret ?_; refine seq_ret ?_; refine block_ret ?_; refine iter_ret ?_; refine block_ret ?_; refine seq_ret ?_; refine ret_of ?_; refine zr ?_; refine zr ?_; refine rk_nil ?_
      have e1 : N = 12 := by rw [hN, if_pos hbad]
      have hE : decE l = 12 := e0.trans e1
      exact ⟨.slice none 0 0, [], by rw [hE]; rfl, by rw [decB_err (by rw [hE]; decide)]; rfl, S.slNil (dats_nil (S.drop (S.drop (S.drop hS))))⟩
    rw [if_neg hbad] at hN
    have hal : (allL m : Int) = 28 + (nmL m : Int) + dtL m := by unfold allL; omega
    have hxN := fstN hmb (by omega)
    rw [← hx] at hxN hN hP
    have hnl : allL m ≤ m.length := by unfold badF at hbad; omega
    refine zw1 ?_; refine wpO_cons ?_; refine op1_extract rfl rfl rfl ?_; refine wpO_cons ?_; refine op1_extract rfl rfl rfl ?_; refine wpO_cons ?_; refine op1_allocS rfl hS ?_; intro p1 H3 hS; refine wpO_cons ?_; (refine op1_storeNS rfl rfl (by (conv => lhs; whnf) <;> rfl) rfl rfl (S.up0 hS) (Nat.le_of_ble_eq_true rfl) ?_; intro H4 hS; replace hS := S.dn0 hS); refine zw1 ?_; refine zns ?_; refine wp_seq ?_; refine zsr ?_; refine zw1 ?_; refine wpO_cons ?_; refine op1_eqlI rfl rfl rfl ?_; refine zns ?_
    refine wp_dec rfl (fun h5 => ?_) (fun h5 => ?_)
    · omega
    refine wp_skip ?_; refine seq_normal ?_; refine wp_seq ?_; refine zsr ?_; refine wpO_cons ?_; refine op1_load_6 rfl rfl (by exact S.g0 hS) rfl rfl ?_; refine wpO_cons ?_; refine op1_call1 rfl (by (conv => lhs; whnf) <;> rfl) ?_
    have hT2 := hS
    clear hS
    refine wpF_mono (L10 (p := x.1) (a := x.2.1) (c := x.2.2) hB hxN hT2) ?_
    rintro _ H4 ⟨rfl, hS⟩
    refine zw1 ?_; refine zns ?_; refine zsr ?_; refine zw1 ?_; refine wpO_cons ?_; refine op1_neqI rfl rfl rfl ?_; refine zns ?_
    refine wp_ndec rfl (fun h4 => ?_) (fun h4 => ?_)
    · refine zsr ?_; refine zw1 ?_; refine zw1 ?_; refine zw1 ?_; refine zns ?_; refine wp_ret ?_; refine seq_ret ?_; refine block_ret ?_; refine iter_ret ?_; refine block_ret ?_; refine seq_ret ?_; refine ret_of ?_; refine zr ?_; refine zr ?_; refine rk_nil ?_
      have e1 : N = ck x.1 := by rw [hN, if_pos h4]
      have hE : decE l = ck x.1 := e0.trans e1
      exact ⟨.slice none 0 0, [], by rw [hE]; rfl, by rw [decB_err (by rw [hE]; exact h4)]; rfl, S.slNil (dats_nil (S.drop (S.drop (S.drop (S.drop hS)))))⟩
    rw [if_neg (by simpa using h4)] at hN
    refine wp_skip ?_; refine seq_normal ?_; refine zsr ?_; refine zw1 ?_; refine wpO_cons ?_; refine op1_load_6 rfl rfl (by exact S.g0 hS) rfl rfl ?_; refine wpO_cons ?_; refine op1_bsliceS rfl hS ?_; refine bk_agg rfl rfl rfl rfl ?_; refine bk_nil ?_; intro p2 H5 hS; refine wpO_cons ?_; (refine op1_appBS rfl rfl (by (conv => lhs; whnf) <;> rfl) rfl (S.g0 hS) rfl rfl (S.up3 hS) (by omega) ?_; intro a1 c1 H6 hS; replace hS := S.dn3 hS; replace hS := S.drop hS); refine zw1 ?_; refine zns ?_; refine wp_region ?_; refine zw1 ?_; refine zw1 ?_; refine wpO_cons ?_
    obtain ⟨r5, hr5, _⟩ := hmd _ (S.drop (S.drop (S.drop (S.drop hS))))
    have hcap := hr5.le_cap
    refine op1_sliceD rfl rfl hmd (S.drop (S.drop (S.drop (S.drop hS)))) (bnds_lo (by omega) (by omega) (by omega)) (by omega) (by omega) ?_
    intro a5 c5 hd5 _
    have hml2 : (m.drop (allL m)).length = m.length - allL m := by rw [List.length_drop]
    rw [Int.toNat_natCast, Nat.mul_one, Nat.mul_one, show (((u8s m).drop (allL m)).take (m.length - allL m)) = u8s (m.drop (allL m)) from by unfold u8s; rw [← List.map_drop, List.take_of_length_le (by rw [List.length_map, hml2]; omega)], ← hml2] at hd5
    refine zw1 ?_; refine wpO_nil ?_; refine block_normal ?_
    have hfin : S B H6 (sl 6 (.slice a1 (ys ++ [x]).length c1) ((ys ++ [x]).flatMap rowP) :: dats (ys ++ [x]) :: As) := by
      rw [show (ys ++ [x]).flatMap rowP = ys.flatMap rowP ++ rowP x by simp [List.flatMap_append], List.length_append]
      exact S.up1 (dats_snoc (S.up1 (S.up2 (S.drop hS))))
    refine iter_normal ⟨16 - (ys.length + 1), by omega, a1, c1, ys ++ [x], a5, c5, m.drop (allL m), by rw [List.length_append, Int.toNat_natCast, hml2]; rfl, by rw [List.length_append]; rfl, by rw [List.length_append]; simp; omega, by omega, hmb.drop _, hd5, by rw [List.length_append]; exact hN, ?_, hfin⟩
    rw [hP, List.length_append]
    unfold prt
    rw [List.map_append, List.append_assoc]
    rfl
  · refine wp_exit ?_; refine seq_exit ?_; refine iter_exit ?_; refine block_exit ?_; refine seq_normal ?_; refine zsr ?_; refine zw1 ?_; refine zw1 ?_; refine zw1 ?_; refine zns ?_; refine wp_ret ?_; refine ret_of ?_; refine zr ?_; refine zr ?_; refine rk_nil ?_
    have hm0 : m.length = 0 := by omega
    have e1 : N = 0 := by
      rw [hN]
      cases 16 - ys.length with
      | zero => rw [decN, if_pos hm0]
      | succ k => rw [decN, if_pos hm0]
    have e2 : P = prt ys := by
      rw [hP]
      cases 16 - ys.length with
      | zero => rw [decP, List.append_nil]
      | succ k => rw [decP, if_pos hm0, List.append_nil]
    exact ⟨_, ys, by rw [e0, e1]; rfl, by rw [eB (e0.trans e1), e2], hS⟩
end
end Go.E.Cb
