/- The law's functions over both connections: doing one call on both, and looking at both. -/
import Derived.Test.YtamcfhhcmjagnaaStR3
import Derived.Test.YtamcfhhcmjagnaaStR6
import Derived.Test.YtamcfhhcmjagnaaStCy
import Derived.Test.YtamcfhhcmjagnaaStCode
import Derived.Test.YtamcfhhcmjagnaaEhZn
namespace Go.E.St
open Go Go.E Go.Proofs.Ytamcfhhcmjagnaa Go.Proofs
set_option linter.unusedVariables false
set_option linter.unusedSimpArgs false
set_option maxRecDepth 100000
theorem sgC_inj {g : Sg} {u v : Value} (h : sgC g u = sgC g v) : u = v := by
  unfold sgC at h
  simpa using h
/-- the bytes of a segment of a list may be read -/
theorem sg_rd {B : AHeap} {As : List Asn} {l : List Sg} {css : List (List Value)} {i : Nat} {g : Sg} {vd : Value} (hg : l[i]? = some g) (hc : css[i]? = some (sgC g vd)) : RD B (many sgA l css :: As) 1 vd (u8s g.data) := by
  intro H h
  obtain ⟨cs, o, h1, h2, h3⟩ := S.many_at h hg
  rw [hc] at h1
  cases h1
  obtain ⟨v, h2⟩ := h2
  cases h2 with
  | cons k1 k2 => cases k2 with
    | cons k3 k4 =>
      cases k4
      obtain ⟨rfl, k3⟩ := k3
      obtain rfl := sgC_inj k3
      have h5 : SlO H 1 vd (u8s g.data) _ := k1
      exact ⟨_, h5.rd, fun b hb => h3 b (by simp [hb])⟩
section
variable {B H : AHeap} {As : List Asn} {p q : Nat} {s : Cn} {g : Sg}
theorem L58 {a a' : Option Addr} {c c' : Nat} (hl : g.data.length ≤ 1000000) (h1 : RD B As 1 (.slice a g.data.length c) (u8s g.data)) (h2 : RD B As 1 (.slice a' g.data.length c') (u8s g.data)) (hS : S B H As) :
    wpF C 58 [.agg ⟨sgC g (.slice a g.data.length c)⟩, .agg ⟨sgC g (.slice a' g.data.length c')⟩] H fun v H' => v = .bool true ∧ S B H' As := by
  refine wpF_ofW o58 rfl rfl ?_
  unfold sgC
  refine zsr ?_; refine wpO_cons ?_; refine op1_boxNS rfl rfl rfl hS ?_; intro p1 H1 hS; refine wpO_cons ?_; refine op1_boxNS rfl rfl rfl hS ?_; intro p2 H2 hS; refine zw1 ?_; refine zns ?_; refine zsr ?_; refine wpO_cons ?_; refine op1_faddr0 rfl rfl ?_; refine wpO_cons ?_; refine op1_load rfl rfl (by exact S.g1 hS) rfl ?_; refine wpO_cons ?_; refine op1_faddr0 rfl rfl ?_; refine wpO_cons ?_; refine op1_load rfl rfl (by exact S.g0 hS) rfl ?_; refine wpO_cons ?_; refine op1_eqlI_s rfl rfl rfl ?_; refine zw1 ?_; refine wpO_cons ?_; refine op1_faddr0 rfl rfl ?_; refine wpO_cons ?_; refine op1_load rfl rfl (by exact S.g1 hS) rfl ?_; refine wpO_cons ?_; refine op1_faddr0 rfl rfl ?_; refine wpO_cons ?_; refine op1_load rfl rfl (by exact S.g0 hS) rfl ?_; refine wpO_cons ?_; refine op1_eqlI_s rfl rfl rfl ?_; refine wpO_cons ?_; refine op1_pick_t rfl rfl (by (conv => lhs; whnf) <;> rfl) ?_; refine zw1 ?_; refine wpO_cons ?_; refine op1_faddr0 rfl rfl ?_; refine wpO_cons ?_; refine op1_load rfl rfl (by exact S.g1 hS) rfl ?_; refine wpO_cons ?_; refine op1_faddr0 rfl rfl ?_; refine wpO_cons ?_; refine op1_load rfl rfl (by exact S.g0 hS) rfl ?_; refine wpO_cons ?_; refine op1_eqlI_s rfl rfl rfl ?_; refine wpO_cons ?_; refine op1_pick_t rfl rfl (by (conv => lhs; whnf) <;> rfl) ?_; refine zw1 ?_; refine wpO_cons ?_; refine op1_faddr0 rfl rfl ?_; refine wpO_cons ?_; refine op1_load rfl rfl (by exact S.g1 hS) rfl ?_; refine wpO_cons ?_; refine op1_faddr0 rfl rfl ?_; refine wpO_cons ?_; refine op1_load rfl rfl (by exact S.g0 hS) rfl ?_; refine wpO_cons ?_; refine op1_eqlI_s rfl rfl rfl ?_; refine wpO_cons ?_; refine op1_pick_t rfl rfl (by (conv => lhs; whnf) <;> rfl) ?_; refine zw1 ?_; refine wpO_cons ?_; refine op1_faddr0 rfl rfl ?_; refine wpO_cons ?_; refine op1_load rfl rfl (by exact S.g1 hS) rfl ?_; refine wpO_cons ?_; refine op1_faddr0 rfl rfl ?_; refine wpO_cons ?_; refine op1_load rfl rfl (by exact S.g0 hS) rfl ?_; refine wpO_cons ?_; refine op1_call2 rfl (by (conv => lhs; whnf) <;> rfl) (by (conv => lhs; whnf) <;> rfl) ?_
  obtain ⟨r1, hr1, _⟩ := h1 _ (S.drop (S.drop hS))
  obtain ⟨r2, hr2, _⟩ := h2 _ (S.drop (S.drop hS))
  refine wpF_mono (L22 hr1 hl hr2 hl) ?_
  rintro _ H2 ⟨rfl, rfl⟩
  rw [decide_eq_true rfl]
  refine wpO_cons ?_; refine op1_pick_t rfl rfl (by (conv => lhs; whnf) <;> rfl) ?_; refine zw1 ?_; refine zns ?_; refine wp_ret ?_; refine ret_of ?_; refine rk_tmp (by (conv => lhs; whnf) <;> rfl) ?_; refine rk_nil ?_
  exact ⟨rfl, S.drop (S.drop hS)⟩
theorem L57 {l : List Sg} {a a' : Option Addr} {c c' : Nat} (hl : l.length ≤ 1000000) (hd : ∀ g ∈ l, g.data.length ≤ 1000000) (hS : S B H (arr 5 sgA (.slice a l.length c) l :: arr 5 sgA (.slice a' l.length c') l :: As)) :
    wpF C 57 [.slice a l.length c, .slice a' l.length c', .func (.func 58) #[] #[]] H fun v H' => v = .bool true ∧ S B H' As := by
  obtain ⟨css, hcss, hcl, hS⟩ := S.unarr hS
  obtain ⟨dss, hdss, hdl, hS⟩ := S.unarr (S.up2 hS)
  refine wpF_ofW o57 rfl rfl ?_
  refine zsr ?_; refine zw1 ?_; refine zns ?_; refine wp_seq ?_; refine zsr ?_; refine zw1 ?_; refine wpO_cons ?_; refine op1_len rfl rfl ?_; refine zw1 ?_; refine wpO_cons ?_; refine op1_len rfl rfl ?_; refine wpO_cons ?_; refine op1_neqI_s rfl rfl rfl ?_; refine zns ?_; refine wp_false rfl ?_; refine wp_skip ?_; refine seq_normal ?_; refine wp_seq ?_; refine zsr ?_; refine zw1 ?_; refine wpO_cons ?_; refine op1_len rfl rfl ?_; refine zw1 ?_; refine zns ?_; refine wp_block ?_
  refine wp_loop [17] (fun k vs H' => ∃ i : Nat, vs = [.int .i64 i] ∧ k = l.length - i ∧ i ≤ l.length ∧ S B H' (sl 5 (.slice a' l.length c') dss.flatten :: many sgA l dss :: sl 5 (.slice a l.length c) css.flatten :: many sgA l css :: As)) ⟨_, 0, rfl, rfl, by omega, hS⟩ ?_
  clear hS
  rintro k vs T' H5 ⟨i, rfl, rfl, hi, hS⟩
  refine zsr ?_; refine wpO_cons ?_; refine op1_lss rfl rfl rfl ?_; refine zns ?_; refine wp_seq ?_
  refine wp_dec rfl (fun hlt => ?_) (fun hlt => ?_)
  rotate_left
  · refine wp_exit ?_; refine seq_exit ?_; refine iter_exit ?_; refine block_exit ?_; refine seq_normal ?_; refine zsr ?_; refine zw1 ?_; refine zns ?_; refine wp_ret ?_; refine ret_of ?_; refine rk_tmp (by (conv => lhs; whnf) <;> rfl) ?_; refine rk_nil ?_
    exact ⟨rfl, S.drop (S.drop (S.drop (S.drop hS)))⟩
  obtain ⟨g, hg⟩ : ∃ g, l[i]? = some g := ⟨l[i]'(by omega), by simp⟩
  have hgd := hd g (List.mem_of_getElem? hg)
  obtain ⟨cs, og, hcs, hA, _⟩ := S.many_at (S.up3 hS) hg
  obtain ⟨ag, cg, rfl⟩ := sgA_at hA
  obtain ⟨ds, og', hds, hA', _⟩ := S.many_at (S.up1 hS) hg
  obtain ⟨ag', cg', rfl⟩ := sgA_at hA'
  have hcut := flatten_cut hcss hcs
  have hcut' := flatten_cut hdss hds
  obtain ⟨lb, lo, lcs, rfl, _⟩ := S.slBlk (S.up2 hS) (by omega)
  obtain ⟨lb', lo', lcs', rfl, _⟩ := S.slBlk hS (by omega)
  have hr1 : RD B (sl 5 (.slice (some ⟨lb', lo', none⟩) l.length c') dss.flatten :: many sgA l dss :: sl 5 (.slice (some ⟨lb, lo, none⟩) l.length c) css.flatten :: many sgA l css :: As) 1 _ _ := RD.cons (RD.cons (RD.cons (sg_rd hg hcs)))
  have hr2 : RD B (sl 5 (.slice (some ⟨lb', lo', none⟩) l.length c') dss.flatten :: many sgA l dss :: sl 5 (.slice (some ⟨lb, lo, none⟩) l.length c) css.flatten :: many sgA l css :: As) 1 _ _ := RD.cons (sg_rd hg hds)
  unfold sgC at hcut hcut'
  refine wp_skip ?_; refine seq_normal ?_; refine wp_seq ?_; refine wp_block ?_; refine zsr ?_; refine zw1 ?_; refine wpO_cons ?_; refine op1_iaddr rfl rfl rfl (by omega) (by omega) ?_; refine wpO_cons ?_; refine op1_loadNL rfl rfl (S.up2 hS) rfl rfl (by omega) rfl ?_; refine wpO_cons ?_; refine op1_allocS rfl hS ?_; intro p1 H1 hS; refine zw1 ?_; refine wpO_cons ?_
  rw [show (i : Int).toNat = i from rfl, hcut]
  (refine op1_storeNS rfl rfl (by (conv => lhs; whnf) <;> rfl) rfl rfl (S.up0 hS) (Nat.le_of_ble_eq_true rfl) ?_; intro H2 hS; replace hS := S.dn0 hS); refine zns ?_; refine zsr ?_; refine zw1 ?_; refine zw1 ?_; refine wpO_cons ?_; refine op1_iaddr rfl rfl rfl (by omega) (by omega) ?_; refine wpO_cons ?_; refine op1_loadNL rfl rfl (S.up1 hS) rfl rfl (by omega) rfl ?_; refine wpO_cons ?_; refine op1_allocS rfl hS ?_; intro p2 H3 hS; refine wpO_cons ?_
  rw [show (i : Int).toNat = i from rfl, hcut']
  (refine op1_storeNS rfl rfl (by (conv => lhs; whnf) <;> rfl) rfl rfl (S.up0 hS) (Nat.le_of_ble_eq_true rfl) ?_; intro H4 hS; replace hS := S.dn0 hS); refine zns ?_; refine zsr ?_; refine zw1 ?_; refine wpO_cons ?_; refine op1_load_5 rfl rfl (by exact S.g1 hS) rfl rfl ?_; refine wpO_cons ?_; refine op1_load_5 rfl rfl (by exact S.g0 hS) rfl rfl ?_; refine wpO_cons ?_; refine op1_dyn2 rfl rfl (by (conv => lhs; whnf) <;> rfl) (by (conv => lhs; whnf) <;> rfl) ?_
  refine wpF_mono (L58 (g := g) hgd (RD.cons (RD.cons hr1)) (RD.cons (RD.cons hr2)) hS) ?_
  clear hS
  rintro _ H9 ⟨rfl, hS⟩
  refine wpO_cons ?_; refine op1_not_t rfl rfl ?_; refine zns ?_; refine wp_false rfl ?_; refine wp_skip ?_; refine block_normal ?_; refine seq_normal ?_; refine wp_region ?_; refine wpO_cons ?_; refine op1_add rfl rfl rfl (by exact wrap_i64 (by omega) (by omega)) ?_; refine zw1 ?_; refine wpO_nil ?_
  exact ⟨l.length - (i + 1), by omega, i + 1, rfl, rfl, by omega, S.drop (S.drop hS)⟩
theorem L14 {ad : Option Addr} {cd : Nat} (hS : S B H As) : wpF C 14 [.agg ⟨sgC g (.slice ad g.data.length cd)⟩] H fun v H' => v = .agg ⟨sgC g (.slice ad g.data.length cd)⟩ ∧ S B H' As := by
  refine wpF_ofW o14 rfl rfl ?_
  unfold sgC
  refine zsr ?_; refine wpO_cons ?_; refine op1_boxNS rfl rfl rfl hS ?_; intro p1 H1 hS; refine wpO_cons ?_; refine op1_allocS rfl hS ?_; intro p2 H2 hS; refine zns ?_; refine zsr ?_; refine wpO_cons ?_; refine op1_faddr0 rfl rfl ?_; refine wpO_cons ?_; refine op1_load rfl rfl (by exact S.g1 hS) rfl ?_; refine wpO_cons ?_; refine op1_faddr0 rfl rfl ?_; refine wpO_cons ?_; refine op1_load rfl rfl (by exact S.g1 hS) rfl ?_; refine wpO_cons ?_; refine op1_faddr0 rfl rfl ?_; refine wpO_cons ?_; refine op1_load rfl rfl (by exact S.g1 hS) rfl ?_; refine wpO_cons ?_; refine op1_faddr0 rfl rfl ?_; refine wpO_cons ?_; refine op1_load rfl rfl (by exact S.g1 hS) rfl ?_; refine wpO_cons ?_; refine op1_faddr0 rfl rfl ?_; refine wpO_cons ?_; refine op1_load rfl rfl (by exact S.g1 hS) rfl ?_; refine wpO_cons ?_; refine op1_build rfl ?_; refine bk_one (by (conv => lhs; whnf) <;> rfl) rfl rfl rfl ?_; refine bk_one (by (conv => lhs; whnf) <;> rfl) rfl rfl rfl ?_; refine bk_one (by (conv => lhs; whnf) <;> rfl) rfl rfl rfl ?_; refine bk_one (by (conv => lhs; whnf) <;> rfl) rfl rfl rfl ?_; refine bk_one (by (conv => lhs; whnf) <;> rfl) rfl rfl rfl ?_; refine bk_nil ?_; refine wpO_cons ?_; (refine op1_storeNS rfl rfl (by (conv => lhs; whnf) <;> rfl) rfl rfl (S.up0 hS) (Nat.le_of_ble_eq_true rfl) ?_; intro H3 hS; replace hS := S.dn0 hS); refine zns ?_; refine wp_ret ?_; refine ret_of ?_; refine rk_cellN rfl (by exact S.g0 hS) rfl rfl ?_; refine rk_nil ?_
  exact ⟨rfl, S.drop (S.drop hS)⟩
theorem L32 (hi : Inv s) (hS : S B H (repC p s :: repD q s :: As)) : wpF C 32 [ptC p, ptC q] H fun v H' => v = .bool true ∧ S B H' (repC p s :: repD q s :: As) := by
  refine wpF_ofW o32 rfl rfl ?_
  unfold ptC
  refine zsr ?_; refine zw1 ?_; refine zns ?_; refine zsr ?_; refine zw1 ?_; refine wpO_cons ?_; refine op1_call1 rfl (by (conv => lhs; whnf) <;> rfl) ?_
  refine wpF_mono (L46 hi.ok hS) ?_
  clear hS
  rintro _ H2 ⟨rfl, hS⟩
  refine zw1 ?_; refine wpO_cons ?_; refine op1_extract rfl rfl rfl ?_; refine wpO_cons ?_; refine op1_extract rfl rfl rfl ?_; refine zw1 ?_; refine zw1 ?_; refine zns ?_; refine zsr ?_; refine zw1 ?_; refine wpO_cons ?_; refine op1_call1 rfl (by (conv => lhs; whnf) <;> rfl) ?_
  refine wpF_mono (L59 hi.ok (S.up1 hS)) ?_
  clear hS
  rintro _ H3 ⟨rfl, hS⟩
  refine zw1 ?_; refine wpO_cons ?_; refine op1_extract rfl rfl rfl ?_; refine wpO_cons ?_; refine op1_extract rfl rfl rfl ?_; refine zw1 ?_; refine zw1 ?_; refine zns ?_; refine zsr ?_; refine zw1 ?_; refine wpO_cons ?_; refine op1_call1 rfl (by (conv => lhs; whnf) <;> rfl) ?_
  refine wpF_mono (L35 (S.up1 hS)) ?_
  rintro _ H4 ⟨rfl, rfl⟩
  refine zw1 ?_; refine wpO_cons ?_; refine op1_extract rfl rfl rfl ?_; refine wpO_cons ?_; refine op1_extract rfl rfl rfl ?_; refine wpO_cons ?_; refine op1_extract rfl rfl rfl ?_; refine zw1 ?_; refine zw1 ?_; refine zw1 ?_; refine zns ?_; refine zsr ?_; refine zw1 ?_; refine wpO_cons ?_; refine op1_call1 rfl (by (conv => lhs; whnf) <;> rfl) ?_
  refine wpF_mono (L60 hS) ?_
  rintro _ H4 ⟨rfl, rfl⟩
  have hS0 := hS
  obtain ⟨ao, co, ai, ci, ho, hi, hO⟩ := openD hS
  clear hS
  have hS := hO
  clear hO
  unfold rfC at hS
  refine zw1 ?_; refine wpO_cons ?_; refine op1_extract rfl rfl rfl ?_; refine wpO_cons ?_; refine op1_extract rfl rfl rfl ?_; refine wpO_cons ?_; refine op1_extract rfl rfl rfl ?_; refine zw1 ?_; refine zw1 ?_; refine zw1 ?_; refine zns ?_; refine wp_seq ?_; refine wp_regionD ?_; refine zd1 ?_; refine zd1 ?_; refine wpD_cons ?_; refine op1_eqlI_s rfl rfl rfl ?_; refine zd1 ?_; refine zd1 ?_; refine zd1 ?_; refine wpD_cons ?_; refine op1_eqlB_s rfl rfl rfl rfl ?_; refine wpD_cons ?_; refine op1_pick_t rfl rfl (by (conv => lhs; whnf) <;> rfl) ?_; refine zd1 ?_; refine zd1 ?_; refine zd1 ?_; refine wpD_cons ?_; refine op1_eqlI_s rfl rfl rfl ?_; refine wpD_cons ?_; refine op1_pick_t rfl rfl (by (conv => lhs; whnf) <;> rfl) ?_; refine zd1 ?_; refine zd1 ?_; refine zd1 ?_; refine wpD_cons ?_; refine op1_eqlI_s rfl rfl rfl ?_; refine wpD_cons ?_; refine op1_pick_t rfl rfl (by (conv => lhs; whnf) <;> rfl) ?_; refine zd1 ?_; refine zd1 ?_; refine zd1 ?_; refine wpD_cons ?_; refine op1_eqlI_s rfl rfl rfl ?_; refine wpD_cons ?_; refine op1_pick_t rfl rfl (by (conv => lhs; whnf) <;> rfl) ?_; refine zd1 ?_; refine zd1 ?_; refine zd1 ?_; refine wpD_cons ?_; refine op1_nilchk rfl rfl ?_; refine wpD_cons ?_; refine op1_faddr0 rfl rfl ?_; refine wpD_cons ?_; refine op1_load rfl rfl (by exact S.g0 hS) rfl ?_; refine wpD_cons ?_; refine op1_call1 rfl (by (conv => lhs; whnf) <;> rfl) ?_
  refine wpF_mono (L27 (S.up1 hS0)) ?_
  rintro _ H4 ⟨rfl, rfl⟩
  refine wpD_cons ?_; refine op1_eqlI_s rfl rfl rfl ?_; refine wpD_cons ?_; refine op1_pick_t rfl rfl (by (conv => lhs; whnf) <;> rfl) ?_; refine zd1 ?_; refine wpD_nil ?_; refine dk_of ?_ ?_; (iterate 28 refine chk_skip ?_); refine chk_cons 5 rfl rfl rfl ?_ ?_; refine chkFs_cons 4 rfl rfl ?_ ?_; exact chk_load rfl (by exact S.g0 hS) rfl rfl; refine chkFs_cons 0 rfl rfl ?_ ?_; exact chk_load rfl (by exact S.g0 hS) rfl rfl; exact chkFs_nil; (iterate 4 refine chk_skip ?_); exact chk_end; refine seq_normal ?_; refine wp_ret ?_; refine ret_of ?_; refine rk_tmp (by (conv => lhs; whnf) <;> rfl) ?_; refine rk_nil ?_
  exact ⟨rfl, S.up1 hS0⟩
end
/-- one call of a connection, as the law's test lays it out -/
structure Op where
  kind : Int
  n : Int
  data : List Int
  sg : Sg
  tm : Int
structure OpF where
  o : Op
  a : Option Addr
  c : Nat
  r : List Nat
  a' : Option Addr
  c' : Nat
  r' : List Nat
def OpF.cells (x : OpF) : List Value := [.int .i64 x.o.kind, .int .i64 x.o.n, .slice x.a x.o.data.length x.c, .int .i64 x.o.sg.fl, .int .u32 x.o.sg.seq, .int .u32 x.o.sg.num, .int .i64 x.o.sg.win, .slice x.a' x.o.sg.data.length x.c', .int .i64 x.o.tm]
structure OpOk (B : AHeap) (x : OpF) : Prop where
  n : -9223372036854775808 ≤ x.o.n ∧ x.o.n ≤ 9223372036854775807
  tm : -9223372036854775808 ≤ x.o.tm ∧ x.o.tm ≤ 9223372036854775807
  kind : -9223372036854775808 ≤ x.o.kind ∧ x.o.kind ≤ 9223372036854775807
  fl : -9223372036854775808 ≤ x.o.sg.fl ∧ x.o.sg.fl ≤ 9223372036854775807
  win : -9223372036854775808 ≤ x.o.sg.win ∧ x.o.sg.win ≤ 9223372036854775807
  seq : 0 ≤ x.o.sg.seq ∧ x.o.sg.seq ≤ 4294967295
  num : 0 ≤ x.o.sg.num ∧ x.o.sg.num ≤ 4294967295
  l : x.o.data.length ≤ 9223372036854775807
  l' : x.o.sg.data.length ≤ 9223372036854775807
  rd : RdS B 1 (.slice x.a x.o.data.length x.c) (u8s x.o.data) x.r
  lt : ∀ b ∈ x.r, b < B.next
  rd' : RdS B 1 (.slice x.a' x.o.sg.data.length x.c') (u8s x.o.sg.data) x.r'
  lt' : ∀ b ∈ x.r', b < B.next
def Cn.step (s : Cn) (o : Op) : Cn :=
  if o.kind = 0 then (s.start 1).2 else if o.kind = 1 then (s.start 2).2 else if o.kind = 2 then (s.write o.data).2.2 else if o.kind = 3 then (s.read o.n).2.2 else if o.kind = 4 then s.close.2
  else if o.kind = 5 then s.abort.2 else if o.kind = 6 then s.input o.sg o.tm else if o.kind = 7 then (s.output o.tm).2.2 else s
theorem Inv.step {s : Cn} {o : Op} (h : Inv s) (hs : 0 ≤ o.sg.seq ∧ o.sg.seq ≤ 4294967295) (hn : 0 ≤ o.sg.num ∧ o.sg.num ≤ 4294967295) : Inv (s.step o) := by
  unfold Cn.step
  split
  · exact h.start (.inl rfl)
  split
  · exact h.start (.inr rfl)
  split
  · exact h.write
  split
  · exact h.read
  split
  · exact h.close
  split
  · exact h.abort
  split
  · exact h.input ⟨hs, hn⟩
  split
  · exact h.output
  · exact h
theorem read_len (s : Cn) (n : Int) : (s.read n).1.length ≤ s.inc.length := by
  unfold Cn.read
  split
  · exact Nat.zero_le _
  · show (s.inc.take _).length ≤ _
    rw [List.length_take]
    omega
theorem out_len {s : Cn} {now : Int} (hok : Ok s) : (s.output now).2.1.length ≤ 5001 ∧ ∀ g ∈ (s.output now).2.1, g.data.length ≤ 256 := by
  unfold Cn.output
  split
  · exact ⟨by simp, by simp⟩
  rename_i hnow
  replace hnow : 0 ≤ now ∧ now ≤ 1099511627776 := Classical.byContradiction hnow
  split
  · exact ⟨by simp, by simp⟩
  split
  · exact ⟨by simp, by simp⟩
  split
  · exact ⟨by simp, by simp⟩
  split
  · exact ⟨by simp, by simp⟩
  split
  · exact ⟨by simp, by simp⟩
  · have h := hok.late hnow
    have hc : Ok { s.late now with clock := now } := ⟨h.first, h.una, h.nxt, h.rcv, h.size, h.window, h.out, h.inc, h.pat, h.tmo, h.since, hnow, h.reps, h.st, h.syn⟩
    have h1 := segs_len hc
    have h2 := ackd_data (s := ({ s.late now with clock := now } : Cn).segs.2) (segs_data hc.size.2)
    refine ⟨?_, h2⟩
    show (Cn.ackd _ _).length ≤ 5001
    unfold Cn.ackd
    split
    · simp
    · omega
section
variable {B H : AHeap} {As : List Asn} {p q : Nat} {s : Cn} {g : Sg}
theorem L31 {x : OpF} (hi : Inv s) (hx : OpOk B x) (hl : x.o.data.length ≤ 12000) (hl' : x.o.sg.data.length ≤ 12000) (hS : S B H (repC p s :: repD q s :: As)) :
    wpF C 31 [ptC p, ptC q, .agg ⟨x.cells⟩] H fun v H' => v = .bool true ∧ S B H' (repC p (s.step x.o) :: repD q (s.step x.o) :: As) := by
  have hok := hi.ok
  have hd : ∀ {As : List Asn}, RD B As 1 (.slice x.a x.o.data.length x.c) (u8s x.o.data) := RD.base hx.rd hx.lt
  have hd' : ∀ {As : List Asn}, RD B As 1 (.slice x.a' x.o.sg.data.length x.c') (u8s x.o.sg.data) := RD.base hx.rd' hx.lt'
  refine wpF_ofW o31 rfl rfl ?_
  unfold ptC OpF.cells Cn.step
  refine zsr ?_; refine wpO_cons ?_; refine op1_boxNS rfl rfl rfl hS ?_; intro p1 H1 hS; refine zw1 ?_; refine zns ?_; refine wp_seq ?_; refine zsr ?_; refine wpO_cons ?_; refine op1_faddr0 rfl rfl ?_; refine wpO_cons ?_; refine op1_load rfl rfl (by exact S.g0 hS) rfl ?_; refine zns ?_; refine wp_block ?_; refine zsr ?_; refine wpO_cons ?_; refine op1_eqlI rfl rfl rfl ?_; refine zw1 ?_; refine zns ?_
  refine wp_dec rfl (fun h0 => ?_) (fun h0 => ?_)
  · rw [if_pos h0]
    refine zsr ?_; refine zw1 ?_; refine wpO_cons ?_; refine op1_call1 rfl (by (conv => lhs; whnf) <;> rfl) ?_
    refine wpF_mono (L42 (S.up1 hS)) ?_
    clear hS
    rintro _ H2 ⟨rfl, hS⟩
    refine zw1 ?_; refine wpO_cons ?_; refine op1_call1 rfl (by (conv => lhs; whnf) <;> rfl) ?_
    refine wpF_mono (L48 (S.up2 hS)) ?_
    clear hS
    rintro _ H3 ⟨rfl, hS⟩
    refine wpO_cons ?_; refine op1_eqlI_s rfl rfl rfl ?_; refine zw1 ?_; refine zns ?_; refine wp_ret ?_; refine block_ret ?_; refine seq_ret ?_; refine ret_of ?_; refine rk_tmp (by (conv => lhs; whnf) <;> rfl) ?_; refine rk_nil ?_
    exact ⟨rfl, S.up1 (S.drop (S.up2 hS))⟩
  rw [if_neg h0]
  refine zsr ?_; refine wpO_cons ?_; refine op1_eqlI rfl rfl rfl ?_; refine zw1 ?_; refine zns ?_
  refine wp_dec rfl (fun h1 => ?_) (fun h1 => ?_)
  · rw [if_pos h1]
    refine zsr ?_; refine zw1 ?_; refine wpO_cons ?_; refine op1_call1 rfl (by (conv => lhs; whnf) <;> rfl) ?_
    refine wpF_mono (L41 (S.up1 hS)) ?_
    clear hS
    rintro _ H2 ⟨rfl, hS⟩
    refine zw1 ?_; refine wpO_cons ?_; refine op1_call1 rfl (by (conv => lhs; whnf) <;> rfl) ?_
    refine wpF_mono (L49 (S.up2 hS)) ?_
    clear hS
    rintro _ H3 ⟨rfl, hS⟩
    refine wpO_cons ?_; refine op1_eqlI_s rfl rfl rfl ?_; refine zw1 ?_; refine zns ?_; refine wp_ret ?_; refine block_ret ?_; refine seq_ret ?_; refine ret_of ?_; refine rk_tmp (by (conv => lhs; whnf) <;> rfl) ?_; refine rk_nil ?_
    exact ⟨rfl, S.up1 (S.drop (S.up2 hS))⟩
  rw [if_neg h1]
  refine zsr ?_; refine wpO_cons ?_; refine op1_eqlI rfl rfl rfl ?_; refine zw1 ?_; refine zns ?_
  refine wp_dec rfl (fun h2 => ?_) (fun h2 => ?_)
  · rw [if_pos h2]
    refine zsr ?_; refine zw1 ?_; refine wpO_cons ?_; refine op1_faddr0 rfl rfl ?_; refine wpO_cons ?_; refine op1_load rfl rfl (by exact S.g0 hS) rfl ?_; refine wpO_cons ?_; refine op1_call1 rfl (by (conv => lhs; whnf) <;> rfl) ?_
    refine wpF_mono (L45 hd hS (by omega)) ?_
    clear hS
    intro v1 H2 hS
    obtain ⟨a1, c1, rfl⟩ := hS.u1
    refine wpO_cons ?_; refine op1_call2 rfl (by (conv => lhs; whnf) <;> rfl) (by (conv => lhs; whnf) <;> rfl) ?_
    refine wpF_mono (L25 hok RD.head hx.l (S.up2 hS)) ?_
    clear hS
    rintro _ H3 ⟨rfl, hS⟩
    refine zw1 ?_; refine wpO_cons ?_; refine op1_extract rfl rfl rfl ?_; refine wpO_cons ?_; refine op1_extract rfl rfl rfl ?_; refine zw1 ?_; refine zw1 ?_; refine zns ?_; refine zsr ?_; refine zw1 ?_; refine wpO_cons ?_; refine op1_faddr0 rfl rfl ?_; refine wpO_cons ?_; refine op1_load rfl rfl (by exact S.g2 hS) rfl ?_; refine wpO_cons ?_; refine op1_call2 rfl (by (conv => lhs; whnf) <;> rfl) (by (conv => lhs; whnf) <;> rfl) ?_
    refine wpF_mono (L50 hok hd hx.l (S.up3 hS)) ?_
    clear hS
    rintro _ H4 ⟨rfl, hS⟩
    refine zw1 ?_; refine wpO_cons ?_; refine op1_extract rfl rfl rfl ?_; refine wpO_cons ?_; refine op1_extract rfl rfl rfl ?_; refine zw1 ?_; refine zw1 ?_; refine zns ?_; refine zsr ?_; refine zw1 ?_; refine zw1 ?_; refine wpO_cons ?_; refine op1_eqlI_s rfl rfl rfl ?_; refine zw1 ?_; refine zw1 ?_; refine zw1 ?_; refine wpO_cons ?_; refine op1_eqlI_s rfl rfl rfl ?_; refine wpO_cons ?_; refine op1_pick_t rfl rfl (by (conv => lhs; whnf) <;> rfl) ?_; refine zw1 ?_; refine zns ?_; refine wp_ret ?_; refine block_ret ?_; refine seq_ret ?_; refine ret_of ?_; refine rk_tmp (by (conv => lhs; whnf) <;> rfl) ?_; refine rk_nil ?_
    exact ⟨rfl, S.up1 (S.drop (S.up2 (S.drop (S.up2 hS))))⟩
  rw [if_neg h2]
  refine zsr ?_; refine wpO_cons ?_; refine op1_eqlI rfl rfl rfl ?_; refine zw1 ?_; refine zns ?_
  refine wp_dec rfl (fun h3 => ?_) (fun h3 => ?_)
  · rw [if_pos h3]
    refine zsr ?_; refine zw1 ?_; refine wpO_cons ?_; refine op1_faddr0 rfl rfl ?_; refine wpO_cons ?_; refine op1_load rfl rfl (by exact S.g0 hS) rfl ?_; refine wpO_cons ?_; refine op1_call2 rfl (by (conv => lhs; whnf) <;> rfl) (by (conv => lhs; whnf) <;> rfl) ?_
    refine wpF_mono (L37 hok (S.up1 hS)) ?_
    clear hS
    rintro _ H2 ⟨v1, rfl, hS⟩
    refine zw1 ?_; refine wpO_cons ?_; refine op1_extract rfl rfl rfl ?_; refine wpO_cons ?_; refine op1_extract rfl rfl rfl ?_; refine zw1 ?_; refine zw1 ?_; refine zns ?_; refine zsr ?_; refine zw1 ?_; refine wpO_cons ?_; refine op1_faddr0 rfl rfl ?_; refine wpO_cons ?_; refine op1_load rfl rfl (by exact S.g2 hS) rfl ?_; refine wpO_cons ?_; refine op1_call2 rfl (by (conv => lhs; whnf) <;> rfl) (by (conv => lhs; whnf) <;> rfl) ?_
    refine wpF_mono (L51 hok (S.up3 hS)) ?_
    clear hS
    rintro _ H3 ⟨v2, rfl, hS⟩
    refine zw1 ?_; refine wpO_cons ?_; refine op1_extract rfl rfl rfl ?_; refine wpO_cons ?_; refine op1_extract rfl rfl rfl ?_; refine zw1 ?_; refine zw1 ?_; refine zns ?_; refine zsr ?_; refine zw1 ?_; refine zw1 ?_; refine wpO_cons ?_; refine op1_eqlI_s rfl rfl rfl ?_; refine zw1 ?_; refine zw1 ?_; refine zw1 ?_; refine wpO_cons ?_; refine op1_call2 rfl (by (conv => lhs; whnf) <;> rfl) (by (conv => lhs; whnf) <;> rfl) ?_
    obtain ⟨r2, hr2, _⟩ := S.rd hS
    obtain ⟨r1, hr1, _⟩ := S.rd (S.up2 hS)
    have hrl : (s.read x.o.n).1.length ≤ 1000000 := by have := read_len s x.o.n; have := hok.inc; omega
    refine wpF_mono (L22 hr1 hrl hr2 hrl) ?_
    rintro _ H4 ⟨rfl, rfl⟩
    rw [decide_eq_true rfl]
    refine wpO_cons ?_; refine op1_pick_t rfl rfl (by (conv => lhs; whnf) <;> rfl) ?_; refine zw1 ?_; refine zns ?_; refine wp_ret ?_; refine block_ret ?_; refine seq_ret ?_; refine ret_of ?_; refine rk_tmp (by (conv => lhs; whnf) <;> rfl) ?_; refine rk_nil ?_
    exact ⟨rfl, S.up1 (S.drop (S.up2 (S.drop (S.up1 (S.drop hS)))))⟩
  rw [if_neg h3]
  refine zsr ?_; refine wpO_cons ?_; refine op1_eqlI rfl rfl rfl ?_; refine zw1 ?_; refine zns ?_
  refine wp_dec rfl (fun h4 => ?_) (fun h4 => ?_)
  · rw [if_pos h4]
    refine zsr ?_; refine zw1 ?_; refine wpO_cons ?_; refine op1_call1 rfl (by (conv => lhs; whnf) <;> rfl) ?_
    refine wpF_mono (L26 (S.up1 hS)) ?_
    clear hS
    rintro _ H2 ⟨rfl, hS⟩
    refine zw1 ?_; refine wpO_cons ?_; refine op1_call1 rfl (by (conv => lhs; whnf) <;> rfl) ?_
    refine wpF_mono (L52 (S.up2 hS)) ?_
    clear hS
    rintro _ H3 ⟨rfl, hS⟩
    refine wpO_cons ?_; refine op1_eqlI_s rfl rfl rfl ?_; refine zw1 ?_; refine zns ?_; refine wp_ret ?_; refine block_ret ?_; refine seq_ret ?_; refine ret_of ?_; refine rk_tmp (by (conv => lhs; whnf) <;> rfl) ?_; refine rk_nil ?_
    exact ⟨rfl, S.up1 (S.drop (S.up2 hS))⟩
  rw [if_neg h4]
  refine zsr ?_; refine wpO_cons ?_; refine op1_eqlI rfl rfl rfl ?_; refine zw1 ?_; refine zns ?_
  refine wp_dec rfl (fun h5 => ?_) (fun h5 => ?_)
  · rw [if_pos h5]
    refine zsr ?_; refine zw1 ?_; refine wpO_cons ?_; refine op1_call1 rfl (by (conv => lhs; whnf) <;> rfl) ?_
    refine wpF_mono (L53 (S.up1 hS)) ?_
    clear hS
    rintro _ H2 ⟨rfl, hS⟩
    refine zw1 ?_; refine wpO_cons ?_; refine op1_call1 rfl (by (conv => lhs; whnf) <;> rfl) ?_
    refine wpF_mono (L54 (S.up2 hS)) ?_
    clear hS
    rintro _ H3 ⟨rfl, hS⟩
    refine wpO_cons ?_; refine op1_eqlI_s rfl rfl rfl ?_; refine zw1 ?_; refine zns ?_; refine wp_ret ?_; refine block_ret ?_; refine seq_ret ?_; refine ret_of ?_; refine rk_tmp (by (conv => lhs; whnf) <;> rfl) ?_; refine rk_nil ?_
    exact ⟨rfl, S.up1 (S.drop (S.up2 hS))⟩
  rw [if_neg h5]
  refine zsr ?_; refine wpO_cons ?_; refine op1_eqlI rfl rfl rfl ?_; refine zw1 ?_; refine zns ?_
  refine wp_dec rfl (fun h6 => ?_) (fun h6 => ?_)
  · rw [if_pos h6]
    have hT := hS
    refine wp_seq ?_; refine wp_regionD ?_; refine zd1 ?_; refine wpD_cons ?_; refine op1_faddr0 rfl rfl ?_; refine wpD_cons ?_; refine op1_load_5 rfl rfl (by exact S.g0 hT) rfl rfl ?_; refine wpD_cons ?_; refine op1_faddr0 rfl rfl ?_; refine wpD_cons ?_; refine op1_load rfl rfl (by exact S.g0 hT) rfl ?_; refine zd1 ?_; refine wpD_cons ?_; refine op1_faddr0 rfl rfl ?_; refine wpD_cons ?_; refine op1_load_5 rfl rfl (by exact S.g0 hT) rfl rfl ?_; refine wpD_cons ?_; refine op1_faddr0 rfl rfl ?_; refine wpD_cons ?_; refine op1_load rfl rfl (by exact S.g0 hT) rfl ?_; refine wpD_cons ?_; refine op1_call3 rfl (by (conv => lhs; whnf) <;> rfl) (by (conv => lhs; whnf) <;> rfl) (by (conv => lhs; whnf) <;> rfl) ?_
    refine wpF_mono (L38 (g := x.o.sg) hok ⟨hx.seq, hx.num⟩ hd' (S.up1 hS)) ?_
    clear hS
    rintro _ H2 ⟨rfl, hS⟩
    have hT2 := S.up1 hS
    refine wpD_cons ?_; refine op1_call1 rfl (by (conv => lhs; whnf) <;> rfl) ?_
    refine wpF_mono (L14 (g := x.o.sg) hS) ?_
    clear hS
    rintro _ H3 ⟨rfl, hS⟩
    have hT3 := S.up1 hS
    refine wpD_cons ?_; refine op1_call3 rfl (by (conv => lhs; whnf) <;> rfl) (by (conv => lhs; whnf) <;> rfl) (by (conv => lhs; whnf) <;> rfl) ?_
    refine wpF_mono (L55 (g := x.o.sg) hok ⟨hx.seq, hx.num⟩ hd' (S.up2 hS)) ?_
    clear hS
    rintro _ H3 ⟨rfl, hS⟩
    refine wpD_cons ?_; refine op1_eqlI_s rfl rfl rfl ?_; refine zd1 ?_; refine wpD_nil ?_; refine dk_of ?_ ?_; (iterate 2 refine chk_skip ?_); refine chk_cons 13 rfl rfl rfl ?_ ?_; refine chkFs_cons 5 rfl rfl ?_ ?_; exact chk_loadN rfl (by exact S.g0 hT) rfl rfl rfl; exact chkFs_nil; refine chk_skip ?_; refine chk_cons 11 rfl rfl rfl ?_ ?_; refine chkFs_cons 5 rfl rfl ?_ ?_; exact chk_load rfl (by exact S.g0 hT) rfl rfl; exact chkFs_nil; (iterate 2 refine chk_skip ?_); refine chk_cons 8 rfl rfl rfl ?_ ?_; refine chkFs_cons 5 rfl rfl ?_ ?_; exact chk_loadN rfl (by exact S.g0 hT) rfl rfl rfl; refine chkFs_cons 4 rfl rfl ?_ ?_; exact chk_loadN rfl (by exact S.g0 hT2) rfl rfl rfl; exact chkFs_nil; refine chk_skip ?_; refine chk_cons 6 rfl rfl rfl ?_ ?_; refine chkFs_cons 5 rfl rfl ?_ ?_; exact chk_load rfl (by exact S.g0 hT) rfl rfl; refine chkFs_cons 4 rfl rfl ?_ ?_; exact chk_load rfl (by exact S.g0 hT2) rfl rfl; refine chkFs_cons 3 rfl rfl ?_ ?_; exact chk_load rfl (by exact S.g0 hT3) rfl rfl; exact chkFs_nil; (iterate 5 refine chk_skip ?_); exact chk_end; refine seq_normal ?_; refine wp_ret ?_; refine block_ret ?_; refine seq_ret ?_; refine ret_of ?_; refine rk_tmp (by (conv => lhs; whnf) <;> rfl) ?_; refine rk_nil ?_
    exact ⟨rfl, S.up1 (S.drop (S.up2 hS))⟩
  rw [if_neg h6]
  refine zsr ?_; refine wpO_cons ?_; refine op1_eqlI rfl rfl rfl ?_; refine zw1 ?_; refine zns ?_
  refine wp_dec rfl (fun h7 => ?_) (fun h7 => ?_)
  · rw [if_pos h7]
    refine zsr ?_; refine zw1 ?_; refine wpO_cons ?_; refine op1_faddr0 rfl rfl ?_; refine wpO_cons ?_; refine op1_load rfl rfl (by exact S.g0 hS) rfl ?_; refine wpO_cons ?_; refine op1_call2 rfl (by (conv => lhs; whnf) <;> rfl) (by (conv => lhs; whnf) <;> rfl) ?_
    refine wpF_mono (L43 hok (S.up1 hS)) ?_
    clear hS
    rintro _ H2 ⟨a1, c1, rfl, hS⟩
    refine zw1 ?_; refine wpO_cons ?_; refine op1_extract rfl rfl rfl ?_; refine wpO_cons ?_; refine op1_extract rfl rfl rfl ?_; refine zw1 ?_; refine zw1 ?_; refine zns ?_; refine zsr ?_; refine zw1 ?_; refine wpO_cons ?_; refine op1_faddr0 rfl rfl ?_; refine wpO_cons ?_; refine op1_load rfl rfl (by exact S.g2 hS) rfl ?_; refine wpO_cons ?_; refine op1_call2 rfl (by (conv => lhs; whnf) <;> rfl) (by (conv => lhs; whnf) <;> rfl) ?_
    refine wpF_mono (L56 hok (S.up3 hS)) ?_
    clear hS
    rintro _ H3 ⟨a2, c2, rfl, hS⟩
    refine zw1 ?_; refine wpO_cons ?_; refine op1_extract rfl rfl rfl ?_; refine wpO_cons ?_; refine op1_extract rfl rfl rfl ?_; refine zw1 ?_; refine zw1 ?_; refine zns ?_; refine zsr ?_; refine zw1 ?_; refine zw1 ?_; refine wpO_cons ?_; refine op1_eqlI_s rfl rfl rfl ?_; refine zw1 ?_; refine zw1 ?_; refine zw1 ?_; refine wpO_cons ?_; refine op1_call3 rfl (by (conv => lhs; whnf) <;> rfl) (by (conv => lhs; whnf) <;> rfl) (by (conv => lhs; whnf) <;> rfl) ?_
    obtain ⟨hol, hod⟩ := out_len (now := x.o.tm) hok
    refine wpF_mono (L57 (by omega) (fun g hg => by have := hod g hg; omega) (S.up2 hS)) ?_
    clear hS
    rintro _ H4 ⟨rfl, hS⟩
    refine wpO_cons ?_; refine op1_pick_t rfl rfl (by (conv => lhs; whnf) <;> rfl) ?_; refine zw1 ?_; refine zns ?_; refine wp_ret ?_; refine block_ret ?_; refine seq_ret ?_; refine ret_of ?_; refine rk_tmp (by (conv => lhs; whnf) <;> rfl) ?_; refine rk_nil ?_
    exact ⟨rfl, S.up1 (S.drop (S.up2 hS))⟩
  rw [if_neg h7]
  refine wp_skip ?_; refine block_normal ?_; refine seq_normal ?_; refine zsr ?_; refine zw1 ?_; refine zns ?_; refine wp_ret ?_; refine ret_of ?_; refine rk_tmp (by (conv => lhs; whnf) <;> rfl) ?_; refine rk_nil ?_
  exact ⟨rfl, S.drop hS⟩
end
end Go.E.St
/- StreamsCalls. -/
namespace Go.E.St
open Go Go.E Go.ChangeShapes Go.WideShapes Go.ChangeAt Go.RowKit Go.Proofs.Ytamcfhhcmjagnaa Go.Proofs
set_option linter.unusedVariables false
set_option linter.unusedSimpArgs false
set_option maxRecDepth 100000
theorem vt2 : Try.prog.underlying 2 = some (.int .i64) := by kernel_rfl
theorem vt3 : Try.prog.underlying 3 = some (.int .i64) := by kernel_rfl
theorem vt5 : Try.prog.underlying 5 = some (.int .u8) := by kernel_rfl
theorem vt22 : Try.prog.underlying 22 = some (.int .u32) := by kernel_rfl
theorem vt23 : Try.prog.underlying 23 = some (.slice 5) := by kernel_rfl
theorem vt75 : Try.prog.underlying 75 = some (.slice 82) := by kernel_rfl
theorem vt25 : fieldsOf Try.prog 25 = some [(3,0),(22,1),(22,2),(3,3),(23,4)] := by kernel_rfl
theorem vt57 : fieldsOf Try.prog 57 = some [(22,0),(3,1),(2,2)] := by kernel_rfl
theorem vt82 : fieldsOf Try.prog 82 = some [(3,0),(3,1),(23,2),(25,3),(2,8)] := by kernel_rfl
theorem vo2 : Try.prog.cellsOf 2 = 1 := by kernel_rfl
theorem vo3 : Try.prog.cellsOf 3 = 1 := by kernel_rfl
theorem vo5 : Try.prog.cellsOf 5 = 1 := by kernel_rfl
theorem vo22 : Try.prog.cellsOf 22 = 1 := by kernel_rfl
theorem vo23 : Try.prog.cellsOf 23 = 1 := by kernel_rfl
theorem vo25 : Try.prog.cellsOf 25 = 5 := by kernel_rfl
theorem vo57 : Try.prog.cellsOf 57 = 3 := by kernel_rfl
theorem vo82 : Try.prog.cellsOf 82 = 9 := by kernel_rfl
theorem vb5 : Try.prog.bytesOf 5 = 1 := by kernel_rfl
theorem vg57 : aggT Try.prog 57 = true := by kernel_rfl
theorem vg75 : aggT Try.prog 75 = false := by kernel_rfl
theorem vreach : reachBytes = 140737488351232 := rfl

/-- the sizes of one call's bytes -/
def OpSz (x : OpF) : Prop := x.o.data.length ≤ 140737488351232 ∧ x.o.sg.data.length ≤ 140737488351232
theorem op_of {gs : List AObj} {us : List Value} (h : OkS Try.prog gs 5 82 us) : ∃ x : OpF, us = x.cells ∧ OpOk (startH gs) x ∧ OpSz x := by
  obtain ⟨hl, hf⟩ := h.struct vt82 vo82
  match us, hl with
  | [v0, v1, v2, v3, v4, v5, v6, v7, v8], _ =>
    obtain ⟨k, e0, h0⟩ := (OkS.okA _ _ _ (hf (3, 0) (by simp))).i64 vt3
    obtain ⟨n, e1, h1⟩ := (OkS.okA _ _ _ (hf (3, 1) (by simp))).i64 vt3
    obtain ⟨a, xs, c, r, e2, ⟨hl, hz⟩, hr, hlt, _⟩ := (hf (23, 2) (by simp)).byteS vt23 vo5 vt5
    have hs := hf (25, 3) (by simp)
    obtain ⟨t, e8, h8⟩ := (OkS.okA _ _ _ (hf (2, 8) (by simp))).i64 vt2
    simp only [vo2, vo3, vo23, vo25, List.drop_zero, List.take_succ_cons, List.take_zero, List.drop_succ_cons] at e0 e1 e2 hs e8
    obtain ⟨_, hg⟩ := hs.struct vt25 vo25
    obtain ⟨fl, e3, h3⟩ := (OkS.okA _ _ _ (hg (3, 0) (by simp))).i64 vt3
    obtain ⟨sq, e4, h4⟩ := (OkS.okA _ _ _ (hg (22, 1) (by simp))).u32 vt22
    obtain ⟨nm, e5, h5⟩ := (OkS.okA _ _ _ (hg (22, 2) (by simp))).u32 vt22
    obtain ⟨wn, e6, h6⟩ := (OkS.okA _ _ _ (hg (3, 3) (by simp))).i64 vt3
    obtain ⟨a', ys, c', r', e7, ⟨hl', hz'⟩, hr', hlt', _⟩ := (hg (23, 4) (by simp)).byteS vt23 vo5 vt5
    simp only [vo3, vo22, vo23, List.drop_zero, List.take_succ_cons, List.take_zero, List.drop_succ_cons] at e3 e4 e5 e6 e7
    cases e0; cases e1; cases e2; cases e3; cases e4; cases e5; cases e6; cases e7; cases e8
    rw [vb5, Nat.mul_one, vreach] at hz hz'
    exact ⟨⟨⟨k, n, xs, ⟨fl, sq, nm, wn, ys⟩, t⟩, a, c, r, a', c', r'⟩, rfl, ⟨h1, h8, h0, h3, h6, h4, h5, hl, hl', hr, hlt, hr', hlt'⟩, hz, hz'⟩
structure CallsF (B : AHeap) where
  first : Int
  size : Int
  tmo : Int
  os : List OpF
  oa : Option Addr
  oc : Nat
  orr : List Nat
  hf : 0 ≤ first ∧ first ≤ 4294967295
  hs : -9223372036854775808 ≤ size ∧ size ≤ 9223372036854775807
  ht : -9223372036854775808 ≤ tmo ∧ tmo ≤ 9223372036854775807
  hl : os.length ≤ 9223372036854775807
  ord : RdS B 9 (.slice oa os.length oc) (os.flatMap OpF.cells) orr
  olt : ∀ b ∈ orr, b < B.next
  ook : ∀ x ∈ os, OpOk B x ∧ OpSz x
theorem arg_calls {gs : List AObj} {a b : Value} (h : ∃ cells, a = argV Try.prog 57 cells ∧ OkS Try.prog gs 6 57 cells) (k : ∃ cells, b = argV Try.prog 75 cells ∧ OkS Try.prog gs 6 75 cells) :
    ∃ x : CallsF (startH gs), a = .agg ⟨[.int .u32 x.first, .int .i64 x.size, .int .i64 x.tmo]⟩ ∧ b = .slice x.oa x.os.length x.oc := by
  obtain ⟨us, rfl, h⟩ := h
  obtain ⟨ws, rfl, k⟩ := k
  obtain ⟨hl, hf⟩ := h.struct vt57 vo57
  match us, hl with
  | [v0, v1, v2], _ =>
    obtain ⟨f, e0, h0⟩ := (OkS.okA _ _ _ (hf (22, 0) (by simp))).u32 vt22
    obtain ⟨n, e1, h1⟩ := (OkS.okA _ _ _ (hf (3, 1) (by simp))).i64 vt3
    obtain ⟨t, e2, h2⟩ := (OkS.okA _ _ _ (hf (2, 2) (by simp))).i64 vt2
    obtain ⟨oa, os, oc, r, rfl, ⟨hol, _⟩, hor, holt, hoo⟩ := k.slice (f := OpF.cells) (Q := fun x => OpOk (startH gs) x ∧ OpSz x) vt75 vo82 (fun _ => rfl) fun us h => op_of h
    simp only [vo2, vo3, vo22, List.drop_zero, List.take_succ_cons, List.take_zero, List.drop_succ_cons] at e0 e1 e2
    cases e0; cases e1; cases e2
    exact ⟨⟨f, n, t, os, oa, oc, r, h0, h1, h2, hol, hor, holt, hoo⟩, by unfold argV; rw [vg57]; rfl, by unfold argV; rw [vg75]; rfl⟩
def tot : List OpF → Nat
  | [] => 0
  | x :: l => x.o.data.length + x.o.sg.data.length + tot l
theorem tot_snoc (l : List OpF) (x : OpF) : tot (l ++ [x]) = tot l + (x.o.data.length + x.o.sg.data.length) := by
  induction l with
  | nil => simp [tot]
  | cons a l ih => simp only [List.cons_append, tot, ih]; omega
theorem tot_le : ∀ (l : List OpF), (∀ x ∈ l, OpSz x) → tot l ≤ l.length * 281474976702464
  | [], _ => by simp [tot]
  | x :: l, h => by
    have h1 := h x (by simp)
    have h2 := tot_le l fun y hy => h y (by simp [hy])
    unfold OpSz at h1
    simp only [tot, List.length_cons]
    omega
theorem tot_mem : ∀ {l : List OpF} {x : OpF}, x ∈ l → x.o.data.length + x.o.sg.data.length ≤ tot l
  | [], _, h => by cases h
  | a :: l, x, h => by
    simp only [tot]
    rcases List.mem_cons.1 h with rfl | h
    · omega
    · have := tot_mem h
      omega
section
variable {B H : AHeap} {As : List Asn}
theorem L28 {os : List OpF} {oa : Option Addr} {oc : Nat} {r : List Nat} (hl : os.length ≤ 9223372036854775807) (hrd : RdS B 9 (.slice oa os.length oc) (os.flatMap OpF.cells) r) (hlt : ∀ b ∈ r, b < B.next) (hok : ∀ x ∈ os, OpOk B x ∧ OpSz x) (hS : S B H As) :
    wpF C 28 [.slice oa os.length oc] H fun v H' => ∃ b : Bool, v = .bool b ∧ (b = false → os.length ≤ 40 ∧ tot os ≤ 12000) ∧ S B H' As := by
  refine wpF_ofW o28 rfl rfl ?_
  refine zsr ?_; refine zw1 ?_; refine zns ?_; refine zsr ?_; refine zw1 ?_; refine zns ?_; refine wp_seq ?_; refine zsr ?_; refine zw1 ?_; refine wpO_cons ?_; refine op1_len rfl rfl ?_; refine zw1 ?_; refine zns ?_; refine wp_block ?_
  refine wp_loop [3, 8] (fun k vs H' => ∃ (i : Nat) (n : Int), vs = [.int .i64 n, .int .i64 i] ∧ k = os.length - i ∧ i ≤ os.length ∧ (os.length ≤ 40 → n = tot (os.take i)) ∧ S B H' As) ⟨_, 0, 0, rfl, rfl, by omega, fun _ => rfl, hS⟩ ?_
  clear hS
  rintro k vs T' H5 ⟨i, n, rfl, rfl, hi, hn, hS⟩
  refine zsr ?_; refine wpO_cons ?_; refine op1_lss rfl rfl rfl ?_; refine zns ?_; refine wp_seq ?_
  refine wp_dec rfl (fun h1 => ?_) (fun h1 => ?_)
  rotate_left
  · obtain rfl : i = os.length := by omega
    rw [List.take_length] at hn
    refine wp_exit ?_; refine seq_exit ?_; refine iter_exit ?_; refine block_exit ?_; refine seq_normal ?_; refine zsr ?_; refine zw1 ?_; refine wpO_cons ?_; refine op1_len rfl rfl ?_; refine wpO_cons ?_; refine op1_gtr rfl rfl rfl ?_; refine zw1 ?_; refine wpO_cons ?_
    refine op1_dec rfl (fun h2 => ?_) (fun h2 => ?_)
    · refine op1_skip rfl ?_; refine wpO_cons ?_; refine op1_skip rfl ?_; refine wpO_cons ?_; refine op1_pick_t rfl rfl (by (conv => lhs; whnf) <;> rfl) ?_; refine zw1 ?_; refine zns ?_; refine wp_ret ?_; refine ret_of ?_; refine rk_tmp (by (conv => lhs; whnf) <;> rfl) ?_; refine rk_nil ?_
      exact ⟨true, rfl, (fun h => by simp at h), hS⟩
    · refine op1_mov rfl (by (conv => lhs; whnf) <;> rfl) ?_; refine wpO_cons ?_; refine op1_gtr rfl rfl rfl ?_; refine wpO_cons ?_; refine op1_pick_f rfl rfl (by (conv => lhs; whnf) <;> rfl) ?_; refine zw1 ?_; refine zns ?_; refine wp_ret ?_; refine ret_of ?_; refine rk_tmp (by (conv => lhs; whnf) <;> rfl) ?_; refine rk_nil ?_
      refine ⟨decide ((12000 : Int) < n), rfl, fun h => ?_, hS⟩
      have h3 := of_decide_eq_false h
      have h4 := hn (by omega)
      exact ⟨by omega, by omega⟩
  obtain ⟨x, hx⟩ : ∃ x, os[i]? = some x := ⟨os[i]'(by omega), by simp⟩
  obtain ⟨hxo, hxs⟩ := hok x (List.mem_of_getElem? hx)
  obtain ⟨b, off, cs, e1, ro, rfl, hg, hle, hrow⟩ := RdS.row (f := OpF.cells) (fun _ => rfl) (hS.rdB hrd hlt) rfl hx
  have htk : tot (os.take (i + 1)) = tot (os.take i) + (x.o.data.length + x.o.sg.data.length) := by rw [List.take_add_one, hx, Option.toList_some, tot_snoc]
  have htl : os.length ≤ 40 → tot (os.take i) ≤ 11258999068098560 := fun h => by
    have h1 := tot_le (os.take i) fun y hy => (hok y (List.mem_of_mem_take hy)).2
    have h2 : (os.take i).length ≤ 40 := by rw [List.length_take]; omega
    omega
  unfold OpSz at hxs
  refine wp_skip ?_; refine seq_normal ?_; refine wp_seq ?_; refine wp_block ?_; refine zsr ?_; refine wpO_cons ?_; refine op1_iaddr rfl rfl rfl (by omega) (by omega) ?_; refine wpO_cons ?_
  refine op1_loadN rfl rfl hg hle hrow ?_
  unfold OpF.cells
  refine wpO_cons ?_; refine op1_allocS rfl hS ?_; intro p1 H1 hS; refine wpO_cons ?_; (refine op1_storeNS rfl rfl (by (conv => lhs; whnf) <;> rfl) rfl rfl (S.up0 hS) (Nat.le_of_ble_eq_true rfl) ?_; intro H2 hS; replace hS := S.dn0 hS); refine zns ?_; refine wp_region ?_; refine zw1 ?_; refine wpO_cons ?_; refine op1_faddr0 rfl rfl ?_; refine wpO_cons ?_; refine op1_load rfl rfl (by exact S.g0 hS) rfl ?_; refine wpO_cons ?_; refine op1_len rfl rfl ?_; refine wpO_cons ?_; refine op1_faddr0 rfl rfl ?_; refine wpO_cons ?_; refine op1_faddr rfl rfl ?_; refine wpO_cons ?_; refine op1_load rfl rfl (by exact S.g0 hS) rfl ?_; refine wpO_cons ?_; refine op1_len rfl rfl ?_; refine wpO_cons ?_; refine op1_add rfl rfl rfl (by exact wrap_i64 (by omega) (by omega)) ?_; refine wpO_cons ?_
  refine op1_addW rfl rfl rfl ?_
  refine zw1 ?_; refine wpO_nil ?_; refine block_normal ?_; refine seq_normal ?_; refine wp_region ?_; refine wpO_cons ?_; refine op1_add rfl rfl rfl (by exact wrap_i64 (by omega) (by omega)) ?_; refine zw1 ?_; refine wpO_nil ?_
  refine ⟨os.length - (i + 1), by omega, i + 1, _, rfl, rfl, by omega, fun h => ?_, S.drop hS⟩
  rw [htk, hn h]
  have := htl h
  rw [wrap_i64 (by omega) (by omega)]
  omega
theorem L6 {B : AHeap} (x : CallsF B) : wpF C 6 [.agg ⟨[.int .u32 x.first, .int .i64 x.size, .int .i64 x.tmo]⟩, .slice x.oa x.os.length x.oc] B fun v _ => v = .bool true := by
  obtain ⟨first, size, tmo, os, oa, oc, r, hf, hs, ht, hl, hrd, hlt, hok⟩ := x
  dsimp only
  have hS := S.start B
  refine wpF_ofW o6 rfl rfl ?_
  refine zsr ?_; refine wpO_cons ?_; refine op1_boxNS rfl rfl rfl hS ?_; intro p1 H1 hS; refine zw1 ?_; refine zns ?_; refine wp_seq ?_; refine zsr ?_; refine zw1 ?_; refine wpO_cons ?_; refine op1_call1 rfl (by (conv => lhs; whnf) <;> rfl) ?_
  refine wpF_mono (L28 hl hrd hlt hok hS) ?_
  clear hS
  rintro _ H2 ⟨b, rfl, hb, hS⟩
  cases b
  rotate_left
  · refine zns ?_; refine wp_true rfl ?_; refine zsr ?_; refine wpO_cons ?_; refine op1_call0 rfl  ?_; refine wpF_known rfl (globAll _) ?_; refine zw1 ?_; refine zns ?_; refine wp_ret ?_; refine seq_ret ?_; refine ret_of ?_; refine rk_tmp (by (conv => lhs; whnf) <;> rfl) ?_; refine rk_nil ?_
    rfl
  obtain ⟨hl40, htot⟩ := hb rfl
  refine zns ?_; refine wp_false rfl ?_; refine wp_skip ?_; refine seq_normal ?_; refine zsr ?_; refine wpO_cons ?_; refine op1_faddr0 rfl rfl ?_; refine wpO_cons ?_; refine op1_load rfl rfl (by exact S.g0 hS) rfl ?_; refine wpO_cons ?_; refine op1_faddr0 rfl rfl ?_; refine wpO_cons ?_; refine op1_load rfl rfl (by exact S.g0 hS) rfl ?_; refine wpO_cons ?_; refine op1_faddr0 rfl rfl ?_; refine wpO_cons ?_; refine op1_load rfl rfl (by exact S.g0 hS) rfl ?_; refine wpO_cons ?_; refine op1_call3 rfl (by (conv => lhs; whnf) <;> rfl) (by (conv => lhs; whnf) <;> rfl) (by (conv => lhs; whnf) <;> rfl) ?_
  refine wpF_mono (L29 hS) ?_
  clear hS
  by_cases hN : NewOk size tmo
  rotate_left
  · rintro _ H3 ⟨h, _⟩
    obtain ⟨rfl, hS⟩ := h hN
    refine zw1 ?_; refine wpO_cons ?_; refine op1_extract rfl rfl rfl ?_; refine wpO_cons ?_; refine op1_extract rfl rfl rfl ?_; refine zw1 ?_; refine zw1 ?_; refine zns ?_; refine zsr ?_; refine wpO_cons ?_; refine op1_faddr0 rfl rfl ?_; refine wpO_cons ?_; refine op1_load rfl rfl (by exact S.g0 hS) rfl ?_; refine wpO_cons ?_; refine op1_faddr0 rfl rfl ?_; refine wpO_cons ?_; refine op1_load rfl rfl (by exact S.g0 hS) rfl ?_; refine wpO_cons ?_; refine op1_faddr0 rfl rfl ?_; refine wpO_cons ?_; refine op1_load rfl rfl (by exact S.g0 hS) rfl ?_; refine wpO_cons ?_; refine op1_call3 rfl (by (conv => lhs; whnf) <;> rfl) (by (conv => lhs; whnf) <;> rfl) (by (conv => lhs; whnf) <;> rfl) ?_
    refine wpF_mono (L30 hS) ?_
    clear hS h
    rintro _ H4 ⟨h, _⟩
    obtain ⟨rfl, hS⟩ := h hN
    refine zw1 ?_; refine wpO_cons ?_; refine op1_extract rfl rfl rfl ?_; refine wpO_cons ?_; refine op1_extract rfl rfl rfl ?_; refine zw1 ?_; refine zw1 ?_; refine zns ?_; refine wp_seq ?_; refine zsr ?_; refine zw1 ?_; refine zw1 ?_; refine wpO_cons ?_; refine op1_neqI_s rfl rfl rfl ?_; refine zw1 ?_; refine zw1 ?_; refine wpO_cons ?_; refine op1_bin_true rfl (by (conv => lhs; whnf) <;> rfl) (by (conv => lhs; whnf) <;> rfl) rfl ?_; refine zw1 ?_; refine wpO_cons ?_; refine op1_neqI rfl rfl rfl ?_; refine wpO_cons ?_; refine op1_neqB_s rfl rfl rfl rfl ?_; refine wpO_cons ?_; refine op1_pick_f rfl rfl (by (conv => lhs; whnf) <;> rfl) ?_; refine zns ?_; refine wp_false rfl ?_; refine wp_skip ?_; refine seq_normal ?_; refine wp_seq ?_; refine zsr ?_; refine zw1 ?_; refine wpO_cons ?_; refine op1_neqI rfl rfl rfl ?_; refine zns ?_; refine wp_true rfl ?_; refine zsr ?_; refine wpO_cons ?_; refine op1_call0 rfl  ?_; refine wpF_known rfl (globAll _) ?_; refine zw1 ?_; refine zns ?_; refine wp_ret ?_; refine seq_ret ?_; refine ret_of ?_; refine rk_tmp (by (conv => lhs; whnf) <;> rfl) ?_; refine rk_nil ?_
    rfl
  rintro _ H3 ⟨_, h⟩
  obtain ⟨p, rfl, hS⟩ := h hN
  clear h
  refine zw1 ?_; refine wpO_cons ?_; refine op1_extract rfl rfl rfl ?_; refine wpO_cons ?_; refine op1_extract rfl rfl rfl ?_; refine zw1 ?_; refine zw1 ?_; refine zns ?_; refine zsr ?_; refine wpO_cons ?_; refine op1_faddr0 rfl rfl ?_; refine wpO_cons ?_; refine op1_load rfl rfl (by exact S.g1 hS) rfl ?_; refine wpO_cons ?_; refine op1_faddr0 rfl rfl ?_; refine wpO_cons ?_; refine op1_load rfl rfl (by exact S.g1 hS) rfl ?_; refine wpO_cons ?_; refine op1_faddr0 rfl rfl ?_; refine wpO_cons ?_; refine op1_load rfl rfl (by exact S.g1 hS) rfl ?_; refine wpO_cons ?_; refine op1_call3 rfl (by (conv => lhs; whnf) <;> rfl) (by (conv => lhs; whnf) <;> rfl) (by (conv => lhs; whnf) <;> rfl) ?_
  refine wpF_mono (L30 (S.up1 hS)) ?_
  clear hS
  rintro _ H4 ⟨_, h⟩
  obtain ⟨q, rfl, hS⟩ := h hN
  clear h
  unfold ptC
  refine zw1 ?_; refine wpO_cons ?_; refine op1_extract rfl rfl rfl ?_; refine wpO_cons ?_; refine op1_extract rfl rfl rfl ?_; refine zw1 ?_; refine zw1 ?_; refine zns ?_; refine wp_seq ?_; refine zsr ?_; refine zw1 ?_; refine zw1 ?_; refine wpO_cons ?_; refine op1_neqI_s rfl rfl rfl ?_; refine zw1 ?_; refine zw1 ?_; refine wpO_cons ?_; refine op1_bin_false rfl (by (conv => lhs; whnf) <;> rfl) (by (conv => lhs; whnf) <;> rfl) rfl ?_; refine zw1 ?_; refine wpO_cons ?_; refine op1_neqI_s rfl rfl rfl ?_; refine wpO_cons ?_; refine op1_neqB_s rfl rfl rfl rfl ?_; refine wpO_cons ?_; refine op1_pick_f rfl rfl (by (conv => lhs; whnf) <;> rfl) ?_; refine zns ?_; refine wp_false rfl ?_; refine wp_skip ?_; refine seq_normal ?_; refine wp_seq ?_; refine zsr ?_; refine zw1 ?_; refine wpO_cons ?_; refine op1_neqI_s rfl rfl rfl ?_; refine zns ?_; refine wp_false rfl ?_; refine wp_skip ?_; refine seq_normal ?_; refine wp_seq ?_; refine zsr ?_; refine zw1 ?_; refine wpO_cons ?_; refine op1_len rfl rfl ?_; refine zw1 ?_; refine zns ?_; refine wp_block ?_
  refine wp_loop [49] (fun k vs H' => ∃ (i : Nat) (s : Cn), vs = [.int .i64 i] ∧ k = os.length - i ∧ i ≤ os.length ∧ Inv s ∧ S B H' [repC p s, repD q s]) ⟨_, 0, cn0 first size tmo, rfl, rfl, by omega, Inv.new hN hf, S.up1 (S.drop (S.up1 hS))⟩ ?_
  clear hS
  rintro k vs T2 H8 ⟨i, s, rfl, rfl, hi, hinv, hS⟩
  refine zsr ?_; refine wpO_cons ?_; refine op1_lss rfl rfl rfl ?_; refine zns ?_; refine wp_seq ?_
  refine wp_dec rfl (fun h1 => ?_) (fun h1 => ?_)
  rotate_left
  · refine wp_exit ?_; refine seq_exit ?_; refine iter_exit ?_; refine block_exit ?_; refine seq_normal ?_; refine zsr ?_; refine wpO_cons ?_; refine op1_call0 rfl  ?_; refine wpF_known rfl (globAll _) ?_; refine zw1 ?_; refine zns ?_; refine wp_ret ?_; refine ret_of ?_; refine rk_tmp (by (conv => lhs; whnf) <;> rfl) ?_; refine rk_nil ?_
    rfl
  obtain ⟨x, hx⟩ : ∃ x, os[i]? = some x := ⟨os[i]'(by omega), by simp⟩
  obtain ⟨hxo, hxs⟩ := hok x (List.mem_of_getElem? hx)
  have hxt := tot_mem (List.mem_of_getElem? hx)
  obtain ⟨b, off, cs, e1, ro, rfl, hg, hle, hrow⟩ := RdS.row (f := OpF.cells) (fun _ => rfl) (hS.rdB hrd hlt) rfl hx
  refine wp_skip ?_; refine seq_normal ?_; refine wp_seq ?_; refine wp_block ?_; refine zsr ?_; refine wpO_cons ?_; refine op1_iaddr rfl rfl rfl (by omega) (by omega) ?_; refine wpO_cons ?_
  refine op1_loadN rfl rfl hg hle hrow ?_
  unfold OpF.cells
  refine wpO_cons ?_; refine op1_allocS rfl hS ?_; intro p2 H5 hS; refine wpO_cons ?_; (refine op1_storeNS rfl rfl (by (conv => lhs; whnf) <;> rfl) rfl rfl (S.up0 hS) (Nat.le_of_ble_eq_true rfl) ?_; intro H6 hS; replace hS := S.dn0 hS); refine zns ?_; refine zsr ?_; refine zw1 ?_; refine zw1 ?_; refine wpO_cons ?_; refine op1_load_9 rfl rfl (by exact S.g0 hS) rfl rfl ?_; refine wpO_cons ?_; refine op1_call3 rfl (by (conv => lhs; whnf) <;> rfl) (by (conv => lhs; whnf) <;> rfl) (by (conv => lhs; whnf) <;> rfl) ?_
  refine wpF_mono (L31 (p := p) (q := q) (s := s) hinv hxo (by omega) (by omega) (S.up2 (S.up2 hS))) ?_
  clear hS
  rintro _ H9 ⟨rfl, hS⟩
  have hinv2 := hinv.step hxo.seq hxo.num
  refine wpO_cons ?_; refine op1_not_t rfl rfl ?_; refine zw1 ?_; refine zw1 ?_; refine zw1 ?_; refine wpO_cons ?_; refine op1_call2 rfl (by (conv => lhs; whnf) <;> rfl) (by (conv => lhs; whnf) <;> rfl) ?_
  refine wpF_mono (L32 (p := p) (q := q) hinv2 hS) ?_
  clear hS
  rintro _ H10 ⟨rfl, hS⟩
  refine wpO_cons ?_; refine op1_not_t rfl rfl ?_; refine wpO_cons ?_; refine op1_pick_f rfl rfl (by (conv => lhs; whnf) <;> rfl) ?_; refine zns ?_; refine wp_false rfl ?_; refine wp_skip ?_; refine block_normal ?_; refine seq_normal ?_; refine wp_region ?_; refine wpO_cons ?_; refine op1_add rfl rfl rfl (by exact wrap_i64 (by omega) (by omega)) ?_; refine zw1 ?_; refine wpO_nil ?_
  exact ⟨os.length - (i + 1), by omega, i + 1, _, rfl, rfl, by omega, hinv2, S.drop (S.up2 hS)⟩
end
end Go.E.St
