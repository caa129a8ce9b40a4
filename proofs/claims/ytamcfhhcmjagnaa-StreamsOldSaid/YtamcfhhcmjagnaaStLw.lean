/- The law's functions over both connections: doing one call on both, and looking at both. -/
import Derived.Test.YtamcfhhcmjagnaaStR3
import Derived.Test.YtamcfhhcmjagnaaStR5
import Derived.Test.YtamcfhhcmjagnaaStCy
import Derived.Test.YtamcfhhcmjagnaaStCode
import Derived.Test.YtamcfhhcmjagnaaEhZn
namespace Go.E.St
open Go Go.E Go.Proofs.Ytamcfhhcmjagnaa Go.Proofs
set_option linter.unusedVariables false
set_option linter.unusedSimpArgs false
set_option maxRecDepth 100000
theorem sgC_inj {g : Sg} {u v : Value} (h : sgC g u = sgC g v) : u = v := by
  unfold sgC at h
  simpa using h
theorem sg_rd {B : AHeap} {As : List Asn} {l : List Sg} {css : List (List Value)} {i : Nat} {g : Sg} {vd : Value} (hg : l[i]? = some g) (hc : css[i]? = some (sgC g vd)) : RD B (many sgA l css :: As) 1 vd (u8s g.data) := by
  intro H h
  obtain ⟨cs, o, h1, h2, h3⟩ := S.many_at h hg
  rw [hc] at h1
  cases h1
  obtain ⟨v, h2⟩ := h2
  cases h2 with
  | cons k1 k2 => cases k2 with
    | cons k3 k4 =>
      cases k4
      obtain ⟨rfl, k3⟩ := k3
      obtain rfl := sgC_inj k3
      have h5 : SlO H 1 vd (u8s g.data) _ := k1
      exact ⟨_, h5.rd, fun b hb => h3 b (by simp [hb])⟩
section
variable {B H : AHeap} {As : List Asn} {p q : Nat} {s : Cn} {g : Sg}
theorem L58 {a a' : Option Addr} {c c' : Nat} (hl : g.data.length ≤ 1000000) (h1 : RD B As 1 (.slice a g.data.length c) (u8s g.data)) (h2 : RD B As 1 (.slice a' g.data.length c') (u8s g.data)) (hS : S B H As) :
    wpF C 58 [.agg ⟨sgC g (.slice a g.data.length c)⟩, .agg ⟨sgC g (.slice a' g.data.length c')⟩] H fun v H' => v = .bool true ∧ S B H' As := by
  refine wpF_ofW o58 rfl rfl ?_
  unfold sgC
  refine zsr ?_; refine wpO_cons ?_; refine op1_boxNS rfl rfl rfl hS ?_; intro p1 H1 hS; refine wpO_cons ?_; refine op1_boxNS rfl rfl rfl hS ?_; intro p2 H2 hS; refine zw1 ?_; refine zns ?_; refine zsr ?_; refine zf ?_; refine zh (S.g1 hS) ?_; refine zf ?_; refine zh (S.g0 hS) ?_; refine wpO_cons ?_; refine op1_eqlI_s rfl rfl rfl ?_; refine zw1 ?_; refine zf ?_; refine zh (S.g1 hS) ?_; refine zf ?_; refine zh (S.g0 hS) ?_; refine wpO_cons ?_; refine op1_eqlI_s rfl rfl rfl ?_; refine zt ?_; refine zw1 ?_; refine zf ?_; refine zh (S.g1 hS) ?_; refine zf ?_; refine zh (S.g0 hS) ?_; refine wpO_cons ?_; refine op1_eqlI_s rfl rfl rfl ?_; refine zt ?_; refine zw1 ?_; refine zf ?_; refine zh (S.g1 hS) ?_; refine zf ?_; refine zh (S.g0 hS) ?_; refine wpO_cons ?_; refine op1_eqlI_s rfl rfl rfl ?_; refine zt ?_; refine zw1 ?_; refine zf ?_; refine zh (S.g1 hS) ?_; refine zf ?_; refine zh (S.g0 hS) ?_; refine wpO_cons ?_; refine op1_call2 rfl (by (conv => lhs; whnf) <;> rfl) (by (conv => lhs; whnf) <;> rfl) ?_
  obtain ⟨r1, hr1, _⟩ := h1 _ (S.drop (S.drop hS))
  obtain ⟨r2, hr2, _⟩ := h2 _ (S.drop (S.drop hS))
  refine wpF_mono (L22 hr1 hl hr2 hl) ?_
  rintro _ H2 ⟨rfl, rfl⟩
  rw [decide_eq_true rfl]
  refine zt ?_; refine zw1 ?_; refine zns ?_; refine wp_ret ?_; refine ret_of ?_; refine zr ?_; refine rk_nil ?_
  exact ⟨rfl, S.drop (S.drop hS)⟩
theorem L57 {l : List Sg} {a a' : Option Addr} {c c' : Nat} (hl : l.length ≤ 1000000) (hd : ∀ g ∈ l, g.data.length ≤ 1000000) (hS : S B H (arr 5 sgA (.slice a l.length c) l :: arr 5 sgA (.slice a' l.length c') l :: As)) :
    wpF C 57 [.slice a l.length c, .slice a' l.length c', .func (.func 58) #[] #[]] H fun v H' => v = .bool true ∧ S B H' As := by
  obtain ⟨css, hcss, hcl, hS⟩ := S.unarr hS
  obtain ⟨dss, hdss, hdl, hS⟩ := S.unarr (S.up2 hS)
  refine wpF_ofW o57 rfl rfl ?_
  refine zsr ?_; refine zw1 ?_; refine zns ?_; refine wp_seq ?_; refine zsr ?_; refine zw1 ?_; refine wpO_cons ?_; refine op1_len rfl rfl ?_; refine zw1 ?_; refine wpO_cons ?_; refine op1_len rfl rfl ?_; refine wpO_cons ?_; refine op1_neqI_s rfl rfl rfl ?_; refine zns ?_; refine wp_false rfl ?_; refine wp_skip ?_; refine seq_normal ?_; refine wp_seq ?_; refine zsr ?_; refine zw1 ?_; refine wpO_cons ?_; refine op1_len rfl rfl ?_; refine zw1 ?_; refine zns ?_; refine wp_block ?_
  refine wp_loop [17] (fun k vs H' => ∃ i : Nat, vs = [.int .i64 i] ∧ k = l.length - i ∧ i ≤ l.length ∧ S B H' (sl 5 (.slice a' l.length c') dss.flatten :: many sgA l dss :: sl 5 (.slice a l.length c) css.flatten :: many sgA l css :: As)) ⟨_, 0, rfl, rfl, by omega, hS⟩ ?_
  clear hS
  rintro k vs T' H5 ⟨i, rfl, rfl, hi, hS⟩
  refine zsr ?_; refine wpO_cons ?_; refine op1_lss rfl rfl rfl ?_; refine zns ?_; refine wp_seq ?_
  refine wp_dec rfl (fun hlt => ?_) (fun hlt => ?_)
  rotate_left
  · refine wp_exit ?_; refine seq_exit ?_; refine iter_exit ?_; refine block_exit ?_; refine seq_normal ?_; refine zsr ?_; refine zw1 ?_; refine zns ?_; refine wp_ret ?_; refine ret_of ?_; refine zr ?_; refine rk_nil ?_
    exact ⟨rfl, S.drop (S.drop (S.drop (S.drop hS)))⟩
  obtain ⟨g, hg⟩ : ∃ g, l[i]? = some g := ⟨l[i]'(by omega), by simp⟩
  have hgd := hd g (List.mem_of_getElem? hg)
  obtain ⟨cs, og, hcs, hA, _⟩ := S.many_at (S.up3 hS) hg
  obtain ⟨ag, cg, rfl⟩ := sgA_at hA
  obtain ⟨ds, og', hds, hA', _⟩ := S.many_at (S.up1 hS) hg
  obtain ⟨ag', cg', rfl⟩ := sgA_at hA'
  have hcut := flatten_cut hcss hcs
  have hcut' := flatten_cut hdss hds
  obtain ⟨lb, lo, lcs, rfl, _⟩ := S.slBlk (S.up2 hS) (by omega)
  obtain ⟨lb', lo', lcs', rfl, _⟩ := S.slBlk hS (by omega)
  have hr1 : RD B (sl 5 (.slice (some ⟨lb', lo', none⟩) l.length c') dss.flatten :: many sgA l dss :: sl 5 (.slice (some ⟨lb, lo, none⟩) l.length c) css.flatten :: many sgA l css :: As) 1 _ _ := RD.cons (RD.cons (RD.cons (sg_rd hg hcs)))
  have hr2 : RD B (sl 5 (.slice (some ⟨lb', lo', none⟩) l.length c') dss.flatten :: many sgA l dss :: sl 5 (.slice (some ⟨lb, lo, none⟩) l.length c) css.flatten :: many sgA l css :: As) 1 _ _ := RD.cons (sg_rd hg hds)
  unfold sgC at hcut hcut'
  refine wp_skip ?_; refine seq_normal ?_; refine wp_seq ?_; refine wp_block ?_; refine zsr ?_; refine zw1 ?_; refine wpO_cons ?_; refine op1_iaddr rfl rfl rfl (by omega) (by omega) ?_; refine wpO_cons ?_; refine op1_loadNL rfl rfl (S.up2 hS) rfl rfl (by omega) rfl ?_; refine wpO_cons ?_; refine op1_allocS rfl hS ?_; intro p1 H1 hS; refine zw1 ?_; refine wpO_cons ?_
  rw [show (i : Int).toNat = i from rfl, hcut]
  (refine op1_storeNS rfl rfl (by (conv => lhs; whnf) <;> rfl) rfl rfl (S.up0 hS) (Nat.le_of_ble_eq_true rfl) ?_; intro H2 hS; replace hS := S.dn0 hS); refine zns ?_; refine zsr ?_; refine zw1 ?_; refine zw1 ?_; refine wpO_cons ?_; refine op1_iaddr rfl rfl rfl (by omega) (by omega) ?_; refine wpO_cons ?_; refine op1_loadNL rfl rfl (S.up1 hS) rfl rfl (by omega) rfl ?_; refine wpO_cons ?_; refine op1_allocS rfl hS ?_; intro p2 H3 hS; refine wpO_cons ?_
  rw [show (i : Int).toNat = i from rfl, hcut']
  (refine op1_storeNS rfl rfl (by (conv => lhs; whnf) <;> rfl) rfl rfl (S.up0 hS) (Nat.le_of_ble_eq_true rfl) ?_; intro H4 hS; replace hS := S.dn0 hS); refine zns ?_; refine zsr ?_; refine zw1 ?_; refine wpO_cons ?_; refine op1_load_5 rfl rfl (by exact S.g1 hS) rfl rfl ?_; refine wpO_cons ?_; refine op1_load_5 rfl rfl (by exact S.g0 hS) rfl rfl ?_; refine wpO_cons ?_; refine op1_dyn2 rfl rfl (by (conv => lhs; whnf) <;> rfl) (by (conv => lhs; whnf) <;> rfl) ?_
  refine wpF_mono (L58 (g := g) hgd (RD.cons (RD.cons hr1)) (RD.cons (RD.cons hr2)) hS) ?_
  clear hS
  rintro _ H9 ⟨rfl, hS⟩
  refine wpO_cons ?_; refine op1_not_t rfl rfl ?_; refine zns ?_; refine wp_false rfl ?_; refine wp_skip ?_; refine block_normal ?_; refine seq_normal ?_; refine wp_region ?_; refine wpO_cons ?_; refine op1_add rfl rfl rfl (by exact wrap_i64 (by omega) (by omega)) ?_; refine zw1 ?_; refine wpO_nil ?_
  exact ⟨l.length - (i + 1), by omega, i + 1, rfl, rfl, by omega, S.drop (S.drop hS)⟩
theorem L14 {ad : Option Addr} {cd : Nat} (hS : S B H As) : wpF C 14 [.agg ⟨sgC g (.slice ad g.data.length cd)⟩] H fun v H' => v = .agg ⟨sgC g (.slice ad g.data.length cd)⟩ ∧ S B H' As := by
  refine wpF_ofW o14 rfl rfl ?_
  unfold sgC
  refine zsr ?_; refine wpO_cons ?_; refine op1_boxNS rfl rfl rfl hS ?_; intro p1 H1 hS; refine wpO_cons ?_; refine op1_allocS rfl hS ?_; intro p2 H2 hS; refine zns ?_; refine zsr ?_; refine zf ?_; refine zh (S.g1 hS) ?_; refine zf ?_; refine zh (S.g1 hS) ?_; refine zf ?_; refine zh (S.g1 hS) ?_; refine zf ?_; refine zh (S.g1 hS) ?_; refine zf ?_; refine zh (S.g1 hS) ?_; refine wpO_cons ?_; refine op1_build rfl ?_; refine bk_one (by (conv => lhs; whnf) <;> rfl) rfl rfl rfl ?_; refine bk_one (by (conv => lhs; whnf) <;> rfl) rfl rfl rfl ?_; refine bk_one (by (conv => lhs; whnf) <;> rfl) rfl rfl rfl ?_; refine bk_one (by (conv => lhs; whnf) <;> rfl) rfl rfl rfl ?_; refine bk_one (by (conv => lhs; whnf) <;> rfl) rfl rfl rfl ?_; refine bk_nil ?_; refine wpO_cons ?_; (refine op1_storeNS rfl rfl (by (conv => lhs; whnf) <;> rfl) rfl rfl (S.up0 hS) (Nat.le_of_ble_eq_true rfl) ?_; intro H3 hS; replace hS := S.dn0 hS); refine zns ?_; refine wp_ret ?_; refine ret_of ?_; refine rk_cellN rfl (by exact S.g0 hS) rfl rfl ?_; refine rk_nil ?_
  exact ⟨rfl, S.drop (S.drop hS)⟩
theorem L32 (hi : Inv s) (hS : S B H (repC p s :: repD q s :: As)) : wpF C 32 [ptC p, ptC q] H fun v H' => v = .bool true ∧ S B H' (repC p s :: repD q s :: As) := by
  refine wpF_ofW o32 rfl rfl ?_
  unfold ptC
  refine zsr ?_; refine zw1 ?_; refine zns ?_; refine zsr ?_; refine zw1 ?_; refine wpO_cons ?_; refine op1_call1 rfl (by (conv => lhs; whnf) <;> rfl) ?_
  refine wpF_mono (L46 hi.ok hS) ?_
  clear hS
  rintro _ H2 ⟨rfl, hS⟩
  refine zw1 ?_; refine wpO_cons ?_; refine op1_extract rfl rfl rfl ?_; refine wpO_cons ?_; refine op1_extract rfl rfl rfl ?_; refine zw1 ?_; refine zw1 ?_; refine zns ?_; refine zsr ?_; refine zw1 ?_; refine wpO_cons ?_; refine op1_call1 rfl (by (conv => lhs; whnf) <;> rfl) ?_
  refine wpF_mono (L59 hi.ok (S.up1 hS)) ?_
  clear hS
  rintro _ H3 ⟨rfl, hS⟩
  refine zw1 ?_; refine wpO_cons ?_; refine op1_extract rfl rfl rfl ?_; refine wpO_cons ?_; refine op1_extract rfl rfl rfl ?_; refine zw1 ?_; refine zw1 ?_; refine zns ?_; refine zsr ?_; refine zw1 ?_; refine wpO_cons ?_; refine op1_call1 rfl (by (conv => lhs; whnf) <;> rfl) ?_
  refine wpF_mono (L35 (S.up1 hS)) ?_
  rintro _ H4 ⟨rfl, rfl⟩
  refine zw1 ?_; refine wpO_cons ?_; refine op1_extract rfl rfl rfl ?_; refine wpO_cons ?_; refine op1_extract rfl rfl rfl ?_; refine wpO_cons ?_; refine op1_extract rfl rfl rfl ?_; refine zw1 ?_; refine zw1 ?_; refine zw1 ?_; refine zns ?_; refine zsr ?_; refine zw1 ?_; refine wpO_cons ?_; refine op1_call1 rfl (by (conv => lhs; whnf) <;> rfl) ?_
  refine wpF_mono (L60 hS) ?_
  rintro _ H4 ⟨rfl, rfl⟩
  have hS0 := hS
  obtain ⟨ao, co, ai, ci, ho, hi, hO⟩ := openD hS
  clear hS
  have hS := hO
  clear hO
  unfold rfC at hS
  refine zw1 ?_; refine wpO_cons ?_; refine op1_extract rfl rfl rfl ?_; refine wpO_cons ?_; refine op1_extract rfl rfl rfl ?_; refine wpO_cons ?_; refine op1_extract rfl rfl rfl ?_; refine zw1 ?_; refine zw1 ?_; refine zw1 ?_; refine zns ?_; refine wp_seq ?_; refine wp_regionD ?_; refine zd1 ?_; refine zd1 ?_; refine wpD_cons ?_; refine op1_eqlI_s rfl rfl rfl ?_; refine zd1 ?_; refine zd1 ?_; refine zd1 ?_; refine wpD_cons ?_; refine op1_eqlB_s rfl rfl rfl rfl ?_; refine wpD_cons ?_; refine op1_pick_t rfl rfl (by (conv => lhs; whnf) <;> rfl) ?_; refine zd1 ?_; refine zd1 ?_; refine zd1 ?_; refine wpD_cons ?_; refine op1_eqlI_s rfl rfl rfl ?_; refine wpD_cons ?_; refine op1_pick_t rfl rfl (by (conv => lhs; whnf) <;> rfl) ?_; refine zd1 ?_; refine zd1 ?_; refine zd1 ?_; refine wpD_cons ?_; refine op1_eqlI_s rfl rfl rfl ?_; refine wpD_cons ?_; refine op1_pick_t rfl rfl (by (conv => lhs; whnf) <;> rfl) ?_; refine zd1 ?_; refine zd1 ?_; refine zd1 ?_; refine wpD_cons ?_; refine op1_eqlI_s rfl rfl rfl ?_; refine wpD_cons ?_; refine op1_pick_t rfl rfl (by (conv => lhs; whnf) <;> rfl) ?_; refine zd1 ?_; refine zd1 ?_; refine zd1 ?_; refine zm ?_; refine zg ?_; refine zj (S.g0 hS) ?_; refine wpD_cons ?_; refine op1_call1 rfl (by (conv => lhs; whnf) <;> rfl) ?_
  refine wpF_mono (L27 (S.up1 hS0)) ?_
  rintro _ H4 ⟨rfl, rfl⟩
  refine wpD_cons ?_; refine op1_eqlI_s rfl rfl rfl ?_; refine wpD_cons ?_; refine op1_pick_t rfl rfl (by (conv => lhs; whnf) <;> rfl) ?_; refine zd1 ?_; refine wpD_nil ?_; refine dk_of ?_ ?_; (iterate 28 refine chk_skip ?_); refine zx 5 ?_ ?_; refine zy 4 ?_ ?_; exact zq (S.g0 hS); refine zy 0 ?_ ?_; exact zq (S.g0 hS); exact chkFs_nil; (iterate 4 refine chk_skip ?_); exact chk_end; refine seq_normal ?_; refine wp_ret ?_; refine ret_of ?_; refine zr ?_; refine rk_nil ?_
  exact ⟨rfl, S.up1 hS0⟩
end
structure Op where
  kind : Int
  n : Int
  data : List Int
  sg : Sg
  tm : Int
structure OpF where
  o : Op
  a : Option Addr
  c : Nat
  r : List Nat
  a' : Option Addr
  c' : Nat
  r' : List Nat
def OpF.cells (x : OpF) : List Value := [.int .i64 x.o.kind, .int .i64 x.o.n, .slice x.a x.o.data.length x.c, .int .i64 x.o.sg.fl, .int .u32 x.o.sg.seq, .int .u32 x.o.sg.num, .int .i64 x.o.sg.win, .slice x.a' x.o.sg.data.length x.c', .int .i64 x.o.tm]
structure OpOk (B : AHeap) (x : OpF) : Prop where
  n : -9223372036854775808 ≤ x.o.n ∧ x.o.n ≤ 9223372036854775807
  tm : -9223372036854775808 ≤ x.o.tm ∧ x.o.tm ≤ 9223372036854775807
  kind : -9223372036854775808 ≤ x.o.kind ∧ x.o.kind ≤ 9223372036854775807
  fl : -9223372036854775808 ≤ x.o.sg.fl ∧ x.o.sg.fl ≤ 9223372036854775807
  win : -9223372036854775808 ≤ x.o.sg.win ∧ x.o.sg.win ≤ 9223372036854775807
  seq : 0 ≤ x.o.sg.seq ∧ x.o.sg.seq ≤ 4294967295
  num : 0 ≤ x.o.sg.num ∧ x.o.sg.num ≤ 4294967295
  l : x.o.data.length ≤ 9223372036854775807
  l' : x.o.sg.data.length ≤ 9223372036854775807
  rd : RdS B 1 (.slice x.a x.o.data.length x.c) (u8s x.o.data) x.r
  lt : ∀ b ∈ x.r, b < B.next
  rd' : RdS B 1 (.slice x.a' x.o.sg.data.length x.c') (u8s x.o.sg.data) x.r'
  lt' : ∀ b ∈ x.r', b < B.next
def Cn.step (s : Cn) (o : Op) : Cn :=
  if o.kind = 0 then (s.start 1).2 else if o.kind = 1 then (s.start 2).2 else if o.kind = 2 then (s.write o.data).2.2 else if o.kind = 3 then (s.read o.n).2.2 else if o.kind = 4 then s.close.2
  else if o.kind = 5 then s.abort.2 else if o.kind = 6 then s.input o.sg o.tm else if o.kind = 7 then (s.output o.tm).2.2 else s
theorem Inv.step {s : Cn} {o : Op} (h : Inv s) (hs : 0 ≤ o.sg.seq ∧ o.sg.seq ≤ 4294967295) (hn : 0 ≤ o.sg.num ∧ o.sg.num ≤ 4294967295) : Inv (s.step o) := by
  unfold Cn.step
  split
  · exact h.start (.inl rfl)
  split
  · exact h.start (.inr rfl)
  split
  · exact h.write
  split
  · exact h.read
  split
  · exact h.close
  split
  · exact h.abort
  split
  · exact h.input ⟨hs, hn⟩
  split
  · exact h.output
  · exact h
theorem read_len (s : Cn) (n : Int) : (s.read n).1.length ≤ s.inc.length := by
  unfold Cn.read
  split
  · exact Nat.zero_le _
  · show (s.inc.take _).length ≤ _
    rw [List.length_take]
    omega
theorem out_len {s : Cn} {now : Int} (hok : Ok s) : (s.output now).2.1.length ≤ 5001 ∧ ∀ g ∈ (s.output now).2.1, g.data.length ≤ 256 := by
  unfold Cn.output
  split
  · exact ⟨by simp, by simp⟩
  rename_i hnow
  replace hnow : 0 ≤ now ∧ now ≤ 1099511627776 := Classical.byContradiction hnow
  split
  · exact ⟨by simp, by simp⟩
  split
  · exact ⟨by simp, by simp⟩
  split
  · exact ⟨by simp, by simp⟩
  split
  · exact ⟨by simp, by simp⟩
  split
  · exact ⟨by simp, by simp⟩
  · have h := hok.late hnow
    have hc : Ok { s.late now with clock := now } := ⟨h.first, h.una, h.nxt, h.rcv, h.size, h.window, h.out, h.inc, h.pat, h.tmo, h.since, hnow, h.reps, h.st, h.syn⟩
    have h1 := segs_len hc
    have h2 := ackd_data (s := ({ s.late now with clock := now } : Cn).segs.2) (segs_data hc.size.2)
    refine ⟨?_, h2⟩
    show (Cn.ackd _ _).length ≤ 5001
    unfold Cn.ackd
    split
    · simp
    · omega
section
variable {B H : AHeap} {As : List Asn} {p q : Nat} {s : Cn} {g : Sg}
theorem L31 {x : OpF} (hi : Inv s) (hx : OpOk B x) (hl : x.o.data.length ≤ 12000) (hl' : x.o.sg.data.length ≤ 12000) (hS : S B H (repC p s :: repD q s :: As)) :
    wpF C 31 [ptC p, ptC q, .agg ⟨x.cells⟩] H fun v H' => v = .bool true ∧ S B H' (repC p (s.step x.o) :: repD q (s.step x.o) :: As) := by
  have hok := hi.ok
  have hd : ∀ {As : List Asn}, RD B As 1 (.slice x.a x.o.data.length x.c) (u8s x.o.data) := RD.base hx.rd hx.lt
  have hd' : ∀ {As : List Asn}, RD B As 1 (.slice x.a' x.o.sg.data.length x.c') (u8s x.o.sg.data) := RD.base hx.rd' hx.lt'
  refine wpF_ofW o31 rfl rfl ?_
  unfold ptC OpF.cells Cn.step
  refine zsr ?_; refine wpO_cons ?_; refine op1_boxNS rfl rfl rfl hS ?_; intro p1 H1 hS; refine zw1 ?_; refine zns ?_; refine wp_seq ?_; refine zsr ?_; refine zf ?_; refine zh (S.g0 hS) ?_; refine zns ?_; refine wp_block ?_; refine zsr ?_; refine wpO_cons ?_; refine op1_eqlI rfl rfl rfl ?_; refine zw1 ?_; refine zns ?_
  refine wp_dec rfl (fun h0 => ?_) (fun h0 => ?_)
  · rw [if_pos h0]
    refine zsr ?_; refine zw1 ?_; refine wpO_cons ?_; refine op1_call1 rfl (by (conv => lhs; whnf) <;> rfl) ?_
    refine wpF_mono (L42 (S.up1 hS)) ?_
    clear hS
    rintro _ H2 ⟨rfl, hS⟩
    refine zw1 ?_; refine wpO_cons ?_; refine op1_call1 rfl (by (conv => lhs; whnf) <;> rfl) ?_
    refine wpF_mono (L48 (S.up2 hS)) ?_
    clear hS
    rintro _ H3 ⟨rfl, hS⟩
    refine wpO_cons ?_; refine op1_eqlI_s rfl rfl rfl ?_; refine zw1 ?_; refine zns ?_; refine wp_ret ?_; refine block_ret ?_; refine seq_ret ?_; refine ret_of ?_; refine zr ?_; refine rk_nil ?_
    exact ⟨rfl, S.up1 (S.drop (S.up2 hS))⟩
  rw [if_neg h0]
  refine zsr ?_; refine wpO_cons ?_; refine op1_eqlI rfl rfl rfl ?_; refine zw1 ?_; refine zns ?_
  refine wp_dec rfl (fun h1 => ?_) (fun h1 => ?_)
  · rw [if_pos h1]
    refine zsr ?_; refine zw1 ?_; refine wpO_cons ?_; refine op1_call1 rfl (by (conv => lhs; whnf) <;> rfl) ?_
    refine wpF_mono (L41 (S.up1 hS)) ?_
    clear hS
    rintro _ H2 ⟨rfl, hS⟩
    refine zw1 ?_; refine wpO_cons ?_; refine op1_call1 rfl (by (conv => lhs; whnf) <;> rfl) ?_
    refine wpF_mono (L49 (S.up2 hS)) ?_
    clear hS
    rintro _ H3 ⟨rfl, hS⟩
    refine wpO_cons ?_; refine op1_eqlI_s rfl rfl rfl ?_; refine zw1 ?_; refine zns ?_; refine wp_ret ?_; refine block_ret ?_; refine seq_ret ?_; refine ret_of ?_; refine zr ?_; refine rk_nil ?_
    exact ⟨rfl, S.up1 (S.drop (S.up2 hS))⟩
  rw [if_neg h1]
  refine zsr ?_; refine wpO_cons ?_; refine op1_eqlI rfl rfl rfl ?_; refine zw1 ?_; refine zns ?_
  refine wp_dec rfl (fun h2 => ?_) (fun h2 => ?_)
  · rw [if_pos h2]
    refine zsr ?_; refine zw1 ?_; refine zf ?_; refine zh (S.g0 hS) ?_; refine wpO_cons ?_; refine op1_call1 rfl (by (conv => lhs; whnf) <;> rfl) ?_
    refine wpF_mono (L45 hd hS (by omega)) ?_
    clear hS
    intro v1 H2 hS
    obtain ⟨a1, c1, rfl⟩ := hS.u1
    refine wpO_cons ?_; refine op1_call2 rfl (by (conv => lhs; whnf) <;> rfl) (by (conv => lhs; whnf) <;> rfl) ?_
    refine wpF_mono (L25 hok RD.head hx.l (S.up2 hS)) ?_
    clear hS
    rintro _ H3 ⟨rfl, hS⟩
    refine zw1 ?_; refine wpO_cons ?_; refine op1_extract rfl rfl rfl ?_; refine wpO_cons ?_; refine op1_extract rfl rfl rfl ?_; refine zw1 ?_; refine zw1 ?_; refine zns ?_; refine zsr ?_; refine zw1 ?_; refine zf ?_; refine zh (S.g2 hS) ?_; refine wpO_cons ?_; refine op1_call2 rfl (by (conv => lhs; whnf) <;> rfl) (by (conv => lhs; whnf) <;> rfl) ?_
    refine wpF_mono (L50 hok hd hx.l (S.up3 hS)) ?_
    clear hS
    rintro _ H4 ⟨rfl, hS⟩
    refine zw1 ?_; refine wpO_cons ?_; refine op1_extract rfl rfl rfl ?_; refine wpO_cons ?_; refine op1_extract rfl rfl rfl ?_; refine zw1 ?_; refine zw1 ?_; refine zns ?_; refine zsr ?_; refine zw1 ?_; refine zw1 ?_; refine wpO_cons ?_; refine op1_eqlI_s rfl rfl rfl ?_; refine zw1 ?_; refine zw1 ?_; refine zw1 ?_; refine wpO_cons ?_; refine op1_eqlI_s rfl rfl rfl ?_; refine zt ?_; refine zw1 ?_; refine zns ?_; refine wp_ret ?_; refine block_ret ?_; refine seq_ret ?_; refine ret_of ?_; refine zr ?_; refine rk_nil ?_
    exact ⟨rfl, S.up1 (S.drop (S.up2 (S.drop (S.up2 hS))))⟩
  rw [if_neg h2]
  refine zsr ?_; refine wpO_cons ?_; refine op1_eqlI rfl rfl rfl ?_; refine zw1 ?_; refine zns ?_
  refine wp_dec rfl (fun h3 => ?_) (fun h3 => ?_)
  · rw [if_pos h3]
    refine zsr ?_; refine zw1 ?_; refine zf ?_; refine zh (S.g0 hS) ?_; refine wpO_cons ?_; refine op1_call2 rfl (by (conv => lhs; whnf) <;> rfl) (by (conv => lhs; whnf) <;> rfl) ?_
    refine wpF_mono (L37 hok (S.up1 hS)) ?_
    clear hS
    rintro _ H2 ⟨v1, rfl, hS⟩
    refine zw1 ?_; refine wpO_cons ?_; refine op1_extract rfl rfl rfl ?_; refine wpO_cons ?_; refine op1_extract rfl rfl rfl ?_; refine zw1 ?_; refine zw1 ?_; refine zns ?_; refine zsr ?_; refine zw1 ?_; refine zf ?_; refine zh (S.g2 hS) ?_; refine wpO_cons ?_; refine op1_call2 rfl (by (conv => lhs; whnf) <;> rfl) (by (conv => lhs; whnf) <;> rfl) ?_
    refine wpF_mono (L51 hok (S.up3 hS)) ?_
    clear hS
    rintro _ H3 ⟨v2, rfl, hS⟩
    refine zw1 ?_; refine wpO_cons ?_; refine op1_extract rfl rfl rfl ?_; refine wpO_cons ?_; refine op1_extract rfl rfl rfl ?_; refine zw1 ?_; refine zw1 ?_; refine zns ?_; refine zsr ?_; refine zw1 ?_; refine zw1 ?_; refine wpO_cons ?_; refine op1_eqlI_s rfl rfl rfl ?_; refine zw1 ?_; refine zw1 ?_; refine zw1 ?_; refine wpO_cons ?_; refine op1_call2 rfl (by (conv => lhs; whnf) <;> rfl) (by (conv => lhs; whnf) <;> rfl) ?_
    obtain ⟨r2, hr2, _⟩ := S.rd hS
    obtain ⟨r1, hr1, _⟩ := S.rd (S.up2 hS)
    have hrl : (s.read x.o.n).1.length ≤ 1000000 := by have := read_len s x.o.n; have := hok.inc; omega
    refine wpF_mono (L22 hr1 hrl hr2 hrl) ?_
    rintro _ H4 ⟨rfl, rfl⟩
    rw [decide_eq_true rfl]
    refine zt ?_; refine zw1 ?_; refine zns ?_; refine wp_ret ?_; refine block_ret ?_; refine seq_ret ?_; refine ret_of ?_; refine zr ?_; refine rk_nil ?_
    exact ⟨rfl, S.up1 (S.drop (S.up2 (S.drop (S.up1 (S.drop hS)))))⟩
  rw [if_neg h3]
  refine zsr ?_; refine wpO_cons ?_; refine op1_eqlI rfl rfl rfl ?_; refine zw1 ?_; refine zns ?_
  refine wp_dec rfl (fun h4 => ?_) (fun h4 => ?_)
  · rw [if_pos h4]
    refine zsr ?_; refine zw1 ?_; refine wpO_cons ?_; refine op1_call1 rfl (by (conv => lhs; whnf) <;> rfl) ?_
    refine wpF_mono (L26 (S.up1 hS)) ?_
    clear hS
    rintro _ H2 ⟨rfl, hS⟩
    refine zw1 ?_; refine wpO_cons ?_; refine op1_call1 rfl (by (conv => lhs; whnf) <;> rfl) ?_
    refine wpF_mono (L52 (S.up2 hS)) ?_
    clear hS
    rintro _ H3 ⟨rfl, hS⟩
    refine wpO_cons ?_; refine op1_eqlI_s rfl rfl rfl ?_; refine zw1 ?_; refine zns ?_; refine wp_ret ?_; refine block_ret ?_; refine seq_ret ?_; refine ret_of ?_; refine zr ?_; refine rk_nil ?_
    exact ⟨rfl, S.up1 (S.drop (S.up2 hS))⟩
  rw [if_neg h4]
  refine zsr ?_; refine wpO_cons ?_; refine op1_eqlI rfl rfl rfl ?_; refine zw1 ?_; refine zns ?_
  refine wp_dec rfl (fun h5 => ?_) (fun h5 => ?_)
  · rw [if_pos h5]
    refine zsr ?_; refine zw1 ?_; refine wpO_cons ?_; refine op1_call1 rfl (by (conv => lhs; whnf) <;> rfl) ?_
    refine wpF_mono (L53 (S.up1 hS)) ?_
    clear hS
    rintro _ H2 ⟨rfl, hS⟩
    refine zw1 ?_; refine wpO_cons ?_; refine op1_call1 rfl (by (conv => lhs; whnf) <;> rfl) ?_
    refine wpF_mono (L54 (S.up2 hS)) ?_
    clear hS
    rintro _ H3 ⟨rfl, hS⟩
    refine wpO_cons ?_; refine op1_eqlI_s rfl rfl rfl ?_; refine zw1 ?_; refine zns ?_; refine wp_ret ?_; refine block_ret ?_; refine seq_ret ?_; refine ret_of ?_; refine zr ?_; refine rk_nil ?_
    exact ⟨rfl, S.up1 (S.drop (S.up2 hS))⟩
  rw [if_neg h5]
  refine zsr ?_; refine wpO_cons ?_; refine op1_eqlI rfl rfl rfl ?_; refine zw1 ?_; refine zns ?_
  refine wp_dec rfl (fun h6 => ?_) (fun h6 => ?_)
  · rw [if_pos h6]
    have hT := hS
    refine wp_seq ?_; refine wp_regionD ?_; refine zd1 ?_; refine zg ?_; refine wpD_cons ?_; refine op1_load_5 rfl rfl (by exact S.g0 hT) rfl rfl ?_; refine zg ?_; refine zj (S.g0 hT) ?_; refine zd1 ?_; refine zg ?_; refine wpD_cons ?_; refine op1_load_5 rfl rfl (by exact S.g0 hT) rfl rfl ?_; refine zg ?_; refine zj (S.g0 hT) ?_; refine wpD_cons ?_; refine op1_call3 rfl (by (conv => lhs; whnf) <;> rfl) (by (conv => lhs; whnf) <;> rfl) (by (conv => lhs; whnf) <;> rfl) ?_
    refine wpF_mono (L38 (g := x.o.sg) hok ⟨hx.seq, hx.num⟩ hd' (S.up1 hS)) ?_
    clear hS
    rintro _ H2 ⟨rfl, hS⟩
    have hT2 := S.up1 hS
    refine wpD_cons ?_; refine op1_call1 rfl (by (conv => lhs; whnf) <;> rfl) ?_
    refine wpF_mono (L14 (g := x.o.sg) hS) ?_
    clear hS
    rintro _ H3 ⟨rfl, hS⟩
    have hT3 := S.up1 hS
    refine wpD_cons ?_; refine op1_call3 rfl (by (conv => lhs; whnf) <;> rfl) (by (conv => lhs; whnf) <;> rfl) (by (conv => lhs; whnf) <;> rfl) ?_
    refine wpF_mono (L55 (g := x.o.sg) hok ⟨hx.seq, hx.num⟩ hd' (S.up2 hS)) ?_
    clear hS
    rintro _ H3 ⟨rfl, hS⟩
    refine wpD_cons ?_; refine op1_eqlI_s rfl rfl rfl ?_; refine zd1 ?_; refine wpD_nil ?_; refine dk_of ?_ ?_; (iterate 2 refine chk_skip ?_); refine zx 13 ?_ ?_; refine zy 5 ?_ ?_; exact chk_loadN rfl (by exact S.g0 hT) rfl rfl rfl; exact chkFs_nil; refine chk_skip ?_; refine zx 11 ?_ ?_; refine zy 5 ?_ ?_; exact zq (S.g0 hT); exact chkFs_nil; (iterate 2 refine chk_skip ?_); refine zx 8 ?_ ?_; refine zy 5 ?_ ?_; exact chk_loadN rfl (by exact S.g0 hT) rfl rfl rfl; refine zy 4 ?_ ?_; exact chk_loadN rfl (by exact S.g0 hT2) rfl rfl rfl; exact chkFs_nil; refine chk_skip ?_; refine zx 6 ?_ ?_; refine zy 5 ?_ ?_; exact zq (S.g0 hT); refine zy 4 ?_ ?_; exact zq (S.g0 hT2); refine zy 3 ?_ ?_; exact zq (S.g0 hT3); exact chkFs_nil; (iterate 5 refine chk_skip ?_); exact chk_end; refine seq_normal ?_; refine wp_ret ?_; refine block_ret ?_; refine seq_ret ?_; refine ret_of ?_; refine zr ?_; refine rk_nil ?_
    exact ⟨rfl, S.up1 (S.drop (S.up2 hS))⟩
  rw [if_neg h6]
  refine zsr ?_; refine wpO_cons ?_; refine op1_eqlI rfl rfl rfl ?_; refine zw1 ?_; refine zns ?_
  refine wp_dec rfl (fun h7 => ?_) (fun h7 => ?_)
  · rw [if_pos h7]
    refine zsr ?_; refine zw1 ?_; refine zf ?_; refine zh (S.g0 hS) ?_; refine wpO_cons ?_; refine op1_call2 rfl (by (conv => lhs; whnf) <;> rfl) (by (conv => lhs; whnf) <;> rfl) ?_
    refine wpF_mono (L43 hok (S.up1 hS)) ?_
    clear hS
    rintro _ H2 ⟨a1, c1, rfl, hS⟩
    refine zw1 ?_; refine wpO_cons ?_; refine op1_extract rfl rfl rfl ?_; refine wpO_cons ?_; refine op1_extract rfl rfl rfl ?_; refine zw1 ?_; refine zw1 ?_; refine zns ?_; refine zsr ?_; refine zw1 ?_; refine zf ?_; refine zh (S.g2 hS) ?_; refine wpO_cons ?_; refine op1_call2 rfl (by (conv => lhs; whnf) <;> rfl) (by (conv => lhs; whnf) <;> rfl) ?_
    refine wpF_mono (L56 hok (S.up3 hS)) ?_
    clear hS
    rintro _ H3 ⟨a2, c2, rfl, hS⟩
    refine zw1 ?_; refine wpO_cons ?_; refine op1_extract rfl rfl rfl ?_; refine wpO_cons ?_; refine op1_extract rfl rfl rfl ?_; refine zw1 ?_; refine zw1 ?_; refine zns ?_; refine zsr ?_; refine zw1 ?_; refine zw1 ?_; refine wpO_cons ?_; refine op1_eqlI_s rfl rfl rfl ?_; refine zw1 ?_; refine zw1 ?_; refine zw1 ?_; refine wpO_cons ?_; refine op1_call3 rfl (by (conv => lhs; whnf) <;> rfl) (by (conv => lhs; whnf) <;> rfl) (by (conv => lhs; whnf) <;> rfl) ?_
    obtain ⟨hol, hod⟩ := out_len (now := x.o.tm) hok
    refine wpF_mono (L57 (by omega) (fun g hg => by have := hod g hg; omega) (S.up2 hS)) ?_
    clear hS
    rintro _ H4 ⟨rfl, hS⟩
    refine zt ?_; refine zw1 ?_; refine zns ?_; refine wp_ret ?_; refine block_ret ?_; refine seq_ret ?_; refine ret_of ?_; refine zr ?_; refine rk_nil ?_
    exact ⟨rfl, S.up1 (S.drop (S.up2 hS))⟩
  rw [if_neg h7]
  refine wp_skip ?_; refine block_normal ?_; refine seq_normal ?_; refine zsr ?_; refine zw1 ?_; refine zns ?_; refine wp_ret ?_; refine ret_of ?_; refine zr ?_; refine rk_nil ?_
  exact ⟨rfl, S.drop hS⟩
end
end Go.E.St
/- StreamsCalls. -/
namespace Go.E.St
open Go Go.E Go.ChangeShapes Go.WideShapes Go.ChangeAt Go.RowKit Go.Proofs.Ytamcfhhcmjagnaa Go.Proofs
set_option linter.unusedVariables false
set_option linter.unusedSimpArgs false
set_option maxRecDepth 100000
theorem vt2 : Try.prog.underlying 2 = some (.int .i64) := by kernel_rfl
theorem vt3 : Try.prog.underlying 3 = some (.int .i64) := by kernel_rfl
theorem vt5 : Try.prog.underlying 5 = some (.int .u8) := by kernel_rfl
theorem vt22 : Try.prog.underlying 22 = some (.int .u32) := by kernel_rfl
theorem vt23 : Try.prog.underlying 23 = some (.slice 5) := by kernel_rfl
theorem vt57 : fieldsOf Try.prog 57 = some [(22,0),(3,1),(2,2)] := by kernel_rfl
theorem vo2 : Try.prog.cellsOf 2 = 1 := by kernel_rfl
theorem vo3 : Try.prog.cellsOf 3 = 1 := by kernel_rfl
theorem vo5 : Try.prog.cellsOf 5 = 1 := by kernel_rfl
theorem vo22 : Try.prog.cellsOf 22 = 1 := by kernel_rfl
theorem vo23 : Try.prog.cellsOf 23 = 1 := by kernel_rfl
theorem vo57 : Try.prog.cellsOf 57 = 3 := by kernel_rfl
theorem vb5 : Try.prog.bytesOf 5 = 1 := by kernel_rfl
theorem vreach : reachBytes = 140737488351232 := rfl

def tot : List OpF → Nat
  | [] => 0
  | x :: l => x.o.data.length + x.o.sg.data.length + tot l
section
variable {B H : AHeap} {As : List Asn}
end
end Go.E.St
