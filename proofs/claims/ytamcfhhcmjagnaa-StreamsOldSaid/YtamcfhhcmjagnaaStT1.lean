/- A talk of two connections: how it lies in the heap; writing and receiving. -/
import Derived.Test.YtamcfhhcmjagnaaStLw
import Derived.Test.YtamcfhhcmjagnaaStPv
import Derived.Test.YtamcfhhcmjagnaaStCode3
import Derived.Test.YtamcfhhcmjagnaaStM
namespace Go.E.St
open Go Go.E Go.Proofs.Ytamcfhhcmjagnaa Go.Proofs
set_option linter.unusedVariables false
set_option linter.unusedSimpArgs false
set_option maxRecDepth 100000
def pool (P : List (Value × List Int)) : Asn := seps (P.map fun x => sl 1 x.1 (u8s x.2))
section
variable {B H : AHeap} {As : List Asn}
theorem pool_rd {P : List (Value × List Int)} {x : Value × List Int} (hx : x ∈ P) : RD B (pool P :: As) 1 x.1 (u8s x.2) := by
  intro H h
  have h1 := S.unseps h
  obtain ⟨l1, l2, e⟩ := List.append_of_mem hx
  rw [e, List.map_append, List.map_cons, List.append_assoc] at h1
  have h2 := h1.perm List.perm_middle
  exact S.rd h2
theorem pool_nil (h : S B H As) : S B H (pool [] :: As) := S.seps (L := []) h
theorem pool_add {P : List (Value × List Int)} {v : Value} {d : List Int} (h : S B H (sl 1 v (u8s d) :: pool P :: As)) : S B H (pool ((v, d) :: P) :: As) := by
  have h1 := S.unseps (S.up1 h)
  exact S.seps (L := sl 1 v (u8s d) :: P.map fun x => sl 1 x.1 (u8s x.2)) (h1.perm List.perm_middle)
def sgV (x : Sg × Value) : List Value := sgC x.1 x.2
theorem pool_many : ∀ {l : List Sg} {css : List (List Value)} {P : List (Value × List Int)} {As : List Asn}, S B H (many sgA l css :: pool P :: As) →
    ∃ (la : List (Sg × Value)) (P' : List (Value × List Int)), la.map (·.1) = l ∧ css = la.map sgV ∧ S B H (pool P' :: As) ∧ (∀ x ∈ P, x ∈ P') ∧ ∀ x ∈ la, (x.2, x.1.data) ∈ P' ∧ ∃ a c, x.2 = .slice a x.1.data.length c
  | [], css, P, As, h => by
    obtain ⟨rfl, h'⟩ := h.many_unnil
    exact ⟨[], P, rfl, rfl, h', fun _ k => k, by simp⟩
  | g :: l, css, P, As, h => by
    obtain ⟨cs, css, rfl, h1⟩ := h.many_uncons
    obtain ⟨a, c, rfl, _, h2⟩ := sgA_un h1
    obtain ⟨la, P', e1, e2, h3, h4, h5⟩ := pool_many (As := sl 1 (.slice a g.data.length c) (u8s g.data) :: As) (S.up2 (S.up2 h2))
    refine ⟨(g, .slice a g.data.length c) :: la, (.slice a g.data.length c, g.data) :: P', by rw [List.map_cons, e1], by rw [List.map_cons, e2]; rfl, pool_add (S.up1 h3), fun x hx => by simp [h4 x hx], fun x hx => ?_⟩
    rcases List.mem_cons.1 hx with rfl | hx
    · exact ⟨by simp, a, c, rfl⟩
    · exact ⟨by simp [(h5 x hx).1], (h5 x hx).2⟩
theorem L57g {la lb : List (Sg × Value)} {a a' : Option Addr} {c c' n : Nat} (hn : n = la.length) (he : la.map (·.1) = lb.map (·.1)) (hl : n ≤ 1000000) (hd : ∀ x ∈ la, x.1.data.length ≤ 1000000)
    (ha : ∀ x ∈ la, RD B As 1 x.2 (u8s x.1.data)) (hb : ∀ x ∈ lb, RD B As 1 x.2 (u8s x.1.data)) (hS : S B H (sl 5 (.slice a n c) (la.map sgV).flatten :: sl 5 (.slice a' n c') (lb.map sgV).flatten :: As)) :
    wpF C 57 [.slice a n c, .slice a' n c', .func (.func 58) #[] #[]] H fun v H' => v = .bool true ∧ S B H' (sl 5 (.slice a n c) (la.map sgV).flatten :: sl 5 (.slice a' n c') (lb.map sgV).flatten :: As) := by
  have hlb : lb.length = n := by have h1 := congrArg List.length he; rw [List.length_map, List.length_map] at h1; omega
  have h5 : ∀ l : List (Sg × Value), ∀ x ∈ l.map sgV, x.length = 5 := fun l x hx => by
    obtain ⟨y, _, rfl⟩ := List.mem_map.1 hx
    rfl
  refine wpF_ofW o57 rfl rfl ?_
  refine zsr ?_; refine zw1 ?_; refine zns ?_; refine wp_seq ?_; refine zsr ?_; refine zw1 ?_; refine wpO_cons ?_; refine op1_len rfl rfl ?_; refine zw1 ?_; refine wpO_cons ?_; refine op1_len rfl rfl ?_; refine wpO_cons ?_; refine op1_neqI_s rfl rfl rfl ?_; refine zns ?_; refine wp_false rfl ?_; refine wp_skip ?_; refine seq_normal ?_; refine wp_seq ?_; refine zsr ?_; refine zw1 ?_; refine wpO_cons ?_; refine op1_len rfl rfl ?_; refine zw1 ?_; refine zns ?_; refine wp_block ?_
  refine wp_loop [17] (fun k vs H' => ∃ i : Nat, vs = [.int .i64 i] ∧ k = n - i ∧ i ≤ n ∧ S B H' (sl 5 (.slice a n c) (la.map sgV).flatten :: sl 5 (.slice a' n c') (lb.map sgV).flatten :: As)) ⟨_, 0, rfl, rfl, by omega, hS⟩ ?_
  clear hS
  rintro k vs T' H5 ⟨i, rfl, rfl, hi, hS⟩
  refine zsr ?_; refine wpO_cons ?_; refine op1_lss rfl rfl rfl ?_; refine zns ?_; refine wp_seq ?_
  refine wp_dec rfl (fun hlt => ?_) (fun hlt => ?_)
  rotate_left
  · refine wp_exit ?_; refine seq_exit ?_; refine iter_exit ?_; refine block_exit ?_; refine seq_normal ?_; refine zsr ?_; refine zw1 ?_; refine zns ?_; refine wp_ret ?_; refine ret_of ?_; refine zr ?_; refine rk_nil ?_
    exact ⟨rfl, hS⟩
  obtain ⟨x, hx⟩ : ∃ x, la[i]? = some x := ⟨la[i]'(by omega), by simp⟩
  obtain ⟨y, hy⟩ : ∃ y, lb[i]? = some y := ⟨lb[i]'(by omega), by simp⟩
  have hxy : x.1 = y.1 := by
    have h1 := congrArg (·[i]?) he
    simp only [List.getElem?_map, hx, hy, Option.map_some, Option.some.injEq] at h1
    exact h1
  have hxd := hd x (List.mem_of_getElem? hx)
  have hxr := ha x (List.mem_of_getElem? hx)
  have hyr := hb y (List.mem_of_getElem? hy)
  obtain ⟨g, vx⟩ := x
  obtain ⟨g', vy⟩ := y
  obtain rfl : g = g' := hxy
  dsimp only at hxr hyr hxd
  obtain ⟨ax, cx, rfl⟩ := hxr.u1 (S.drop (S.drop hS))
  obtain ⟨ay, cy, rfl⟩ := hyr.u1 (S.drop (S.drop hS))
  have hcut : ((la.map sgV).flatten.drop (i * 5)).take 5 = [.int .i64 g.fl, .int .u32 g.seq, .int .u32 g.num, .int .i64 g.win, .slice ax g.data.length cx] := flatten_cut (h5 la) (i := i) (x := sgV (g, .slice ax g.data.length cx)) (by rw [List.getElem?_map, hx]; rfl)
  have hcut' : ((lb.map sgV).flatten.drop (i * 5)).take 5 = [.int .i64 g.fl, .int .u32 g.seq, .int .u32 g.num, .int .i64 g.win, .slice ay g.data.length cy] := flatten_cut (h5 lb) (i := i) (x := sgV (g, .slice ay g.data.length cy)) (by rw [List.getElem?_map, hy]; rfl)
  obtain ⟨lb1, lo, lcs, rfl, _⟩ := S.slBlk hS (by omega)
  obtain ⟨lb2, lo', lcs', rfl, _⟩ := S.slBlk (S.up1 hS) (by omega)
  have hr1 : RD B (sl 5 (.slice (some ⟨lb1, lo, none⟩) n c) (la.map sgV).flatten :: sl 5 (.slice (some ⟨lb2, lo', none⟩) n c') (lb.map sgV).flatten :: As) 1 _ _ := RD.cons (RD.cons hxr)
  have hr2 : RD B (sl 5 (.slice (some ⟨lb1, lo, none⟩) n c) (la.map sgV).flatten :: sl 5 (.slice (some ⟨lb2, lo', none⟩) n c') (lb.map sgV).flatten :: As) 1 _ _ := RD.cons (RD.cons hyr)
  refine wp_skip ?_; refine seq_normal ?_; refine wp_seq ?_; refine wp_block ?_; refine zsr ?_; refine zw1 ?_; refine wpO_cons ?_; refine op1_iaddr rfl rfl rfl (by omega) (by omega) ?_; refine wpO_cons ?_; refine op1_loadNL rfl rfl (S.up0 hS) rfl rfl (by omega) rfl ?_; refine wpO_cons ?_; refine op1_allocS rfl hS ?_; intro p1 H1 hS; refine zw1 ?_; refine wpO_cons ?_
  rw [show (i : Int).toNat = i from rfl, hcut]
  (refine op1_storeNS rfl rfl (by (conv => lhs; whnf) <;> rfl) rfl rfl (S.up0 hS) (Nat.le_of_ble_eq_true rfl) ?_; intro H2 hS; replace hS := S.dn0 hS); refine zns ?_; refine zsr ?_; refine zw1 ?_; refine zw1 ?_; refine wpO_cons ?_; refine op1_iaddr rfl rfl rfl (by omega) (by omega) ?_; refine wpO_cons ?_; refine op1_loadNL rfl rfl (S.up2 hS) rfl rfl (by omega) rfl ?_; refine wpO_cons ?_; refine op1_allocS rfl hS ?_; intro p2 H3 hS; refine wpO_cons ?_
  rw [show (i : Int).toNat = i from rfl, hcut']
  (refine op1_storeNS rfl rfl (by (conv => lhs; whnf) <;> rfl) rfl rfl (S.up0 hS) (Nat.le_of_ble_eq_true rfl) ?_; intro H4 hS; replace hS := S.dn0 hS); refine zns ?_; refine zsr ?_; refine zw1 ?_; refine wpO_cons ?_; refine op1_load_5 rfl rfl (by exact S.g1 hS) rfl rfl ?_; refine wpO_cons ?_; refine op1_load_5 rfl rfl (by exact S.g0 hS) rfl rfl ?_; refine wpO_cons ?_; refine op1_dyn2 rfl rfl (by (conv => lhs; whnf) <;> rfl) (by (conv => lhs; whnf) <;> rfl) ?_
  refine wpF_mono (L58 (g := g) hxd (RD.cons (RD.cons hr1)) (RD.cons (RD.cons hr2)) hS) ?_
  clear hS
  rintro _ H9 ⟨rfl, hS⟩
  refine wpO_cons ?_; refine op1_not_t rfl rfl ?_; refine zns ?_; refine wp_false rfl ?_; refine wp_skip ?_; refine block_normal ?_; refine seq_normal ?_; refine wp_region ?_; refine wpO_cons ?_; refine op1_add rfl rfl rfl (by exact wrap_i64 (by omega) (by omega)) ?_; refine zw1 ?_; refine wpO_nil ?_
  exact ⟨n - (i + 1), by omega, i + 1, rfl, rfl, by omega, S.drop (S.drop hS)⟩
/-! ### a talk: writing, receiving -/
def tkC (p0 p1 q0 q1 : Nat) (va : Value) (now : Int) (w0 w1 r0 r1 : Value) : List Value := [ptC p0, ptC p1, ptC q0, ptC q1, va, .int .i64 now, w0, w1, r0, r1]
theorem write_n (s : Cn) (d : List Int) : ∃ m : Nat, (s.write d).1 = m ∧ m ≤ d.length := by
  rcases write_cases s d with ⟨_, e⟩ | ⟨m, h, _, _, e, _⟩
  · exact ⟨0, e, Nat.zero_le _⟩
  · exact ⟨m, e, h⟩
theorem L61a {b p0 p1 q0 q1 : Nat} {va w0 w1 r0 r1 vd : Value} {now : Int} {s : Cn} {w d : List Int} (hok : Ok s) (hd : RD B As 1 vd (u8s d)) (hdl : d.length ≤ 300) (hwl : w.length ≤ 1000000)
    (hS : S B H (pto b (.cells (tkC p0 p1 q0 q1 va now w0 w1 r0 r1) 0 false) :: repC p0 s :: repD q0 s :: sl 1 w0 (u8s w) :: As)) :
    wpF C 61 [ptC b, .int .i64 0, vd] H fun v H' => v = .bool true ∧ ∃ (w0' : Value) (m : Nat), (s.write d).1 = m ∧ m ≤ d.length ∧ S B H' (pto b (.cells (tkC p0 p1 q0 q1 va now w0' w1 r0 r1) 0 false) :: repC p0 (s.write d).2.2 :: repD q0 (s.write d).2.2 :: sl 1 w0' (u8s (w ++ d.take m)) :: As) := by
  obtain ⟨ad, cd, rfl⟩ := hd.u1 (S.drop (S.drop (S.drop (S.drop hS))))
  obtain ⟨aw, cw, rfl⟩ := S.u1 (S.up3 hS)
  have hcap : d.length ≤ cd := by obtain ⟨_, hz, _⟩ := hd _ (S.drop (S.drop (S.drop (S.drop hS)))); exact hz.le_cap
  refine wpF_ofW o61 rfl rfl ?_
  unfold tkC ptC at hS
  unfold ptC
  refine zsr ?_; refine zw1 ?_; refine zns ?_; refine wp_seq ?_; refine wp_regionD ?_; refine zd1 ?_; refine zd1 ?_; refine zm ?_; refine zg ?_; refine wpD_cons ?_; refine op1_iaddrArr rfl rfl rfl (by omega) (by omega) ?_; refine zj (S.g0 hS) ?_; refine zd1 ?_; refine wpD_cons ?_; refine op1_call1 rfl (by (conv => lhs; whnf) <;> rfl) ?_
  have hT := hS
  refine wpF_mono (L45 (RD.cons (RD.cons (RD.cons (RD.cons hd)))) hS (by omega)) ?_
  clear hS
  intro v1 H2 hS
  obtain ⟨a1, c1, rfl⟩ := hS.u1
  have hT2 := hS
  refine wpD_cons ?_; refine op1_call2 rfl (by (conv => lhs; whnf) <;> rfl) (by (conv => lhs; whnf) <;> rfl) ?_
  refine wpF_mono (L25 hok RD.head (by omega) (S.up2 hS)) ?_
  clear hS
  rintro _ H3 ⟨rfl, hS⟩
  replace hS := S.drop (S.up1 hS)
  refine zd1 ?_; refine wpD_cons ?_; refine op1_extract rfl rfl rfl ?_; refine wpD_cons ?_; refine op1_extract rfl rfl rfl ?_; refine zd1 ?_; refine zd1 ?_; refine wpD_nil ?_; refine dk_of ?_ ?_; (iterate 5 refine chk_skip ?_); refine zx 9 ?_ ?_; refine zy 7 ?_ ?_; exact zq (S.g0 hT); refine zy 6 ?_ ?_; exact zq (S.g1 hT2); exact chkFs_nil; (iterate 8 refine chk_skip ?_); exact chk_end; refine seq_normal ?_; refine zsr ?_; refine zw1 ?_; refine zw1 ?_; refine zn ?_; refine zf ?_; refine wpO_cons ?_; refine op1_iaddrArr rfl rfl rfl (by omega) (by omega) ?_; refine zh (S.g1 hS) ?_; refine zw1 ?_; refine wpO_cons ?_; refine op1_call2 rfl (by (conv => lhs; whnf) <;> rfl) (by (conv => lhs; whnf) <;> rfl) ?_
  refine wpF_mono (L50 hok (RD.cons (RD.cons (RD.cons hd))) (by omega) (S.up2 hS)) ?_
  clear hS
  rintro _ H4 ⟨rfl, hS⟩
  obtain ⟨m, hm, hml⟩ := write_n s d
  rw [hm]
  have hT4 := hS
  refine zw1 ?_; refine wpO_cons ?_; refine op1_extract rfl rfl rfl ?_; refine wpO_cons ?_; refine op1_extract rfl rfl rfl ?_; refine zw1 ?_; refine zw1 ?_; refine zns ?_; refine wp_seq ?_; refine wp_regionD ?_; (iterate 4 refine zd1 ?_); refine zm ?_; refine zg ?_; refine wpD_cons ?_; refine op1_iaddrArr rfl rfl rfl (by omega) (by omega) ?_; refine zj (S.g2 hT4) ?_; refine zd1 ?_; refine zd1 ?_; refine zd1 ?_; refine wpD_cons ?_; refine op1_len rfl rfl ?_; refine wpD_cons ?_; refine op1_min rfl rfl rfl ?_; refine wpD_cons ?_
  rw [show min (m : Int) (d.length : Int) = m by omega]
  refine op1_sliceD rfl rfl hd (S.drop (S.drop (S.drop (S.drop hS)))) (bnds_hi (by omega) (by omega)) (by omega) (by simp only [Int.toNat_natCast]; omega) ?_
  simp only [Int.toNat_natCast, Nat.zero_mul, List.drop_zero, Nat.sub_zero, Nat.mul_one]
  intro a5 c5 hd5 hck
  rw [u8s_take] at hd5
  have hmt : (d.take m).length = m := by rw [List.length_take]; omega
  obtain ⟨r5, hr5, _⟩ := hd5 _ (S.drop (S.drop (S.drop (S.drop hS))))
  refine zm ?_; refine zg ?_; refine wpD_cons ?_
  refine op1_appRS rfl rfl (by (conv => lhs; whnf) <;> rfl) rfl hr5 (by simp [hmt]) (u8s_one _) (S.up3 hS) (by omega) ?_
  intro a6 c6 H6 hS
  rw [← u8s_append] at hS
  refine wpD_cons ?_; refine op1_iaddrArr rfl rfl rfl (by omega) (by omega) ?_; refine wpD_cons ?_; (refine op1_store1S rfl rfl (by (conv => lhs; whnf) <;> rfl) rfl rfl (S.up3 hS) rfl ?_; intro H1 hS; replace hS := S.dn3 hS); refine wpD_nil ?_; refine dk_of ?_ ?_; (iterate 7 refine chk_skip ?_); refine zx 12 ?_ ?_; refine zy 3 ?_ ?_; exact zq (S.g2 hT4); exact chkFs_nil; (iterate 3 refine chk_skip ?_); refine zx 8 ?_ ?_; refine zy 3 ?_ ?_; exact chk_len rfl rfl; exact chkFs_nil; refine chk_skip ?_; refine zx 6 ?_ ?_; refine zy 3 ?_ ?_
  · exact hck _ _ (S.drop (S.drop (S.drop (S.drop hT4)))) rfl
  exact chkFs_nil; (iterate 5 refine chk_skip ?_); exact chk_end; refine seq_normal ?_; refine zsr ?_; refine zw1 ?_; refine zw1 ?_; refine wpO_cons ?_; refine op1_eqlI_s rfl rfl rfl ?_; refine zw1 ?_; refine zw1 ?_; refine zw1 ?_; refine wpO_cons ?_; refine op1_eqlI_s rfl rfl rfl ?_; refine zt ?_; refine zw1 ?_; refine zns ?_; refine wp_ret ?_; refine ret_of ?_; refine zr ?_; refine rk_nil ?_
  exact ⟨rfl, _, m, rfl, hml, S.up3 (S.up2 (S.up1 hS))⟩
theorem L61b {b p0 p1 q0 q1 : Nat} {va w0 w1 r0 r1 vd : Value} {now : Int} {s : Cn} {w d : List Int} (hok : Ok s) (hd : RD B As 1 vd (u8s d)) (hdl : d.length ≤ 300) (hwl : w.length ≤ 1000000)
    (hS : S B H (pto b (.cells (tkC p0 p1 q0 q1 va now w0 w1 r0 r1) 0 false) :: repC p1 s :: repD q1 s :: sl 1 w1 (u8s w) :: As)) :
    wpF C 61 [ptC b, .int .i64 1, vd] H fun v H' => v = .bool true ∧ ∃ (w1' : Value) (m : Nat), (s.write d).1 = m ∧ m ≤ d.length ∧ S B H' (pto b (.cells (tkC p0 p1 q0 q1 va now w0 w1' r0 r1) 0 false) :: repC p1 (s.write d).2.2 :: repD q1 (s.write d).2.2 :: sl 1 w1' (u8s (w ++ d.take m)) :: As) := by
  obtain ⟨ad, cd, rfl⟩ := hd.u1 (S.drop (S.drop (S.drop (S.drop hS))))
  obtain ⟨aw, cw, rfl⟩ := S.u1 (S.up3 hS)
  have hcap : d.length ≤ cd := by obtain ⟨_, hz, _⟩ := hd _ (S.drop (S.drop (S.drop (S.drop hS)))); exact hz.le_cap
  refine wpF_ofW o61 rfl rfl ?_
  unfold tkC ptC at hS
  unfold ptC
  refine zsr ?_; refine zw1 ?_; refine zns ?_; refine wp_seq ?_; refine wp_regionD ?_; refine zd1 ?_; refine zd1 ?_; refine zm ?_; refine zg ?_; refine wpD_cons ?_; refine op1_iaddrArr rfl rfl rfl (by omega) (by omega) ?_; refine zj (S.g0 hS) ?_; refine zd1 ?_; refine wpD_cons ?_; refine op1_call1 rfl (by (conv => lhs; whnf) <;> rfl) ?_
  have hT := hS
  refine wpF_mono (L45 (RD.cons (RD.cons (RD.cons (RD.cons hd)))) hS (by omega)) ?_
  clear hS
  intro v1 H2 hS
  obtain ⟨a1, c1, rfl⟩ := hS.u1
  have hT2 := hS
  refine wpD_cons ?_; refine op1_call2 rfl (by (conv => lhs; whnf) <;> rfl) (by (conv => lhs; whnf) <;> rfl) ?_
  refine wpF_mono (L25 hok RD.head (by omega) (S.up2 hS)) ?_
  clear hS
  rintro _ H3 ⟨rfl, hS⟩
  replace hS := S.drop (S.up1 hS)
  refine zd1 ?_; refine wpD_cons ?_; refine op1_extract rfl rfl rfl ?_; refine wpD_cons ?_; refine op1_extract rfl rfl rfl ?_; refine zd1 ?_; refine zd1 ?_; refine wpD_nil ?_; refine dk_of ?_ ?_; (iterate 5 refine chk_skip ?_); refine zx 9 ?_ ?_; refine zy 7 ?_ ?_; exact zq (S.g0 hT); refine zy 6 ?_ ?_; exact zq (S.g1 hT2); exact chkFs_nil; (iterate 8 refine chk_skip ?_); exact chk_end; refine seq_normal ?_; refine zsr ?_; refine zw1 ?_; refine zw1 ?_; refine zn ?_; refine zf ?_; refine wpO_cons ?_; refine op1_iaddrArr rfl rfl rfl (by omega) (by omega) ?_; refine zh (S.g1 hS) ?_; refine zw1 ?_; refine wpO_cons ?_; refine op1_call2 rfl (by (conv => lhs; whnf) <;> rfl) (by (conv => lhs; whnf) <;> rfl) ?_
  refine wpF_mono (L50 hok (RD.cons (RD.cons (RD.cons hd))) (by omega) (S.up2 hS)) ?_
  clear hS
  rintro _ H4 ⟨rfl, hS⟩
  obtain ⟨m, hm, hml⟩ := write_n s d
  rw [hm]
  have hT4 := hS
  refine zw1 ?_; refine wpO_cons ?_; refine op1_extract rfl rfl rfl ?_; refine wpO_cons ?_; refine op1_extract rfl rfl rfl ?_; refine zw1 ?_; refine zw1 ?_; refine zns ?_; refine wp_seq ?_; refine wp_regionD ?_; (iterate 4 refine zd1 ?_); refine zm ?_; refine zg ?_; refine wpD_cons ?_; refine op1_iaddrArr rfl rfl rfl (by omega) (by omega) ?_; refine zj (S.g2 hT4) ?_; refine zd1 ?_; refine zd1 ?_; refine zd1 ?_; refine wpD_cons ?_; refine op1_len rfl rfl ?_; refine wpD_cons ?_; refine op1_min rfl rfl rfl ?_; refine wpD_cons ?_
  rw [show min (m : Int) (d.length : Int) = m by omega]
  refine op1_sliceD rfl rfl hd (S.drop (S.drop (S.drop (S.drop hS)))) (bnds_hi (by omega) (by omega)) (by omega) (by simp only [Int.toNat_natCast]; omega) ?_
  simp only [Int.toNat_natCast, Nat.zero_mul, List.drop_zero, Nat.sub_zero, Nat.mul_one]
  intro a5 c5 hd5 hck
  rw [u8s_take] at hd5
  have hmt : (d.take m).length = m := by rw [List.length_take]; omega
  obtain ⟨r5, hr5, _⟩ := hd5 _ (S.drop (S.drop (S.drop (S.drop hS))))
  refine zm ?_; refine zg ?_; refine wpD_cons ?_
  refine op1_appRS rfl rfl (by (conv => lhs; whnf) <;> rfl) rfl hr5 (by simp [hmt]) (u8s_one _) (S.up3 hS) (by omega) ?_
  intro a6 c6 H6 hS
  rw [← u8s_append] at hS
  refine wpD_cons ?_; refine op1_iaddrArr rfl rfl rfl (by omega) (by omega) ?_; refine wpD_cons ?_; (refine op1_store1S rfl rfl (by (conv => lhs; whnf) <;> rfl) rfl rfl (S.up3 hS) rfl ?_; intro H1 hS; replace hS := S.dn3 hS); refine wpD_nil ?_; refine dk_of ?_ ?_; (iterate 7 refine chk_skip ?_); refine zx 12 ?_ ?_; refine zy 3 ?_ ?_; exact zq (S.g2 hT4); exact chkFs_nil; (iterate 3 refine chk_skip ?_); refine zx 8 ?_ ?_; refine zy 3 ?_ ?_; exact chk_len rfl rfl; exact chkFs_nil; refine chk_skip ?_; refine zx 6 ?_ ?_; refine zy 3 ?_ ?_
  · exact hck _ _ (S.drop (S.drop (S.drop (S.drop hT4)))) rfl
  exact chkFs_nil; (iterate 5 refine chk_skip ?_); exact chk_end; refine seq_normal ?_; refine zsr ?_; refine zw1 ?_; refine zw1 ?_; refine wpO_cons ?_; refine op1_eqlI_s rfl rfl rfl ?_; refine zw1 ?_; refine zw1 ?_; refine zw1 ?_; refine wpO_cons ?_; refine op1_eqlI_s rfl rfl rfl ?_; refine zt ?_; refine zw1 ?_; refine zns ?_; refine wp_ret ?_; refine ret_of ?_; refine zr ?_; refine rk_nil ?_
  exact ⟨rfl, _, m, rfl, hml, S.up3 (S.up2 (S.up1 hS))⟩
theorem L62a {b p0 p1 q0 q1 : Nat} {va w0 w1 r0 r1 : Value} {now n : Int} {s : Cn} {r : List Int} (hok : Ok s) (hwl : r.length ≤ 1000000)
    (hS : S B H (pto b (.cells (tkC p0 p1 q0 q1 va now w0 w1 r0 r1) 0 false) :: repC p0 s :: repD q0 s :: sl 1 r0 (u8s r) :: As)) :
    wpF C 62 [ptC b, .int .i64 0, .int .i64 n] H fun v H' => v = .bool true ∧ ∃ r0' : Value, S B H' (pto b (.cells (tkC p0 p1 q0 q1 va now w0 w1 r0' r1) 0 false) :: repC p0 (s.read n).2.2 :: repD q0 (s.read n).2.2 :: sl 1 r0' (u8s (r ++ (s.read n).1)) :: As) := by
  obtain ⟨ar, cr, rfl⟩ := S.u1 (S.up3 hS)
  refine wpF_ofW o62 rfl rfl ?_
  unfold tkC ptC at hS
  unfold ptC
  refine zsr ?_; refine zw1 ?_; refine zns ?_; refine zsr ?_; refine zw1 ?_; refine zw1 ?_; refine zn ?_; refine zf ?_; refine wpO_cons ?_; refine op1_iaddrArr rfl rfl rfl (by omega) (by omega) ?_; refine zh (S.g0 hS) ?_; refine zw1 ?_; refine wpO_cons ?_; refine op1_call2 rfl (by (conv => lhs; whnf) <;> rfl) (by (conv => lhs; whnf) <;> rfl) ?_
  refine wpF_mono (L37 hok (S.up1 hS)) ?_
  clear hS
  rintro _ H3 ⟨v1, rfl, hS⟩
  have hrl : (s.read n).1.length ≤ 4096 := by have := read_len s n; have := hok.inc; omega
  obtain ⟨a1, c1, rfl⟩ := S.u1 hS
  refine zw1 ?_; refine wpO_cons ?_; refine op1_extract rfl rfl rfl ?_; refine wpO_cons ?_; refine op1_extract rfl rfl rfl ?_; refine zw1 ?_; refine zw1 ?_; refine zns ?_; refine zsr ?_; refine zw1 ?_; refine zw1 ?_; refine zn ?_; refine zf ?_; refine wpO_cons ?_; refine op1_iaddrArr rfl rfl rfl (by omega) (by omega) ?_; refine zh (S.g2 hS) ?_; refine zw1 ?_; refine wpO_cons ?_; refine op1_call2 rfl (by (conv => lhs; whnf) <;> rfl) (by (conv => lhs; whnf) <;> rfl) ?_
  refine wpF_mono (L51 hok (S.up3 hS)) ?_
  clear hS
  rintro _ H4 ⟨v2, rfl, hS⟩
  obtain ⟨x1, hr1, _⟩ := S.rd (S.up2 hS)
  refine zw1 ?_; refine wpO_cons ?_; refine op1_extract rfl rfl rfl ?_; refine wpO_cons ?_; refine op1_extract rfl rfl rfl ?_; refine zw1 ?_; refine zw1 ?_; refine zns ?_; refine wp_seq ?_; refine wp_regionD ?_; (iterate 4 refine zd1 ?_); refine zm ?_; refine zg ?_; refine wpD_cons ?_; refine op1_iaddrArr rfl rfl rfl (by omega) (by omega) ?_; refine zj (S.g4 hS) ?_; refine zd1 ?_; refine zm ?_; refine zg ?_; refine wpD_cons ?_
  refine op1_appRS rfl rfl (by (conv => lhs; whnf) <;> rfl) rfl hr1 (by simp) (u8s_one _) (S.up5 hS) (by omega) ?_
  intro a6 c6 H6 hS
  rw [← u8s_append] at hS
  refine wpD_cons ?_; refine op1_iaddrArr rfl rfl rfl (by omega) (by omega) ?_; refine wpD_cons ?_; (refine op1_store1S rfl rfl (by (conv => lhs; whnf) <;> rfl) rfl rfl (S.up5 hS) rfl ?_; intro H1 hS; replace hS := S.dn5 hS); refine wpD_nil ?_; refine dk_of ?_ ?_; (iterate 7 refine chk_skip ?_); refine zx 7 ?_ ?_; refine zy 3 ?_ ?_; exact chk_load rfl (by exact S.g4 (by assumption)) rfl rfl; exact chkFs_nil; (iterate 6 refine chk_skip ?_); exact chk_end; refine seq_normal ?_; refine zsr ?_; refine zw1 ?_; refine zw1 ?_; refine wpO_cons ?_; refine op1_eqlI_s rfl rfl rfl ?_; refine zw1 ?_; refine zw1 ?_; refine zw1 ?_; refine wpO_cons ?_; refine op1_call2 rfl (by (conv => lhs; whnf) <;> rfl) (by (conv => lhs; whnf) <;> rfl) ?_
  obtain ⟨x2, hr2, _⟩ := S.rd (S.up1 hS)
  obtain ⟨x3, hr3, _⟩ := S.rd (S.up3 hS)
  refine wpF_mono (L22 hr3 (by omega) hr2 (by omega)) ?_
  rintro _ H8 ⟨rfl, rfl⟩
  rw [decide_eq_true rfl]
  refine zt ?_; refine zw1 ?_; refine zns ?_; refine wp_ret ?_; refine ret_of ?_; refine zr ?_; refine rk_nil ?_
  exact ⟨rfl, _, S.up3 (S.up2 (S.up1 (S.drop (S.up2 (S.drop (S.up1 hS))))))⟩
theorem L62b {b p0 p1 q0 q1 : Nat} {va w0 w1 r0 r1 : Value} {now n : Int} {s : Cn} {r : List Int} (hok : Ok s) (hwl : r.length ≤ 1000000)
    (hS : S B H (pto b (.cells (tkC p0 p1 q0 q1 va now w0 w1 r0 r1) 0 false) :: repC p1 s :: repD q1 s :: sl 1 r1 (u8s r) :: As)) :
    wpF C 62 [ptC b, .int .i64 1, .int .i64 n] H fun v H' => v = .bool true ∧ ∃ r1' : Value, S B H' (pto b (.cells (tkC p0 p1 q0 q1 va now w0 w1 r0 r1') 0 false) :: repC p1 (s.read n).2.2 :: repD q1 (s.read n).2.2 :: sl 1 r1' (u8s (r ++ (s.read n).1)) :: As) := by
  obtain ⟨ar, cr, rfl⟩ := S.u1 (S.up3 hS)
  refine wpF_ofW o62 rfl rfl ?_
  unfold tkC ptC at hS
  unfold ptC
  refine zsr ?_; refine zw1 ?_; refine zns ?_; refine zsr ?_; refine zw1 ?_; refine zw1 ?_; refine zn ?_; refine zf ?_; refine wpO_cons ?_; refine op1_iaddrArr rfl rfl rfl (by omega) (by omega) ?_; refine zh (S.g0 hS) ?_; refine zw1 ?_; refine wpO_cons ?_; refine op1_call2 rfl (by (conv => lhs; whnf) <;> rfl) (by (conv => lhs; whnf) <;> rfl) ?_
  refine wpF_mono (L37 hok (S.up1 hS)) ?_
  clear hS
  rintro _ H3 ⟨v1, rfl, hS⟩
  have hrl : (s.read n).1.length ≤ 4096 := by have := read_len s n; have := hok.inc; omega
  obtain ⟨a1, c1, rfl⟩ := S.u1 hS
  refine zw1 ?_; refine wpO_cons ?_; refine op1_extract rfl rfl rfl ?_; refine wpO_cons ?_; refine op1_extract rfl rfl rfl ?_; refine zw1 ?_; refine zw1 ?_; refine zns ?_; refine zsr ?_; refine zw1 ?_; refine zw1 ?_; refine zn ?_; refine zf ?_; refine wpO_cons ?_; refine op1_iaddrArr rfl rfl rfl (by omega) (by omega) ?_; refine zh (S.g2 hS) ?_; refine zw1 ?_; refine wpO_cons ?_; refine op1_call2 rfl (by (conv => lhs; whnf) <;> rfl) (by (conv => lhs; whnf) <;> rfl) ?_
  refine wpF_mono (L51 hok (S.up3 hS)) ?_
  clear hS
  rintro _ H4 ⟨v2, rfl, hS⟩
  obtain ⟨x1, hr1, _⟩ := S.rd (S.up2 hS)
  refine zw1 ?_; refine wpO_cons ?_; refine op1_extract rfl rfl rfl ?_; refine wpO_cons ?_; refine op1_extract rfl rfl rfl ?_; refine zw1 ?_; refine zw1 ?_; refine zns ?_; refine wp_seq ?_; refine wp_regionD ?_; (iterate 4 refine zd1 ?_); refine zm ?_; refine zg ?_; refine wpD_cons ?_; refine op1_iaddrArr rfl rfl rfl (by omega) (by omega) ?_; refine zj (S.g4 hS) ?_; refine zd1 ?_; refine zm ?_; refine zg ?_; refine wpD_cons ?_
  refine op1_appRS rfl rfl (by (conv => lhs; whnf) <;> rfl) rfl hr1 (by simp) (u8s_one _) (S.up5 hS) (by omega) ?_
  intro a6 c6 H6 hS
  rw [← u8s_append] at hS
  refine wpD_cons ?_; refine op1_iaddrArr rfl rfl rfl (by omega) (by omega) ?_; refine wpD_cons ?_; (refine op1_store1S rfl rfl (by (conv => lhs; whnf) <;> rfl) rfl rfl (S.up5 hS) rfl ?_; intro H1 hS; replace hS := S.dn5 hS); refine wpD_nil ?_; refine dk_of ?_ ?_; (iterate 7 refine chk_skip ?_); refine zx 7 ?_ ?_; refine zy 3 ?_ ?_; exact chk_load rfl (by exact S.g4 (by assumption)) rfl rfl; exact chkFs_nil; (iterate 6 refine chk_skip ?_); exact chk_end; refine seq_normal ?_; refine zsr ?_; refine zw1 ?_; refine zw1 ?_; refine wpO_cons ?_; refine op1_eqlI_s rfl rfl rfl ?_; refine zw1 ?_; refine zw1 ?_; refine zw1 ?_; refine wpO_cons ?_; refine op1_call2 rfl (by (conv => lhs; whnf) <;> rfl) (by (conv => lhs; whnf) <;> rfl) ?_
  obtain ⟨x2, hr2, _⟩ := S.rd (S.up1 hS)
  obtain ⟨x3, hr3, _⟩ := S.rd (S.up3 hS)
  refine wpF_mono (L22 hr3 (by omega) hr2 (by omega)) ?_
  rintro _ H8 ⟨rfl, rfl⟩
  rw [decide_eq_true rfl]
  refine zt ?_; refine zw1 ?_; refine zns ?_; refine wp_ret ?_; refine ret_of ?_; refine zr ?_; refine rk_nil ?_
  exact ⟨rfl, _, S.up3 (S.up2 (S.up1 (S.drop (S.up2 (S.drop (S.up1 hS))))))⟩
end
end Go.E.St
/- A talk: putting out, arriving, losing. -/
namespace Go.E.St
open Go Go.E Go.Proofs.Ytamcfhhcmjagnaa Go.Proofs
set_option linter.unusedVariables false
set_option linter.unusedSimpArgs false
set_option maxRecDepth 100000
structure Fl where
  to : Int
  g : Sg
  v : Value
def Fl.cells (f : Fl) : List Value := .int .i64 f.to :: sgC f.g f.v
def mkFl (i : Int) (x : Sg × Value) : Fl := ⟨i, x.1, x.2⟩
theorem fl_len (l : List Fl) : (l.flatMap Fl.cells).length = l.length * 6 := by
  induction l with
  | nil => rfl
  | cons f l ih => rw [List.flatMap_cons, List.length_append, ih, List.length_cons]; show 6 + _ = _; omega
theorem fl_one (l : List Fl) (h : ∀ f ∈ l, ∃ a n c, f.v = .slice a n c) : (l.flatMap Fl.cells).all (·.oneCell') = true := by
  induction l with
  | nil => rfl
  | cons f l ih =>
    rw [List.flatMap_cons, List.all_append, ih fun f hf => h f (by simp [hf])]
    obtain ⟨a, n, c, e⟩ := h f (by simp)
    unfold Fl.cells
    rw [e]
    rfl
section
variable {B H : AHeap} {As : List Asn}
theorem L65a {b p0 p1 q0 q1 : Nat} {va w0 w1 r0 r1 : Value} {now : Int} {s : Cn} {g : Sg} {ad : Option Addr} {cd : Nat} (hok : Ok s) (hq : 0 ≤ g.seq ∧ g.seq ≤ 4294967295) (hn : 0 ≤ g.num ∧ g.num ≤ 4294967295)
    (hd : RD B As 1 (.slice ad g.data.length cd) (u8s g.data))
    (hS : S B H (pto b (.cells (tkC p0 p1 q0 q1 va now w0 w1 r0 r1) 0 false) :: repC p0 s :: repD q0 s :: As)) :
    wpF C 65 [ptC b, .agg ⟨.int .i64 0 :: sgC g (.slice ad g.data.length cd)⟩] H fun v H' => v = .bool true ∧ S B H' (pto b (.cells (tkC p0 p1 q0 q1 va now w0 w1 r0 r1) 0 false) :: repC p0 (s.input g now) :: repD q0 (s.input g now) :: As) := by
  refine wpF_ofW o65 rfl rfl ?_
  have hS0 := hS
  unfold tkC ptC at hS
  unfold ptC sgC
  refine zsr ?_; refine wpO_cons ?_; refine op1_boxNS rfl rfl rfl hS ?_; intro p2 H1 hS; refine zw1 ?_; refine zns ?_; refine wp_seq ?_; refine wp_regionD ?_; refine zd1 ?_; refine zg ?_; refine zj (S.g0 hS) ?_; refine zm ?_; refine zg ?_; refine wpD_cons ?_; refine op1_iaddrArr rfl rfl rfl (by omega) (by omega) ?_; refine zj (S.g1 hS) ?_; refine zg ?_; refine wpD_cons ?_; refine op1_load_5 rfl rfl (by exact S.g0 hS) rfl rfl ?_; refine zd1 ?_; refine zm ?_; refine zg ?_; refine zj (S.g1 hS) ?_; refine zd1 ?_; refine zg ?_; refine zj (S.g0 hS) ?_; refine zm ?_; refine zg ?_; refine wpD_cons ?_; refine op1_iaddrArr rfl rfl rfl (by omega) (by omega) ?_; refine zj (S.g1 hS) ?_; refine zg ?_; refine wpD_cons ?_; refine op1_load_5 rfl rfl (by exact S.g0 hS) rfl rfl ?_; refine zd1 ?_; refine zm ?_; refine zg ?_; refine zj (S.g1 hS) ?_; refine wpD_cons ?_; refine op1_call3 rfl (by (conv => lhs; whnf) <;> rfl) (by (conv => lhs; whnf) <;> rfl) (by (conv => lhs; whnf) <;> rfl) ?_
  have hT := hS
  refine wpF_mono (L38 (g := g) hok ⟨hq, hn⟩ (RD.cons (RD.cons (RD.cons hd))) (S.up2 hS)) ?_
  clear hS
  rintro _ H2 ⟨rfl, hS⟩
  have hT2 := S.up1 hS
  have hT2b := S.up2 hS
  refine wpD_cons ?_; refine op1_call1 rfl (by (conv => lhs; whnf) <;> rfl) ?_
  refine wpF_mono (L14 (g := g) hS) ?_
  clear hS
  rintro _ H3 ⟨rfl, hS⟩
  have hT3 := S.up1 hS
  have hT3b := S.up2 hS
  refine wpD_cons ?_; refine op1_call3 rfl (by (conv => lhs; whnf) <;> rfl) (by (conv => lhs; whnf) <;> rfl) (by (conv => lhs; whnf) <;> rfl) ?_
  refine wpF_mono (L55 (g := g) hok ⟨hq, hn⟩ (RD.cons (RD.cons (RD.cons hd))) (S.up3 hS)) ?_
  clear hS
  rintro _ H4 ⟨rfl, hS⟩
  refine wpD_cons ?_; refine op1_eqlI_s rfl rfl rfl ?_; refine zd1 ?_; refine wpD_nil ?_; refine dk_of ?_ ?_; (iterate 2 refine chk_skip ?_); refine zx 29 ?_ ?_; refine zy 5 ?_ ?_; exact zq (S.g0 hT); exact chkFs_nil; (iterate 3 refine chk_skip ?_); refine zx 25 ?_ ?_; refine zy 5 ?_ ?_; exact zq (S.g1 hT); exact chkFs_nil; refine chk_skip ?_; refine zx 23 ?_ ?_; refine zy 5 ?_ ?_; exact chk_loadN rfl (by exact S.g0 hT) rfl rfl rfl; exact chkFs_nil; (iterate 3 refine chk_skip ?_); refine zx 19 ?_ ?_; refine zy 5 ?_ ?_; exact zq (S.g1 hT); exact chkFs_nil; (iterate 2 refine chk_skip ?_); refine zx 16 ?_ ?_; refine zy 5 ?_ ?_; exact zq (S.g0 hT); refine zy 4 ?_ ?_; exact zq (S.g2 hT2b); refine zy 3 ?_ ?_; exact zq (S.g2 hT3b); exact chkFs_nil; (iterate 3 refine chk_skip ?_); refine zx 12 ?_ ?_; refine zy 5 ?_ ?_; exact zq (S.g1 hT); refine zy 4 ?_ ?_; exact zq (S.g0 hT2b); refine zy 3 ?_ ?_; exact zq (S.g0 hT3b); exact chkFs_nil; refine chk_skip ?_; refine zx 10 ?_ ?_; refine zy 5 ?_ ?_; exact chk_loadN rfl (by exact S.g0 hT) rfl rfl rfl; refine zy 4 ?_ ?_; exact chk_loadN rfl (by exact S.g2 hT2b) rfl rfl rfl; exact chkFs_nil; (iterate 3 refine chk_skip ?_); refine zx 6 ?_ ?_; refine zy 5 ?_ ?_; exact zq (S.g1 hT); refine zy 4 ?_ ?_; exact zq (S.g0 hT2b); refine zy 3 ?_ ?_; exact zq (S.g0 hT3b); exact chkFs_nil; (iterate 5 refine chk_skip ?_); exact chk_end; refine seq_normal ?_; refine wp_ret ?_; refine ret_of ?_; refine zr ?_; refine rk_nil ?_
  exact ⟨rfl, S.up2 (S.up1 (S.drop (S.up2 hS)))⟩
theorem L65b {b p0 p1 q0 q1 : Nat} {va w0 w1 r0 r1 : Value} {now : Int} {s : Cn} {g : Sg} {ad : Option Addr} {cd : Nat} (hok : Ok s) (hq : 0 ≤ g.seq ∧ g.seq ≤ 4294967295) (hn : 0 ≤ g.num ∧ g.num ≤ 4294967295)
    (hd : RD B As 1 (.slice ad g.data.length cd) (u8s g.data))
    (hS : S B H (pto b (.cells (tkC p0 p1 q0 q1 va now w0 w1 r0 r1) 0 false) :: repC p1 s :: repD q1 s :: As)) :
    wpF C 65 [ptC b, .agg ⟨.int .i64 1 :: sgC g (.slice ad g.data.length cd)⟩] H fun v H' => v = .bool true ∧ S B H' (pto b (.cells (tkC p0 p1 q0 q1 va now w0 w1 r0 r1) 0 false) :: repC p1 (s.input g now) :: repD q1 (s.input g now) :: As) := by
  refine wpF_ofW o65 rfl rfl ?_
  have hS0 := hS
  unfold tkC ptC at hS
  unfold ptC sgC
  refine zsr ?_; refine wpO_cons ?_; refine op1_boxNS rfl rfl rfl hS ?_; intro p2 H1 hS; refine zw1 ?_; refine zns ?_; refine wp_seq ?_; refine wp_regionD ?_; refine zd1 ?_; refine zg ?_; refine zj (S.g0 hS) ?_; refine zm ?_; refine zg ?_; refine wpD_cons ?_; refine op1_iaddrArr rfl rfl rfl (by omega) (by omega) ?_; refine zj (S.g1 hS) ?_; refine zg ?_; refine wpD_cons ?_; refine op1_load_5 rfl rfl (by exact S.g0 hS) rfl rfl ?_; refine zd1 ?_; refine zm ?_; refine zg ?_; refine zj (S.g1 hS) ?_; refine zd1 ?_; refine zg ?_; refine zj (S.g0 hS) ?_; refine zm ?_; refine zg ?_; refine wpD_cons ?_; refine op1_iaddrArr rfl rfl rfl (by omega) (by omega) ?_; refine zj (S.g1 hS) ?_; refine zg ?_; refine wpD_cons ?_; refine op1_load_5 rfl rfl (by exact S.g0 hS) rfl rfl ?_; refine zd1 ?_; refine zm ?_; refine zg ?_; refine zj (S.g1 hS) ?_; refine wpD_cons ?_; refine op1_call3 rfl (by (conv => lhs; whnf) <;> rfl) (by (conv => lhs; whnf) <;> rfl) (by (conv => lhs; whnf) <;> rfl) ?_
  have hT := hS
  refine wpF_mono (L38 (g := g) hok ⟨hq, hn⟩ (RD.cons (RD.cons (RD.cons hd))) (S.up2 hS)) ?_
  clear hS
  rintro _ H2 ⟨rfl, hS⟩
  have hT2 := S.up1 hS
  have hT2b := S.up2 hS
  refine wpD_cons ?_; refine op1_call1 rfl (by (conv => lhs; whnf) <;> rfl) ?_
  refine wpF_mono (L14 (g := g) hS) ?_
  clear hS
  rintro _ H3 ⟨rfl, hS⟩
  have hT3 := S.up1 hS
  have hT3b := S.up2 hS
  refine wpD_cons ?_; refine op1_call3 rfl (by (conv => lhs; whnf) <;> rfl) (by (conv => lhs; whnf) <;> rfl) (by (conv => lhs; whnf) <;> rfl) ?_
  refine wpF_mono (L55 (g := g) hok ⟨hq, hn⟩ (RD.cons (RD.cons (RD.cons hd))) (S.up3 hS)) ?_
  clear hS
  rintro _ H4 ⟨rfl, hS⟩
  refine wpD_cons ?_; refine op1_eqlI_s rfl rfl rfl ?_; refine zd1 ?_; refine wpD_nil ?_; refine dk_of ?_ ?_; (iterate 2 refine chk_skip ?_); refine zx 29 ?_ ?_; refine zy 5 ?_ ?_; exact zq (S.g0 hT); exact chkFs_nil; (iterate 3 refine chk_skip ?_); refine zx 25 ?_ ?_; refine zy 5 ?_ ?_; exact zq (S.g1 hT); exact chkFs_nil; refine chk_skip ?_; refine zx 23 ?_ ?_; refine zy 5 ?_ ?_; exact chk_loadN rfl (by exact S.g0 hT) rfl rfl rfl; exact chkFs_nil; (iterate 3 refine chk_skip ?_); refine zx 19 ?_ ?_; refine zy 5 ?_ ?_; exact zq (S.g1 hT); exact chkFs_nil; (iterate 2 refine chk_skip ?_); refine zx 16 ?_ ?_; refine zy 5 ?_ ?_; exact zq (S.g0 hT); refine zy 4 ?_ ?_; exact zq (S.g2 hT2b); refine zy 3 ?_ ?_; exact zq (S.g2 hT3b); exact chkFs_nil; (iterate 3 refine chk_skip ?_); refine zx 12 ?_ ?_; refine zy 5 ?_ ?_; exact zq (S.g1 hT); refine zy 4 ?_ ?_; exact zq (S.g0 hT2b); refine zy 3 ?_ ?_; exact zq (S.g0 hT3b); exact chkFs_nil; refine chk_skip ?_; refine zx 10 ?_ ?_; refine zy 5 ?_ ?_; exact chk_loadN rfl (by exact S.g0 hT) rfl rfl rfl; refine zy 4 ?_ ?_; exact chk_loadN rfl (by exact S.g2 hT2b) rfl rfl rfl; exact chkFs_nil; (iterate 3 refine chk_skip ?_); refine zx 6 ?_ ?_; refine zy 5 ?_ ?_; exact zq (S.g1 hT); refine zy 4 ?_ ?_; exact zq (S.g0 hT2b); refine zy 3 ?_ ?_; exact zq (S.g0 hT3b); exact chkFs_nil; (iterate 5 refine chk_skip ?_); exact chk_end; refine seq_normal ?_; refine wp_ret ?_; refine ret_of ?_; refine zr ?_; refine rk_nil ?_
  exact ⟨rfl, S.up2 (S.up1 (S.drop (S.up2 hS)))⟩
theorem L63a {b p0 p1 q0 q1 : Nat} {w0 w1 r0 r1 : Value} {aa : Option Addr} {ca : Nat} {now : Int} {s : Cn} {air : List Fl} {P : List (Value × List Int)} (hok : Ok s) (hal : air.length ≤ 1000000)
    (hS : S B H (pto b (.cells (tkC p0 p1 q0 q1 (.slice aa air.length ca) now w0 w1 r0 r1) 0 false) :: repC p0 s :: repD q0 s :: sl 6 (.slice aa air.length ca) (air.flatMap Fl.cells) :: pool P :: As)) :
    wpF C 63 [ptC b, .int .i64 0] H fun v H' => v = .bool true ∧ ∃ (aa' : Option Addr) (ca' : Nat) (la : List (Sg × Value)) (P' : List (Value × List Int)), la.map (·.1) = (s.output now).2.1 ∧ (∀ x ∈ P, x ∈ P') ∧ (∀ x ∈ la, (x.2, x.1.data) ∈ P' ∧ ∃ a c, x.2 = .slice a x.1.data.length c) ∧
      S B H' (pto b (.cells (tkC p0 p1 q0 q1 (.slice aa' (air ++ la.map (mkFl 1)).length ca') now w0 w1 r0 r1) 0 false) :: repC p0 (s.output now).2.2 :: repD q0 (s.output now).2.2 :: sl 6 (.slice aa' (air ++ la.map (mkFl 1)).length ca') ((air ++ la.map (mkFl 1)).flatMap Fl.cells) :: pool P' :: As) := by
  refine wpF_ofW o63 rfl rfl ?_
  unfold tkC ptC at hS
  unfold ptC
  refine zsr ?_; refine zw1 ?_; refine zns ?_; refine wp_seq ?_; refine wp_regionD ?_; refine zd1 ?_; refine zd1 ?_; refine zm ?_; refine zg ?_; refine wpD_cons ?_; refine op1_iaddrArr rfl rfl rfl (by omega) (by omega) ?_; refine zj (S.g0 hS) ?_; refine zd1 ?_; refine zm ?_; refine zg ?_; refine zj (S.g0 hS) ?_; refine wpD_cons ?_; refine op1_call2 rfl (by (conv => lhs; whnf) <;> rfl) (by (conv => lhs; whnf) <;> rfl) ?_
  have hT := hS
  refine wpF_mono (L43 hok (S.up1 hS)) ?_
  clear hS
  rintro _ H2 ⟨a1, c1, rfl, hS⟩
  have hT2 := S.up2 hS
  refine zd1 ?_; refine wpD_cons ?_; refine op1_extract rfl rfl rfl ?_; refine wpD_cons ?_; refine op1_extract rfl rfl rfl ?_; refine zd1 ?_; refine zd1 ?_; refine wpD_nil ?_; refine dk_of ?_ ?_; (iterate 5 refine chk_skip ?_); refine zx 11 ?_ ?_; refine zy 6 ?_ ?_; exact zq (S.g0 hT); exact chkFs_nil; (iterate 3 refine chk_skip ?_); refine zx 7 ?_ ?_; refine zy 6 ?_ ?_; exact zq (S.g0 hT); exact chkFs_nil; (iterate 6 refine chk_skip ?_); exact chk_end; refine seq_normal ?_; refine wp_seq ?_; refine wp_regionD ?_; refine zd1 ?_; refine zd1 ?_; refine zm ?_; refine zg ?_; refine wpD_cons ?_; refine op1_iaddrArr rfl rfl rfl (by omega) (by omega) ?_; refine zj (S.g0 hT2) ?_; refine zd1 ?_; refine zm ?_; refine zg ?_; refine zj (S.g0 hT2) ?_; refine wpD_cons ?_; refine op1_call2 rfl (by (conv => lhs; whnf) <;> rfl) (by (conv => lhs; whnf) <;> rfl) ?_
  refine wpF_mono (L56 hok (S.up3 hS)) ?_
  clear hS
  rintro _ H3 ⟨a2, c2, rfl, hS⟩
  refine zd1 ?_; refine wpD_cons ?_; refine op1_extract rfl rfl rfl ?_; refine wpD_cons ?_; refine op1_extract rfl rfl rfl ?_; refine zd1 ?_; refine zd1 ?_; refine wpD_nil ?_; refine dk_of ?_ ?_; (iterate 5 refine chk_skip ?_); refine zx 11 ?_ ?_; refine zy 6 ?_ ?_; exact zq (S.g0 hT2); exact chkFs_nil; (iterate 3 refine chk_skip ?_); refine zx 7 ?_ ?_; refine zy 6 ?_ ?_; exact zq (S.g0 hT2); exact chkFs_nil; (iterate 6 refine chk_skip ?_); exact chk_end; refine seq_normal ?_; refine wp_seq ?_; refine zsr ?_; refine zw1 ?_; refine wpO_cons ?_; refine op1_len rfl rfl ?_; refine zw1 ?_; refine zns ?_; refine wp_block ?_
  obtain ⟨hol, hod⟩ := out_len (now := now) hok
  obtain ⟨l, hl⟩ : ∃ l, l = (s.output now).2.1 := ⟨_, rfl⟩
  rw [← hl] at hS hol hod ⊢
  obtain ⟨css, _, _, hS⟩ := S.unarr (S.up2 hS)
  obtain ⟨la, P1, ela, rfl, hS, hP1, hla⟩ := pool_many (S.up2 (S.up7 hS))
  obtain ⟨dss, _, _, hS⟩ := S.unarr (S.up2 hS)
  obtain ⟨lb, P2, elb, rfl, hS, hP2, hlb⟩ := pool_many (S.up2 (S.up2 hS))
  have hlal : la.length = l.length := by have h1 := congrArg List.length ela; rw [List.length_map] at h1; omega
  have h5 : ∀ x ∈ la.map sgV, x.length = 5 := fun x hx => by
    obtain ⟨y, _, rfl⟩ := List.mem_map.1 hx
    rfl
  refine wp_loop [41] (fun k vs H' => ∃ (i : Nat) (aa' : Option Addr) (ca' : Nat), vs = [.int .i64 i] ∧ k = l.length - i ∧ i ≤ l.length ∧
    S B H' (pto b (.cells (tkC p0 p1 q0 q1 (.slice aa' (air.length + i) ca') now w0 w1 r0 r1) 0 false) :: sl 6 (.slice aa' (air.length + i) ca') ((air ++ (la.take i).map (mkFl 1)).flatMap Fl.cells) :: sl 5 (.slice a1 l.length c1) (la.map sgV).flatten :: sl 5 (.slice a2 l.length c2) (lb.map sgV).flatten :: pool P2 :: repD q0 (s.output now).2.2 :: repC p0 (s.output now).2.2 :: As))
    ⟨_, 0, aa, ca, rfl, rfl, by omega, by
      rw [List.take_zero, List.map_nil, List.append_nil]
      exact S.up6 (S.up6 (S.up4 (S.up3 (S.up2 (S.up4 (S.up4 hS))))))⟩ ?_
  clear hS
  rintro k vs T4 H6 ⟨i, aa', ca', rfl, rfl, hi, hS⟩
  unfold tkC ptC at hS
  refine zsr ?_; refine wpO_cons ?_; refine op1_lss rfl rfl rfl ?_; refine zns ?_; refine wp_seq ?_
  refine wp_dec rfl (fun h1 => ?_) (fun h1 => ?_)
  rotate_left
  · obtain rfl : i = l.length := by omega
    refine wp_exit ?_; refine seq_exit ?_; refine iter_exit ?_; refine block_exit ?_; refine seq_normal ?_; refine zsr ?_; refine zw1 ?_; refine zw1 ?_; refine wpO_cons ?_; refine op1_eqlI_s rfl rfl rfl ?_; refine zw1 ?_; refine zw1 ?_; refine zw1 ?_; refine wpO_cons ?_; refine op1_call3 rfl (by (conv => lhs; whnf) <;> rfl) (by (conv => lhs; whnf) <;> rfl) (by (conv => lhs; whnf) <;> rfl) ?_
    refine wpF_mono (L57g (As := pool P2 :: _) (la := la) (lb := lb) (by omega) (by rw [ela, elb]) (by omega) (fun x hx => by have := hod x.1 (by rw [← ela]; exact List.mem_map_of_mem hx); omega) (fun x hx => pool_rd (hP2 _ (hla x hx).1)) (fun x hx => pool_rd (hlb x hx).1) (S.up4 (S.up4 (S.up4 hS)))) ?_
    clear hS
    rintro _ H8 ⟨rfl, hS⟩
    refine zt ?_; refine zw1 ?_; refine zns ?_; refine wp_ret ?_; refine ret_of ?_; refine zr ?_; refine rk_nil ?_
    have htl : la.take l.length = la := List.take_of_length_le (by omega)
    rw [htl] at hS
    have ell : (air ++ la.map (mkFl 1)).length = air.length + l.length := by rw [List.length_append, List.length_map, hlal]
    refine ⟨rfl, aa', ca', la, P2, ela, fun x hx => hP2 x (hP1 x hx), fun x hx => ⟨hP2 _ (hla x hx).1, (hla x hx).2⟩, ?_⟩
    rw [ell]
    exact S.up4 (S.up4 (S.up3 (S.up2 (S.drop (S.drop hS)))))
  obtain ⟨x, hx⟩ : ∃ x, la[i]? = some x := ⟨la[i]'(by omega), by simp⟩
  have htk : la.take (i + 1) = la.take i ++ [x] := by rw [List.take_add_one, hx]; rfl
  obtain ⟨_, ax, cx, exv⟩ := hla x (List.mem_of_getElem? hx)
  obtain ⟨g, vx⟩ := x
  dsimp only at exv
  subst exv
  have hcut : ((la.map sgV).flatten.drop (i * 5)).take 5 = [.int .i64 g.fl, .int .u32 g.seq, .int .u32 g.num, .int .i64 g.win, .slice ax g.data.length cx] := flatten_cut h5 (i := i) (x := sgV (g, .slice ax g.data.length cx)) (by rw [List.getElem?_map, hx]; rfl)
  obtain ⟨lb1, lo, lcs, rfl, _⟩ := S.slBlk (S.up2 hS) (by omega)
  refine wp_skip ?_; refine seq_normal ?_; refine wp_seq ?_; refine wp_block ?_; refine zsr ?_; refine wpO_cons ?_; refine op1_iaddr rfl rfl rfl (by omega) (by omega) ?_; refine wpO_cons ?_; refine op1_loadNL rfl rfl (S.up2 hS) rfl rfl (by omega) rfl ?_; refine wpO_cons ?_; refine op1_allocS rfl hS ?_; intro p2 H1 hS; refine wpO_cons ?_
  rw [show (i : Int).toNat = i from rfl, hcut]
  (refine op1_storeNS rfl rfl (by (conv => lhs; whnf) <;> rfl) rfl rfl (S.up0 hS) (Nat.le_of_ble_eq_true rfl) ?_; intro H4 hS; replace hS := S.dn0 hS); refine zns ?_; refine wp_regionD ?_; refine zd1 ?_; refine zd1 ?_; refine zm ?_; refine zg ?_; refine zj (S.g1 hS) ?_; refine zd1 ?_; refine wpD_cons ?_; refine op1_sub rfl rfl rfl (by exact wrap_i64 (by omega) (by omega)) ?_; refine wpD_cons ?_; refine op1_load_5 rfl rfl (by exact S.g0 hS) rfl rfl ?_; refine wpD_cons ?_; refine op1_build rfl ?_; refine bk_one (by (conv => lhs; whnf) <;> rfl) rfl rfl rfl ?_; refine bk_agg rfl rfl rfl rfl ?_; refine bk_nil ?_; refine wpD_cons ?_; refine op1_bsliceS rfl hS ?_; refine bk_agg rfl rfl rfl rfl ?_; refine bk_nil ?_; intro p3 H5 hS; refine wpD_cons ?_; (refine op1_appBS rfl rfl (by (conv => lhs; whnf) <;> rfl) rfl (S.g0 hS) rfl rfl (S.up3 hS) (by omega) ?_; intro a1 c3 H7 hS; replace hS := S.dn3 hS; replace hS := S.drop hS); refine zm ?_; refine zg ?_; refine wpD_cons ?_; (refine op1_store1S rfl rfl (by (conv => lhs; whnf) <;> rfl) rfl rfl (S.up1 hS) rfl ?_; intro H8 hS; replace hS := S.dn1 hS); refine wpD_nil ?_; refine dk_of ?_ ?_; (iterate 4 refine chk_skip ?_); refine zx 10 ?_ ?_; refine zy 4 ?_ ?_; exact chk_load rfl (by exact S.g2 (by assumption)) rfl rfl; exact chkFs_nil; (iterate 2 refine chk_skip ?_); refine zx 7 ?_ ?_; refine zy 4 ?_ ?_; exact chk_loadN rfl (by exact S.g1 (by assumption)) rfl rfl rfl; exact chkFs_nil; (iterate 6 refine chk_skip ?_); exact chk_end; refine block_normal ?_; refine seq_normal ?_; refine wp_region ?_; refine wpO_cons ?_; refine op1_add rfl rfl rfl (by exact wrap_i64 (by omega) (by omega)) ?_; refine zw1 ?_; refine wpO_nil ?_
  have e9 : (air ++ (la.take (i + 1)).map (mkFl 1)).flatMap Fl.cells = (air ++ (la.take i).map (mkFl 1)).flatMap Fl.cells ++ Fl.cells (mkFl 1 (g, .slice ax g.data.length cx)) := by
    rw [htk, List.map_append, ← List.append_assoc, List.flatMap_append (xs := air ++ (la.take i).map (mkFl 1))]
    simp
  exact ⟨l.length - (i + 1), by omega, i + 1, _, _, rfl, rfl, by omega, by rw [e9]; exact S.drop hS⟩
theorem L63b {b p0 p1 q0 q1 : Nat} {w0 w1 r0 r1 : Value} {aa : Option Addr} {ca : Nat} {now : Int} {s : Cn} {air : List Fl} {P : List (Value × List Int)} (hok : Ok s) (hal : air.length ≤ 1000000)
    (hS : S B H (pto b (.cells (tkC p0 p1 q0 q1 (.slice aa air.length ca) now w0 w1 r0 r1) 0 false) :: repC p1 s :: repD q1 s :: sl 6 (.slice aa air.length ca) (air.flatMap Fl.cells) :: pool P :: As)) :
    wpF C 63 [ptC b, .int .i64 1] H fun v H' => v = .bool true ∧ ∃ (aa' : Option Addr) (ca' : Nat) (la : List (Sg × Value)) (P' : List (Value × List Int)), la.map (·.1) = (s.output now).2.1 ∧ (∀ x ∈ P, x ∈ P') ∧ (∀ x ∈ la, (x.2, x.1.data) ∈ P' ∧ ∃ a c, x.2 = .slice a x.1.data.length c) ∧
      S B H' (pto b (.cells (tkC p0 p1 q0 q1 (.slice aa' (air ++ la.map (mkFl 0)).length ca') now w0 w1 r0 r1) 0 false) :: repC p1 (s.output now).2.2 :: repD q1 (s.output now).2.2 :: sl 6 (.slice aa' (air ++ la.map (mkFl 0)).length ca') ((air ++ la.map (mkFl 0)).flatMap Fl.cells) :: pool P' :: As) := by
  refine wpF_ofW o63 rfl rfl ?_
  unfold tkC ptC at hS
  unfold ptC
  refine zsr ?_; refine zw1 ?_; refine zns ?_; refine wp_seq ?_; refine wp_regionD ?_; refine zd1 ?_; refine zd1 ?_; refine zm ?_; refine zg ?_; refine wpD_cons ?_; refine op1_iaddrArr rfl rfl rfl (by omega) (by omega) ?_; refine zj (S.g0 hS) ?_; refine zd1 ?_; refine zm ?_; refine zg ?_; refine zj (S.g0 hS) ?_; refine wpD_cons ?_; refine op1_call2 rfl (by (conv => lhs; whnf) <;> rfl) (by (conv => lhs; whnf) <;> rfl) ?_
  have hT := hS
  refine wpF_mono (L43 hok (S.up1 hS)) ?_
  clear hS
  rintro _ H2 ⟨a1, c1, rfl, hS⟩
  have hT2 := S.up2 hS
  refine zd1 ?_; refine wpD_cons ?_; refine op1_extract rfl rfl rfl ?_; refine wpD_cons ?_; refine op1_extract rfl rfl rfl ?_; refine zd1 ?_; refine zd1 ?_; refine wpD_nil ?_; refine dk_of ?_ ?_; (iterate 5 refine chk_skip ?_); refine zx 11 ?_ ?_; refine zy 6 ?_ ?_; exact zq (S.g0 hT); exact chkFs_nil; (iterate 3 refine chk_skip ?_); refine zx 7 ?_ ?_; refine zy 6 ?_ ?_; exact zq (S.g0 hT); exact chkFs_nil; (iterate 6 refine chk_skip ?_); exact chk_end; refine seq_normal ?_; refine wp_seq ?_; refine wp_regionD ?_; refine zd1 ?_; refine zd1 ?_; refine zm ?_; refine zg ?_; refine wpD_cons ?_; refine op1_iaddrArr rfl rfl rfl (by omega) (by omega) ?_; refine zj (S.g0 hT2) ?_; refine zd1 ?_; refine zm ?_; refine zg ?_; refine zj (S.g0 hT2) ?_; refine wpD_cons ?_; refine op1_call2 rfl (by (conv => lhs; whnf) <;> rfl) (by (conv => lhs; whnf) <;> rfl) ?_
  refine wpF_mono (L56 hok (S.up3 hS)) ?_
  clear hS
  rintro _ H3 ⟨a2, c2, rfl, hS⟩
  refine zd1 ?_; refine wpD_cons ?_; refine op1_extract rfl rfl rfl ?_; refine wpD_cons ?_; refine op1_extract rfl rfl rfl ?_; refine zd1 ?_; refine zd1 ?_; refine wpD_nil ?_; refine dk_of ?_ ?_; (iterate 5 refine chk_skip ?_); refine zx 11 ?_ ?_; refine zy 6 ?_ ?_; exact zq (S.g0 hT2); exact chkFs_nil; (iterate 3 refine chk_skip ?_); refine zx 7 ?_ ?_; refine zy 6 ?_ ?_; exact zq (S.g0 hT2); exact chkFs_nil; (iterate 6 refine chk_skip ?_); exact chk_end; refine seq_normal ?_; refine wp_seq ?_; refine zsr ?_; refine zw1 ?_; refine wpO_cons ?_; refine op1_len rfl rfl ?_; refine zw1 ?_; refine zns ?_; refine wp_block ?_
  obtain ⟨hol, hod⟩ := out_len (now := now) hok
  obtain ⟨l, hl⟩ : ∃ l, l = (s.output now).2.1 := ⟨_, rfl⟩
  rw [← hl] at hS hol hod ⊢
  obtain ⟨css, _, _, hS⟩ := S.unarr (S.up2 hS)
  obtain ⟨la, P1, ela, rfl, hS, hP1, hla⟩ := pool_many (S.up2 (S.up7 hS))
  obtain ⟨dss, _, _, hS⟩ := S.unarr (S.up2 hS)
  obtain ⟨lb, P2, elb, rfl, hS, hP2, hlb⟩ := pool_many (S.up2 (S.up2 hS))
  have hlal : la.length = l.length := by have h1 := congrArg List.length ela; rw [List.length_map] at h1; omega
  have h5 : ∀ x ∈ la.map sgV, x.length = 5 := fun x hx => by
    obtain ⟨y, _, rfl⟩ := List.mem_map.1 hx
    rfl
  refine wp_loop [41] (fun k vs H' => ∃ (i : Nat) (aa' : Option Addr) (ca' : Nat), vs = [.int .i64 i] ∧ k = l.length - i ∧ i ≤ l.length ∧
    S B H' (pto b (.cells (tkC p0 p1 q0 q1 (.slice aa' (air.length + i) ca') now w0 w1 r0 r1) 0 false) :: sl 6 (.slice aa' (air.length + i) ca') ((air ++ (la.take i).map (mkFl 0)).flatMap Fl.cells) :: sl 5 (.slice a1 l.length c1) (la.map sgV).flatten :: sl 5 (.slice a2 l.length c2) (lb.map sgV).flatten :: pool P2 :: repD q1 (s.output now).2.2 :: repC p1 (s.output now).2.2 :: As))
    ⟨_, 0, aa, ca, rfl, rfl, by omega, by
      rw [List.take_zero, List.map_nil, List.append_nil]
      exact S.up6 (S.up6 (S.up4 (S.up3 (S.up2 (S.up4 (S.up4 hS))))))⟩ ?_
  clear hS
  rintro k vs T4 H6 ⟨i, aa', ca', rfl, rfl, hi, hS⟩
  unfold tkC ptC at hS
  refine zsr ?_; refine wpO_cons ?_; refine op1_lss rfl rfl rfl ?_; refine zns ?_; refine wp_seq ?_
  refine wp_dec rfl (fun h1 => ?_) (fun h1 => ?_)
  rotate_left
  · obtain rfl : i = l.length := by omega
    refine wp_exit ?_; refine seq_exit ?_; refine iter_exit ?_; refine block_exit ?_; refine seq_normal ?_; refine zsr ?_; refine zw1 ?_; refine zw1 ?_; refine wpO_cons ?_; refine op1_eqlI_s rfl rfl rfl ?_; refine zw1 ?_; refine zw1 ?_; refine zw1 ?_; refine wpO_cons ?_; refine op1_call3 rfl (by (conv => lhs; whnf) <;> rfl) (by (conv => lhs; whnf) <;> rfl) (by (conv => lhs; whnf) <;> rfl) ?_
    refine wpF_mono (L57g (As := pool P2 :: _) (la := la) (lb := lb) (by omega) (by rw [ela, elb]) (by omega) (fun x hx => by have := hod x.1 (by rw [← ela]; exact List.mem_map_of_mem hx); omega) (fun x hx => pool_rd (hP2 _ (hla x hx).1)) (fun x hx => pool_rd (hlb x hx).1) (S.up4 (S.up4 (S.up4 hS)))) ?_
    clear hS
    rintro _ H8 ⟨rfl, hS⟩
    refine zt ?_; refine zw1 ?_; refine zns ?_; refine wp_ret ?_; refine ret_of ?_; refine zr ?_; refine rk_nil ?_
    have htl : la.take l.length = la := List.take_of_length_le (by omega)
    rw [htl] at hS
    have ell : (air ++ la.map (mkFl 0)).length = air.length + l.length := by rw [List.length_append, List.length_map, hlal]
    refine ⟨rfl, aa', ca', la, P2, ela, fun x hx => hP2 x (hP1 x hx), fun x hx => ⟨hP2 _ (hla x hx).1, (hla x hx).2⟩, ?_⟩
    rw [ell]
    exact S.up4 (S.up4 (S.up3 (S.up2 (S.drop (S.drop hS)))))
  obtain ⟨x, hx⟩ : ∃ x, la[i]? = some x := ⟨la[i]'(by omega), by simp⟩
  have htk : la.take (i + 1) = la.take i ++ [x] := by rw [List.take_add_one, hx]; rfl
  obtain ⟨_, ax, cx, exv⟩ := hla x (List.mem_of_getElem? hx)
  obtain ⟨g, vx⟩ := x
  dsimp only at exv
  subst exv
  have hcut : ((la.map sgV).flatten.drop (i * 5)).take 5 = [.int .i64 g.fl, .int .u32 g.seq, .int .u32 g.num, .int .i64 g.win, .slice ax g.data.length cx] := flatten_cut h5 (i := i) (x := sgV (g, .slice ax g.data.length cx)) (by rw [List.getElem?_map, hx]; rfl)
  obtain ⟨lb1, lo, lcs, rfl, _⟩ := S.slBlk (S.up2 hS) (by omega)
  refine wp_skip ?_; refine seq_normal ?_; refine wp_seq ?_; refine wp_block ?_; refine zsr ?_; refine wpO_cons ?_; refine op1_iaddr rfl rfl rfl (by omega) (by omega) ?_; refine wpO_cons ?_; refine op1_loadNL rfl rfl (S.up2 hS) rfl rfl (by omega) rfl ?_; refine wpO_cons ?_; refine op1_allocS rfl hS ?_; intro p2 H1 hS; refine wpO_cons ?_
  rw [show (i : Int).toNat = i from rfl, hcut]
  (refine op1_storeNS rfl rfl (by (conv => lhs; whnf) <;> rfl) rfl rfl (S.up0 hS) (Nat.le_of_ble_eq_true rfl) ?_; intro H4 hS; replace hS := S.dn0 hS); refine zns ?_; refine wp_regionD ?_; refine zd1 ?_; refine zd1 ?_; refine zm ?_; refine zg ?_; refine zj (S.g1 hS) ?_; refine zd1 ?_; refine wpD_cons ?_; refine op1_sub rfl rfl rfl (by exact wrap_i64 (by omega) (by omega)) ?_; refine wpD_cons ?_; refine op1_load_5 rfl rfl (by exact S.g0 hS) rfl rfl ?_; refine wpD_cons ?_; refine op1_build rfl ?_; refine bk_one (by (conv => lhs; whnf) <;> rfl) rfl rfl rfl ?_; refine bk_agg rfl rfl rfl rfl ?_; refine bk_nil ?_; refine wpD_cons ?_; refine op1_bsliceS rfl hS ?_; refine bk_agg rfl rfl rfl rfl ?_; refine bk_nil ?_; intro p3 H5 hS; refine wpD_cons ?_; (refine op1_appBS rfl rfl (by (conv => lhs; whnf) <;> rfl) rfl (S.g0 hS) rfl rfl (S.up3 hS) (by omega) ?_; intro a1 c3 H7 hS; replace hS := S.dn3 hS; replace hS := S.drop hS); refine zm ?_; refine zg ?_; refine wpD_cons ?_; (refine op1_store1S rfl rfl (by (conv => lhs; whnf) <;> rfl) rfl rfl (S.up1 hS) rfl ?_; intro H8 hS; replace hS := S.dn1 hS); refine wpD_nil ?_; refine dk_of ?_ ?_; (iterate 4 refine chk_skip ?_); refine zx 10 ?_ ?_; refine zy 4 ?_ ?_; exact chk_load rfl (by exact S.g2 (by assumption)) rfl rfl; exact chkFs_nil; (iterate 2 refine chk_skip ?_); refine zx 7 ?_ ?_; refine zy 4 ?_ ?_; exact chk_loadN rfl (by exact S.g1 (by assumption)) rfl rfl rfl; exact chkFs_nil; (iterate 6 refine chk_skip ?_); exact chk_end; refine block_normal ?_; refine seq_normal ?_; refine wp_region ?_; refine wpO_cons ?_; refine op1_add rfl rfl rfl (by exact wrap_i64 (by omega) (by omega)) ?_; refine zw1 ?_; refine wpO_nil ?_
  have e9 : (air ++ (la.take (i + 1)).map (mkFl 0)).flatMap Fl.cells = (air ++ (la.take i).map (mkFl 0)).flatMap Fl.cells ++ Fl.cells (mkFl 0 (g, .slice ax g.data.length cx)) := by
    rw [htk, List.map_append, ← List.append_assoc, List.flatMap_append (xs := air ++ (la.take i).map (mkFl 0))]
    simp
  exact ⟨l.length - (i + 1), by omega, i + 1, _, _, rfl, rfl, by omega, by rw [e9]; exact S.drop hS⟩
theorem L64 {B H : AHeap} {As : List Asn} {a : Option Addr} {n c : Nat} {cells : List Value} (i j : Nat) (hS : S B H (sl 6 (.slice a n c) cells :: As)) (h1 : cells.all (·.oneCell') = true) (hij : i ≤ j) (hj : j ≤ n) (hn2 : n ≤ 1000000) :
    wpF C 64 [.slice a n c, .int .i64 i, .int .i64 j] H fun v H' => ∃ a' c', v = .slice a' (n - (j - i)) c' ∧ S B H' (sl 6 (.slice a' (n - (j - i)) c') (cells.take (i * 6) ++ cells.drop (j * 6)) :: As) := by
  have h0S := hS
  obtain ⟨r0, hr0, _⟩ := hS.rd
  by_cases hn0 : n = 0
  · subst hn0
    obtain rfl : j = 0 := by omega
    obtain rfl : i = 0 := by omega
    have hce := hr0.le_cap
    have hb0 : sliceBnds 0 c (some (.int .i64 ((0 : Nat) : Int))) (some (.int .i64 ((0 : Nat) : Int))) (some (.int .i64 ((0 : Nat) : Int))) = some (0, 0, 0) := by
      simp [sliceBnds, bnd]
    refine wpF_ofW o64 rfl rfl ?_
    refine zsr ?_; refine zw1 ?_; refine zns ?_; refine zsr ?_; (iterate 4 refine zw1 ?_); refine wpO_cons ?_; refine op1_len rfl rfl ?_; refine wpO_cons ?_
    have hend : ∀ H' : AHeap, H = H' → ∃ a' c', resultV [.slice a 0 c] = .slice a' (0 - (0 - 0)) c' ∧ S B H' (sl 6 (.slice a' (0 - (0 - 0)) c') (cells.take (0 * 6) ++ cells.drop (0 * 6)) :: As) := by
      rintro _ rfl
      refine ⟨a, c, rfl, ?_⟩
      rw [Nat.zero_mul, List.take_zero, List.drop_zero, List.nil_append]
      exact h0S
    cases hr0 with
    | nil =>
      refine op1_sliceNil rfl rfl hb0 ?_
      refine zns ?_; refine wp_seq ?_; refine zsr ?_; refine zw1 ?_; refine zw1 ?_; refine wpO_cons ?_; refine op1_eqlI_s rfl rfl rfl ?_; refine zns ?_; refine wp_true rfl ?_; refine zsr ?_; refine zw1 ?_; refine zw1 ?_; refine zns ?_; refine wp_ret ?_; refine seq_ret ?_; refine ret_of ?_; refine zr ?_; refine rk_nil ?_
      exact hend _ rfl
    | empty a =>
      refine op1_slice0 rfl rfl hb0 ?_
      refine zns ?_; refine wp_seq ?_; refine zsr ?_; refine zw1 ?_; refine zw1 ?_; refine wpO_cons ?_; refine op1_eqlI_s rfl rfl rfl ?_; refine zns ?_; refine wp_true rfl ?_; refine zsr ?_; refine zw1 ?_; refine zw1 ?_; refine zns ?_; refine wp_ret ?_; refine seq_ret ?_; refine ret_of ?_; refine zr ?_; refine rk_nil ?_
      exact hend _ rfl
    | @blk b off l c cs e ro hg hc he hl =>
      by_cases hc0 : c = 0
      · subst hc0
        refine op1_slice0 rfl rfl hb0 ?_
        refine zns ?_; refine wp_seq ?_; refine zsr ?_; refine zw1 ?_; refine zw1 ?_; refine wpO_cons ?_; refine op1_eqlI_s rfl rfl rfl ?_; refine zns ?_; refine wp_true rfl ?_; refine zsr ?_; refine zw1 ?_; refine zw1 ?_; refine zns ?_; refine wp_ret ?_; refine seq_ret ?_; refine ret_of ?_; refine zr ?_; refine rk_nil ?_
        exact hend _ rfl
      · refine op1_slice rfl rfl hc0 hb0 hg he ?_
        refine zns ?_; refine wp_seq ?_; refine zsr ?_; refine zw1 ?_; refine zw1 ?_; refine wpO_cons ?_; refine op1_eqlI_s rfl rfl rfl ?_; refine zns ?_; refine wp_true rfl ?_; refine zsr ?_; refine zw1 ?_; refine zw1 ?_; refine zns ?_; refine wp_ret ?_; refine seq_ret ?_; refine ret_of ?_; refine zr ?_; refine rk_nil ?_
        exact hend _ rfl
  clear hr0
  obtain ⟨b, off, cs, rfl, hc, hl, hcells, hS⟩ := hS.slBlk hn0
  have hg := hS.get
  have hb0 : sliceBnds n c (some (.int .i64 i)) (some (.int .i64 j)) (some (.int .i64 n)) = some (i, j, n) := by
    have e1 : (0 : Int) ≤ n ∧ (n : Int) ≤ c := by omega
    have e2 : (0 : Int) ≤ (j : Int) ∧ (j : Int) ≤ n := by omega
    have e4 : (0 : Int) ≤ i ∧ (i : Int) ≤ j := by omega
    simp only [sliceBnds, bnd, Option.bind_some]
    rw [if_pos e1, Option.bind_some, Int.toNat_natCast, if_pos e2, Option.bind_some, Int.toNat_natCast, if_pos e4]
    rfl
  refine wpF_ofW o64 rfl rfl ?_
  refine zsr ?_; refine zw1 ?_; refine zns ?_; refine zsr ?_; (iterate 4 refine zw1 ?_); refine wpO_cons ?_; refine op1_len rfl rfl ?_; refine wpO_cons ?_
  refine op1_slice rfl rfl (by omega) hb0 hg (.inr rfl) ?_
  refine zns ?_; refine wp_seq ?_; refine zsr ?_; refine zw1 ?_; refine zw1 ?_; refine wpO_cons ?_; refine op1_eqlI rfl rfl rfl ?_; refine zns ?_
  refine wp_dec rfl (fun hq => ?_) (fun hq => ?_)
  · obtain rfl : i = j := by omega
    refine zsr ?_; refine zw1 ?_; refine zw1 ?_; refine zns ?_; refine wp_ret ?_; refine seq_ret ?_; refine ret_of ?_; refine zr ?_; refine rk_nil ?_
    refine ⟨_, c, by rw [Nat.sub_self, Nat.sub_zero]; rfl, ?_⟩
    rw [Nat.sub_self, Nat.sub_zero, List.take_append_drop]
    exact h0S
  have hij2 : i < j := by omega
  refine wp_skip ?_; refine seq_normal ?_; refine zsr ?_; refine zw1 ?_; refine wpO_cons ?_; refine op1_len rfl rfl ?_; refine zw1 ?_; refine zns ?_; refine wp_seq ?_; refine wp_regionD ?_; refine zd1 ?_; refine zd1 ?_; refine wpD_cons ?_
  refine op1_slice rfl rfl (by omega) (bnds_hi (i := .i64) (n := (i : Int)) (by omega) (by omega)) hg (.inr rfl) ?_
  rw [Int.toNat_natCast]
  refine zd1 ?_; refine zd1 ?_; refine wpD_cons ?_
  refine op1_slice rfl rfl (by omega) (bnds_lo (i := .i64) (n := (j : Int)) (by omega) (by omega) hl) hg (.inr rfl) ?_
  rw [Int.toNat_natCast]
  refine wpD_cons ?_
  have hmj : i * 6 ≤ j * 6 := Nat.mul_le_mul_right _ hij
  have hmn : j * 6 ≤ n * 6 := Nat.mul_le_mul_right _ hj
  have hmc : n * 6 ≤ c * 6 := Nat.mul_le_mul_right _ hl
  have hyl : (cells.drop (j * 6)).length = (n - j) * 6 := by
    rw [hcells, List.length_drop, List.length_take, List.length_drop, Nat.sub_mul]; omega
  have hrd : RdS H 6 (.slice (some ⟨b, off + j * 6, none⟩) (n - j) (c - j)) (cells.drop (j * 6)) [b] := by
    have hys : cells.drop (j * 6) = (cs.drop (off + j * 6)).take ((n - j) * 6) := by
      rw [hcells, List.drop_take, List.drop_drop, Nat.sub_mul]
    rw [hys]
    exact .blk (l := n - j) (off := off + j * 6) hg (by rw [Nat.sub_mul]; omega) (.inr rfl) (by omega)
  have hy1 : (cells.drop (j * 6)).all (·.oneCell') = true := by
    rw [List.all_eq_true] at h1 ⊢
    exact fun v hv => h1 v (List.mem_of_mem_drop hv)
  generalize hYS : cells.drop (j * 6) = ys at *
  obtain ⟨H2, he, hg2, hk2, hn2'⟩ := append_inE (off := off) (l := i) (c := c) (k := n - j) (w := .slice (some ⟨b, off + j * 6, none⟩) (n - j) (c - j)) hg (by omega) rfl (by rw [hrd.src (by omega) (k := n - j) (by omega), List.take_of_length_le (by omega)]) hyl hy1 (by rw [hyl, Nat.sub_mul]; omega)
  have e0 : off + 0 * 6 = off := by omega
  have e1 : i + (n - j) = n - (j - i) := by omega
  rw [e1] at he
  refine op1_append (u := .slice (some ⟨b, off, none⟩) i c) rfl (by (conv => lhs; whnf); simp [e0]) (by (conv => lhs; whnf) <;> rfl) he ?_
  refine zd1 ?_; refine wpD_nil ?_; refine dk_of ?_ ?_; (iterate 2 refine chk_skip ?_); refine zx 6 ?_ ?_; refine zy 2 ?_ ?_
  · refine chk_slice (l := n) (c := c) rfl (by omega) (bnds_hi (i := .i64) (n := (i : Int)) (by omega) (by omega)) hg (.inr rfl) ?_
    rw [Int.toNat_natCast]
    rfl
  exact chkFs_nil; (iterate 2 refine chk_skip ?_); refine zx 3 ?_ ?_; refine zy 2 ?_ ?_
  · refine chk_slice (l := n) (c := c) rfl (by omega) (bnds_lo (i := .i64) (n := (j : Int)) (by omega) (by omega) hl) hg (.inr rfl) ?_
    rw [Int.toNat_natCast]
    rfl
  exact chkFs_nil; (iterate 2 refine chk_skip ?_); exact chk_end; refine seq_normal ?_; refine zsr ?_; refine zw1 ?_; refine zw1 ?_; refine wpO_cons ?_; refine op1_len rfl rfl ?_; refine zw1 ?_; refine wpO_cons ?_
  refine op1_slice (c := c) rfl rfl (by omega) (bnds_both (i := .i64) (j := .i64) (l := n - (j - i)) (c := c) (n := ((n - (j - i) : Nat) : Int)) (m := (n : Int)) (by omega) (by omega) (by omega)) hg2 (.inr rfl) ?_
  have e2 : Int.toNat ↑n - (((n - (j - i) : Nat) : Int)).toNat = j - i := by simp only [Int.toNat_natCast]; omega
  rw [e2]
  simp only [Int.toNat_natCast]
  refine wpO_cons ?_
  have hm2 : (n - (j - i)) * 6 = i * 6 + (n - j) * 6 := by rw [← Nat.add_mul]; congr 1; omega
  have hm3 : (j - i) * 6 + i * 6 = j * 6 := by rw [← Nat.add_mul]; congr 1; omega
  have hm4 : (n - j) * 6 + j * 6 = n * 6 := by rw [← Nat.add_mul]; congr 1; omega
  have hl2 : (cs.take (off + i * 6) ++ ys ++ cs.drop (off + i * 6 + ys.length)).length = cs.length := by
    simp only [List.length_append, List.length_take, List.length_drop]; omega
  have hz : (zeroOf [.int .i64 0, .int .i64 0, .int .u32 0, .int .u32 0, .int .i64 0, .slice none 0 0] (j - i)).length = (j - i) * 6 := zeroOf_len' _ _
  refine op1_clearU rfl rfl (by omega) hg2 (by rw [hl2, hz]; omega) (zeroOf_one rfl _) ?_
  refine zns ?_; refine zsr ?_; refine zw1 ?_; refine zw1 ?_; refine zns ?_; refine wp_ret ?_; refine ret_of ?_; refine zr ?_; refine rk_nil ?_
  have hS3 := (hS.step hg2 hk2 hn2').set (.cells ((cs.take (off + i * 6) ++ ys ++ cs.drop (off + i * 6 + ys.length)).take (off + (n - (j - i)) * 6) ++ zeroOf [.int .i64 0, .int .i64 0, .int .u32 0, .int .u32 0, .int .i64 0, .slice none 0 0] (j - i) ++ (cs.take (off + i * 6) ++ ys ++ cs.drop (off + i * 6 + ys.length)).drop (off + (n - (j - i)) * 6 + (zeroOf [.int .i64 0, .int .i64 0, .int .u32 0, .int .u32 0, .int .i64 0, .slice none 0 0] (j - i)).length)) 6 false)
  have h5 := hS3.slOf (off := off) (l := n - (j - i)) (c := c) (by
    simp only [List.length_append, List.length_take, List.length_drop, hz]; omega) (by omega)
  have e6 : (((cs.take (off + i * 6) ++ ys ++ cs.drop (off + i * 6 + ys.length)).take (off + (n - (j - i)) * 6) ++ zeroOf [.int .i64 0, .int .i64 0, .int .u32 0, .int .u32 0, .int .i64 0, .slice none 0 0] (j - i) ++ (cs.take (off + i * 6) ++ ys ++ cs.drop (off + i * 6 + ys.length)).drop (off + (n - (j - i)) * 6 + (zeroOf [.int .i64 0, .int .i64 0, .int .u32 0, .int .u32 0, .int .i64 0, .slice none 0 0] (j - i)).length)).drop off).take ((n - (j - i)) * 6) = cells.take (i * 6) ++ ys := by
    have e7 : (cs.take (off + i * 6) ++ ys ++ cs.drop (off + i * 6 + ys.length)).take (off + (n - (j - i)) * 6) = cs.take (off + i * 6) ++ ys := by
      rw [List.take_append_of_le_length (by simp only [List.length_append, List.length_take]; omega), List.take_of_length_le (by simp only [List.length_append, List.length_take]; omega)]
    have e8 : (cs.take (off + i * 6)).drop off = cells.take (i * 6) := by
      rw [hcells, List.take_take, List.drop_take]
      congr 1
      omega
    rw [e7, List.append_assoc, List.append_assoc, List.drop_append_of_le_length (by simp only [List.length_take]; omega), e8, ← List.append_assoc, List.take_append_of_le_length (by rw [hcells]; simp only [List.length_append, List.length_take, List.length_drop]; omega), List.take_of_length_le (by rw [hcells]; simp only [List.length_append, List.length_take, List.length_drop]; omega)]
  rw [e6] at h5
  exact ⟨_, _, rfl, h5⟩
end
end Go.E.St
