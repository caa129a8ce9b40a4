/- FramesApart. -/
import Derived.Test.YtlkgacbholklkaaFaXX
import Derived.Test.YtlkgacbholklkaaEwZr
namespace Go.E.Fa
open Go Go.E Go.Proofs.Ytlkgacbholklkaa Go.Proofs
set_option linter.unusedVariables false
set_option linter.unusedSimpArgs false
set_option maxRecDepth 100000
theorem L11w {B H : AHeap} {As : List Asn} {t : Nat} {T : Tb} {an : Option Addr} {cn : Nat} {ns : List ByteArray} {cnt al : Int} {cg top : Bool} (hT : TbOk T) (hix : T.ix = ixOf T.pls) (hns : ns.length ≤ 1000) (hcb : I64 cnt)
    (hd : RD B (repT t T :: As) 1 (.slice an ns.length cn) (ns.map enS)) (hS : S B H (repT t T :: As)) :
    wpF C 11 [ptrV t, .agg ⟨reqC (.slice an ns.length cn) cnt al cg top⟩] H fun v H' => ∃ v0, v = .tuple ⟨[v0, .int .i64 (allocR T cnt al cg top ns).1]⟩ ∧
      S B H' (sl 1 v0 (i64s (allocR T cnt al cg top ns).2) :: repT t (T.wm ((allocR T cnt al cg top ns).2.foldl (takeF T.pls) T.m)) :: As) := by
  by_cases hc : cnt < 1 ∨ 4096 < cnt
  · have e : allocR T cnt al cg top ns = (34, []) := by unfold allocR; rw [if_pos hc]
    rw [e]
    refine wpF_ofW o11 rfl rfl ?_
    unfold ptrV reqC
    refine zsr ?_; refine wpO_cons ?_; refine op1_boxNS rfl rfl rfl hS ?_; intro p1 H1 hS; refine zw1 ?_; refine zw1 ?_; refine zns ?_; refine wp_seq ?_; refine wp_block ?_; refine zsr ?_; refine zw1 ?_; refine wpO_cons ?_; refine op1_bin_false rfl (by (conv => lhs; whnf) <;> rfl) (by (conv => lhs; whnf) <;> rfl) rfl ?_; refine zw1 ?_; refine zns ?_; refine wp_false rfl ?_; refine zsr ?_; refine zf ?_; refine zh (S.g0 hS) ?_; refine wpO_cons ?_; refine op1_lss rfl rfl rfl ?_; refine zw1 ?_; refine wpO_cons ?_
    refine op1_dec rfl (fun h1 => ?_) (fun h1 => ?_)
    · refine op1_skip rfl ?_; refine zk ?_; refine zk ?_; refine zt ?_; refine zw1 ?_; refine zns ?_; refine wp_true rfl ?_; refine zsr ?_; refine zw1 ?_; refine zw1 ?_; refine zns ?_; refine wp_ret ?_; refine block_ret ?_; refine seq_ret ?_; refine ret_of ?_; refine zr ?_; refine zr ?_; refine rk_nil ?_
      exact ⟨_, rfl, (S.drop hS).slNil⟩
    refine op1_faddr0 rfl rfl ?_; refine zh (S.g0 hS) ?_; refine wpO_cons ?_; refine op1_gtr rfl rfl rfl ?_; refine zu ?_; refine zw1 ?_; refine zns ?_
    refine wp_dec rfl (fun h2 => ?_) (fun h2 => ?_)
    · refine zsr ?_; refine zw1 ?_; refine zw1 ?_; refine zns ?_; refine wp_ret ?_; refine block_ret ?_; refine seq_ret ?_; refine ret_of ?_; refine zr ?_; refine zr ?_; refine rk_nil ?_
      exact ⟨_, rfl, (S.drop hS).slNil⟩
    · omega
  · exact L11 hT hix hns (by omega) hd hS

structure Inv (pls : List Pl) (T : Tb) (ks : List Int) : Prop where
  ok : TbOk T
  ix : T.ix = ixOf T.pls
  pe : T.pls = pls
  nd : ks.Nodup
  sub : ∀ k ∈ ks, k ∈ T.m.dom
  all : ∀ k, T.m.refs k ≠ 0 → k ∈ ks
  one : ∀ k, T.m.refs k = 0 ∨ T.m.refs k = 1
  de : T.m.dom = pls.flatMap rng
theorem Inv.fresh {pls : List Pl} {T : Tb} (hp : T.pls = pls) (hF : Fresh pls T) (hl : pls.length ≤ 16) : Inv pls T [] :=
  ⟨by have h2 := hF; rw [← hp] at h2; exact h2.tbOk (by rw [hp]; exact hl), by rw [hp]; exact hF.ix, hp, by simp, by simp, fun k h => absurd (hF.m.refs k) h, fun k => .inl (hF.m.refs k), hF.m.dom⟩
theorem Inv.unref {pls : List Pl} {T : Tb} {ks : List Int} (h : Inv pls T ks) (n : Int) : Inv pls (T.wm (unref T.m n).2) ks := by
  have hr := fun k => unref_refs (M := T.m) (n := n) (k := k)
  have hd := (unref_dom (M := T.m) (n := n)).1
  refine ⟨h.ok.unref, h.ix, h.pe, h.nd, fun k hk => by show k ∈ (Fa.unref T.m n).2.dom; rw [hd]; exact h.sub k hk, fun k hk => ?_, fun k => ?_, by show (Fa.unref T.m n).2.dom = _; rw [hd]; exact h.de⟩
  · have hk : (Fa.unref T.m n).2.refs k ≠ 0 := hk
    refine h.all k fun e => ?_
    rw [hr] at hk
    split at hk
    · rename_i h1
      obtain ⟨rfl, _, h2⟩ := h1
      exact h2 e
    · exact hk e
  · show (Fa.unref T.m n).2.refs k = 0 ∨ (Fa.unref T.m n).2.refs k = 1
    rw [hr]
    have := h.one k
    split
    · rename_i h1
      obtain ⟨rfl, _, h2⟩ := h1
      omega
    · exact this
def takenF (out : List Int) (M : Fm) (j : Nat) (k : Int) : Int := if k ∈ out.take j then 1 else M.refs k
theorem takenF_succ {out : List Int} {M : Fm} {j : Nat} {y : Int} (hy : out[j]? = some y) : (fun x => if x = y then 1 else takenF out M j x) = takenF out M (j + 1) := by
  funext x
  unfold takenF
  rw [List.take_add_one, hy]
  by_cases h : x = y
  · subst h; simp
  · rw [if_neg h]; simp [h]
theorem Inv.take {pls : List Pl} {T : Tb} {ks ks2 out : List Int} (h : Inv pls T ks) (ho : ∀ n ∈ out, n ∈ T.m.dom ∧ T.m.refs n = 0) (h1 : ks2.Nodup) (h2 : ∀ k ∈ ks2, k ∈ T.m.dom) (h3 : ∀ k, takenF out T.m out.length k ≠ 0 → k ∈ ks2) :
    Inv pls (T.wm (out.foldl (takeF T.pls) T.m)) ks2 ∧ (T.wm (out.foldl (takeF T.pls) T.m)).m.refs = takenF out T.m out.length := by
  have hr : (T.wm (out.foldl (takeF T.pls) T.m)).m.refs = takenF out T.m out.length := by
    funext k
    show (out.foldl (takeF T.pls) T.m).refs k = _
    rw [takes_refs]
    unfold takenF
    rw [List.take_length]
  have hd : (T.wm (out.foldl (takeF T.pls) T.m)).m.dom = T.m.dom := (takes_dom T.pls out T.m).1
  refine ⟨⟨h.ok.takes, h.ix, h.pe, h1, fun k hk => by rw [hd]; exact h2 k hk, fun k hk => h3 k (by rw [← hr]; exact hk), fun k => ?_, by rw [hd]; exact h.de⟩, hr⟩
  rw [hr]
  unfold takenF
  split
  · exact .inr rfl
  · exact h.one k
theorem dom_len {M : Fm} : ∀ {l : List Pl}, (∀ p ∈ l, PlOk M p) → (l.flatMap rng).length ≤ l.length * 4096
  | [], _ => by simp
  | p :: l, h => by
    have h1 := dom_len (l := l) fun q hq => h q (by simp [hq])
    have h2 := (h p (by simp)).top
    have h3 := (h p (by simp)).first
    have h4 : (rng p).length = p.count.toNat := by unfold rng; rw [consec_len]
    rw [List.flatMap_cons, List.length_append, List.length_cons]
    omega
section
variable {B : AHeap}
theorem L4 {a xa : Option Addr} {c xc : Nat} {pls : List Pl} {xs : List ActF} {r : List Nat} (hlen : pls.length ≤ 9223372036854775807)
    (hb : ∀ p ∈ pls, PlB p) (hr : RdS B 5 (.slice a pls.length c) (pls.flatMap plC) r) (hlt : ∀ b ∈ r, b < B.next) (hA : ActsF B xa xc xs) : wpF C 4 [.slice a pls.length c, .slice xa xs.length xc] B fun v _ => v = .bool true := by
  have hS := S.start B
  have hxl := hA.len
  refine wpF_ofW o4 rfl rfl ?_
  refine zsr ?_; refine zw1 ?_; refine zns ?_; refine wp_seq ?_; refine zsr ?_; refine zw1 ?_; refine wpO_cons ?_; refine op1_call1 rfl (by (conv => lhs; whnf) <;> rfl) ?_
  refine wpF_mono (L14 hlen hr hlt hS) ?_
  rintro _ H1 ⟨⟨b, rfl, hsh⟩, hS⟩
  refine wpO_cons ?_; refine op1_not rfl rfl ?_; refine zw1 ?_; refine wpO_cons ?_
  cases b
  · refine op1_skip rfl ?_; refine zk ?_; refine zk ?_; refine zt ?_; refine zw1 ?_; (iterate 3 refine zk ?_); refine zt ?_; refine zns ?_; refine wp_true rfl ?_; refine zsr ?_; refine wpO_cons ?_; refine op1_call0 rfl  ?_; refine wpF_known rfl (globAll _) ?_; refine zw1 ?_; refine zns ?_; refine wp_ret ?_; refine seq_ret ?_; refine ret_of ?_; refine zr ?_; refine rk_nil ?_
    rfl
  obtain ⟨h20, h200⟩ := hsh.1 rfl
  refine op1_mov rfl (by (conv => lhs; whnf) <;> rfl) ?_; refine wpO_cons ?_; refine op1_call1 rfl (by (conv => lhs; whnf) <;> rfl) ?_
  refine wpF_mono (L15 hA hS) ?_
  rintro _ H2 ⟨⟨b, rfl, hsm⟩, hS⟩
  refine wpO_cons ?_; refine op1_not rfl rfl ?_; refine zu ?_; refine zw1 ?_; refine wpO_cons ?_
  cases b
  · refine op1_skip rfl ?_; refine zk ?_; refine zk ?_; refine zt ?_; refine zns ?_; refine wp_true rfl ?_; refine zsr ?_; refine wpO_cons ?_; refine op1_call0 rfl  ?_; refine wpF_known rfl (globAll _) ?_; refine zw1 ?_; refine zns ?_; refine wp_ret ?_; refine seq_ret ?_; refine ret_of ?_; refine zr ?_; refine rk_nil ?_
    rfl
  obtain ⟨h60, hsm⟩ := hsm rfl
  have hb2 : ∀ p ∈ pls, p.name.size ≤ 1000 ∧ (-9223372036854775808 ≤ p.count ∧ p.count ≤ 9223372036854775807) ∧ (-9223372036854775808 ≤ p.first ∧ p.first ≤ 9223372036854775807) := fun p hp => ⟨by have := h200 p hp; omega, hb p hp⟩
  refine op1_mov rfl (by (conv => lhs; whnf) <;> rfl) ?_; refine wpO_cons ?_; refine op1_call1 rfl (by (conv => lhs; whnf) <;> rfl) ?_
  refine wpF_mono (L16 (by omega) hb2 hr hlt hS) ?_
  rintro _ H3 ⟨rfl, hS⟩
  rw [checkE_eq]
  refine wpO_cons ?_; refine op1_neqI rfl rfl rfl ?_; refine zu ?_; refine zns ?_
  refine wp_ndec rfl (fun he => ?_) (fun he => ?_)
  · refine zsr ?_; refine wpO_cons ?_; refine op1_call0 rfl  ?_; refine wpF_known rfl (globAll _) ?_; refine zw1 ?_; refine zns ?_; refine wp_ret ?_; refine seq_ret ?_; refine ret_of ?_; refine zr ?_; refine rk_nil ?_
    rfl
  refine wp_skip ?_; refine seq_normal ?_; refine zsr ?_; refine zw1 ?_; refine wpO_cons ?_; refine op1_call1 rfl (by (conv => lhs; whnf) <;> rfl) ?_
  refine wpF_mono (L17 (by omega) hr hlt hS) ?_
  intro v2 H4 hS
  obtain ⟨a2, l2, c2, rfl, hl2⟩ := S.shape hS
  rw [plC_flen] at hl2
  obtain rfl : l2 = pls.length := by omega
  refine wpO_cons ?_; refine op1_call1 rfl (by (conv => lhs; whnf) <;> rfl) ?_
  refine wpF_mono (L10 (by omega) (fun p hp => ⟨by have := h200 p hp; omega, (hb p hp).1.1, (hb p hp).1.2⟩) RD.head hS) ?_
  rintro v3 H5 ⟨_, hok⟩
  obtain ⟨t, T, rfl, hTp, hF, hS⟩ := hok he
  clear hok
  have hl16 : pls.length ≤ 16 := by
    refine Nat.le_of_not_lt fun h => ?_
    unfold newE at he
    rw [if_neg (by omega), if_pos h] at he
    omega
  have hI := Inv.fresh hTp hF hl16
  have hD : DisP pls := DisP.fresh hF
  unfold ptrV
  refine zw1 ?_; refine wpO_cons ?_; refine op1_extract rfl rfl rfl ?_; refine wpO_cons ?_; refine op1_extract rfl rfl rfl ?_; refine zw1 ?_; refine zw1 ?_; refine zns ?_; refine wp_seq ?_; refine zsr ?_; refine zw1 ?_; refine wpO_cons ?_; refine op1_neqI_s rfl rfl rfl ?_; refine zns ?_; refine wp_false rfl ?_; refine wp_skip ?_; refine seq_normal ?_; refine zsr ?_; refine wpO_cons ?_; refine op1_mkmapS rfl hS ?_; intro p1 H6 hS; refine zw1 ?_; refine zns ?_; refine wp_seq ?_; refine zsr ?_; refine zw1 ?_; refine wpO_cons ?_; refine op1_len rfl rfl ?_; refine zw1 ?_; refine zns ?_; refine wp_block ?_
  replace hS := S.imNew (enc := enI) hS
  refine wp_loop [46] (fun k vs H' => ∃ (i : Nat) (T : Tb) (ks : List Int), vs = [.int .i64 i] ∧ k = xs.length - i ∧ i ≤ xs.length ∧ Inv pls T ks ∧ S B H' [im enI p1 (kvF ks T.m.refs), repT t T, sl 5 (.slice a2 pls.length c2) (pls.flatMap plC)]) ⟨_, 0, T, [], rfl, rfl, by omega, hI, hS⟩ ?_
  clear hS hI hF hTp
  rintro k vs T' H6 ⟨i, T, ks, rfl, rfl, hi, hI, hS⟩
  refine zsr ?_; refine wpO_cons ?_; refine op1_lss rfl rfl rfl ?_; refine zns ?_; refine wp_seq ?_
  refine wp_dec rfl (fun hlt2 => ?_) (fun hlt2 => ?_)
  · obtain ⟨x, hx⟩ : ∃ x, xs[i]? = some x := ⟨xs[i]'(by omega), by simp⟩
    have hok := hA.ok x (List.mem_of_getElem? hx)
    have hsx := hsm x (List.mem_of_getElem? hx)
    obtain ⟨b, o, cs, rfl, hg, hb, hle, hat⟩ := hA.at_ i x hx
    have hg1 := (hS.base b hb).trans hg
    have hxk := hok.k
    have hxn := hok.n
    refine wp_skip ?_; refine seq_normal ?_; refine wp_seq ?_; refine wp_block ?_; refine zsr ?_; refine wpO_cons ?_; refine op1_iaddr rfl rfl rfl (by omega) (by omega) ?_; refine wpO_cons ?_
    refine op1_loadN rfl rfl hg1 hle hat ?_
    unfold ActF.cells
    refine wpO_cons ?_; refine op1_allocS rfl hS ?_; intro p2 H7 hS; refine wpO_cons ?_; (refine op1_storeNS rfl rfl (by (conv => lhs; whnf) <;> rfl) rfl rfl (S.up0 hS) (Nat.le_of_ble_eq_true rfl) ?_; intro H8 hS; replace hS := S.dn0 hS); refine zns ?_; refine zsr ?_; refine zf ?_; refine zh (S.g0 hS) ?_; refine wpO_cons ?_; refine op1_rem rfl rfl rfl (by omega) ?_; refine wpO_cons ?_; refine op1_gtr rfl rfl rfl ?_; refine zns ?_
    refine wp_dec rfl (fun h5 => ?_) (fun h5 => ?_)
    · refine zsr ?_; refine zw1 ?_; refine wpO_cons ?_; refine op1_load_8 rfl rfl (by exact S.g0 hS) rfl rfl ?_; refine wpO_cons ?_; refine op1_call1 rfl (by (conv => lhs; whnf) <;> rfl) ?_
      refine wpF_mono (L18 (by omega) (RD.base hok.nr hok.nl) hS) ?_
      clear hS
      rintro _ H7 ⟨a', c', rfl, hS⟩
      refine wpO_cons ?_; refine op1_call2 rfl (by (conv => lhs; whnf) <;> rfl) (by (conv => lhs; whnf) <;> rfl) ?_
      refine wpF_mono (L11w hI.ok hI.ix (by omega) hxn (RD.cons RD.head) (S.up3 hS)) ?_
      clear hS
      rintro _ H3 ⟨v0, rfl, hS⟩
      obtain ⟨ho1, ho2, ho3, ho4⟩ := alloc_out hI.ok (by rw [hI.pe]; exact hD) x.n x.a x.cg x.tp x.ns
      obtain ⟨er, her⟩ : ∃ z, z = (allocR T x.n x.a x.cg x.tp x.ns).1 := ⟨_, rfl⟩
      obtain ⟨out, hout⟩ : ∃ z, z = (allocR T x.n x.a x.cg x.tp x.ns).2 := ⟨_, rfl⟩
      rw [← hout] at ho1 ho2 ho3 ho4 hS
      rw [← her] at ho3 ⊢
      clear her hout
      obtain ⟨a0, c0, rfl⟩ := hS.i1
      obtain ⟨T2, hT2⟩ : ∃ T2, T2 = T.wm (out.foldl (takeF T.pls) T.m) := ⟨_, rfl⟩
      rw [← hT2] at hS
      refine zw1 ?_; refine wpO_cons ?_; refine op1_extract rfl rfl rfl ?_; refine wpO_cons ?_; refine op1_extract rfl rfl rfl ?_; refine zw1 ?_; refine zw1 ?_; refine zns ?_; refine wp_seq ?_
      refine wp_cut [69] (fun vs H' => vs = [.bool false] ∧ H3 = H') ?_ ?_
      · refine wp_region ?_; refine zw1 ?_; refine wpO_cons ?_; refine op1_eqlI rfl rfl rfl ?_; refine zw1 ?_; refine wpO_cons ?_
        refine op1_dec rfl (fun h6 => ?_) (fun h6 => ?_)
        · refine op1_mov rfl (by (conv => lhs; whnf) <;> rfl) ?_; refine wpO_cons ?_; refine op1_len rfl rfl ?_; refine zf ?_; refine zh (S.g3 hS) ?_; refine wpO_cons ?_; refine op1_neqI rfl rfl rfl ?_; refine zt ?_; refine wpO_nil ?_; refine cut1 (by (conv => lhs; whnf) <;> rfl) ?_
          exact ⟨by rw [decide_eq_true (ho3 h6)]; rfl, rfl⟩
        · refine op1_skip rfl ?_; (iterate 4 refine zk ?_); refine zu ?_; refine wpO_nil ?_; refine cut1 (by (conv => lhs; whnf) <;> rfl) ?_
          exact ⟨rfl, rfl⟩
      rintro vs T3 H4 ⟨rfl, rfl⟩
      have e0 : takenF out T.m 0 = T.m.refs := by funext k; simp [takenF]
      rw [← e0] at hS
      refine wp_false rfl ?_; refine wp_skip ?_; refine seq_normal ?_; refine zsr ?_; refine zw1 ?_; refine wpO_cons ?_; refine op1_len rfl rfl ?_; refine zw1 ?_; refine zns ?_; refine wp_block ?_
      refine wp_loop [72] (fun k vs H' => ∃ (j : Nat) (ks' : List Int), vs = [.int .i64 j] ∧ k = out.length - j ∧ j ≤ out.length ∧ ks'.Nodup ∧ (∀ k ∈ ks', k ∈ T.m.dom) ∧ (∀ k, takenF out T.m j k ≠ 0 → k ∈ ks') ∧ S B H' (im enI p1 (kvF ks' (takenF out T.m j)) :: sl 1 (.slice a0 out.length c0) (i64s out) :: repT t T2 :: _)) ⟨_, 0, ks, rfl, rfl, by omega, hI.nd, hI.sub, fun k hk => hI.all k (by rw [← e0]; exact hk), S.up4 hS⟩ ?_
      clear hS
      rintro k vs T4 H4 ⟨j, ks', rfl, rfl, hj, n1, n2, n3, hS⟩
      refine zsr ?_; refine wpO_cons ?_; refine op1_lss rfl rfl rfl ?_; refine zns ?_; refine wp_seq ?_
      refine wp_dec rfl (fun h7 => ?_) (fun h7 => ?_)
      · obtain ⟨y, hy⟩ : ∃ y, out[j]? = some y := ⟨out[j]'(by omega), by simp⟩
        have hy0 : takenF out T.m j y = 0 := by
          unfold takenF
          rw [if_neg]
          · exact (ho2 y (List.mem_of_getElem? hy)).2
          · intro hm
            obtain ⟨h8, h9⟩ := List.getElem?_eq_some_iff.1 hy
            have h10 := List.take_append_drop j out
            rw [List.drop_eq_getElem_cons h8, h9] at h10
            rw [← h10, List.nodup_append] at ho1
            exact ho1.2.2 y hm y (by simp) rfl
        obtain ⟨ba, oa, rfl⟩ : ∃ ba oa, a0 = some ⟨ba, oa, none⟩ := by
          obtain ⟨rr, hrr, _⟩ := S.rd (S.up1 hS)
          obtain ⟨b9, o9, _, _, _, _, h9, _⟩ := hrr.at1 (i := j) (by omega)
          exact ⟨b9, o9, h9⟩
        refine wp_skip ?_; refine seq_normal ?_; refine wp_seq ?_; refine wp_block ?_; refine zsr ?_; refine wpO_cons ?_; refine op1_iaddr rfl rfl rfl (by omega) (by omega) ?_; refine wpO_cons ?_
        refine op1_loadL (k := j * 1) rfl rfl (S.up1 hS) (by simp) (by omega) (i64s_at hy) ?_
        refine zw1 ?_; refine zns ?_; refine wp_seq ?_; refine zsr ?_; refine zw1 ?_; refine zw1 ?_; refine wpO_cons ?_
        refine op1_lookS1 keyI rfl rfl rfl hS ?_
        have e1 : (kvGet (kvF ks' (takenF out T.m j)) y).getD (.int .i64 0) = .int .i64 0 := by
          rw [kvF_get]
          split
          · rw [hy0]; rfl
          · rfl
        rw [e1]
        refine wpO_cons ?_; refine op1_neqI_s rfl rfl rfl ?_; refine zns ?_; refine wp_false rfl ?_; refine wp_skip ?_; refine seq_normal ?_; refine wp_region ?_; refine zw1 ?_; refine zw1 ?_; refine wpO_cons ?_
        refine op1_mapS (v := .int .i64 1) keyI rfl rfl rfl rfl hS ?_
        clear hS
        intro H8 hS
        rw [kvF_set n1, takenF_succ hy] at hS
        refine wpO_nil ?_; refine block_normal ?_; refine seq_normal ?_; refine wp_region ?_; refine wpO_cons ?_; refine op1_add rfl rfl rfl (by exact wrap_i64 (by omega) (by omega)) ?_; refine zw1 ?_; refine wpO_nil ?_
        have hyd := (ho2 y (List.mem_of_getElem? hy)).1
        refine iter_normal ⟨out.length - (j + 1), by omega, j + 1, _, rfl, rfl, by omega, ?_, ?_, ?_, hS⟩
        · split
          · exact n1
          · rename_i hno
            rw [List.nodup_append]
            exact ⟨n1, by simp, fun a ha b hb e => hno (by simp at hb; subst hb; exact e ▸ ha)⟩
        · intro k hk
          split at hk
          · exact n2 k hk
          · rcases List.mem_append.1 hk with h | h
            · exact n2 k h
            · simp at h; rw [h]; exact hyd
        · intro k hk
          rw [← takenF_succ hy] at hk
          have hk : (if k = y then (1 : Int) else takenF out T.m j k) ≠ 0 := hk
          by_cases hky : k = y
          · subst hky
            split
            · assumption
            · simp
          · rw [if_neg hky] at hk
            split
            · exact n3 k hk
            · exact List.mem_append_left _ (n3 k hk)
      · obtain rfl : j = out.length := by omega
        obtain ⟨q1, q2⟩ := hI.take (ks2 := ks') ho2 n1 n2 n3
        rw [← hT2] at q1 q2
        rw [← q2] at hS
        refine wp_exit ?_; refine seq_exit ?_; refine iter_exit ?_; refine block_exit ?_; refine block_normal ?_; refine seq_normal ?_; refine wp_region ?_; refine wpO_cons ?_; refine op1_add rfl rfl rfl (by exact wrap_i64 (by omega) (by omega)) ?_; refine zw1 ?_; refine wpO_nil ?_
        refine iter_normal ⟨xs.length - (i + 1), by omega, i + 1, T2, ks', rfl, rfl, by omega, q1, ?_⟩
        exact S.drop (S.up2 (S.drop (S.up1 (S.drop (S.up4 hS)))))
    · refine zsr ?_; refine zw1 ?_; refine zf ?_; refine zh (S.g0 hS) ?_; refine wpO_cons ?_; refine op1_call2 rfl (by (conv => lhs; whnf) <;> rfl) (by (conv => lhs; whnf) <;> rfl) ?_
      refine wpF_mono (L12 hI.ok.m (S.up2 hS)) ?_
      clear hS
      rintro _ H9 ⟨rfl, hS⟩
      refine wpO_cons ?_; refine op1_eqlI rfl rfl rfl ?_; refine zns ?_
      refine wp_dec rfl (fun h6 => ?_) (fun h6 => ?_)
      · have h7 : x.a ∈ T.m.dom ∧ T.m.refs x.a ≠ 0 ∧ (unref T.m x.a).2 = T.m.setRefs x.a (T.m.refs x.a - 1) := by
          unfold unref at h6 ⊢
          split at h6
          · rename_i hd
            rw [if_pos hd]
            split at h6
            · cases h6
            · rename_i h0
              rw [if_neg h0]
              exact ⟨hd, h0, rfl⟩
          · cases h6
        obtain ⟨h7, h8, h9⟩ := h7
        have h10 := hI.all x.a h8
        have h11 := hI.one x.a
        have h12 := hI.unref x.a
        refine wp_region ?_; refine zw1 ?_; refine zf ?_; refine zh (S.g1 hS) ?_; refine wpO_cons ?_
        refine op1_lookS1 keyI rfl rfl rfl (S.up2 hS) ?_
        rw [kvF_get, if_pos h10, Option.getD_some]
        refine wpO_cons ?_; refine op1_sub rfl rfl rfl (by exact wrap_i64 (by omega) (by omega)) ?_; refine wpO_cons ?_
        refine op1_mapS (v := .int .i64 (T.m.refs x.a - 1)) keyI rfl rfl rfl rfl (S.up2 hS) ?_
        clear hS
        intro H10 hS
        rw [kvF_set hI.nd, if_pos h10] at hS
        refine wpO_nil ?_; refine block_normal ?_; refine seq_normal ?_; refine wp_region ?_; refine wpO_cons ?_; refine op1_add rfl rfl rfl (by exact wrap_i64 (by omega) (by omega)) ?_; refine zw1 ?_; refine wpO_nil ?_
        refine iter_normal ⟨xs.length - (i + 1), by omega, i + 1, _, ks, rfl, rfl, by omega, h12, ?_⟩
        rw [h9] at hS ⊢
        exact S.drop (S.up2 hS)
      · have h7 : (unref T.m x.a).2 = T.m := by
          unfold unref at h6 ⊢
          split
          · rename_i hd
            rw [if_pos hd] at h6
            split
            · rfl
            · rename_i h0
              rw [if_neg h0] at h6
              exact absurd rfl h6
          · rfl
        rw [h7] at hS
        refine wp_skip ?_; refine block_normal ?_; refine seq_normal ?_; refine wp_region ?_; refine wpO_cons ?_; refine op1_add rfl rfl rfl (by exact wrap_i64 (by omega) (by omega)) ?_; refine zw1 ?_; refine wpO_nil ?_
        exact iter_normal ⟨xs.length - (i + 1), by omega, i + 1, T, ks, rfl, rfl, by omega, hI, S.up1 (S.drop (S.up1 hS))⟩
  · refine wp_exit ?_; refine seq_exit ?_; refine iter_exit ?_; refine block_exit ?_; refine seq_normal ?_; refine zsr ?_; refine zw1 ?_; refine zns ?_; refine wp_seq ?_; refine zsr ?_; refine zw1 ?_; refine wpO_cons ?_
    have hpk : ∀ k, 0 ≤ T.m.refs k := fun k => by have := hI.one k; omega
    have hcnt : posC (kvF ks T.m.refs) = cntU T.m T.m.dom := by rw [posC_kvF ks T.m hpk]; exact cntU_keys hI.nd hI.ok.m.nd hI.sub fun k _ h => hI.all k h
    have hbig : cntU T.m T.m.dom ≤ 65536 := by
      have h1 := cnt_both T.m T.m.dom
      have h2 := dom_len (l := pls) (fun p hp => (hI.ok.pls p (by rw [hI.pe]; exact hp)))
      rw [← hI.de] at h2
      omega
    rw [← hcnt] at hbig
    refine op1_rangeMS rfl rfl hS ?_
    clear hS
    intro ip H7 hS
    refine zns ?_; refine wp_block ?_
    refine wp_loop [14] (fun k vs H' => ∃ (u : Nat) (rest : List (Int × Value)) (cur : Option (Int × Value)), vs = [.int .i64 u] ∧ k = rest.length ∧ (∀ y ∈ rest, y ∈ kvF ks T.m.refs) ∧ u + posC rest = posC (kvF ks T.m.refs) ∧ S B H' [imr enI p1 ip (kvF ks T.m.refs) rest cur, repT t T, sl 5 (.slice a2 pls.length c2) (pls.flatMap plC)]) ⟨_, 0, _, none, rfl, rfl, fun _ h => h, by simp, hS⟩ ?_
    clear hS
    rintro k vs T2 H8 ⟨u, rest, cur, rfl, rfl, hsub, hu, hS⟩
    refine zsr ?_; refine wpO_cons ?_
    refine op1_nextMS (fun _ => rfl) rfl rfl rfl hS (fun hr0 => ?_) (fun l1 key v l2 H9 hr0 hS3 => ?_)
    · subst hr0
      have hu2 : u = cntU T.m (pls.flatMap rng) := by rw [← hI.de, ← hcnt, ← hu]; rfl
      refine wpO_cons ?_; refine op1_extract rfl rfl rfl ?_; refine zns ?_; refine wp_seq ?_; refine wp_false rfl ?_; refine wp_exit ?_; refine seq_exit ?_; refine iter_exit ?_; refine block_exit ?_; refine seq_normal ?_; refine wp_seq ?_; refine zsr ?_; refine zw1 ?_; refine wpO_cons ?_; refine op1_len rfl rfl ?_; refine zw1 ?_; refine zns ?_; refine wp_block ?_
      refine wp_loop [14, 108] (fun k vs H' => ∃ (j : Nat) (n : Int), vs = [.int .i64 n, .int .i64 j] ∧ k = pls.length - j ∧ j ≤ pls.length ∧ n + cntU T.m ((pls.take j).flatMap rng) = u ∧ S B H' [repT t T]) ⟨_, 0, u, rfl, rfl, by omega, by simp [cntU], S.drop (S.up1 (S.drop hS))⟩ ?_
      clear hS
      rintro k vs T3 H9 ⟨j, n, rfl, rfl, hj, hn, hS⟩
      have hub : u ≤ 65536 := by omega
      refine zsr ?_; refine wpO_cons ?_; refine op1_lss rfl rfl rfl ?_; refine zns ?_; refine wp_seq ?_
      refine wp_dec rfl (fun h7 => ?_) (fun h7 => ?_)
      · obtain ⟨p, hp⟩ : ∃ p, pls[j]? = some p := ⟨pls[j]'(by omega), by simp⟩
        have hpm := List.mem_of_getElem? hp
        have hpo := hI.ok.pls p (by rw [hI.pe]; exact hpm)
        obtain ⟨r5, hr5, _⟩ := (RD.base hr hlt) _ hS
        obtain ⟨b, off, cs, e1, ro, rfl, hg, hle, hrow⟩ := RdS.row plC_len hr5 rfl hp
        refine wp_skip ?_; refine seq_normal ?_; refine wp_seq ?_; refine wp_block ?_; refine zsr ?_; refine wpO_cons ?_; refine op1_iaddr rfl rfl rfl (by omega) (by omega) ?_; refine wpO_cons ?_
        refine op1_loadN rfl rfl hg (by simp only [Int.toNat_natCast]; omega) (by simp only [Int.toNat_natCast]; exact hrow) ?_
        unfold plC
        refine wpO_cons ?_; refine op1_allocS rfl hS ?_; intro p2 H10 hS; refine wpO_cons ?_; (refine op1_storeNS rfl rfl (by (conv => lhs; whnf) <;> rfl) rfl rfl (S.up0 hS) (Nat.le_of_ble_eq_true rfl) ?_; intro H11 hS; replace hS := S.dn0 hS); refine zns ?_; refine zsr ?_; refine zw1 ?_; refine zf ?_; refine zh (S.g0 hS) ?_; refine wpO_cons ?_; refine op1_call2 rfl (by (conv => lhs; whnf) <;> rfl) (by (conv => lhs; whnf) <;> rfl) ?_
        refine wpF_mono (L19 (s := p.name) hI.ok hI.ix (S.up1 hS)) ?_
        clear hS
        rintro _ H10 ⟨rfl, hS⟩
        have e3 : T.pls[j]? = some p := by rw [hI.pe]; exact hp
        have e4 : poolOf T (j : Nat) = p := by
          have := poolOf_get (T := T) (i := (j : Nat)) (by omega) (by rw [hI.pe]; omega)
          rw [Int.toNat_natCast, e3] at this
          exact (Option.some.inj this).symm
        have e5 : usageM T p.name = (((usF (runsOf T p) : Int), p.count - (usF (runsOf T p) : Int), (usL (runsOf T p) : Int)), (0 : Int)) := by
          unfold usageM
          rw [hI.pe, new_names he hp]
          simp only [e4]
        rw [e5]
        have h8 := used_pool hpo
        have h9 := usF_free hpo
        have h10 := usL_le (runsOf T p)
        have h11 := cnt_both T.m (rng p)
        have h12 : (rng p).length = p.count.toNat := by unfold rng; rw [consec_len]
        have h13 := hpo.top
        have h14 := hpo.first
        have h15 := hpo.count
        have h16 : cntU T.m ((pls.take (j + 1)).flatMap rng) = cntU T.m ((pls.take j).flatMap rng) + cntU T.m (rng p) := by
          rw [List.take_add_one, hp, List.flatMap_append, cntU_app]
          simp
        have h17 : cntU T.m ((pls.take j).flatMap rng) ≤ 65536 + 65536 := by
          have q1 := cnt_both T.m ((pls.take j).flatMap rng)
          have q2 := dom_len (l := pls.take j) (fun p hp => (hI.ok.pls p (by rw [hI.pe]; exact List.mem_of_mem_take hp)))
          rw [List.length_take] at q2
          omega
        rw [← h9] at h8
        clear e5
        generalize usF (runsOf T p) = fr at h8 h9 h10 ⊢
        generalize usL (runsOf T p) = lg at h10 ⊢
        have e6 : usC ((((fr : Int), p.count - (fr : Int), (lg : Int)), (0 : Int)) : (Int × Int × Int) × Int).1 = [.int .i64 fr, .int .i64 (p.count - fr), .int .i64 lg] := rfl
        have e7 : ((((fr : Int), p.count - (fr : Int), (lg : Int)), (0 : Int)) : (Int × Int × Int) × Int).2 = 0 := rfl
        rw [e6, e7]
        refine zw1 ?_; refine wpO_cons ?_; refine op1_extract rfl rfl rfl ?_; refine wpO_cons ?_; refine op1_extract rfl rfl rfl ?_; refine wpO_cons ?_; refine op1_allocS rfl hS ?_; intro p3 H12 hS; refine wpO_cons ?_; (refine op1_storeNS rfl rfl (by (conv => lhs; whnf) <;> rfl) rfl rfl (S.up0 hS) (Nat.le_of_ble_eq_true rfl) ?_; intro H13 hS; replace hS := S.dn0 hS); refine zw1 ?_; refine zns ?_; refine wp_seq ?_; refine zsr ?_; refine zw1 ?_; refine wpO_cons ?_; refine op1_neqI_s rfl rfl rfl ?_; refine zw1 ?_; refine zf ?_; refine zh (S.g0 hS) ?_; refine zf ?_; refine zh (S.g0 hS) ?_; refine wpO_cons ?_; refine op1_add rfl rfl rfl (by exact wrap_i64 (by omega) (by omega)) ?_; refine zf ?_; refine zh (S.g2 hS) ?_; refine wpO_cons ?_; refine op1_neqI rfl rfl rfl ?_; refine zu ?_; refine zw1 ?_; refine wpO_cons ?_
        refine op1_ndec rfl (fun h18 => absurd (by omega) h18) (fun _ => ?_)
        refine op1_faddr0 rfl rfl ?_; refine zh (S.g0 hS) ?_; refine zf ?_; refine zh (S.g0 hS) ?_; refine wpO_cons ?_; refine op1_gtr rfl rfl rfl ?_; refine zu ?_; refine zns ?_
        refine wp_dec rfl (fun h18 => ?_) (fun _ => ?_)
        · omega
        refine wp_skip ?_; refine seq_normal ?_; refine wp_region ?_; refine zw1 ?_; refine zf ?_; refine zh (S.g0 hS) ?_; refine wpO_cons ?_; refine op1_sub rfl rfl rfl (by exact wrap_i64 (by omega) (by omega)) ?_; refine zw1 ?_; refine wpO_nil ?_; refine block_normal ?_; refine seq_normal ?_; refine wp_region ?_; refine wpO_cons ?_; refine op1_add rfl rfl rfl (by exact wrap_i64 (by omega) (by omega)) ?_; refine zw1 ?_; refine wpO_nil ?_
        refine iter_normal ⟨pls.length - (j + 1), by omega, j + 1, n - (p.count - fr), rfl, rfl, by omega, by rw [h16]; omega, ?_⟩
        exact S.drop (S.up1 (S.drop hS))
      · obtain rfl : j = pls.length := by omega
        rw [List.take_length, ← hu2] at hn
        obtain rfl : n = 0 := by omega
        refine wp_exit ?_; refine seq_exit ?_; refine iter_exit ?_; refine block_exit ?_; refine seq_normal ?_; refine zsr ?_; refine zw1 ?_; refine wpO_cons ?_; refine op1_eqlI_s rfl rfl rfl ?_; refine zw1 ?_; refine wpO_cons ?_; refine op1_call0 rfl  ?_; refine wpF_known rfl (globAll _) ?_; refine zt ?_; refine zw1 ?_; refine zns ?_; refine wp_ret ?_; refine ret_of ?_; refine zr ?_; refine rk_nil ?_
        rfl
    · subst hr0
      clear hS
      have hS := hS3
      clear hS3
      have hv : v = .int .i64 (T.m.refs key) := by
        obtain ⟨k0, _, e⟩ := List.mem_map.1 (hsub (key, v) (by simp))
        cases e
        rfl
      subst hv
      rw [posC_split] at hu
      have hp1 : posB (key, Value.int .i64 (T.m.refs key)) = decide (0 < T.m.refs key) := rfl
      rw [hp1] at hu
      have hk0 := hpk key
      refine wpO_cons ?_; refine op1_extract rfl rfl rfl ?_; refine zns ?_; refine wp_seq ?_; refine wp_true rfl ?_; refine wp_skip ?_; refine seq_normal ?_; refine wp_block ?_; refine zsr ?_; refine wpO_cons ?_
      refine op1_entryMS (fun _ => rfl) rfl rfl hS ?_
      refine wpO_cons ?_; refine op1_extract rfl rfl rfl ?_; refine zw1 ?_; refine zns ?_; refine wp_seq ?_; refine zsr ?_; refine zw1 ?_; refine wpO_cons ?_; refine op1_lss rfl rfl rfl ?_; refine zns ?_
      refine wp_dec rfl (fun h7 => ?_) (fun h7 => ?_)
      · omega
      refine wp_skip ?_; refine seq_normal ?_; refine zsr ?_; refine zw1 ?_; refine wpO_cons ?_; refine op1_gtr rfl rfl rfl ?_; refine zns ?_
      refine wp_dec rfl (fun h8 => ?_) (fun h8 => ?_)
      · rw [if_pos (by simpa using h8)] at hu
        refine wp_region ?_; refine zw1 ?_; refine wpO_cons ?_; refine op1_add rfl rfl rfl (by exact wrap_i64 (by omega) (by omega)) ?_; refine zw1 ?_; refine wpO_nil ?_; refine block_normal ?_
        exact iter_normal ⟨(l1 ++ l2).length, by simp, u + 1, l1 ++ l2, _, rfl, rfl, fun y hy => hsub y ((List.mem_append.1 hy).elim (fun h => List.mem_append_left _ h) (fun h => List.mem_append_right _ (List.mem_cons_of_mem _ h))), by omega, hS⟩
      · rw [if_neg (by simpa using h8)] at hu
        refine wp_skip ?_; refine block_normal ?_
        exact iter_normal ⟨(l1 ++ l2).length, by simp, u, l1 ++ l2, _, rfl, rfl, fun y hy => hsub y ((List.mem_append.1 hy).elim (fun h => List.mem_append_left _ h) (fun h => List.mem_append_right _ (List.mem_cons_of_mem _ h))), by omega, hS⟩
end
end Go.E.Fa
