/- same, for Usage; FramesNew. -/
import Derived.Test.YtlkgacbholklkaaFaGa
import Derived.Test.YtlkgacbholklkaaFaAL
namespace Go.E.Fa
open Go Go.E Go.Proofs.Ytlkgacbholklkaa Go.Proofs
set_option linter.unusedVariables false
set_option linter.unusedSimpArgs false
set_option maxRecDepth 100000
theorem op1_neqUs {C : Nat → E.Callee} {T : FEnv} {H : AHeap} {K : KO} {x y : NOpd} {u : Int × Int × Int} {d : Nat} {g : Option (Nat × Bool)} (hw : wantedF g T = true) (hx : x.evF T = .agg ⟨usC u⟩) (hy : y.evF T = .agg ⟨usC u⟩)
    (k : K (upd T d (.bool false)) H) : op1 C ⟨some d, .bin .neq (.parts [(0, none, (.basic (.int .i64))), (1, none, (.basic (.int .i64))), (2, none, (.basic (.int .i64)))]) x y, g⟩ T H K := by
  refine op1_val hw ?_ k
  simp only [NOp.sub, eop, ev_subF, hx, hy, binN]
  simp [eqN, eqPart, partN, eqBasic, usC]

/-- the two tables hold the same -/
structure Rel (T : Tb) (R : RT) : Prop where
  ok : TbOk T
  ix : T.ix = ixOf T.pls
  pls : R.pls = T.pls
  len : R.refs.length = 4096
  pos : ∀ x ∈ R.refs, (0 : Int) ≤ x
  refs : ∀ n : Nat, n < 4096 → R.refs.getD n 0 = T.m.refs n
theorem Rel.usage {T : Tb} {R : RT} {s : ByteArray} (h : Rel T R) : usageR R s = usageM T s :=
  usageR_eq h.ok h.pls fun n hn => by unfold frB frR; rw [h.refs n hn]
theorem Rel.po {T : Tb} {R : RT} (h : Rel T R) : ∀ p ∈ R.pls, 0 ≤ p.count ∧ 0 ≤ p.first ∧ p.first + p.count ≤ 4096 := by
  intro p hp
  have := h.ok.pls p (h.pls ▸ hp)
  exact ⟨this.count, this.first, this.top⟩
theorem enS_one (l : List ByteArray) : (l.map enS).all (·.oneCell') = true := by rw [List.all_map, List.all_eq_true]; intro a _; rfl

theorem L23u {B H : AHeap} {As : List Asn} {t q : Nat} {T : Tb} {R : RT} {d a b n : Int} {cg tp : Bool} {an : Option Addr} {cn : Nat} {ad : Option Addr} {ld cd : Nat} {ns : List ByteArray} (hd8 : d.tmod 9 = 8) (hR : Rel T R) (hns : ns.length ≤ 1000)
    (hd : RD B As 1 (.slice an ns.length cn) (ns.map enS)) (hS : S B H (repT t T :: repR q R :: As)) :
    wpF C 23 [ptrV t, ptrV q, .agg ⟨[.int .u8 d, .slice an ns.length cn, .int .i64 a, .int .i64 b, .int .i64 n, .bool cg, .bool tp, .slice ad ld cd]⟩] H fun v H' => v = .bool true ∧ S B H' (repT t T :: repR q R :: As) := by
  refine wpF_ofW o23 rfl rfl ?_
  unfold ptrV
  refine zsr ?_; refine wpO_cons ?_; refine op1_boxNS rfl rfl rfl hS ?_; intro p1 H1 hS; refine zw1 ?_; refine zns ?_; refine wp_seq ?_; refine zsr ?_; refine wpO_cons ?_; refine op1_faddr0 rfl rfl ?_; refine wpO_cons ?_; refine op1_load rfl rfl (by exact S.g0 hS) rfl ?_; refine wpO_cons ?_; refine op1_rem rfl rfl rfl (by omega) ?_; refine zns ?_; refine wp_block ?_; refine wp_seq ?_; refine zsr ?_; refine wpO_cons ?_; refine op1_eqlI rfl rfl rfl ?_; refine zw1 ?_; refine zns ?_
  rw [hd8]
  refine wp_false rfl ?_; refine wp_region ?_; refine wpO_cons ?_; refine op1_eqlI rfl rfl rfl ?_; refine zw1 ?_; refine zns ?_; refine wp_false rfl ?_; refine zsr ?_; refine wpO_cons ?_; refine op1_eqlI rfl rfl rfl ?_; refine zw1 ?_; refine zns ?_; refine wp_false rfl ?_; refine zsr ?_; refine wpO_cons ?_; refine op1_eqlI rfl rfl rfl ?_; refine zw1 ?_; refine zns ?_; refine wp_false rfl ?_; refine zsr ?_; refine wpO_cons ?_; refine op1_eqlI rfl rfl rfl ?_; refine zw1 ?_; refine zns ?_; refine wp_false rfl ?_; refine zsr ?_; refine wpO_cons ?_; refine op1_eqlI rfl rfl rfl ?_; refine zw1 ?_; refine zns ?_; refine wp_false rfl ?_; refine zsr ?_; refine wpO_cons ?_; refine op1_eqlI rfl rfl rfl ?_; refine zw1 ?_; refine zns ?_; refine wp_false rfl ?_; refine zsr ?_; refine wpO_cons ?_; refine op1_eqlI rfl rfl rfl ?_; refine zw1 ?_; refine zns ?_; refine wp_false rfl ?_; refine wp_skip ?_; refine block_normal ?_; refine seq_normal ?_; refine wp_seq ?_; refine zsr ?_; refine wpO_cons ?_; refine op1_bsliceS rfl hS ?_; refine bk_one (by (conv => lhs; whnf) <;> rfl) rfl rfl rfl ?_; refine bk_nil ?_; intro p2 H2 hS; refine wpO_cons ?_; refine op1_faddr0 rfl rfl ?_; refine wpO_cons ?_; refine op1_load rfl rfl (by exact S.g1 hS) rfl ?_; refine wpO_cons ?_
  replace hS := S.slNew (l := 1) (es := 1) hS rfl
  obtain ⟨r2, hr2, _⟩ := (RD.cons (RD.cons (RD.cons (RD.cons hd)))) _ hS
  refine op1_appRS rfl rfl (by (conv => lhs; whnf) <;> rfl) rfl hr2 (by simp) (enS_one _) hS (by omega) ?_
  intro a1 c1 H3 hS
  obtain ⟨ms, hms⟩ : ∃ ms : List ByteArray, ms = ⟨#[]⟩ :: ns := ⟨_, rfl⟩
  have hml : 1 + ns.length = ms.length := by rw [hms]; simp; omega
  replace hS : S B H3 (sl 1 (.slice a1 (1 + ns.length) c1) (ms.map enS) :: repT t T :: repR q R :: As) := by rw [hms]; exact S.drop (S.up1 hS)
  rw [hml] at hS ⊢
  have hml2 : ms.length ≤ 1001 := by omega
  refine wpO_cons ?_; refine op1_len rfl rfl ?_; refine zw1 ?_; refine zns ?_; refine wp_block ?_
  refine wp_loop [211] (fun k vs H' => ∃ i : Nat, vs = [.int .i64 i] ∧ k = ms.length - i ∧ i ≤ ms.length ∧ S B H' (sl 1 (.slice a1 ms.length c1) (ms.map enS) :: repT t T :: repR q R :: As)) ⟨_, 0, rfl, rfl, by omega, hS⟩ ?_
  clear hS hr2
  rintro k vs T' H4 ⟨i, rfl, rfl, hi, hS⟩
  refine zsr ?_; refine wpO_cons ?_; refine op1_lss rfl rfl rfl ?_; refine zns ?_; refine wp_seq ?_
  refine wp_dec rfl (fun hlt => ?_) (fun hlt => ?_)
  · obtain ⟨s, hs⟩ : ∃ s, ms[i]? = some s := ⟨ms[i]'(by omega), by simp⟩
    obtain ⟨ab, ao, acs, rfl, _⟩ := S.slBlk hS (by omega)
    refine wp_skip ?_; refine seq_normal ?_; refine wp_seq ?_; refine wp_block ?_; refine zsr ?_; refine wpO_cons ?_; refine op1_iaddr rfl rfl rfl (by omega) (by omega) ?_; refine wpO_cons ?_
    refine op1_loadL (k := i) rfl rfl hS (by simp) (by omega) (show (ms.map enS)[i]? = some (.string s) by rw [List.getElem?_map, hs]; rfl) ?_
    refine zw1 ?_; refine zns ?_; refine zsr ?_; refine zw1 ?_; refine zw1 ?_; refine wpO_cons ?_; refine op1_call2 rfl (by (conv => lhs; whnf) <;> rfl) (by (conv => lhs; whnf) <;> rfl) ?_
    refine wpF_mono (L19 hR.ok hR.ix (S.up1 hS)) ?_
    rintro _ H5 ⟨rfl, hS⟩
    refine zw1 ?_; refine wpO_cons ?_; refine op1_extract rfl rfl rfl ?_; refine wpO_cons ?_; refine op1_extract rfl rfl rfl ?_; refine wpO_cons ?_; refine op1_allocS rfl hS ?_; intro p3 H6 hS; refine wpO_cons ?_; (refine op1_storeNS rfl rfl (by (conv => lhs; whnf) <;> rfl) rfl rfl (S.up0 hS) (Nat.le_of_ble_eq_true rfl) ?_; intro H7 hS; replace hS := S.dn0 hS); refine zw1 ?_; refine zns ?_; refine zsr ?_; refine zw1 ?_; refine zw1 ?_; refine wpO_cons ?_; refine op1_call2 rfl (by (conv => lhs; whnf) <;> rfl) (by (conv => lhs; whnf) <;> rfl) ?_
    refine wpF_mono (L46 (by rw [hR.pls]; have := hR.ok.len; omega) hR.po hR.len hR.pos (S.up3 hS)) ?_
    rw [hR.usage]
    rintro _ H6 ⟨rfl, hS⟩
    refine zw1 ?_; refine wpO_cons ?_; refine op1_extract rfl rfl rfl ?_; refine wpO_cons ?_; refine op1_extract rfl rfl rfl ?_; refine wpO_cons ?_; refine op1_allocS rfl hS ?_; intro p4 H8 hS; refine wpO_cons ?_; (refine op1_storeNS rfl rfl (by (conv => lhs; whnf) <;> rfl) rfl rfl (S.up0 hS) (Nat.le_of_ble_eq_true rfl) ?_; intro H9 hS; replace hS := S.dn0 hS); refine zw1 ?_; refine zns ?_; refine zsr ?_; refine wpO_cons ?_; refine op1_load_3 rfl rfl (by exact S.g2 hS) rfl rfl ?_; refine wpO_cons ?_; refine op1_faddr0 rfl rfl ?_; refine wpO_cons ?_; refine op1_load rfl rfl (by exact S.g0 hS) rfl ?_; refine wpO_cons ?_; refine op1_faddr0 rfl rfl ?_; refine wpO_cons ?_; refine op1_load rfl rfl (by exact S.g0 hS) rfl ?_; refine wpO_cons ?_; refine op1_faddr0 rfl rfl ?_; refine wpO_cons ?_; refine op1_load rfl rfl (by exact S.g0 hS) rfl ?_; refine wpO_cons ?_; refine op1_build rfl ?_; refine bk_one (by (conv => lhs; whnf) <;> rfl) rfl rfl rfl ?_; refine bk_one (by (conv => lhs; whnf) <;> rfl) rfl rfl rfl ?_; refine bk_one (by (conv => lhs; whnf) <;> rfl) rfl rfl rfl ?_; refine bk_nil ?_; refine wpO_cons ?_
    refine op1_neqUs (u := (usageM T s).1) rfl rfl rfl ?_
    refine zw1 ?_; refine zw1 ?_; refine zw1 ?_; refine wpO_cons ?_; refine op1_neqI_s rfl rfl rfl ?_; refine wpO_cons ?_; refine op1_pick_f rfl rfl (by (conv => lhs; whnf) <;> rfl) ?_; refine zns ?_; refine wp_false rfl ?_; refine wp_skip ?_; refine block_normal ?_; refine seq_normal ?_; refine wp_region ?_; refine wpO_cons ?_; refine op1_add rfl rfl rfl (by exact wrap_i64 (by omega) (by omega)) ?_; refine zw1 ?_; refine wpO_nil ?_
    exact ⟨ms.length - (i + 1), by omega, i + 1, rfl, rfl, by omega, S.up1 (S.up2 (S.up2 (S.drop (S.up1 (S.drop hS)))))⟩
  · obtain rfl : i = ms.length := by omega
    refine wp_exit ?_; refine seq_exit ?_; refine iter_exit ?_; refine block_exit ?_; refine seq_normal ?_; refine zsr ?_; refine zw1 ?_; refine zns ?_; refine wp_ret ?_; refine ret_of ?_; refine rk_tmp (by (conv => lhs; whnf) <;> rfl) ?_; refine rk_nil ?_
    exact ⟨rfl, S.drop hS⟩

theorem Rel.fresh {T : Tb} {pls : List Pl} (hp : T.pls = pls) (hF : Fresh pls T) (hl : pls.length ≤ 16) : Rel T (R0 pls) := by
  refine ⟨?_, hp ▸ hF.ix, hp.symm, by simp [R0], ?_, ?_⟩
  · subst hp; exact hF.tbOk hl
  · intro x hx
    have : x = 0 := List.eq_of_mem_replicate hx
    omega
  · intro n hn
    rw [hF.m.refs]
    show (List.replicate 4096 (0 : Int)).getD n 0 = 0
    rw [List.getD_eq_getElem?_getD, List.getElem?_replicate, if_pos hn]
    rfl

end Go.E.Fa
/- Pools as an argument of a law. -/
namespace Go.E.Fa
open Go Go.E Go.ChangeShapes Go.WideShapes Go.ChangeAt Go.RowKit Go.Proofs.Ytlkgacbholklkaa Go.Proofs
set_option linter.unusedVariables false
set_option linter.unusedSimpArgs false
set_option maxRecDepth 100000
theorem u4 : Try.prog.underlying 4 = some .bool := by kernel_rfl
theorem u9 : Try.prog.underlying 9 = some .string := by kernel_rfl
theorem u39 : Try.prog.underlying 39 = some (.slice 50) := by kernel_rfl
theorem u50 : (match Try.prog.underlying 50 with | some (.struct fs) => fs.toList.map fun f => (f.type, f.offset) | _ => []) = [(9,0),(3,1),(3,2),(4,3),(4,4)] := by kernel_rfl
theorem co50 : Try.prog.cellsOf 50 = 5 := by kernel_rfl
theorem co3 : Try.prog.cellsOf 3 = 1 := by kernel_rfl
theorem co4 : Try.prog.cellsOf 4 = 1 := by kernel_rfl
theorem co9 : Try.prog.cellsOf 9 = 1 := by kernel_rfl
theorem ag39 : aggT Try.prog 39 = false := by kernel_rfl
def PlB (p : Pl) : Prop := (-9223372036854775808 ≤ p.count ∧ p.count ≤ 9223372036854775807) ∧ (-9223372036854775808 ≤ p.first ∧ p.first ≤ 9223372036854775807)
theorem pl_of {gs : List AObj} {vs : List Value} {n : Nat} (h : OkA Try.prog gs (n + 2) 50 vs) : ∃ p : Pl, PlB p ∧ vs = plC p := by
  unfold OkA at h
  have hu := u50
  split at h
  case h_5 fs hfs =>
    rw [hfs] at hu
    simp only at hu
    obtain ⟨hl, hf⟩ := h
    rw [co50] at hl
    have hm : ∀ t o, (t, o) ∈ [(9,0),(3,1),(3,2),(4,3),(4,4)] → OkA Try.prog gs (n + 1) t ((vs.drop o).take (Try.prog.cellsOf t)) := by
      intro t o hto
      rw [← hu] at hto
      obtain ⟨f, h1, h2⟩ := List.mem_map.1 hto
      cases h2
      exact hf f h1
    have h9 := hm 9 0 (by simp)
    have h3 := hm 3 1 (by simp)
    have h3' := hm 3 2 (by simp)
    have h4 := hm 4 3 (by simp)
    have h4' := hm 4 4 (by simp)
    rw [co9] at h9
    rw [co3] at h3 h3'
    rw [co4] at h4 h4'
    match vs, hl with
    | [a, b, c, d, e], _ =>
    simp only [List.drop_zero, List.take_succ_cons, List.take_zero, List.drop_succ_cons] at h9 h3 h3' h4 h4'
    unfold OkA at h9 h3 h3' h4 h4'
    rw [u9] at h9
    rw [u3] at h3 h3'
    rw [u4] at h4 h4'
    obtain ⟨s, hs, _⟩ := h9
    obtain ⟨f, hn, hw1⟩ := h3
    obtain ⟨k, hm', hw2⟩ := h3'
    obtain ⟨g, hg⟩ := h4
    obtain ⟨w, hw'⟩ := h4'
    cases hs; cases hn; cases hm'; cases hg; cases hw'
    refine ⟨⟨s, f, k, g, w⟩, ?_, rfl⟩
    simp [Lit.wf, IntKind.min, IntKind.max, IntKind.signed, IntKind.bits] at hw1 hw2
    refine ⟨⟨?_, ?_⟩, ?_, ?_⟩ <;> simp only <;> omega
  all_goals (rename_i h0; first | (rw [h0] at hu; cases hu) | skip)
  all_goals exact h.elim
theorem cells_of : ∀ (pls : List Pl) (cells : List Value), cells.length = pls.length * 5 → (∀ (i : Nat) p, pls[i]? = some p → (cells.drop (i * 5)).take 5 = plC p) → cells = pls.flatMap plC
  | [], cells, hl, _ => by simpa using hl
  | p :: pls, cells, hl, h => by
    have h0 := h 0 p rfl
    rw [Nat.zero_mul, List.drop_zero] at h0
    rw [List.flatMap_cons, ← h0, ← cells_of pls (cells.drop 5) (by rw [List.length_drop, hl, List.length_cons]; omega) (fun i q hq => by
      have := h (i + 1) q (by simpa using hq)
      rw [List.drop_drop, show 5 + i * 5 = (i + 1) * 5 by omega]
      exact this), List.take_append_drop]
theorem arg_pools {gs : List AObj} {n : Nat} {a : Value} (h : ∃ cells, a = argV Try.prog 39 cells ∧ OkA Try.prog gs (n + 3) 39 cells) :
    ∃ (ad : Option Addr) (pls : List Pl) (c : Nat) (r : List Nat), a = .slice ad pls.length c ∧ pls.length ≤ 9223372036854775807 ∧ RdS (startH gs) 5 (.slice ad pls.length c) (pls.flatMap plC) r ∧ (∀ b ∈ r, b < (startH gs).next) ∧ ∀ p ∈ pls, PlB p := by
  obtain ⟨cells, rfl, h⟩ := h
  unfold OkA at h
  rw [u39] at h
  rcases h with rfl | ⟨b, c, rfl, _⟩ | ⟨b, l, c, cells, rfl, hlc, hcm, hg, hl, hc⟩
  · exact ⟨none, [], 0, [], by unfold argV; rw [ag39]; rfl, by simp, .nil, by simp, by simp⟩
  · exact ⟨some ⟨b, 0, none⟩, [], 0, [], by unfold argV; rw [ag39]; rfl, by simp, .empty _, by simp, by simp⟩
  · rw [co50] at hl hc
    obtain ⟨pls, h1, h2⟩ := list_of (Q := fun i (x : Pl) => PlB x ∧ (cells.drop (i * 5)).take 5 = plC x) l fun i hi => pl_of (n := n) (hc i hi)
    have hb := (List.getElem?_eq_some_iff.1 hg).1
    have e := cells_of pls cells (by rw [h1]; exact hl) (fun i p hp => (h2 i p hp).2)
    have hm : maxLen = 9223372036854775807 := rfl
    refine ⟨some ⟨b, 0, none⟩, pls, c, [b], by unfold argV; rw [ag39, h1]; rfl, by omega, ?_, by simp; rw [next_startH]; exact hb, fun p hp => ?_⟩
    · rw [← e]
      have := RdS.blk (H := startH gs) (b := b) (es := 5) (off := 0) (l := pls.length) (c := c) (cs := cells) (e := 0) (ro := true) (by rw [get_startH, List.getD_eq_getElem?_getD, hg]; rfl) (by omega) (.inl rfl) (by omega)
      rw [List.drop_zero, List.take_of_length_le (by omega)] at this
      exact this
    · obtain ⟨i, hi⟩ := List.mem_iff_getElem?.1 hp
      exact (h2 i p hi).1
end Go.E.Fa
