/- Frames: the arguments of a law; its helpers. -/
import Derived.Test.YtlkgacbholklkaaFaGG
import Derived.Test.YtlkgacbholklkaaFaAL
namespace Go.E.Fa
open Go Go.E Go.ChangeShapes Go.WideShapes Go.ChangeAt Go.RowKit Go.Proofs.Ytlkgacbholklkaa Go.Proofs
set_option linter.unusedVariables false
set_option linter.unusedSimpArgs false
set_option maxRecDepth 100000
theorem name_row {H : AHeap} {a : Option Addr} {l c i : Nat} {ns : List ByteArray} {s : ByteArray} {r : List Nat} (h : RdS H 1 (.slice a l c) (ns.map enS) r) (hl : l = ns.length) (hs : ns[i]? = some s) :
    ∃ b off cs e ro, a = some ⟨b, off, none⟩ ∧ H.get b = .cells cs e ro ∧ cs[off + i * 1]? = some (.string s) := by
  have hi := (List.getElem?_eq_some_iff.1 hs).1
  obtain ⟨b, off, cs, e, ro, v, h1, _, hg, hv, hx⟩ := h.at1 (i := i) (by omega)
  rw [List.getElem?_map, hs] at hx
  cases hx
  exact ⟨b, off, cs, e, ro, h1, hg, hv⟩
theorem enS_one (l : List ByteArray) : (l.map enS).all (·.oneCell') = true := by rw [List.all_map, List.all_eq_true]; intro a _; rfl



theorem u4 : Try.prog.underlying 4 = some .bool := by kernel_rfl
theorem u9 : Try.prog.underlying 9 = some .string := by kernel_rfl
theorem u39 : Try.prog.underlying 39 = some (.slice 50) := by kernel_rfl
theorem u50 : (match Try.prog.underlying 50 with | some (.struct fs) => fs.toList.map fun f => (f.type, f.offset) | _ => []) = [(9,0),(3,1),(3,2),(4,3),(4,4)] := by kernel_rfl
theorem co50 : Try.prog.cellsOf 50 = 5 := by kernel_rfl
theorem co3 : Try.prog.cellsOf 3 = 1 := by kernel_rfl
theorem co4 : Try.prog.cellsOf 4 = 1 := by kernel_rfl
theorem co9 : Try.prog.cellsOf 9 = 1 := by kernel_rfl
theorem ag39 : aggT Try.prog 39 = false := by kernel_rfl
def PlB (p : Pl) : Prop := (-9223372036854775808 ≤ p.count ∧ p.count ≤ 9223372036854775807) ∧ (-9223372036854775808 ≤ p.first ∧ p.first ≤ 9223372036854775807)
theorem pl_of {gs : List AObj} {vs : List Value} {n : Nat} (h : OkA Try.prog gs (n + 2) 50 vs) : ∃ p : Pl, PlB p ∧ vs = plC p := by
  unfold OkA at h
  have hu := u50
  split at h
  case h_5 fs hfs =>
    rw [hfs] at hu
    simp only at hu
    obtain ⟨hl, hf⟩ := h
    rw [co50] at hl
    have hm : ∀ t o, (t, o) ∈ [(9,0),(3,1),(3,2),(4,3),(4,4)] → OkA Try.prog gs (n + 1) t ((vs.drop o).take (Try.prog.cellsOf t)) := by
      intro t o hto
      rw [← hu] at hto
      obtain ⟨f, h1, h2⟩ := List.mem_map.1 hto
      cases h2
      exact hf f h1
    have h9 := hm 9 0 (by simp)
    have h3 := hm 3 1 (by simp)
    have h3' := hm 3 2 (by simp)
    have h4 := hm 4 3 (by simp)
    have h4' := hm 4 4 (by simp)
    rw [co9] at h9
    rw [co3] at h3 h3'
    rw [co4] at h4 h4'
    match vs, hl with
    | [a, b, c, d, e], _ =>
    simp only [List.drop_zero, List.take_succ_cons, List.take_zero, List.drop_succ_cons] at h9 h3 h3' h4 h4'
    unfold OkA at h9 h3 h3' h4 h4'
    rw [u9] at h9
    rw [u3] at h3 h3'
    rw [u4] at h4 h4'
    obtain ⟨s, hs, _⟩ := h9
    obtain ⟨f, hn, hw1⟩ := h3
    obtain ⟨k, hm', hw2⟩ := h3'
    obtain ⟨g, hg⟩ := h4
    obtain ⟨w, hw'⟩ := h4'
    cases hs; cases hn; cases hm'; cases hg; cases hw'
    refine ⟨⟨s, f, k, g, w⟩, ?_, rfl⟩
    simp [Lit.wf, IntKind.min, IntKind.max, IntKind.signed, IntKind.bits] at hw1 hw2
    refine ⟨⟨?_, ?_⟩, ?_, ?_⟩ <;> simp only <;> omega
  all_goals (rename_i h0; first | (rw [h0] at hu; cases hu) | skip)
  all_goals exact h.elim
theorem cells_of : ∀ (pls : List Pl) (cells : List Value), cells.length = pls.length * 5 → (∀ (i : Nat) p, pls[i]? = some p → (cells.drop (i * 5)).take 5 = plC p) → cells = pls.flatMap plC
  | [], cells, hl, _ => by simpa using hl
  | p :: pls, cells, hl, h => by
    have h0 := h 0 p rfl
    rw [Nat.zero_mul, List.drop_zero] at h0
    rw [List.flatMap_cons, ← h0, ← cells_of pls (cells.drop 5) (by rw [List.length_drop, hl, List.length_cons]; omega) (fun i q hq => by
      have := h (i + 1) q (by simpa using hq)
      rw [List.drop_drop, show 5 + i * 5 = (i + 1) * 5 by omega]
      exact this), List.take_append_drop]
theorem arg_pools {gs : List AObj} {n : Nat} {a : Value} (h : ∃ cells, a = argV Try.prog 39 cells ∧ OkA Try.prog gs (n + 3) 39 cells) :
    ∃ (ad : Option Addr) (pls : List Pl) (c : Nat) (r : List Nat), a = .slice ad pls.length c ∧ pls.length ≤ 9223372036854775807 ∧ RdS (startH gs) 5 (.slice ad pls.length c) (pls.flatMap plC) r ∧ (∀ b ∈ r, b < (startH gs).next) ∧ ∀ p ∈ pls, PlB p := by
  obtain ⟨cells, rfl, h⟩ := h
  unfold OkA at h
  rw [u39] at h
  rcases h with rfl | ⟨b, c, rfl, _⟩ | ⟨b, l, c, cells, rfl, hlc, hcm, hg, hl, hc⟩
  · exact ⟨none, [], 0, [], by unfold argV; rw [ag39]; rfl, by simp, .nil, by simp, by simp⟩
  · exact ⟨some ⟨b, 0, none⟩, [], 0, [], by unfold argV; rw [ag39]; rfl, by simp, .empty _, by simp, by simp⟩
  · rw [co50] at hl hc
    obtain ⟨pls, h1, h2⟩ := list_of (Q := fun i (x : Pl) => PlB x ∧ (cells.drop (i * 5)).take 5 = plC x) l fun i hi => pl_of (n := n) (hc i hi)
    have hb := (List.getElem?_eq_some_iff.1 hg).1
    have e := cells_of pls cells (by rw [h1]; exact hl) (fun i p hp => (h2 i p hp).2)
    have hm : maxLen = 9223372036854775807 := rfl
    refine ⟨some ⟨b, 0, none⟩, pls, c, [b], by unfold argV; rw [ag39, h1]; rfl, by omega, ?_, by simp; rw [next_startH]; exact hb, fun p hp => ?_⟩
    · rw [← e]
      have := RdS.blk (H := startH gs) (b := b) (es := 5) (off := 0) (l := pls.length) (c := c) (cs := cells) (e := 0) (ro := true) (by rw [get_startH, List.getD_eq_getElem?_getD, hg]; rfl) (by omega) (.inl rfl) (by omega)
      rw [List.drop_zero, List.take_of_length_le (by omega)] at this
      exact this
    · obtain ⟨i, hi⟩ := List.mem_iff_getElem?.1 hp
      exact (h2 i p hi).1


structure ActF where
  kind : Int
  an : Option Addr
  cn : Nat
  ns : List ByteArray
  a : Int
  b : Int
  n : Int
  cg : Bool
  tp : Bool
  ad : Option Addr
  cd : Nat
  d : List Int
  rn : List Nat
  rd : List Nat
def ActF.cells (x : ActF) : List Value := [.int .u8 x.kind, .slice x.an x.ns.length x.cn, .int .i64 x.a, .int .i64 x.b, .int .i64 x.n, .bool x.cg, .bool x.tp, .slice x.ad x.d.length x.cd]
def I64 (x : Int) : Prop := -9223372036854775808 ≤ x ∧ x ≤ 9223372036854775807
structure ActOkF (B : AHeap) (x : ActF) : Prop where
  k : 0 ≤ x.kind ∧ x.kind ≤ 255
  a : I64 x.a
  b : I64 x.b
  n : I64 x.n
  ln : x.ns.length ≤ 9223372036854775807
  nr : RdS B 1 (.slice x.an x.ns.length x.cn) (x.ns.map enS) x.rn
  nl : ∀ b ∈ x.rn, b < B.next
  dr : RdS B 1 (.slice x.ad x.d.length x.cd) (u8s x.d) x.rd
  dl : ∀ b ∈ x.rd, b < B.next
theorem u33 : Try.prog.underlying 33 = some (.slice 9) := by kernel_rfl
theorem u40 : Try.prog.underlying 40 = some (.slice 48) := by kernel_rfl
theorem u48 : (match Try.prog.underlying 48 with | some (.struct fs) => fs.toList.map fun f => (f.type, f.offset) | _ => []) = [(5,0),(33,1),(3,2),(3,3),(3,4),(4,5),(4,6),(46,7)] := by kernel_rfl
theorem co48 : Try.prog.cellsOf 48 = 8 := by kernel_rfl
theorem co33 : Try.prog.cellsOf 33 = 1 := by kernel_rfl
theorem co46 : Try.prog.cellsOf 46 = 1 := by kernel_rfl
theorem ag40 : aggT Try.prog 40 = false := by kernel_rfl
theorem names_of {gs : List AObj} {n : Nat} {vs : List Value} (h : OkA Try.prog gs (n + 2) 33 vs) : ∃ (an : Option Addr) (ns : List ByteArray) (c : Nat) (r : List Nat), vs = [.slice an ns.length c] ∧ ns.length ≤ 9223372036854775807 ∧ RdS (startH gs) 1 (.slice an ns.length c) (ns.map enS) r ∧ ∀ b ∈ r, b < gs.length := by
  unfold OkA at h
  rw [u33] at h
  rcases h with rfl | ⟨b, c, rfl, _⟩ | ⟨b, l, c, cells, rfl, hlc, hcm, hg, hl, hc⟩
  · exact ⟨none, [], 0, [], rfl, by simp, .nil, by simp⟩
  · exact ⟨some ⟨b, 0, none⟩, [], 0, [], rfl, by simp, .empty _, by simp⟩
  · rw [co9] at hl hc
    obtain ⟨ns, h1, h2⟩ := list_of (Q := fun i (x : ByteArray) => cells[i]? = some (.string x)) l fun i hi => by
      have h3 := hc i hi
      unfold OkA at h3
      rw [u9] at h3
      obtain ⟨s, hs, _⟩ := h3
      have h4 := congrArg (fun z => z[0]?) hs
      simp only [List.getElem?_cons_zero, Nat.mul_one] at h4
      rw [List.getElem?_take, if_pos (by omega), List.getElem?_drop, Nat.add_zero] at h4
      exact ⟨s, h4⟩
    have hb := (List.getElem?_eq_some_iff.1 hg).1
    have hm : maxLen = 9223372036854775807 := rfl
    have e : cells = ns.map enS := by
      apply List.ext_getElem?
      intro i
      rw [List.getElem?_map]
      cases hx : ns[i]? with
      | none =>
        have := List.getElem?_eq_none_iff.1 hx
        rw [List.getElem?_eq_none (by omega)]; rfl
      | some x => exact h2 i x hx
    refine ⟨some ⟨b, 0, none⟩, ns, c, [b], by rw [h1], by omega, ?_, by simpa using hb⟩
    rw [← e]
    have := RdS.blk (H := startH gs) (b := b) (es := 1) (off := 0) (l := ns.length) (c := c) (cs := cells) (e := 0) (ro := true) (by rw [get_startH, List.getD_eq_getElem?_getD, hg]; rfl) (by omega) (.inl rfl) (by omega)
    rw [List.drop_zero, List.take_of_length_le (by omega)] at this
    exact this
theorem act_of {gs : List AObj} {vs : List Value} (h : OkA Try.prog gs 3 48 vs) : ∃ x : ActF, ActOkF (startH gs) x ∧ vs = x.cells := by
  unfold OkA at h
  have hu := u48
  split at h
  case h_5 fs hfs =>
    rw [hfs] at hu
    simp only at hu
    obtain ⟨hl, hf⟩ := h
    rw [co48] at hl
    have hm : ∀ t o, (t, o) ∈ [(5,0),(33,1),(3,2),(3,3),(3,4),(4,5),(4,6),(46,7)] → OkA Try.prog gs 2 t ((vs.drop o).take (Try.prog.cellsOf t)) := by
      intro t o hto
      rw [← hu] at hto
      obtain ⟨f, h1, h2⟩ := List.mem_map.1 hto
      cases h2
      exact hf f h1
    have h5 := hm 5 0 (by simp)
    have h33 := hm 33 1 (by simp)
    have h3 := hm 3 2 (by simp)
    have h3' := hm 3 3 (by simp)
    have h3'' := hm 3 4 (by simp)
    have h4 := hm 4 5 (by simp)
    have h4' := hm 4 6 (by simp)
    have h46 := hm 46 7 (by simp)
    rw [co5] at h5
    rw [co33] at h33
    rw [co3] at h3 h3' h3''
    rw [co4] at h4 h4'
    rw [co46] at h46
    match vs, hl with
    | [v0, v1, v2, v3, v4, v5, v6, v7], _ =>
    simp only [List.drop_zero, List.take_succ_cons, List.take_zero, List.drop_succ_cons] at h5 h33 h3 h3' h3'' h4 h4' h46
    unfold OkA at h5 h3 h3' h3'' h4 h4'
    rw [u5] at h5
    rw [u3] at h3 h3' h3''
    rw [u4] at h4 h4'
    obtain ⟨k, hk, hw⟩ := h5
    obtain ⟨a, ha, hwa⟩ := h3
    obtain ⟨b, hb, hwb⟩ := h3'
    obtain ⟨n, hn, hwn⟩ := h3''
    obtain ⟨g, hg⟩ := h4
    obtain ⟨t, ht⟩ := h4'
    cases hk; cases ha; cases hb; cases hn; cases hg; cases ht
    obtain ⟨an, ns, cn, rn, hv, hln, hnr, hnl⟩ := names_of (n := 0) h33
    cases hv
    obtain ⟨v, l, r, hv, h1, h2, h3⟩ := h46.bytes (n := 0) u46 u5 co5
    cases hv
    obtain ⟨ad, cd, rfl⟩ := RdS.u1 h1
    simp [Lit.wf, IntKind.min, IntKind.max, IntKind.signed, IntKind.bits] at hw hwa hwb hwn
    exact ⟨⟨k, an, cn, ns, a, b, n, g, t, ad, cd, l, rn, r⟩, ⟨by simp only; omega, by unfold I64; simp only; omega, by unfold I64; simp only; omega, by unfold I64; simp only; omega, hln, hnr, by rw [next_startH]; exact hnl, h1, by rw [next_startH]; exact h2⟩, rfl⟩
  all_goals (rename_i h0; first | (rw [h0] at hu; cases hu) | skip)
  all_goals exact h.elim
structure ActsF (B : AHeap) (a : Option Addr) (c : Nat) (xs : List ActF) : Prop where
  len : xs.length ≤ 9223372036854775807
  ok : ∀ x ∈ xs, ActOkF B x
  at_ : ∀ (i : Nat) x, xs[i]? = some x → ∃ b o cs, a = some ⟨b, o, none⟩ ∧ B.get b = .cells cs 0 true ∧ b < B.next ∧ o + i * 8 + 8 ≤ cs.length ∧ (cs.drop (o + i * 8)).take 8 = x.cells
theorem arg_acts {gs : List AObj} {a : Value} (h : ∃ cells, a = argV Try.prog 40 cells ∧ OkA Try.prog gs 4 40 cells) :
    ∃ (ad : Option Addr) (xs : List ActF) (c : Nat), a = .slice ad xs.length c ∧ ActsF (startH gs) ad c xs := by
  obtain ⟨cells, rfl, h⟩ := h
  unfold OkA at h
  rw [u40] at h
  rcases h with rfl | ⟨b, c, rfl, _⟩ | ⟨b, l, c, cells, rfl, hlc, hcm, hg, hl, hc⟩
  · exact ⟨none, [], 0, by unfold argV; rw [ag40]; rfl, ⟨by simp, by simp, by simp⟩⟩
  · exact ⟨some ⟨b, 0, none⟩, [], 0, by unfold argV; rw [ag40]; rfl, ⟨by simp, by simp, by simp⟩⟩
  · rw [co48] at hl hc
    obtain ⟨xs, h1, h2⟩ := list_of (Q := fun i (x : ActF) => ActOkF (startH gs) x ∧ (cells.drop (i * 8)).take 8 = x.cells) l fun i hi => act_of (hc i hi)
    have hb := (List.getElem?_eq_some_iff.1 hg).1
    have hm : maxLen = 9223372036854775807 := rfl
    refine ⟨some ⟨b, 0, none⟩, xs, c, by unfold argV; rw [ag40, h1]; rfl, ⟨by omega, fun x hx => ?_, fun i x hx => ?_⟩⟩
    · obtain ⟨i, hi⟩ := List.getElem?_of_mem hx
      exact (h2 i x hi).1
    · have hi := (List.getElem?_eq_some_iff.1 hx).1
      exact ⟨b, 0, cells, rfl, by rw [get_startH, List.getD_eq_getElem?_getD, hg]; rfl, by rw [next_startH]; exact hb, by omega, by rw [Nat.zero_add]; exact (h2 i x hx).2⟩
def SmallF (xs : List ActF) : Prop := xs.length ≤ 60 ∧ ∀ x ∈ xs, x.ns.length ≤ 20 ∧ x.d.length ≤ 200 ∧ ∀ s ∈ x.ns, s.size ≤ 200


theorem L15 {B H : AHeap} {As : List Asn} {a : Option Addr} {c : Nat} {xs : List ActF} (hA : ActsF B a c xs) (hS : S B H As) :
    wpF C 15 [.slice a xs.length c] H fun v H' => (∃ b, v = .bool b ∧ (b = true → SmallF xs)) ∧ S B H' As := by
  refine wpF_ofW o15 rfl rfl ?_
  have hlen := hA.len
  refine zsr ?_; refine zw1 ?_; refine zns ?_; refine wp_seq ?_; refine zsr ?_; refine zw1 ?_; refine wpO_cons ?_; refine op1_len rfl rfl ?_; refine zw1 ?_; refine zns ?_; refine wp_block ?_
  refine wp_loop [9] (fun k vs H' => ∃ i : Nat, vs = [.int .i64 i] ∧ k = xs.length - i ∧ i ≤ xs.length ∧ (∀ x ∈ xs.take i, x.ns.length ≤ 20 ∧ x.d.length ≤ 200 ∧ ∀ s ∈ x.ns, s.size ≤ 200) ∧ S B H' As) ⟨_, 0, rfl, rfl, by omega, by simp, hS⟩ ?_
  clear hS
  rintro k vs T' H1 ⟨i, rfl, rfl, hi, hno, hS⟩
  refine zsr ?_; refine wpO_cons ?_; refine op1_lss rfl rfl rfl ?_; refine zns ?_; refine wp_seq ?_
  refine wp_dec rfl (fun hlt => ?_) (fun hlt => ?_)
  · obtain ⟨x, hx⟩ : ∃ x, xs[i]? = some x := ⟨xs[i]'(by omega), by simp⟩
    have hok := hA.ok x (List.mem_of_getElem? hx)
    obtain ⟨b, o, cs, rfl, hg, hb, hle, hat⟩ := hA.at_ i x hx
    have hg1 := (hS.base b hb).trans hg
    have hln := hok.ln
    refine wp_skip ?_; refine seq_normal ?_; refine wp_seq ?_; refine wp_block ?_; refine zsr ?_; refine wpO_cons ?_; refine op1_iaddr rfl rfl rfl (by omega) (by omega) ?_; refine wpO_cons ?_
    refine op1_loadN rfl rfl hg1 hle hat ?_
    rw [show x.cells = [.int .u8 x.kind, .slice x.an x.ns.length x.cn, .int .i64 x.a, .int .i64 x.b, .int .i64 x.n, .bool x.cg, .bool x.tp, .slice x.ad x.d.length x.cd] from rfl]
    refine wpO_cons ?_; refine op1_allocS rfl hS ?_; intro p1 H2 hS; refine wpO_cons ?_; (refine op1_storeNS rfl rfl (by (conv => lhs; whnf) <;> rfl) rfl rfl (S.up0 hS) (Nat.le_of_ble_eq_true rfl) ?_; intro H3 hS; replace hS := S.dn0 hS); refine zns ?_; refine wp_seq ?_; refine zsr ?_; refine zf ?_; refine zh (S.g0 hS) ?_; refine wpO_cons ?_; refine op1_len rfl rfl ?_; refine wpO_cons ?_; refine op1_gtr rfl rfl rfl ?_; refine zw1 ?_; refine wpO_cons ?_
    refine op1_dec rfl (fun g1 => ?_) (fun g1 => ?_)
    · refine op1_skip rfl ?_; (iterate 3 refine zk ?_); refine zt ?_; refine zns ?_; refine wp_true rfl ?_; refine zsr ?_; refine zw1 ?_; refine zns ?_; refine wp_ret ?_; refine seq_ret ?_; refine block_ret ?_; refine seq_ret ?_; refine iter_ret ?_; refine block_ret ?_; refine seq_ret ?_; refine ret_of ?_; refine zr ?_; refine rk_nil ?_
      exact ⟨⟨_, rfl, fun h => by cases h⟩, S.drop hS⟩
    refine op1_faddr0 rfl rfl ?_; refine zh (S.g0 hS) ?_; refine wpO_cons ?_; refine op1_len rfl rfl ?_; refine wpO_cons ?_; refine op1_gtr rfl rfl rfl ?_; refine zu ?_; refine zns ?_
    refine wp_dec rfl (fun g2 => ?_) (fun g2 => ?_)
    · refine zsr ?_; refine zw1 ?_; refine zns ?_; refine wp_ret ?_; refine seq_ret ?_; refine block_ret ?_; refine seq_ret ?_; refine iter_ret ?_; refine block_ret ?_; refine seq_ret ?_; refine ret_of ?_; refine zr ?_; refine rk_nil ?_
      exact ⟨⟨_, rfl, fun h => by cases h⟩, S.drop hS⟩
    refine wp_skip ?_; refine seq_normal ?_; refine zsr ?_; refine zf ?_; refine zh (S.g0 hS) ?_; refine wpO_cons ?_; refine op1_len rfl rfl ?_; refine zw1 ?_; refine zns ?_; refine wp_block ?_
    refine wp_loop [26] (fun k vs H' => ∃ j : Nat, vs = [.int .i64 j] ∧ k = x.ns.length - j ∧ j ≤ x.ns.length ∧ (∀ s ∈ x.ns.take j, s.size ≤ 200) ∧ S B H' As) ⟨_, 0, rfl, rfl, by omega, by simp, S.drop hS⟩ ?_
    clear hS hg1
    rintro k vs T2 H2 ⟨j, rfl, rfl, hj, hno2, hS⟩
    refine zsr ?_; refine wpO_cons ?_; refine op1_lss rfl rfl rfl ?_; refine zns ?_; refine wp_seq ?_
    refine wp_dec rfl (fun hlt2 => ?_) (fun hlt2 => ?_)
    · obtain ⟨s, hs⟩ : ∃ s, x.ns[j]? = some s := ⟨x.ns[j]'(by omega), by simp⟩
      obtain ⟨b', off', cs', e', ro', h5, hg, hv⟩ := name_row (hS.rdB hok.nr hok.nl) rfl hs
      obtain ⟨an, han⟩ : ∃ z, z = x.an := ⟨_, rfl⟩
      rw [h5]
      refine wp_skip ?_; refine seq_normal ?_; refine wp_seq ?_; refine wp_block ?_; refine zsr ?_; refine wpO_cons ?_; refine op1_iaddr rfl rfl rfl (by omega) (by omega) ?_; refine wpO_cons ?_
      refine op1_load rfl rfl hg hv ?_
      refine zw1 ?_; refine zns ?_; refine zsr ?_; refine zw1 ?_; refine wpO_cons ?_; refine op1_lenS rfl rfl ?_; refine wpO_cons ?_; refine op1_gtr rfl rfl rfl ?_; refine zns ?_
      refine wp_dec rfl (fun g3 => ?_) (fun g3 => ?_)
      · refine zsr ?_; refine zw1 ?_; refine zns ?_; refine wp_ret ?_; refine block_ret ?_; refine seq_ret ?_; refine iter_ret ?_; refine block_ret ?_; refine block_ret ?_; refine seq_ret ?_; refine iter_ret ?_; refine block_ret ?_; refine seq_ret ?_; refine ret_of ?_; refine zr ?_; refine rk_nil ?_
        exact ⟨⟨_, rfl, fun h => by cases h⟩, hS⟩
      · refine wp_skip ?_; refine block_normal ?_; refine seq_normal ?_; refine wp_region ?_; refine wpO_cons ?_; refine op1_add rfl rfl rfl (by exact wrap_i64 (by omega) (by omega)) ?_; refine zw1 ?_; refine wpO_nil ?_
        refine ⟨x.ns.length - (j + 1), by omega, j + 1, rfl, rfl, by omega, fun s' hs' => ?_, hS⟩
        rw [List.take_add_one, hs] at hs'
        rcases List.mem_append.1 hs' with h | h
        · exact hno2 s' h
        · simp at h; subst h; omega
    · obtain rfl : j = x.ns.length := by omega
      rw [List.take_length] at hno2
      refine wp_exit ?_; refine seq_exit ?_; refine iter_exit ?_; refine block_exit ?_; refine block_normal ?_; refine seq_normal ?_; refine wp_region ?_; refine wpO_cons ?_; refine op1_add rfl rfl rfl (by exact wrap_i64 (by omega) (by omega)) ?_; refine zw1 ?_; refine wpO_nil ?_
      refine ⟨xs.length - (i + 1), by omega, i + 1, rfl, rfl, by omega, fun y hy => ?_, hS⟩
      rw [List.take_add_one, hx] at hy
      rcases List.mem_append.1 hy with h | h
      · exact hno y h
      · simp at h; subst h; exact ⟨by omega, by omega, hno2⟩
  · obtain rfl : i = xs.length := by omega
    rw [List.take_length] at hno
    refine wp_exit ?_; refine seq_exit ?_; refine iter_exit ?_; refine block_exit ?_; refine seq_normal ?_; refine zsr ?_; refine zw1 ?_; refine wpO_cons ?_; refine op1_len rfl rfl ?_; refine wpO_cons ?_; refine op1_leq rfl rfl rfl ?_; refine zw1 ?_; refine zns ?_; refine wp_ret ?_; refine ret_of ?_; refine zr ?_; refine rk_nil ?_
    exact ⟨⟨_, rfl, fun h => ⟨by have := of_decide_eq_true h; omega, hno⟩⟩, hS⟩
theorem L18 {B H : AHeap} {As : List Asn} {d a b n : Int} {cg tp : Bool} {an ad : Option Addr} {cn ld cd : Nat} {ns : List ByteArray} (hns : ns.length ≤ 1000)
    (hd : RD B As 1 (.slice an ns.length cn) (ns.map enS)) (hS : S B H As) :
    wpF C 18 [.agg ⟨[.int .u8 d, .slice an ns.length cn, .int .i64 a, .int .i64 b, .int .i64 n, .bool cg, .bool tp, .slice ad ld cd]⟩] H fun v H' => ∃ a' c', v = .agg ⟨reqC (.slice a' ns.length c') n a cg tp⟩ ∧ S B H' (sl 1 (.slice a' ns.length c') (ns.map enS) :: As) := by
  refine wpF_ofW o18 rfl rfl ?_
  unfold reqC
  refine zsr ?_; refine wpO_cons ?_; refine op1_boxNS rfl rfl rfl hS ?_; intro p1 H1 hS; refine wpO_cons ?_; refine op1_allocS rfl hS ?_; intro p2 H2 hS; refine zns ?_; refine wp_seq ?_; refine wp_regionD ?_; refine wpD_cons ?_; refine op1_bsliceS rfl hS ?_; refine bk_nil ?_; intro p3 H3 hS; refine zg ?_; refine zj (S.g2 hS) ?_; refine zg ?_; refine zj (S.g2 hS) ?_; refine zg ?_; refine zj (S.g2 hS) ?_; refine zg ?_; refine zj (S.g2 hS) ?_; refine zg ?_; refine zj (S.g2 hS) ?_; refine wpD_cons ?_
  replace hS := S.slNew (l := 0) (es := 1) hS rfl
  obtain ⟨r2, hr2, _⟩ := (RD.cons (RD.cons (RD.cons hd))) _ hS
  refine op1_appRS rfl rfl (by (conv => lhs; whnf) <;> rfl) rfl hr2 (by simp) (enS_one _) hS (by omega) ?_
  rw [List.nil_append, Nat.zero_add]
  intro a1 c1 H4 hS
  refine wpD_cons ?_; refine op1_build rfl ?_; refine bk_one (by (conv => lhs; whnf) <;> rfl) rfl rfl rfl ?_; refine bk_one (by (conv => lhs; whnf) <;> rfl) rfl rfl rfl ?_; refine bk_one (by (conv => lhs; whnf) <;> rfl) rfl rfl rfl ?_; refine bk_one (by (conv => lhs; whnf) <;> rfl) rfl rfl rfl ?_; refine bk_one (by (conv => lhs; whnf) <;> rfl) rfl rfl rfl ?_; refine bk_nil ?_; refine wpD_cons ?_; (refine op1_storeNS rfl rfl (by (conv => lhs; whnf) <;> rfl) rfl rfl (S.up1 hS) (Nat.le_of_ble_eq_true rfl) ?_; intro H5 hS; replace hS := S.dn1 hS); refine wpD_nil ?_; refine dk_of ?_ ?_; (iterate 2 refine chk_skip ?_); refine zx 12 ?_ ?_; refine zy 3 ?_ ?_; exact chk_load rfl (by exact S.g2 (by assumption)) rfl rfl; exact chkFs_nil; refine chk_skip ?_; refine zx 10 ?_ ?_; refine zy 3 ?_ ?_; exact chk_load rfl (by exact S.g2 (by assumption)) rfl rfl; refine zy 1 ?_ ?_; exact chk_load rfl (by exact S.g2 (by assumption)) rfl rfl; exact chkFs_nil; refine chk_skip ?_; refine zx 8 ?_ ?_; refine zy 3 ?_ ?_; exact chk_load rfl (by exact S.g2 (by assumption)) rfl rfl; refine zy 1 ?_ ?_; exact chk_load rfl (by exact S.g2 (by assumption)) rfl rfl; exact chkFs_nil; refine chk_skip ?_; refine zx 6 ?_ ?_; refine zy 3 ?_ ?_; exact chk_load rfl (by exact S.g2 (by assumption)) rfl rfl; refine zy 1 ?_ ?_; exact chk_load rfl (by exact S.g2 (by assumption)) rfl rfl; exact chkFs_nil; refine chk_skip ?_; refine zx 4 ?_ ?_; refine zy 3 ?_ ?_; exact chk_load rfl (by exact S.g2 (by assumption)) rfl rfl; refine zy 1 ?_ ?_; exact chk_load rfl (by exact S.g2 (by assumption)) rfl rfl; exact chkFs_nil; (iterate 3 refine chk_skip ?_); exact chk_end; refine seq_normal ?_; refine wp_ret ?_; refine ret_of ?_; refine rk_cellN rfl (by exact S.g1 hS) rfl rfl ?_; refine rk_nil ?_
  exact ⟨a1, c1, rfl, S.drop (S.up1 (S.drop (S.up1 hS)))⟩

end Go.E.Fa
/- The table of frames, plain facts: names; maps of counts. -/
namespace Go.E.Fa
open Go Go.E Go.Proofs.Ytlkgacbholklkaa Go.Proofs
set_option linter.unusedVariables false
set_option linter.unusedSimpArgs false
set_option maxRecDepth 100000
theorem nameIx_at {pls : List Pl} {s : ByteArray} {i : Nat} {p : Pl} (hp : pls[i]? = some p) (hn : p.name = s) (hno : ∀ q ∈ pls.take i, ¬ q.name = s) : nameIx pls s = some i := by
  unfold nameIx
  have hi := (List.getElem?_eq_some_iff.1 hp).1
  rw [List.findIdx?_eq_some_iff_getElem]
  refine ⟨hi, ?_, fun j hj => ?_⟩
  · rw [List.getElem?_eq_getElem hi] at hp
    rw [Option.some.inj hp]
    exact decide_eq_true hn
  · have := hno pls[j] (List.mem_iff_getElem?.2 ⟨j, by rw [List.getElem?_take, if_pos hj]; simp⟩)
    simpa using this
theorem adds_names : ∀ (ps l : List Pl), addsE l ps = 0 → ∀ (j : Nat) p, ps[j]? = some p → ∀ q ∈ l ++ ps.take j, ¬ q.name = p.name
  | [], l, _, j, p, hp, _, _ => by cases hp
  | a :: ps, l, h, j, p, hp, q, hq => by
    rw [addsE] at h
    split at h
    · rename_i h2; exact absurd h h2
    rename_i h2
    cases j with
    | zero =>
      cases hp
      rw [List.take_zero, List.append_nil] at hq
      intro e
      refine h2 ?_
      unfold addEv
      split
      · decide
      split
      · decide
      rw [if_pos]
      · decide
      · rw [kvGet_ix]
        cases hx : nameIx l a.name with
        | some i => rfl
        | none =>
          unfold nameIx at hx
          rw [List.findIdx?_eq_none_iff] at hx
          have := of_decide_eq_false (hx q hq)
          exact absurd e this
    | succ j =>
      refine adds_names ps (l ++ [a]) h j p (by simpa using hp) q ?_
      rw [List.take_succ_cons] at hq
      rw [List.append_assoc]
      exact hq
theorem new_names {pls : List Pl} (h : newE pls = 0) {i : Nat} {p : Pl} (hp : pls[i]? = some p) : nameIx pls p.name = some i := by
  unfold newE at h
  split at h
  · cases h
  split at h
  · cases h
  refine nameIx_at hp rfl fun q hq => adds_names pls [] h i p hp q (by simpa using hq)
/-! ### maps of counts -/
def kvF (ks : List Int) (f : Int → Int) : List (Int × Value) := ks.map fun k => (k, .int .i64 (f k))
theorem kvF_get (ks : List Int) (f : Int → Int) (k : Int) : kvGet (kvF ks f) k = if k ∈ ks then some (.int .i64 (f k)) else none := by
  unfold kvF
  induction ks with
  | nil => rfl
  | cons a l ih =>
    simp only [List.map_cons, kvGet, List.mem_cons, ih]
    by_cases h : k = a
    · subst h; simp
    · simp [h]
theorem kvF_congr {ks : List Int} {f g : Int → Int} (h : ∀ k ∈ ks, f k = g k) : kvF ks f = kvF ks g := by
  unfold kvF
  exact List.map_congr_left fun k hk => by rw [h k hk]
theorem kvF_set {ks : List Int} (hn : ks.Nodup) (f : Int → Int) (k v : Int) : kvSet (kvF ks f) k (.int .i64 v) = kvF (if k ∈ ks then ks else ks ++ [k]) fun x => if x = k then v else f x := by
  induction ks with
  | nil => simp [kvF, kvSet]
  | cons a l ih =>
    obtain ⟨h1, h2⟩ := List.nodup_cons.1 hn
    have ih := ih h2
    by_cases h : k = a
    · subst h
      rw [if_pos (by simp)]
      show kvSet ((k, Value.int .i64 (f k)) :: kvF l f) k _ = (k, Value.int .i64 (if k = k then v else f k)) :: kvF l _
      rw [kvSet, if_pos rfl, if_pos rfl]
      congr 1
      exact kvF_congr fun x hx => by
        show f x = if x = k then v else f x
        rw [if_neg (fun e : x = k => h1 (e ▸ hx))]
    · show kvSet ((a, Value.int .i64 (f a)) :: kvF l f) k _ = _
      rw [kvSet, if_neg h, ih]
      by_cases hm : k ∈ l
      · rw [if_pos hm, if_pos (by simp [hm])]
        show _ = (a, Value.int .i64 (if a = k then v else f a)) :: kvF l _
        rw [if_neg (fun e => h e.symm)]
      · rw [if_neg hm, if_neg (by simp [h, hm])]
        show _ = (a, Value.int .i64 (if a = k then v else f a)) :: kvF (l ++ [k]) _
        rw [if_neg (fun e => h e.symm)]
def posB (x : Int × Value) : Bool := match x.2 with
  | .int _ n => decide (0 < n)
  | _ => false
def posC (l : List (Int × Value)) : Nat := (l.filter posB).length
theorem posC_kvF (ks : List Int) (M : Fm) (h : ∀ k, 0 ≤ M.refs k) : posC (kvF ks M.refs) = cntU M ks := by
  unfold posC cntU kvF
  rw [List.filter_map, List.length_map]
  congr 1
  apply List.filter_congr
  intro k _
  show decide (0 < M.refs k) = decide (M.refs k ≠ 0)
  rw [decide_eq_decide]
  have := h k
  omega
theorem posC_split (l1 l2 : List (Int × Value)) (x : Int × Value) : posC (l1 ++ x :: l2) = posC (l1 ++ l2) + if posB x = true then 1 else 0 := by
  unfold posC
  rw [List.filter_append, List.filter_append, List.length_append, List.length_append]
  cases h : posB x with
  | true => rw [List.filter_cons_of_pos h, List.length_cons]; simp; omega
  | false => rw [List.filter_cons_of_neg (by simp [h])]; simp
end Go.E.Fa
