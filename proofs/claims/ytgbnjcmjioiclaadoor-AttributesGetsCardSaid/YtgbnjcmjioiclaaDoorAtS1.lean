/- Attributes: slices.Equal, few, do. -/
import Derived.Test.YtgbnjcmjioiclaaDoorAtR7
namespace Go.E.At
open Go Go.E Go.Proofs.YtgbnjcmjioiclaaDoor.base Go.Proofs.YtgbnjcmjioiclaaDoor Go.Proofs
set_option linter.unusedVariables false
set_option linter.unusedSimpArgs false
set_option maxRecDepth 100000
theorem L36 {H : AHeap} {v w : Value} {l : List Int} {r1 r2 : List Nat} (hd : RdS H 1 v (i64s l) r1) (hd2 : RdS H 1 w (i64s l) r2) (hl : l.length ≤ 1000000) : wpF C 36 [v, w] H fun u H' => u = .bool true ∧ H = H' := by
  obtain ⟨a, c, rfl⟩ := hd.i1
  obtain ⟨a2, c2, rfl⟩ := hd2.i1
  refine wpF_ofW o36 rfl rfl ?_
  refine zsr ?_; refine zw1 ?_; refine zns ?_; refine wp_seq ?_; refine zsr ?_; refine zw1 ?_; refine wpO_cons ?_; refine op1_len rfl rfl ?_; refine zw1 ?_; refine wpO_cons ?_; refine op1_len rfl rfl ?_; refine wpO_cons ?_; refine op1_neqI_s rfl rfl rfl ?_; refine zns ?_; refine wp_false rfl ?_; refine wp_skip ?_; refine seq_normal ?_; refine wp_seq ?_; refine zsr ?_; refine zw1 ?_; refine wpO_cons ?_; refine op1_len rfl rfl ?_; refine zw1 ?_; refine zns ?_; refine wp_block ?_
  refine wp_loop [13] (fun k vs H' => ∃ i : Nat, vs = [.int .i64 i] ∧ k = l.length - i ∧ i ≤ l.length ∧ H = H') ⟨_, 0, rfl, rfl, by omega, rfl⟩ ?_
  rintro k vs T' H1 ⟨i, rfl, rfl, hi, rfl⟩
  refine zsr ?_; refine wpO_cons ?_; refine op1_lss rfl rfl rfl ?_; refine zns ?_; refine wp_seq ?_
  refine wp_dec rfl (fun hc => ?_) (fun hc => ?_)
  · obtain ⟨b, off, cs, e, ro, v, rfl, _, hg, hv, hx⟩ := hd.at1 (i := i) (by omega)
    obtain ⟨b2, off2, cs2, e2, ro2, v2, rfl, _, hg2, hv2, hx2⟩ := hd2.at1 (i := i) (by omega)
    obtain ⟨y, hy, rfl⟩ := i64s_get hx
    obtain ⟨y2, hy2, rfl⟩ := i64s_get hx2
    rw [hy] at hy2
    cases hy2
    refine wp_skip ?_; refine seq_normal ?_; refine wp_seq ?_; refine wp_block ?_; refine zsr ?_; refine zw1 ?_; refine zw1 ?_; refine zns ?_; refine wp_seq ?_; refine wp_regionD ?_; refine zd1 ?_; refine zd1 ?_; refine wpD_cons ?_; refine op1_iaddr rfl rfl rfl (by omega) (by omega) ?_; refine wpD_cons ?_
    refine op1_load rfl rfl hg hv ?_
    refine zd1 ?_; refine zd1 ?_; refine wpD_cons ?_; refine op1_iaddr rfl rfl rfl (by omega) (by omega) ?_; refine wpD_cons ?_
    refine op1_load rfl rfl hg2 hv2 ?_
    refine wpD_cons ?_; refine op1_neqI_s rfl rfl rfl ?_; refine wpD_nil ?_; refine dk_of ?_ ?_; (iterate 3 refine chk_skip ?_); refine zx 6 ?_ ?_; refine zy 0 ?_ ?_
    · exact chk_load rfl hg hv rfl
    exact chkFs_nil; (iterate 3 refine chk_skip ?_); refine zx 2 ?_ ?_; refine zy 0 ?_ ?_
    · exact chk_load rfl hg2 hv2 rfl
    exact chkFs_nil; refine chk_skip ?_; exact chk_end; refine seq_normal ?_; refine wp_false rfl ?_; refine wp_skip ?_; refine block_normal ?_; refine seq_normal ?_; refine wp_region ?_; refine wpO_cons ?_; refine op1_add rfl rfl rfl (by exact wrap_i64 (by omega) (by omega)) ?_; refine zw1 ?_; refine wpO_nil ?_
    skip
    exact ⟨l.length - (i + 1), by omega, i + 1, rfl, rfl, by omega, rfl⟩
  · refine wp_exit ?_; refine seq_exit ?_; refine iter_exit ?_; refine block_exit ?_; refine seq_normal ?_; refine zsr ?_; refine zw1 ?_; refine zns ?_; refine wp_ret ?_; refine ret_of ?_; refine zr ?_; refine rk_nil ?_
    exact ⟨rfl, rfl⟩
def acR (l : List Ac) : List Value := l.flatMap Ac.cells
theorem ac_len (a : Ac) : a.cells.length = 20 := rfl
structure AcS (B : AHeap) (v : Value) (l : List Ac) (r : List Nat) : Prop where
  rd : RdS B 20 v (acR l) r
  lt : ∀ b ∈ r, b < B.next
  len : l.length ≤ 9223372036854775807
  ok : ∀ a ∈ l, AcN a ∧ ∃ r, CrA B a.cr r
section
variable {B H : AHeap} {As : List Asn} {t : Tb} {p q : Nat}
theorem L48 {a : Ac} (hS : S B H As) : wpF C 48 [.agg ⟨a.cells⟩] H fun v H' => v = .bool (decide (8 < (a.cr.gs.length : Int))) ∧ S B H' As := by
  refine wpF_ofW o48 rfl rfl ?_
  unfold Ac.cells Cr.cells Ob.cells Bk.cells
  simp only [List.cons_append, List.nil_append]
  refine zsr ?_; refine wpO_cons ?_; refine op1_boxNS rfl rfl rfl hS ?_; intro p1 H1 hS; refine zw1 ?_; refine zns ?_; refine zsr ?_; refine zf ?_; refine wpO_cons ?_; refine op1_faddr rfl rfl ?_; refine zh (S.g0 hS) ?_; refine wpO_cons ?_; refine op1_len rfl rfl ?_; refine wpO_cons ?_; refine op1_gtr rfl rfl rfl ?_; refine zw1 ?_; refine zns ?_; refine wp_ret ?_; refine ret_of ?_; refine zr ?_; refine rk_nil ?_
  exact ⟨rfl, S.drop hS⟩
def wide (a : Ac) : Prop := 8 < (a.cr.gs.length : Int)
instance (a : Ac) : Decidable (wide a) := by unfold wide; infer_instance
theorem L72 {v : Value} {l : List Ac} {r : List Nat} (hl : AcS B v l r) (hS : S B H As) : wpF C 72 [v, .func (.func 48) ⟨[]⟩ ⟨[]⟩] H fun u H' => (∃ k : Int, u = .int .i64 k ∧ (0 ≤ k ↔ ∃ a ∈ l, wide a)) ∧ S B H' As := by
  obtain ⟨a, n, c, rfl, hn⟩ := hl.rd.shape
  rw [show (acR l).length = l.length * 20 from fm_len ac_len l] at hn
  obtain rfl : n = l.length := by omega
  have hlen := hl.len
  refine wpF_ofW o72 rfl rfl ?_
  refine zsr ?_; refine zw1 ?_; refine zns ?_; refine wp_seq ?_; refine zsr ?_; refine zw1 ?_; refine wpO_cons ?_; refine op1_len rfl rfl ?_; refine zw1 ?_; refine zns ?_; refine wp_block ?_
  refine wp_loop [8] (fun k vs H' => ∃ i : Nat, vs = [.int .i64 i] ∧ k = l.length - i ∧ i ≤ l.length ∧ (∀ a ∈ l.take i, ¬ wide a) ∧ S B H' As) ⟨_, 0, rfl, rfl, by omega, by simp, hS⟩ ?_
  clear hS
  rintro k vs T' H1 ⟨i, rfl, rfl, hi, hno, hS⟩
  refine zsr ?_; refine wpO_cons ?_; refine op1_lss rfl rfl rfl ?_; refine zns ?_; refine wp_seq ?_
  refine wp_dec rfl (fun hc => ?_) (fun hc => ?_)
  · obtain ⟨y, hy⟩ : ∃ y, l[i]? = some y := ⟨_, List.getElem?_eq_getElem (by omega)⟩
    obtain ⟨b, off, cs, e1, ro, rfl, hg, hle, hrow⟩ := RdS.row (f := Ac.cells) ac_len (hS.rdB hl.rd hl.lt) rfl hy
    refine wp_skip ?_; refine seq_normal ?_; refine wp_seq ?_; refine wp_block ?_; refine zsr ?_; refine zw1 ?_; refine zw1 ?_; refine zns ?_; refine zsr ?_; refine zw1 ?_; refine zw1 ?_; refine zw1 ?_; refine wpO_cons ?_; refine op1_iaddr rfl rfl rfl (by omega) (by omega) ?_; refine wpO_cons ?_
    refine op1_loadN rfl rfl hg (by simp only [Int.toNat_natCast]; omega) (by simp only [Int.toNat_natCast]; exact hrow) ?_
    refine wpO_cons ?_; refine op1_dyn1 rfl rfl (by (conv => lhs; whnf) <;> rfl) ?_
    refine wpF_mono (L48 hS) ?_
    rintro _ H4 ⟨rfl, hS4⟩
    clear hS hg
    have hS := hS4
    clear hS4
    refine zns ?_
    refine wp_dec rfl (fun h2 => ?_) (fun h2 => ?_)
    · refine zsr ?_; refine zw1 ?_; refine zw1 ?_; refine zns ?_; refine wp_ret ?_; refine block_ret ?_; refine seq_ret ?_; refine iter_ret ?_; refine block_ret ?_; refine seq_ret ?_; refine ret_of ?_; refine zr ?_; refine rk_nil ?_
      exact ⟨⟨_, rfl, ⟨fun _ => ⟨y, List.mem_of_getElem? hy, h2⟩, fun _ => by omega⟩⟩, hS⟩
    · refine wp_skip ?_; refine block_normal ?_; refine seq_normal ?_; refine wp_region ?_; refine wpO_cons ?_; refine op1_add rfl rfl rfl (by exact wrap_i64 (by omega) (by omega)) ?_; refine zw1 ?_; refine wpO_nil ?_
      refine ⟨l.length - (i + 1), by omega, i + 1, rfl, rfl, by omega, fun z hz => ?_, hS⟩
      rw [List.take_add_one, hy] at hz
      rcases List.mem_append.1 hz with h | h
      · exact hno z h
      · simp at h
        rw [h]
        exact h2
  · refine wp_exit ?_; refine seq_exit ?_; refine iter_exit ?_; refine block_exit ?_; refine seq_normal ?_; refine zsr ?_; refine zw1 ?_; refine zns ?_; refine wp_ret ?_; refine ret_of ?_; refine zr ?_; refine rk_nil ?_
    rw [List.take_of_length_le (by omega)] at hno
    exact ⟨⟨_, rfl, ⟨fun h => absurd h (by decide), fun ⟨a, h1, h2⟩ => absurd h2 (hno a h1)⟩⟩, hS⟩
theorem L47 {v : Value} {l : List Ac} {r : List Nat} (hl : AcS B v l r) (hS : S B H As) : wpF C 47 [v, .func (.func 48) ⟨[]⟩ ⟨[]⟩] H fun u H' => u = .bool (decide (∃ a ∈ l, wide a)) ∧ S B H' As := by
  refine wpF_ofW o47 rfl rfl ?_
  refine zsr ?_; refine zw1 ?_; refine zns ?_; refine zsr ?_; refine zw1 ?_; refine zw1 ?_; refine wpO_cons ?_; refine op1_call2 rfl (by (conv => lhs; whnf) <;> rfl) (by (conv => lhs; whnf) <;> rfl) ?_
  refine wpF_mono (L72 hl hS) ?_
  rintro _ H4 ⟨⟨k, rfl, hk⟩, hS4⟩
  refine wpO_cons ?_; refine op1_geq rfl rfl rfl ?_; refine zw1 ?_; refine zns ?_; refine wp_ret ?_; refine ret_of ?_; refine zr ?_; refine rk_nil ?_
  exact ⟨by simp only [resultV]; congr 1; exact decide_eq_decide.2 hk, hS4⟩
def fewP (l : List Ac) : Prop := (l.length : Int) ≤ 40 ∧ ¬ ∃ a ∈ l, wide a
instance (l : List Ac) : Decidable (fewP l) := by unfold fewP; infer_instance
theorem L17 {v : Value} {l : List Ac} {r : List Nat} (hl : AcS B v l r) (hS : S B H As) : wpF C 17 [v] H fun u H' => u = .bool (decide (fewP l)) ∧ S B H' As := by
  obtain ⟨a, n, c, rfl, hn⟩ := hl.rd.shape
  rw [show (acR l).length = l.length * 20 from fm_len ac_len l] at hn
  obtain rfl : n = l.length := by omega
  have hlen := hl.len
  refine wpF_ofW o17 rfl rfl ?_
  refine zsr ?_; refine zw1 ?_; refine zns ?_; refine zsr ?_; refine zw1 ?_; refine wpO_cons ?_; refine op1_len rfl rfl ?_; refine wpO_cons ?_; refine op1_leq rfl rfl rfl ?_; refine zw1 ?_; refine wpO_cons ?_
  refine op1_dec rfl (fun h1 => ?_) (fun h1 => ?_)
  · refine op1_mov rfl (by (conv => lhs; whnf) <;> rfl) ?_; refine wpO_cons ?_; refine op1_call2 rfl (by (conv => lhs; whnf) <;> rfl) (by (conv => lhs; whnf) <;> rfl) ?_
    refine wpF_mono (L47 hl hS) ?_
    rintro _ H4 ⟨rfl, hS4⟩
    refine wpO_cons ?_; refine op1_not rfl rfl ?_; refine zt ?_; refine zw1 ?_; refine zns ?_; refine wp_ret ?_; refine ret_of ?_; refine zr ?_; refine rk_nil ?_
    refine ⟨?_, hS4⟩
    simp only [resultV]
    rw [← decide_not]
    exact congrArg Value.bool (decide_eq_decide.2 ⟨fun h => ⟨h1, h⟩, fun h => h.2⟩)
  · refine op1_skip rfl ?_; refine zk ?_; refine zk ?_; refine zu ?_; refine zw1 ?_; refine zns ?_; refine wp_ret ?_; refine ret_of ?_; refine zr ?_; refine rk_nil ?_
    exact ⟨by rw [decide_eq_false (fun h => h1 h.1)]; rfl, hS⟩
theorem L19 {a : Ac} {r : List Nat} (hB : Glob objs B) (ha : AcN a) (hc : CrOk B a.cr r) (ht : TbOk t) (hS : S B H (repP p t :: refP q t :: As)) : wpF C 19 [ptrB p, ptrB q, .agg ⟨a.cells⟩] H fun v H' => v = .bool true ∧ S B H' (repP p (t.act a) :: refP q (t.act a) :: As) := by
  refine wpF_ofW o19 rfl rfl ?_
  have hk := ha.kind
  unfold Ac.cells Cr.cells Ob.cells Bk.cells
  simp only [List.cons_append, List.nil_append]
  refine zsr ?_; refine wpO_cons ?_; refine op1_boxNS rfl rfl rfl hS ?_; intro p1 H1 hS; refine zw1 ?_; refine zns ?_; refine wp_seq ?_; refine zsr ?_; refine zf ?_; refine zh (S.g0 hS) ?_; refine wpO_cons ?_; refine op1_rem rfl rfl rfl (by omega) ?_; refine zns ?_; refine wp_block ?_; refine zsr ?_; refine wpO_cons ?_; refine op1_eqlI rfl rfl rfl ?_; refine zw1 ?_; refine zns ?_
  refine wp_dec rfl (fun h => ?_) (fun h => ?_)
  · have e0 : t.act a = (t.create a.attr).2.2 := by unfold Tb.act; rw [if_pos h]
    rw [e0]
    clear e0
    refine zsr ?_; refine zw1 ?_; refine zf ?_; refine wpO_cons ?_; refine op1_load_6 rfl rfl (by exact S.g0 hS) rfl rfl ?_; refine wpO_cons ?_; refine op1_call2 rfl (by (conv => lhs; whnf) <;> rfl) (by (conv => lhs; whnf) <;> rfl) ?_
    refine wpF_mono (L13 (a := a.attr) ht (S.up1 hS)) ?_
    rintro _ H4 ⟨rfl, hS4⟩
    have hT := hS
    clear hS
    have hS := S.up1 hS4
    clear hS4
    refine zw1 ?_; refine wpO_cons ?_; refine op1_extract rfl rfl rfl ?_; refine wpO_cons ?_; refine op1_extract rfl rfl rfl ?_; refine zw1 ?_; refine zw1 ?_; refine zns ?_; refine zsr ?_; refine zw1 ?_; refine zf ?_; refine wpO_cons ?_; refine op1_load_6 rfl rfl (by exact S.g0 hS) rfl rfl ?_; refine wpO_cons ?_; refine op1_call2 rfl (by (conv => lhs; whnf) <;> rfl) (by (conv => lhs; whnf) <;> rfl) ?_
    refine wpF_mono (L49 (a := a.attr) ht (S.up2 hS)) ?_
    rintro _ H5 ⟨rfl, hS5⟩
    have hT2 := hS
    clear hS
    have hS := S.dn2 hS5
    clear hS5
    refine zw1 ?_; refine wpO_cons ?_; refine op1_extract rfl rfl rfl ?_; refine wpO_cons ?_; refine op1_extract rfl rfl rfl ?_; refine zw1 ?_; refine zw1 ?_; refine zns ?_; refine zsr ?_; refine zw1 ?_; refine zw1 ?_; refine wpO_cons ?_; refine op1_eqlI_s rfl rfl rfl ?_; refine zw1 ?_; refine zw1 ?_; refine zw1 ?_; refine wpO_cons ?_; refine op1_eqlI_s rfl rfl rfl ?_; refine zt ?_; refine zw1 ?_; refine zns ?_; refine wp_ret ?_; refine block_ret ?_; refine seq_ret ?_; refine ret_of ?_; refine zr ?_; refine rk_nil ?_
    exact ⟨rfl, S.drop hS⟩
  refine zsr ?_; refine wpO_cons ?_; refine op1_eqlI rfl rfl rfl ?_; refine zw1 ?_; refine zns ?_
  refine wp_dec rfl (fun h => ?_) (fun h => ?_)
  · have e0 : t.act a = (t.opn a.n a.cr a.blk).2.2 := by unfold Tb.act; rw [if_neg (by assumption), if_pos h]
    rw [e0]
    clear e0
    refine zsr ?_; refine zw1 ?_; refine zf ?_; refine zh (S.g0 hS) ?_; refine zf ?_; refine wpO_cons ?_; refine op1_load_3 rfl rfl (by exact S.g0 hS) rfl rfl ?_; refine zf ?_; refine wpO_cons ?_; refine op1_load_6 rfl rfl (by exact S.g0 hS) rfl rfl ?_; refine wpO_cons ?_; refine op1_call4 rfl (by (conv => lhs; whnf) <;> rfl) (by (conv => lhs; whnf) <;> rfl) (by (conv => lhs; whnf) <;> rfl) (by (conv => lhs; whnf) <;> rfl) ?_
    refine wpF_mono (L14 (o := a.n) (b := a.blk) hB hc ht (S.up1 hS)) ?_
    rintro _ H4 ⟨rfl, hS4⟩
    have hT := hS
    clear hS
    have hS := S.up1 hS4
    clear hS4
    refine zw1 ?_; refine wpO_cons ?_; refine op1_extract rfl rfl rfl ?_; refine wpO_cons ?_; refine op1_extract rfl rfl rfl ?_; refine zw1 ?_; refine zw1 ?_; refine zns ?_; refine zsr ?_; refine zw1 ?_; refine zf ?_; refine zh (S.g0 hS) ?_; refine zf ?_; refine wpO_cons ?_; refine op1_load_3 rfl rfl (by exact S.g0 hS) rfl rfl ?_; refine zf ?_; refine wpO_cons ?_; refine op1_load_6 rfl rfl (by exact S.g0 hS) rfl rfl ?_; refine wpO_cons ?_; refine op1_call4 rfl (by (conv => lhs; whnf) <;> rfl) (by (conv => lhs; whnf) <;> rfl) (by (conv => lhs; whnf) <;> rfl) (by (conv => lhs; whnf) <;> rfl) ?_
    refine wpF_mono (L50 (o := a.n) (b := a.blk) hB hc ht (S.up2 hS)) ?_
    rintro _ H5 ⟨rfl, hS5⟩
    have hT2 := hS
    clear hS
    have hS := S.dn2 hS5
    clear hS5
    refine zw1 ?_; refine wpO_cons ?_; refine op1_extract rfl rfl rfl ?_; refine wpO_cons ?_; refine op1_extract rfl rfl rfl ?_; refine zw1 ?_; refine zw1 ?_; refine zns ?_; refine zsr ?_; refine zw1 ?_; refine zw1 ?_; refine wpO_cons ?_; refine op1_eqlI_s rfl rfl rfl ?_; refine zw1 ?_; refine zw1 ?_; refine zw1 ?_; refine wpO_cons ?_; refine op1_eqlI_s rfl rfl rfl ?_; refine zt ?_; refine zw1 ?_; refine zns ?_; refine wp_ret ?_; refine block_ret ?_; refine seq_ret ?_; refine ret_of ?_; refine zr ?_; refine rk_nil ?_
    exact ⟨rfl, S.drop hS⟩
  refine zsr ?_; refine wpO_cons ?_; refine op1_eqlI rfl rfl rfl ?_; refine zw1 ?_; refine zns ?_
  refine wp_dec rfl (fun h => ?_) (fun h => ?_)
  · have e0 : t.act a = (t.dup a.n).2 := by unfold Tb.act; rw [if_neg (by assumption), if_neg (by assumption), if_pos h]
    rw [e0]
    clear e0
    refine wp_seq ?_; refine wp_regionD ?_; refine zd1 ?_; refine zg ?_; refine zj (S.g0 hS) ?_; refine zd1 ?_; refine zg ?_; refine zj (S.g0 hS) ?_; refine wpD_cons ?_; refine op1_call2 rfl (by (conv => lhs; whnf) <;> rfl) (by (conv => lhs; whnf) <;> rfl) ?_
    refine wpF_mono (L27 (id := a.n) ht (S.up1 hS)) ?_
    rintro _ H4 ⟨rfl, hS4⟩
    have hT := hS
    clear hS
    have hS := S.up1 hS4
    clear hS4
    refine wpD_cons ?_; refine op1_call2 rfl (by (conv => lhs; whnf) <;> rfl) (by (conv => lhs; whnf) <;> rfl) ?_
    refine wpF_mono (L51 (id := a.n) ht (S.up2 hS)) ?_
    rintro _ H5 ⟨rfl, hS5⟩
    have hT2 := hS
    clear hS
    have hS := S.dn2 hS5
    clear hS5
    refine wpD_cons ?_; refine op1_eqlI_s rfl rfl rfl ?_; refine zd1 ?_; refine wpD_nil ?_; refine dk_of ?_ ?_; (iterate 2 refine chk_skip ?_); refine zx 8 ?_ ?_; refine zy 4 ?_ ?_; exact zq (S.g0 hT); exact chkFs_nil; (iterate 2 refine chk_skip ?_); refine zx 5 ?_ ?_; refine zy 4 ?_ ?_; exact zq (S.g0 hT); refine zy 3 ?_ ?_; exact zq (S.g0 hT2); exact chkFs_nil; (iterate 4 refine chk_skip ?_); exact chk_end; refine seq_normal ?_; refine wp_ret ?_; refine block_ret ?_; refine seq_ret ?_; refine ret_of ?_; refine zr ?_; refine rk_nil ?_
    exact ⟨rfl, S.drop hS⟩
  refine zsr ?_; refine wpO_cons ?_; refine op1_eqlI rfl rfl rfl ?_; refine zw1 ?_; refine zns ?_
  refine wp_dec rfl (fun h => ?_) (fun h => ?_)
  · have e0 : t.act a = (t.close a.n).2.2 := by unfold Tb.act; rw [if_neg (by assumption), if_neg (by assumption), if_neg (by assumption), if_pos h]
    rw [e0]
    clear e0
    refine zsr ?_; refine zw1 ?_; refine zf ?_; refine zh (S.g0 hS) ?_; refine wpO_cons ?_; refine op1_call2 rfl (by (conv => lhs; whnf) <;> rfl) (by (conv => lhs; whnf) <;> rfl) ?_
    refine wpF_mono (L23 (id := a.n) ht (S.up1 hS)) ?_
    rintro _ H4 ⟨rfl, hS4⟩
    have hT := hS
    clear hS
    have hS := S.up1 hS4
    clear hS4
    refine zw1 ?_; refine wpO_cons ?_; refine op1_extract rfl rfl rfl ?_; refine wpO_cons ?_; refine op1_extract rfl rfl rfl ?_; refine zw1 ?_; refine zw1 ?_; refine zns ?_; refine zsr ?_; refine zw1 ?_; refine zf ?_; refine zh (S.g0 hS) ?_; refine wpO_cons ?_; refine op1_call2 rfl (by (conv => lhs; whnf) <;> rfl) (by (conv => lhs; whnf) <;> rfl) ?_
    refine wpF_mono (L52 (id := a.n) ht (S.up2 hS)) ?_
    rintro _ H5 ⟨rfl, hS5⟩
    have hT2 := hS
    clear hS
    have hS := S.dn2 hS5
    clear hS5
    refine zw1 ?_; refine wpO_cons ?_; refine op1_extract rfl rfl rfl ?_; refine wpO_cons ?_; refine op1_extract rfl rfl rfl ?_; refine zw1 ?_; refine zw1 ?_; refine zns ?_; refine zsr ?_; refine zw1 ?_; refine zw1 ?_; refine wpO_cons ?_; refine op1_eqlB_s rfl rfl rfl rfl ?_; refine zw1 ?_; refine zw1 ?_; refine zw1 ?_; refine wpO_cons ?_; refine op1_eqlI_s rfl rfl rfl ?_; refine zt ?_; refine zw1 ?_; refine zns ?_; refine wp_ret ?_; refine block_ret ?_; refine seq_ret ?_; refine ret_of ?_; refine zr ?_; refine rk_nil ?_
    exact ⟨rfl, S.drop hS⟩
  refine zsr ?_; refine wpO_cons ?_; refine op1_eqlI rfl rfl rfl ?_; refine zw1 ?_; refine zns ?_
  refine wp_dec rfl (fun h => ?_) (fun h => ?_)
  · have e0 : t.act a = (t.read a.n a.m).2.2.2 := by unfold Tb.act; rw [if_neg (by assumption), if_neg (by assumption), if_neg (by assumption), if_neg (by assumption), if_pos h]
    rw [e0]
    clear e0
    refine zsr ?_; refine zw1 ?_; refine zf ?_; refine zh (S.g0 hS) ?_; refine zf ?_; refine zh (S.g0 hS) ?_; refine wpO_cons ?_; refine op1_call3 rfl (by (conv => lhs; whnf) <;> rfl) (by (conv => lhs; whnf) <;> rfl) (by (conv => lhs; whnf) <;> rfl) ?_
    refine wpF_mono (L24 (id := a.n) ha.m ht (S.up1 hS)) ?_
    rintro _ H4 ⟨rfl, hS4⟩
    have hT := hS
    clear hS
    have hS := S.up1 hS4
    clear hS4
    refine zw1 ?_; refine wpO_cons ?_; refine op1_extract rfl rfl rfl ?_; refine wpO_cons ?_; refine op1_extract rfl rfl rfl ?_; refine wpO_cons ?_; refine op1_extract rfl rfl rfl ?_; refine zw1 ?_; refine zw1 ?_; refine zw1 ?_; refine zns ?_; refine zsr ?_; refine zw1 ?_; refine zf ?_; refine zh (S.g0 hS) ?_; refine zf ?_; refine zh (S.g0 hS) ?_; refine wpO_cons ?_; refine op1_call3 rfl (by (conv => lhs; whnf) <;> rfl) (by (conv => lhs; whnf) <;> rfl) (by (conv => lhs; whnf) <;> rfl) ?_
    refine wpF_mono (L53 (id := a.n) ha.m ht (S.up2 hS)) ?_
    rintro _ H5 ⟨rfl, hS5⟩
    have hT2 := hS
    clear hS
    have hS := S.dn2 hS5
    clear hS5
    refine zw1 ?_; refine wpO_cons ?_; refine op1_extract rfl rfl rfl ?_; refine wpO_cons ?_; refine op1_extract rfl rfl rfl ?_; refine wpO_cons ?_; refine op1_extract rfl rfl rfl ?_; refine zw1 ?_; refine zw1 ?_; refine zw1 ?_; refine zns ?_; refine zsr ?_; refine zw1 ?_; refine zw1 ?_; refine wpO_cons ?_; refine op1_eqlI_s rfl rfl rfl ?_; refine zw1 ?_; refine zw1 ?_; refine zw1 ?_; refine wpO_cons ?_; refine op1_eqlI_s rfl rfl rfl ?_; refine zt ?_; refine zw1 ?_; refine zw1 ?_; refine zw1 ?_; refine wpO_cons ?_; refine op1_eqlI_s rfl rfl rfl ?_; refine zt ?_; refine zw1 ?_; refine zns ?_; refine wp_ret ?_; refine block_ret ?_; refine seq_ret ?_; refine ret_of ?_; refine zr ?_; refine rk_nil ?_
    exact ⟨rfl, S.drop hS⟩
  refine zsr ?_; refine wpO_cons ?_; refine op1_eqlI rfl rfl rfl ?_; refine zw1 ?_; refine zns ?_
  refine wp_dec rfl (fun h => ?_) (fun h => ?_)
  · have e0 : t.act a = (t.write a.n a.m).2.2.2 := by unfold Tb.act; rw [if_neg (by assumption), if_neg (by assumption), if_neg (by assumption), if_neg (by assumption), if_neg (by assumption), if_pos h]
    rw [e0]
    clear e0
    refine zsr ?_; refine zw1 ?_; refine zf ?_; refine zh (S.g0 hS) ?_; refine zf ?_; refine zh (S.g0 hS) ?_; refine wpO_cons ?_; refine op1_call3 rfl (by (conv => lhs; whnf) <;> rfl) (by (conv => lhs; whnf) <;> rfl) (by (conv => lhs; whnf) <;> rfl) ?_
    refine wpF_mono (L15 (id := a.n) ha.m ht (S.up1 hS)) ?_
    rintro _ H4 ⟨rfl, hS4⟩
    have hT := hS
    clear hS
    have hS := S.up1 hS4
    clear hS4
    refine zw1 ?_; refine wpO_cons ?_; refine op1_extract rfl rfl rfl ?_; refine wpO_cons ?_; refine op1_extract rfl rfl rfl ?_; refine wpO_cons ?_; refine op1_extract rfl rfl rfl ?_; refine zw1 ?_; refine zw1 ?_; refine zw1 ?_; refine zns ?_; refine zsr ?_; refine zw1 ?_; refine zf ?_; refine zh (S.g0 hS) ?_; refine zf ?_; refine zh (S.g0 hS) ?_; refine wpO_cons ?_; refine op1_call3 rfl (by (conv => lhs; whnf) <;> rfl) (by (conv => lhs; whnf) <;> rfl) (by (conv => lhs; whnf) <;> rfl) ?_
    refine wpF_mono (L54 (id := a.n) ha.m ht (S.up2 hS)) ?_
    rintro _ H5 ⟨rfl, hS5⟩
    have hT2 := hS
    clear hS
    have hS := S.dn2 hS5
    clear hS5
    refine zw1 ?_; refine wpO_cons ?_; refine op1_extract rfl rfl rfl ?_; refine wpO_cons ?_; refine op1_extract rfl rfl rfl ?_; refine wpO_cons ?_; refine op1_extract rfl rfl rfl ?_; refine zw1 ?_; refine zw1 ?_; refine zw1 ?_; refine zns ?_; refine zsr ?_; refine zw1 ?_; refine zw1 ?_; refine wpO_cons ?_; refine op1_eqlI_s rfl rfl rfl ?_; refine zw1 ?_; refine zw1 ?_; refine zw1 ?_; refine wpO_cons ?_; refine op1_eqlI_s rfl rfl rfl ?_; refine zt ?_; refine zw1 ?_; refine zw1 ?_; refine zw1 ?_; refine wpO_cons ?_; refine op1_eqlI_s rfl rfl rfl ?_; refine zt ?_; refine zw1 ?_; refine zns ?_; refine wp_ret ?_; refine block_ret ?_; refine seq_ret ?_; refine ret_of ?_; refine zr ?_; refine rk_nil ?_
    exact ⟨rfl, S.drop hS⟩
  refine zsr ?_; refine wpO_cons ?_; refine op1_eqlI rfl rfl rfl ?_; refine zw1 ?_; refine zns ?_
  refine wp_dec rfl (fun h => ?_) (fun h => ?_)
  · have e0 : t.act a = (t.seek a.n a.off a.m).2.2 := by unfold Tb.act; rw [if_neg (by assumption), if_neg (by assumption), if_neg (by assumption), if_neg (by assumption), if_neg (by assumption), if_neg (by assumption), if_pos h]
    rw [e0]
    clear e0
    refine zsr ?_; refine zw1 ?_; refine zf ?_; refine zh (S.g0 hS) ?_; refine zf ?_; refine zh (S.g0 hS) ?_; refine zf ?_; refine zh (S.g0 hS) ?_; refine wpO_cons ?_; refine op1_call4 rfl (by (conv => lhs; whnf) <;> rfl) (by (conv => lhs; whnf) <;> rfl) (by (conv => lhs; whnf) <;> rfl) (by (conv => lhs; whnf) <;> rfl) ?_
    refine wpF_mono (L25 (id := a.n) ht (S.up1 hS)) ?_
    rintro _ H4 ⟨rfl, hS4⟩
    have hT := hS
    clear hS
    have hS := S.up1 hS4
    clear hS4
    refine zw1 ?_; refine wpO_cons ?_; refine op1_extract rfl rfl rfl ?_; refine wpO_cons ?_; refine op1_extract rfl rfl rfl ?_; refine zw1 ?_; refine zw1 ?_; refine zns ?_; refine zsr ?_; refine zw1 ?_; refine zf ?_; refine zh (S.g0 hS) ?_; refine zf ?_; refine zh (S.g0 hS) ?_; refine zf ?_; refine zh (S.g0 hS) ?_; refine wpO_cons ?_; refine op1_call4 rfl (by (conv => lhs; whnf) <;> rfl) (by (conv => lhs; whnf) <;> rfl) (by (conv => lhs; whnf) <;> rfl) (by (conv => lhs; whnf) <;> rfl) ?_
    refine wpF_mono (L55 (id := a.n) ha.off ht (S.up2 hS)) ?_
    rintro _ H5 ⟨rfl, hS5⟩
    have hT2 := hS
    clear hS
    have hS := S.dn2 hS5
    clear hS5
    refine zw1 ?_; refine wpO_cons ?_; refine op1_extract rfl rfl rfl ?_; refine wpO_cons ?_; refine op1_extract rfl rfl rfl ?_; refine zw1 ?_; refine zw1 ?_; refine zns ?_; refine zsr ?_; refine zw1 ?_; refine zw1 ?_; refine wpO_cons ?_; refine op1_eqlI_s rfl rfl rfl ?_; refine zw1 ?_; refine zw1 ?_; refine zw1 ?_; refine wpO_cons ?_; refine op1_eqlI_s rfl rfl rfl ?_; refine zt ?_; refine zw1 ?_; refine zns ?_; refine wp_ret ?_; refine block_ret ?_; refine seq_ret ?_; refine ret_of ?_; refine zr ?_; refine rk_nil ?_
    exact ⟨rfl, S.drop hS⟩
  refine zsr ?_; refine wpO_cons ?_; refine op1_eqlI rfl rfl rfl ?_; refine zw1 ?_; refine zns ?_
  refine wp_dec rfl (fun h => ?_) (fun h => ?_)
  · have e0 : t.act a = (t.trunc a.n a.off).2 := by unfold Tb.act; rw [if_neg (by assumption), if_neg (by assumption), if_neg (by assumption), if_neg (by assumption), if_neg (by assumption), if_neg (by assumption), if_neg (by assumption), if_pos h]
    rw [e0]
    clear e0
    refine wp_seq ?_; refine wp_regionD ?_; refine zd1 ?_; refine zg ?_; refine zj (S.g0 hS) ?_; refine zg ?_; refine zj (S.g0 hS) ?_; refine zd1 ?_; refine zg ?_; refine zj (S.g0 hS) ?_; refine zg ?_; refine zj (S.g0 hS) ?_; refine wpD_cons ?_; refine op1_call3 rfl (by (conv => lhs; whnf) <;> rfl) (by (conv => lhs; whnf) <;> rfl) (by (conv => lhs; whnf) <;> rfl) ?_
    refine wpF_mono (L28 (id := a.n) ht (S.up1 hS)) ?_
    rintro _ H4 ⟨rfl, hS4⟩
    have hT := hS
    clear hS
    have hS := S.up1 hS4
    clear hS4
    refine wpD_cons ?_; refine op1_call3 rfl (by (conv => lhs; whnf) <;> rfl) (by (conv => lhs; whnf) <;> rfl) (by (conv => lhs; whnf) <;> rfl) ?_
    refine wpF_mono (L56 (id := a.n) ht (S.up2 hS)) ?_
    rintro _ H5 ⟨rfl, hS5⟩
    have hT2 := hS
    clear hS
    have hS := S.dn2 hS5
    clear hS5
    refine wpD_cons ?_; refine op1_eqlI_s rfl rfl rfl ?_; refine zd1 ?_; refine wpD_nil ?_; refine dk_of ?_ ?_; (iterate 2 refine chk_skip ?_); refine zx 12 ?_ ?_; refine zy 4 ?_ ?_; exact zq (S.g0 hT); exact chkFs_nil; refine chk_skip ?_; refine zx 10 ?_ ?_; refine zy 4 ?_ ?_; exact zq (S.g0 hT); exact chkFs_nil; (iterate 2 refine chk_skip ?_); refine zx 7 ?_ ?_; refine zy 4 ?_ ?_; exact zq (S.g0 hT); refine zy 3 ?_ ?_; exact zq (S.g0 hT2); exact chkFs_nil; refine chk_skip ?_; refine zx 5 ?_ ?_; refine zy 4 ?_ ?_; exact zq (S.g0 hT); refine zy 3 ?_ ?_; exact zq (S.g0 hT2); exact chkFs_nil; (iterate 4 refine chk_skip ?_); exact chk_end; refine seq_normal ?_; refine wp_ret ?_; refine block_ret ?_; refine seq_ret ?_; refine ret_of ?_; refine zr ?_; refine rk_nil ?_
    exact ⟨rfl, S.drop hS⟩
  refine zsr ?_; refine wpO_cons ?_; refine op1_eqlI rfl rfl rfl ?_; refine zw1 ?_; refine zns ?_
  refine wp_dec rfl (fun h => ?_) (fun h => ?_)
  · have e0 : t.act a = (t.chmod a.n a.cr a.m).2 := by unfold Tb.act; rw [if_neg (by assumption), if_neg (by assumption), if_neg (by assumption), if_neg (by assumption), if_neg (by assumption), if_neg (by assumption), if_neg (by assumption), if_neg (by assumption), if_pos h]
    rw [e0]
    clear e0
    refine wp_seq ?_; refine wp_regionD ?_; refine zd1 ?_; refine zg ?_; refine zj (S.g0 hS) ?_; refine zg ?_; refine wpD_cons ?_; refine op1_load_3 rfl rfl (by exact S.g0 hS) rfl rfl ?_; refine zg ?_; refine zj (S.g0 hS) ?_; refine zd1 ?_; refine zg ?_; refine zj (S.g0 hS) ?_; refine zg ?_; refine wpD_cons ?_; refine op1_load_3 rfl rfl (by exact S.g0 hS) rfl rfl ?_; refine zg ?_; refine zj (S.g0 hS) ?_; refine wpD_cons ?_; refine op1_call4 rfl (by (conv => lhs; whnf) <;> rfl) (by (conv => lhs; whnf) <;> rfl) (by (conv => lhs; whnf) <;> rfl) (by (conv => lhs; whnf) <;> rfl) ?_
    refine wpF_mono (L29 (o := a.n) hc ht (S.up1 hS)) ?_
    rintro _ H4 ⟨rfl, hS4⟩
    have hT := hS
    clear hS
    have hS := S.up1 hS4
    clear hS4
    refine wpD_cons ?_; refine op1_call4 rfl (by (conv => lhs; whnf) <;> rfl) (by (conv => lhs; whnf) <;> rfl) (by (conv => lhs; whnf) <;> rfl) (by (conv => lhs; whnf) <;> rfl) ?_
    refine wpF_mono (L57 (o := a.n) hc ht (S.up2 hS)) ?_
    rintro _ H5 ⟨rfl, hS5⟩
    have hT2 := hS
    clear hS
    have hS := S.dn2 hS5
    clear hS5
    refine wpD_cons ?_; refine op1_eqlI_s rfl rfl rfl ?_; refine zd1 ?_; refine wpD_nil ?_; refine dk_of ?_ ?_; (iterate 2 refine chk_skip ?_); refine zx 16 ?_ ?_; refine zy 4 ?_ ?_; exact zq (S.g0 hT); exact chkFs_nil; refine chk_skip ?_; refine zx 14 ?_ ?_; refine zy 4 ?_ ?_; exact chk_loadN rfl (by exact S.g0 hT) rfl rfl rfl; exact chkFs_nil; refine chk_skip ?_; refine zx 12 ?_ ?_; refine zy 4 ?_ ?_; exact zq (S.g0 hT); exact chkFs_nil; (iterate 2 refine chk_skip ?_); refine zx 9 ?_ ?_; refine zy 4 ?_ ?_; exact zq (S.g0 hT); refine zy 3 ?_ ?_; exact zq (S.g0 hT2); exact chkFs_nil; refine chk_skip ?_; refine zx 7 ?_ ?_; refine zy 4 ?_ ?_; exact chk_loadN rfl (by exact S.g0 hT) rfl rfl rfl; refine zy 3 ?_ ?_; exact chk_loadN rfl (by exact S.g0 hT2) rfl rfl rfl; exact chkFs_nil; refine chk_skip ?_; refine zx 5 ?_ ?_; refine zy 4 ?_ ?_; exact zq (S.g0 hT); refine zy 3 ?_ ?_; exact zq (S.g0 hT2); exact chkFs_nil; (iterate 4 refine chk_skip ?_); exact chk_end; refine seq_normal ?_; refine wp_ret ?_; refine block_ret ?_; refine seq_ret ?_; refine ret_of ?_; refine zr ?_; refine rk_nil ?_
    exact ⟨rfl, S.drop hS⟩
  refine zsr ?_; refine wpO_cons ?_; refine op1_eqlI rfl rfl rfl ?_; refine zw1 ?_; refine zns ?_
  refine wp_dec rfl (fun h => ?_) (fun h => ?_)
  · have e0 : t.act a = (t.chown a.n a.cr a.m a.k).2 := by unfold Tb.act; rw [if_neg (by assumption), if_neg (by assumption), if_neg (by assumption), if_neg (by assumption), if_neg (by assumption), if_neg (by assumption), if_neg (by assumption), if_neg (by assumption), if_neg (by assumption), if_pos h]
    rw [e0]
    clear e0
    refine wp_seq ?_; refine wp_regionD ?_; refine zd1 ?_; refine zg ?_; refine zj (S.g0 hS) ?_; refine zg ?_; refine wpD_cons ?_; refine op1_load_3 rfl rfl (by exact S.g0 hS) rfl rfl ?_; refine zg ?_; refine zj (S.g0 hS) ?_; refine zg ?_; refine zj (S.g0 hS) ?_; refine zd1 ?_; refine zg ?_; refine zj (S.g0 hS) ?_; refine zg ?_; refine wpD_cons ?_; refine op1_load_3 rfl rfl (by exact S.g0 hS) rfl rfl ?_; refine zg ?_; refine zj (S.g0 hS) ?_; refine zg ?_; refine zj (S.g0 hS) ?_; refine wpD_cons ?_; refine op1_call5 rfl (by (conv => lhs; whnf) <;> rfl) (by (conv => lhs; whnf) <;> rfl) (by (conv => lhs; whnf) <;> rfl) (by (conv => lhs; whnf) <;> rfl) (by (conv => lhs; whnf) <;> rfl) ?_
    refine wpF_mono (L30 (o := a.n) hc ht (S.up1 hS)) ?_
    rintro _ H4 ⟨rfl, hS4⟩
    have hT := hS
    clear hS
    have hS := S.up1 hS4
    clear hS4
    refine wpD_cons ?_; refine op1_call5 rfl (by (conv => lhs; whnf) <;> rfl) (by (conv => lhs; whnf) <;> rfl) (by (conv => lhs; whnf) <;> rfl) (by (conv => lhs; whnf) <;> rfl) (by (conv => lhs; whnf) <;> rfl) ?_
    refine wpF_mono (L58 (o := a.n) hc ht (S.up2 hS)) ?_
    rintro _ H5 ⟨rfl, hS5⟩
    have hT2 := hS
    clear hS
    have hS := S.dn2 hS5
    clear hS5
    refine wpD_cons ?_; refine op1_eqlI_s rfl rfl rfl ?_; refine zd1 ?_; refine wpD_nil ?_; refine dk_of ?_ ?_; (iterate 2 refine chk_skip ?_); refine zx 20 ?_ ?_; refine zy 4 ?_ ?_; exact zq (S.g0 hT); exact chkFs_nil; refine chk_skip ?_; refine zx 18 ?_ ?_; refine zy 4 ?_ ?_; exact chk_loadN rfl (by exact S.g0 hT) rfl rfl rfl; exact chkFs_nil; refine chk_skip ?_; refine zx 16 ?_ ?_; refine zy 4 ?_ ?_; exact zq (S.g0 hT); exact chkFs_nil; refine chk_skip ?_; refine zx 14 ?_ ?_; refine zy 4 ?_ ?_; exact zq (S.g0 hT); exact chkFs_nil; (iterate 2 refine chk_skip ?_); refine zx 11 ?_ ?_; refine zy 4 ?_ ?_; exact zq (S.g0 hT); refine zy 3 ?_ ?_; exact zq (S.g0 hT2); exact chkFs_nil; refine chk_skip ?_; refine zx 9 ?_ ?_; refine zy 4 ?_ ?_; exact chk_loadN rfl (by exact S.g0 hT) rfl rfl rfl; refine zy 3 ?_ ?_; exact chk_loadN rfl (by exact S.g0 hT2) rfl rfl rfl; exact chkFs_nil; refine chk_skip ?_; refine zx 7 ?_ ?_; refine zy 4 ?_ ?_; exact zq (S.g0 hT); refine zy 3 ?_ ?_; exact zq (S.g0 hT2); exact chkFs_nil; refine chk_skip ?_; refine zx 5 ?_ ?_; refine zy 4 ?_ ?_; exact zq (S.g0 hT); refine zy 3 ?_ ?_; exact zq (S.g0 hT2); exact chkFs_nil; (iterate 4 refine chk_skip ?_); exact chk_end; refine seq_normal ?_; refine wp_ret ?_; refine block_ret ?_; refine seq_ret ?_; refine ret_of ?_; refine zr ?_; refine rk_nil ?_
    exact ⟨rfl, S.drop hS⟩
  refine zsr ?_; refine wpO_cons ?_; refine op1_eqlI rfl rfl rfl ?_; refine zw1 ?_; refine zns ?_
  refine wp_dec rfl (fun h => ?_) (fun h => ?_)
  · have e0 : t.act a = (t.link a.n).2 := by unfold Tb.act; rw [if_neg (by assumption), if_neg (by assumption), if_neg (by assumption), if_neg (by assumption), if_neg (by assumption), if_neg (by assumption), if_neg (by assumption), if_neg (by assumption), if_neg (by assumption), if_neg (by assumption), if_pos h]
    rw [e0]
    clear e0
    refine wp_seq ?_; refine wp_regionD ?_; refine zd1 ?_; refine zg ?_; refine zj (S.g0 hS) ?_; refine zd1 ?_; refine zg ?_; refine zj (S.g0 hS) ?_; refine wpD_cons ?_; refine op1_call2 rfl (by (conv => lhs; whnf) <;> rfl) (by (conv => lhs; whnf) <;> rfl) ?_
    refine wpF_mono (L31 (o := a.n) ht (S.up1 hS)) ?_
    rintro _ H4 ⟨rfl, hS4⟩
    have hT := hS
    clear hS
    have hS := S.up1 hS4
    clear hS4
    refine wpD_cons ?_; refine op1_call2 rfl (by (conv => lhs; whnf) <;> rfl) (by (conv => lhs; whnf) <;> rfl) ?_
    refine wpF_mono (L59 (o := a.n) ht (S.up2 hS)) ?_
    rintro _ H5 ⟨rfl, hS5⟩
    have hT2 := hS
    clear hS
    have hS := S.dn2 hS5
    clear hS5
    refine wpD_cons ?_; refine op1_eqlI_s rfl rfl rfl ?_; refine zd1 ?_; refine wpD_nil ?_; refine dk_of ?_ ?_; (iterate 2 refine chk_skip ?_); refine zx 8 ?_ ?_; refine zy 4 ?_ ?_; exact zq (S.g0 hT); exact chkFs_nil; (iterate 2 refine chk_skip ?_); refine zx 5 ?_ ?_; refine zy 4 ?_ ?_; exact zq (S.g0 hT); refine zy 3 ?_ ?_; exact zq (S.g0 hT2); exact chkFs_nil; (iterate 4 refine chk_skip ?_); exact chk_end; refine seq_normal ?_; refine wp_ret ?_; refine block_ret ?_; refine seq_ret ?_; refine ret_of ?_; refine zr ?_; refine rk_nil ?_
    exact ⟨rfl, S.drop hS⟩
  refine wp_skip ?_; refine block_normal ?_; refine seq_normal ?_; refine zsr ?_; refine zw1 ?_; refine zf ?_; refine zh (S.g0 hS) ?_; refine wpO_cons ?_; refine op1_call2 rfl (by (conv => lhs; whnf) <;> rfl) (by (conv => lhs; whnf) <;> rfl) ?_
  have e0 : t.act a = (t.unlink a.n).2.2 := by unfold Tb.act; rw [if_neg (by assumption), if_neg (by assumption), if_neg (by assumption), if_neg (by assumption), if_neg (by assumption), if_neg (by assumption), if_neg (by assumption), if_neg (by assumption), if_neg (by assumption), if_neg (by assumption), if_neg (by assumption)]
  rw [e0]
  clear e0
  refine wpF_mono (L26 (o := a.n) ht (S.up1 hS)) ?_
  rintro _ H4 ⟨rfl, hS4⟩
  have hT := hS
  clear hS
  have hS := S.up1 hS4
  clear hS4
  refine zw1 ?_; refine wpO_cons ?_; refine op1_extract rfl rfl rfl ?_; refine wpO_cons ?_; refine op1_extract rfl rfl rfl ?_; refine zw1 ?_; refine zw1 ?_; refine zns ?_; refine zsr ?_; refine zw1 ?_; refine zf ?_; refine zh (S.g0 hS) ?_; refine wpO_cons ?_; refine op1_call2 rfl (by (conv => lhs; whnf) <;> rfl) (by (conv => lhs; whnf) <;> rfl) ?_
  refine wpF_mono (L60 (o := a.n) ht (S.up2 hS)) ?_
  rintro _ H5 ⟨rfl, hS5⟩
  have hT2 := hS
  clear hS
  have hS := S.dn2 hS5
  clear hS5
  refine zw1 ?_; refine wpO_cons ?_; refine op1_extract rfl rfl rfl ?_; refine wpO_cons ?_; refine op1_extract rfl rfl rfl ?_; refine zw1 ?_; refine zw1 ?_; refine zns ?_; refine zsr ?_; refine zw1 ?_; refine zw1 ?_; refine wpO_cons ?_; refine op1_eqlB_s rfl rfl rfl rfl ?_; refine zw1 ?_; refine zw1 ?_; refine zw1 ?_; refine wpO_cons ?_; refine op1_eqlI_s rfl rfl rfl ?_; refine zt ?_; refine zw1 ?_; refine zns ?_; refine wp_ret ?_; refine ret_of ?_; refine zr ?_; refine rk_nil ?_
  exact ⟨rfl, S.drop hS⟩
end
end Go.E.At
/- Attributes: state; the laws' arguments. -/
namespace Go.E.At
open Go Go.E Go.Proofs.YtgbnjcmjioiclaaDoor.base Go.Proofs.YtgbnjcmjioiclaaDoor Go.Proofs
set_option linter.unusedVariables false
set_option linter.unusedSimpArgs false
set_option maxRecDepth 100000
abbrev eqOb : EqT := .parts [(0, none, (.basic (.int .i64))), (1, none, (.basic (.int .i64))), (2, none, (.basic (.int .i64))), (3, none, (.basic (.int .i64))), (4, none, (.basic (.int .i64))), (5, none, (.basic .bool))]
abbrev eqBk : EqT := .parts [(0, none, (.basic (.int .i64))), (1, none, (.basic (.int .i64))), (2, none, (.basic (.int .i64))), (3, none, (.basic .bool)), (4, none, (.basic (.int .i64))), (5, none, (.basic (.int .i64)))]
section
variable {C : Callees} {T : FEnv} {H : AHeap} {K : KO} {x y : NOpd} {d : Nat} {g : Option (Nat × Bool)}
theorem op1_eqlOb (u : Ob) (hw : wantedF g T = true) (hx : x.evF T = .agg ⟨u.cells⟩) (hy : y.evF T = .agg ⟨u.cells⟩) (k : K (upd T d (.bool true)) H) : op1 C ⟨some d, .bin .eql eqOb x y, g⟩ T H K := by
  refine op1_val hw ?_ k
  simp only [NOp.sub, eop, ev_subF, hx, hy, binN]
  simp [eqN, eqPart, partN, eqBasic, Ob.cells]
theorem op1_eqlBk (u : Bk) (hw : wantedF g T = true) (hx : x.evF T = .agg ⟨u.cells⟩) (hy : y.evF T = .agg ⟨u.cells⟩) (k : K (upd T d (.bool true)) H) : op1 C ⟨some d, .bin .eql eqBk x y, g⟩ T H K := by
  refine op1_val hw ?_ k
  simp only [NOp.sub, eop, ev_subF, hx, hy, binN]
  simp [eqN, eqPart, partN, eqBasic, Bk.cells]
end
section
variable {B H : AHeap} {As : List Asn} {t : Tb} {p q : Nat}
theorem opens_len (ht : TbOk t) (o : Int) : (t.opens o).length ≤ 200 := by
  unfold Tb.opens
  rw [List.length_map]
  exact Nat.le_trans (List.length_filter_le _ _) ht.bsL
end
open Go.ChangeShapes Go.WideShapes Go.ChangeAt Go.RowKit
theorem ut38 : fieldsOf Tryd.prog 39 = some [(3,0),(3,1),(3,2),(4,3),(2,4),(3,5)] := by kernel_rfl
theorem co39 : Tryd.prog.cellsOf 39 = 6 := by kernel_rfl
theorem ut50 : fieldsOf Tryd.prog 50 = some [(5,0),(3,1),(3,2),(3,3),(2,4),(23,5),(39,11),(26,17)] := by kernel_rfl
theorem co50 : Tryd.prog.cellsOf 50 = 20 := by kernel_rfl
theorem ut45 : Tryd.prog.underlying 45 = some (.slice 50) := by kernel_rfl
theorem ga45 : aggT Tryd.prog 45 = false := by kernel_rfl
theorem bk_of {gs : List AObj} {us : List Value} {n : Nat} (h : OkA Tryd.prog gs (n + 2) 39 us) : ∃ x : Bk, us = x.cells ∧ BkN x := by
  obtain ⟨hl, hf⟩ := h.struct ut38 co39
  match us, hl with
  | [v0, v1, v2, v3, v4, v5], _ =>
    obtain ⟨a0, e0, h0⟩ := (hf (3, 0) (by simp)).i64 ut3
    obtain ⟨a1, e1, h1⟩ := (hf (3, 1) (by simp)).i64 ut3
    obtain ⟨a2, e2, h2⟩ := (hf (3, 2) (by simp)).i64 ut3
    obtain ⟨a3, e3⟩ := (hf (4, 3) (by simp)).bool ut4
    obtain ⟨a4, e4, h4⟩ := (hf (2, 4) (by simp)).i64 ut2
    obtain ⟨a5, e5, h5⟩ := (hf (3, 5) (by simp)).i64 ut3
    simp only [co2, co3, co4, List.drop_zero, List.take_succ_cons, List.take_zero, List.drop_succ_cons] at e0 e1 e2 e3 e4 e5
    cases e0; cases e1; cases e2; cases e3; cases e4; cases e5
    exact ⟨⟨a0, a1, a2, a3, a4, a5⟩, rfl, h0, h1, h2, h4, h5⟩
theorem ac_of {gs : List AObj} {us : List Value} {n : Nat} (h : OkA Tryd.prog gs (n + 4) 50 us) : ∃ x : Ac, us = x.cells ∧ AcN x ∧ ∃ r, CrA (startH gs) x.cr r := by
  obtain ⟨hl, hf⟩ := h.struct ut50 co50
  have hl' : us.length = 20 := hl
  obtain ⟨a0, e0, h0⟩ := (hf (5, 0) (by simp)).u8 ut5
  obtain ⟨a1, e1, h1⟩ := (hf (3, 1) (by simp)).i64 ut3
  obtain ⟨a2, e2, h2⟩ := (hf (3, 2) (by simp)).i64 ut3
  obtain ⟨a3, e3, h3⟩ := (hf (3, 3) (by simp)).i64 ut3
  obtain ⟨a4, e4, h4⟩ := (hf (2, 4) (by simp)).i64 ut2
  obtain ⟨x5, e5, h5⟩ := ob_of (n := n + 1) (hf (23, 5) (by simp))
  obtain ⟨x6, e6, h6⟩ := bk_of (n := n + 1) (hf (39, 11) (by simp))
  obtain ⟨x7, e7, h7⟩ := cr_of (n := n) (hf (26, 17) (by simp))
  simp only [co2, co3, co5, co23, co39, co26] at e0 e1 e2 e3 e4 e5 e6 e7
  refine ⟨⟨a0, a1, a2, a3, a4, x5, x6, x7⟩, ?_, ⟨h0, h1, h2, h3, h4, h5, h6⟩, h7⟩
  unfold Ac.cells
  simp only
  rw [← e5, ← e6, ← e7]
  match us, hl' with
  | [v0, v1, v2, v3, v4, v5, v6, v7, v8, v9, v10, v11, v12, v13, v14, v15, v16, v17, v18, v19], _ =>
    simp only [List.drop_zero, List.take_succ_cons, List.take_zero, List.drop_succ_cons] at e0 e1 e2 e3 e4
    cases e0; cases e1; cases e2; cases e3; cases e4
    rfl
theorem arg_acs {gs : List AObj} {n : Nat} {a : Value} (h : ∃ cells, a = argV Tryd.prog 45 cells ∧ OkA Tryd.prog gs (n + 5) 45 cells) : ∃ l r, AcS (startH gs) a l r := by
  obtain ⟨cells, rfl, h⟩ := h
  obtain ⟨d, l, c, r, rfl, h1, h2, h3, h4⟩ := h.slice (X := Ac) (f := Ac.cells) (Q := fun x => AcN x ∧ ∃ r, CrA (startH gs) x.cr r) ut45 co50 ac_len (fun us h => ac_of h)
  exact ⟨l, r, by unfold argV; rw [ga45]; exact h2, h3, h1, h4⟩
end Go.E.At
/- Attributes: the laws Plays, Gets, Shares. -/
namespace Go.E.At
open Go Go.E Go.Proofs.YtgbnjcmjioiclaaDoor.base Go.Proofs.YtgbnjcmjioiclaaDoor Go.Proofs
set_option linter.unusedVariables false
set_option linter.unusedSimpArgs false
set_option maxRecDepth 100000
section
variable {B : AHeap}
theorem L7 {v : Value} {l : List Ac} {r : List Nat} {n m : Int} (hB : Glob objs B) (hl : AcS B v l r) : wpF C 7 [v, .int .i64 n, .int .i64 m] B fun v _ => v = .bool true := by
  have hS := S.start B
  obtain ⟨a, n0, c, rfl, hn⟩ := hl.rd.shape
  rw [show (acR l).length = l.length * 20 from fm_len ac_len l] at hn
  obtain rfl : n0 = l.length := by omega
  have hlen := hl.len
  refine wpF_ofW o7 rfl rfl ?_
  refine zsr ?_; refine zw1 ?_; refine zns ?_; refine wp_seq ?_; refine zsr ?_; refine zw1 ?_; refine wpO_cons ?_; refine op1_call1 rfl (by (conv => lhs; whnf) <;> rfl) ?_
  refine wpF_mono (L17 hl hS) ?_
  rintro _ H1 ⟨rfl, hS1⟩
  clear hS
  have hS := hS1
  clear hS1
  by_cases hf : fewP l
  case neg =>
    rw [decide_eq_false hf]
    refine wpO_cons ?_; refine op1_not_f rfl rfl ?_; refine zw1 ?_; refine zk ?_; refine zk ?_; refine zt ?_; refine zns ?_; refine wp_true rfl ?_; refine zsr ?_; refine wpO_cons ?_; refine op1_call0 rfl  ?_; refine wpF_known rfl (glob_of hB hS) ?_; refine zw1 ?_; refine zns ?_; refine wp_ret ?_; refine seq_ret ?_; refine ret_of ?_; refine zr ?_; refine rk_nil ?_
    rfl
  rw [decide_eq_true hf]
  refine wpO_cons ?_; refine op1_not_t rfl rfl ?_; refine zw1 ?_; refine wpO_cons ?_; refine op1_call0 rfl  ?_; refine wpF_known rfl (glob_of hB hS) ?_; refine wpO_cons ?_; refine op1_not_t rfl rfl ?_; refine zu ?_; refine zns ?_; refine wp_false rfl ?_; refine wp_skip ?_; refine seq_normal ?_; refine zsr ?_; refine wpO_cons ?_; refine op1_call0 rfl  ?_
  refine wpF_mono (L12 hS) ?_
  rintro _ H2 ⟨p, rfl, hS2⟩
  clear hS
  have hS := hS2
  clear hS2
  refine wpO_cons ?_; refine op1_call0 rfl  ?_
  refine wpF_mono (L18 hS) ?_
  rintro _ H3 ⟨q, rfl, hS3⟩
  clear hS
  have hS := S.up1 hS3
  clear hS3
  have hl40 := hf.1
  refine zw1 ?_; refine zw1 ?_; refine zns ?_; refine wp_seq ?_; refine zsr ?_; refine zw1 ?_; refine wpO_cons ?_; refine op1_len rfl rfl ?_; refine zw1 ?_; refine zns ?_; refine wp_block ?_
  refine wp_loop [31] (fun k vs H' => ∃ (i : Nat) (t : Tb), vs = [.int .i64 i] ∧ k = l.length - i ∧ i ≤ l.length ∧ Kp i t ∧ S B H' [repP p t, refP q t]) ⟨_, 0, _, rfl, rfl, by omega, kp0, hS⟩ ?_
  clear hS
  rintro k vs T' H1 ⟨i, t, rfl, rfl, hi, hk, hS⟩
  refine zsr ?_; refine wpO_cons ?_; refine op1_lss rfl rfl rfl ?_; refine zns ?_; refine wp_seq ?_
  refine wp_dec rfl (fun hc => ?_) (fun hc => ?_)
  · obtain ⟨y, hy⟩ : ∃ y, l[i]? = some y := ⟨_, List.getElem?_eq_getElem (by omega)⟩
    obtain ⟨b, off, cs, e1, ro, rfl, hg, hle, hrow⟩ := RdS.row (f := Ac.cells) ac_len (hS.rdB hl.rd hl.lt) rfl hy
    obtain ⟨hyn, r2, hyc⟩ := hl.ok y (List.mem_of_getElem? hy)
    have hyw : ¬ wide y := fun h => hf.2 ⟨y, List.mem_of_getElem? hy, h⟩
    unfold wide at hyw
    refine wp_skip ?_; refine seq_normal ?_; refine wp_seq ?_; refine wp_block ?_; refine zsr ?_; refine wpO_cons ?_; refine op1_iaddr rfl rfl rfl (by omega) (by omega) ?_; refine wpO_cons ?_
    refine op1_loadN rfl rfl hg (by simp only [Int.toNat_natCast]; omega) (by simp only [Int.toNat_natCast]; exact hrow) ?_
    unfold Ac.cells Ob.cells Bk.cells Cr.cells
    simp only [List.cons_append, List.nil_append]
    refine wpO_cons ?_; refine op1_allocS rfl hS ?_; intro p1 H4 hS; refine wpO_cons ?_; (refine op1_storeNS rfl rfl (by (conv => lhs; whnf) <;> rfl) rfl rfl (S.up0 hS) (Nat.le_of_ble_eq_true rfl) ?_; intro H5 hS; replace hS := S.dn0 hS); refine zns ?_; refine wp_region ?_; refine zw1 ?_; refine zw1 ?_; refine wpO_cons ?_
    refine op1_loadN (vs := y.cells) rfl rfl hS.get (Nat.le_of_ble_eq_true rfl) rfl ?_
    refine wpO_cons ?_; refine op1_call3 rfl (by (conv => lhs; whnf) <;> rfl) (by (conv => lhs; whnf) <;> rfl) (by (conv => lhs; whnf) <;> rfl) ?_
    refine wpF_mono (L19 hB hyn (hyc.ok (by omega)) hk.ok (S.dn2 hS)) ?_
    rintro _ H4 ⟨rfl, hS4⟩
    clear hS hg
    have hS := hS4
    clear hS4
    refine wpO_nil ?_; refine block_normal ?_; refine seq_normal ?_; refine wp_region ?_; refine wpO_cons ?_; refine op1_add rfl rfl rfl (by exact wrap_i64 (by omega) (by omega)) ?_; refine zw1 ?_; refine wpO_nil ?_
    exact iter_normal ⟨l.length - (i + 1), by omega, i + 1, t.act y, rfl, rfl, by omega, hk.act (by omega) hyn, S.drop (S.up2 hS)⟩
  refine wp_exit ?_; refine seq_exit ?_; refine iter_exit ?_; refine block_exit ?_; refine seq_normal ?_; refine zsr ?_; refine zw1 ?_; refine zw1 ?_; refine wpO_cons ?_; refine op1_call2 rfl (by (conv => lhs; whnf) <;> rfl) (by (conv => lhs; whnf) <;> rfl) ?_
  refine wpF_mono (L16 (o := n) hS) ?_
  rintro _ H4 ⟨rfl, hS4⟩
  clear hS
  have hS := hS4
  clear hS4
  obtain ⟨x, hx⟩ : ∃ x, x = (t.attr n).1 := ⟨_, rfl⟩
  rw [← hx]
  unfold Ob.cells
  refine zw1 ?_; refine wpO_cons ?_; refine op1_extract rfl rfl rfl ?_; refine wpO_cons ?_; refine op1_extract rfl rfl rfl ?_; refine wpO_cons ?_; refine op1_allocS rfl hS ?_; intro p1 H5 hS; refine wpO_cons ?_; (refine op1_storeNS rfl rfl (by (conv => lhs; whnf) <;> rfl) rfl rfl (S.up0 hS) (Nat.le_of_ble_eq_true rfl) ?_; intro H6 hS; replace hS := S.dn0 hS); refine zw1 ?_; refine zns ?_; refine zsr ?_; refine zw1 ?_; refine zw1 ?_; refine wpO_cons ?_; refine op1_call2 rfl (by (conv => lhs; whnf) <;> rfl) (by (conv => lhs; whnf) <;> rfl) ?_
  refine wpF_mono (L34 (o := n) hk.ok (S.up2 hS)) ?_
  rintro _ H5 ⟨rfl, hS5⟩
  clear hS
  have hS := hS5
  clear hS5
  rw [← hx]
  unfold Ob.cells
  refine zw1 ?_; refine wpO_cons ?_; refine op1_extract rfl rfl rfl ?_; refine wpO_cons ?_; refine op1_extract rfl rfl rfl ?_; refine wpO_cons ?_; refine op1_allocS rfl hS ?_; intro p2 H7 hS; refine wpO_cons ?_; (refine op1_storeNS rfl rfl (by (conv => lhs; whnf) <;> rfl) rfl rfl (S.up0 hS) (Nat.le_of_ble_eq_true rfl) ?_; intro H8 hS; replace hS := S.dn0 hS); refine zw1 ?_; refine zns ?_; refine zsr ?_; refine zw1 ?_; refine zw1 ?_; refine wpO_cons ?_; refine op1_call2 rfl (by (conv => lhs; whnf) <;> rfl) (by (conv => lhs; whnf) <;> rfl) ?_
  refine wpF_mono (L22 (id := m) hk.ok (S.up3 hS)) ?_
  rintro _ H6 ⟨rfl, hS6⟩
  clear hS
  have hS := hS6
  clear hS6
  obtain ⟨y, hy⟩ : ∃ y, y = (t.blk m).1 := ⟨_, rfl⟩
  rw [← hy]
  unfold Bk.cells
  refine zw1 ?_; refine wpO_cons ?_; refine op1_extract rfl rfl rfl ?_; refine wpO_cons ?_; refine op1_extract rfl rfl rfl ?_; refine wpO_cons ?_; refine op1_allocS rfl hS ?_; intro p3 H9 hS; refine wpO_cons ?_; (refine op1_storeNS rfl rfl (by (conv => lhs; whnf) <;> rfl) rfl rfl (S.up0 hS) (Nat.le_of_ble_eq_true rfl) ?_; intro H10 hS; replace hS := S.dn0 hS); refine zw1 ?_; refine zns ?_; refine zsr ?_; refine zw1 ?_; refine zw1 ?_; refine wpO_cons ?_; refine op1_call2 rfl (by (conv => lhs; whnf) <;> rfl) (by (conv => lhs; whnf) <;> rfl) ?_
  refine wpF_mono (L35 (id := m) hk.ok (S.up3 hS)) ?_
  rintro _ H7 ⟨rfl, hS7⟩
  clear hS
  have hS := hS7
  clear hS7
  rw [← hy]
  unfold Bk.cells
  refine zw1 ?_; refine wpO_cons ?_; refine op1_extract rfl rfl rfl ?_; refine wpO_cons ?_; refine op1_extract rfl rfl rfl ?_; refine wpO_cons ?_; refine op1_allocS rfl hS ?_; intro p4 H11 hS; refine wpO_cons ?_; (refine op1_storeNS rfl rfl (by (conv => lhs; whnf) <;> rfl) rfl rfl (S.up0 hS) (Nat.le_of_ble_eq_true rfl) ?_; intro H12 hS; replace hS := S.dn0 hS); refine zw1 ?_; refine zns ?_; refine zsr ?_; refine wpO_cons ?_; refine op1_load_6 rfl rfl (by exact S.g5 hS) rfl rfl ?_; refine wpO_cons ?_; refine op1_load_6 rfl rfl (by exact S.g4 hS) rfl rfl ?_; refine wpO_cons ?_
  refine op1_eqlOb x rfl rfl rfl ?_
  refine zw1 ?_; refine zw1 ?_; refine zw1 ?_; refine wpO_cons ?_; refine op1_eqlI_s rfl rfl rfl ?_; refine zt ?_; refine zw1 ?_; refine wpO_cons ?_; refine op1_load_6 rfl rfl (by exact S.g2 hS) rfl rfl ?_; refine wpO_cons ?_; refine op1_load_6 rfl rfl (by exact S.g0 hS) rfl rfl ?_; refine wpO_cons ?_
  refine op1_eqlBk y rfl rfl rfl ?_
  refine zt ?_; refine zw1 ?_; refine zw1 ?_; refine zw1 ?_; refine wpO_cons ?_; refine op1_eqlI_s rfl rfl rfl ?_; refine zt ?_; refine zw1 ?_; refine zw1 ?_; refine zw1 ?_; refine wpO_cons ?_; refine op1_call2 rfl (by (conv => lhs; whnf) <;> rfl) (by (conv => lhs; whnf) <;> rfl) ?_
  refine wpF_mono (L21 (o := n) hk.ok (S.up3 hS)) ?_
  rintro v5 H8 hS8
  clear hS
  have hS := hS8
  clear hS8
  refine zw1 ?_; refine zw1 ?_; refine wpO_cons ?_; refine op1_call2 rfl (by (conv => lhs; whnf) <;> rfl) (by (conv => lhs; whnf) <;> rfl) ?_
  refine wpF_mono (L37 (o := n) hk.ok (S.up3 hS)) ?_
  rintro v6 H9 hS9
  clear hS
  have hS := hS9
  clear hS9
  obtain ⟨r6, hr6, _⟩ := S.rd hS
  obtain ⟨r5, hr5, _⟩ := S.rd (S.up2 hS)
  have hpl := opens_len hk.ok n
  refine wpO_cons ?_; refine op1_call2 rfl (by (conv => lhs; whnf) <;> rfl) (by (conv => lhs; whnf) <;> rfl) ?_
  refine wpF_mono (L36 hr5 hr6 (by omega)) ?_
  rintro _ H10 ⟨rfl, rfl⟩
  refine zt ?_; refine zw1 ?_; refine zns ?_; refine wp_ret ?_; refine ret_of ?_; refine zr ?_; refine rk_nil ?_
  rfl
end
end Go.E.At
