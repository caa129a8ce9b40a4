/- Streams: bytes that are cloned and compared; ports. -/
import Derived.Test.YtamcfhhcmjagnaaStCode
import Derived.Test.YtamcfhhcmjagnaaEhZk
namespace Go.E.St
open Go Go.E Go.Proofs.Ytamcfhhcmjagnaa Go.Proofs
set_option linter.unusedVariables false
set_option linter.unusedSimpArgs false
set_option maxRecDepth 100000
theorem L45 {B H : AHeap} {As : List Asn} {v : Value} {d : List Int} (hd : RD B As 1 v (u8s d)) (hS : S B H As) (hl : d.length ≤ 1000000) : wpF C 45 [v] H fun v' H' => S B H' (sl 1 v' (u8s d) :: As) := by
  obtain ⟨a, c, rfl⟩ := hd.u1 hS
  obtain ⟨r, hr, _⟩ := hd H hS
  refine wpF_ofW o45 rfl rfl ?_
  cases a with
  | none =>
    have hd0 : d = [] := by
      generalize hx : u8s d = xs at hr
      generalize hn : d.length = n at hr
      cases hr
      simpa [u8s] using hx
    subst hd0
    refine zsr ?_; refine zw1 ?_; refine zns ?_; refine wp_seq ?_; refine zsr ?_; refine zw1 ?_; refine wpO_cons ?_; refine op1_bin_true rfl (by (conv => lhs; whnf) <;> rfl) (by (conv => lhs; whnf) <;> rfl) rfl ?_; refine zns ?_; refine wp_true rfl ?_; refine zsr ?_; refine zw1 ?_; refine zns ?_; refine wp_ret ?_; refine seq_ret ?_; refine ret_of ?_; refine rk_tmp (by (conv => lhs; whnf) <;> rfl) ?_; refine rk_nil ?_
    exact hS.slNil
  | some a =>
    refine zsr ?_; refine zw1 ?_; refine zns ?_; refine wp_seq ?_; refine zsr ?_; refine zw1 ?_; refine wpO_cons ?_; refine op1_bin_false rfl (by (conv => lhs; whnf) <;> rfl) (by (conv => lhs; whnf) <;> rfl) rfl ?_; refine zns ?_; refine wp_false rfl ?_; refine wp_skip ?_; refine seq_normal ?_; refine zsr ?_; refine wpO_cons ?_; refine op1_bsliceS rfl hS ?_; refine bk_nil ?_; intro p1 H1 hS; refine zw1 ?_; refine wpO_cons ?_
    replace hS := S.slNew (l := 0) (es := 1) hS rfl
    obtain ⟨r2, hr2, _⟩ := hd _ hS.drop
    refine op1_appRS rfl rfl (by (conv => lhs; whnf) <;> rfl) rfl hr2 (by simp) (u8s_one _) hS (by omega) ?_
    rw [List.nil_append, Nat.zero_add]
    intro a1 c1 H2 hS
    refine zw1 ?_; refine zns ?_; refine wp_ret ?_; refine ret_of ?_; refine rk_tmp (by (conv => lhs; whnf) <;> rfl) ?_; refine rk_nil ?_
    exact hS
theorem u8s_get {l : List Int} {i : Nat} {v : Value} (h : (u8s l)[i]? = some v) : ∃ x, l[i]? = some x ∧ v = .int .u8 x := by
  unfold u8s at h
  rw [List.getElem?_map, Option.map_eq_some_iff] at h
  obtain ⟨x, hx, rfl⟩ := h
  exact ⟨x, hx, rfl⟩
theorem L22 {H : AHeap} {u v : Value} {l m : List Int} {r s : List Nat} (hd : RdS H 1 u (u8s l) r) (hl : l.length ≤ 1000000) (he : RdS H 1 v (u8s m) s) (hm : m.length ≤ 1000000) : wpF C 22 [u, v] H fun w H' => w = .bool (decide (l = m)) ∧ H = H' := by
  obtain ⟨a, c, rfl⟩ := hd.shape1
  obtain ⟨b, d, rfl⟩ := he.shape1
  rw [u8s_length] at hd he ⊢
  rw [u8s_length]
  refine wpF_ofW o22 rfl rfl ?_
  refine zsr ?_; refine zw1 ?_; refine zns ?_; refine wp_seq ?_; refine zsr ?_; refine zw1 ?_; refine wpO_cons ?_; refine op1_len rfl rfl ?_; refine zw1 ?_; refine wpO_cons ?_; refine op1_len rfl rfl ?_; refine wpO_cons ?_; refine op1_neqI rfl rfl rfl ?_; refine zns ?_
  refine wp_ndec rfl (fun hne => ?_) (fun hne => ?_)
  · refine zsr ?_; refine zw1 ?_; refine zns ?_; refine wp_ret ?_; refine seq_ret ?_; refine ret_of ?_; refine rk_tmp (by (conv => lhs; whnf) <;> rfl) ?_; refine rk_nil ?_
    refine ⟨?_, rfl⟩
    rw [decide_eq_false (fun h => hne (by rw [h]))]; rfl
  refine wp_skip ?_; refine seq_normal ?_; refine wp_seq ?_; refine zsr ?_; refine zw1 ?_; refine wpO_cons ?_; refine op1_len rfl rfl ?_; refine zw1 ?_; refine zns ?_; refine wp_block ?_
  have hlm : l.length = m.length := by omega
  refine wp_loop [13] (fun k vs H' => ∃ i : Nat, vs = [.int .i64 i] ∧ k = l.length - i ∧ i ≤ l.length ∧ H = H' ∧ l.take i = m.take i) ⟨_, 0, rfl, rfl, by omega, rfl, by simp⟩ ?_
  rintro k vs T' H1 ⟨i, rfl, rfl, hi, rfl, hno⟩
  refine zsr ?_; refine wpO_cons ?_; refine op1_lss rfl rfl rfl ?_; refine zns ?_; refine wp_seq ?_
  refine wp_dec rfl (fun hc => ?_) (fun hc => ?_)
  · obtain ⟨b1, off1, cs1, e1, ro1, v1, rfl, _, hg1, hv1, hx1⟩ := hd.at1 (i := i) (by omega)
    obtain ⟨x, hx, rfl⟩ := u8s_get hx1
    obtain ⟨b2, off2, cs2, e2, ro2, v2, rfl, _, hg2, hv2, hx2⟩ := he.at1 (i := i) (by omega)
    obtain ⟨y, hy, rfl⟩ := u8s_get hx2
    refine wp_skip ?_; refine seq_normal ?_; refine wp_seq ?_; refine wp_block ?_; refine zsr ?_; refine zw1 ?_; refine zw1 ?_; refine zns ?_; refine wp_seq ?_; refine wp_regionD ?_; refine zd1 ?_; refine zd1 ?_; refine wpD_cons ?_; refine op1_iaddr rfl rfl rfl (by omega) (by omega) ?_; refine wpD_cons ?_
    refine op1_load rfl rfl hg1 hv1 ?_
    refine zd1 ?_; refine zd1 ?_; refine wpD_cons ?_; refine op1_iaddr rfl rfl rfl (by omega) (by omega) ?_; refine wpD_cons ?_
    refine op1_load rfl rfl hg2 hv2 ?_
    refine wpD_cons ?_; refine op1_neqI rfl rfl rfl ?_; refine wpD_nil ?_; refine dk_of ?_ ?_; (iterate 3 refine chk_skip ?_); refine chk_cons 6 rfl rfl rfl ?_ ?_; refine chkFs_cons 0 rfl rfl ?_ ?_
    · exact chk_load rfl hg1 hv1 rfl
    exact chkFs_nil; (iterate 3 refine chk_skip ?_); refine chk_cons 2 rfl rfl rfl ?_ ?_; refine chkFs_cons 0 rfl rfl ?_ ?_
    · exact chk_load rfl hg2 hv2 rfl
    exact chkFs_nil; refine chk_skip ?_; exact chk_end; refine seq_normal ?_
    refine wp_ndec rfl (fun hxy => ?_) (fun hxy => ?_)
    · refine zsr ?_; refine zw1 ?_; refine zns ?_; refine wp_ret ?_; refine block_ret ?_; refine seq_ret ?_; refine iter_ret ?_; refine block_ret ?_; refine seq_ret ?_; refine ret_of ?_; refine rk_tmp (by (conv => lhs; whnf) <;> rfl) ?_; refine rk_nil ?_
      refine ⟨?_, rfl⟩
      rw [decide_eq_false (fun h => hxy ?_)]; rfl
      rw [h, hy] at hx
      exact (Option.some.inj hx).symm
    · refine wp_skip ?_; refine block_normal ?_; refine seq_normal ?_; refine wp_region ?_; refine wpO_cons ?_; refine op1_add rfl rfl rfl (by exact wrap_i64 (by omega) (by omega)) ?_; refine zw1 ?_; refine wpO_nil ?_
      refine ⟨l.length - (i + 1), by omega, i + 1, rfl, rfl, by omega, rfl, ?_⟩
      rw [List.take_add_one, List.take_add_one, hx, hy, hno, hxy]
  · refine wp_exit ?_; refine seq_exit ?_; refine iter_exit ?_; refine block_exit ?_; refine seq_normal ?_; refine zsr ?_; refine zw1 ?_; refine zns ?_; refine wp_ret ?_; refine ret_of ?_; refine rk_tmp (by (conv => lhs; whnf) <;> rfl) ?_; refine rk_nil ?_
    rw [List.take_of_length_le (by omega), List.take_of_length_le (by omega)] at hno
    exact ⟨by rw [decide_eq_true hno]; rfl, rfl⟩
theorem L44 {H : AHeap} {n : Int} : wpF C 44 [.int .i64 n] H fun v H' => v = .bool (decide (0 ≤ n ∧ n ≤ 65535)) ∧ H = H' := by
  refine wpF_ofW o44 rfl rfl ?_
  refine zsr ?_; refine zw1 ?_; refine zns ?_; refine zsr ?_; refine zw1 ?_; refine wpO_cons ?_; refine op1_geq rfl rfl rfl ?_; refine zw1 ?_; refine wpO_cons ?_
  refine op1_dec rfl (fun h1 => ?_) (fun h1 => ?_)
  · refine op1_mov rfl (by (conv => lhs; whnf) <;> rfl) ?_; refine wpO_cons ?_; refine op1_leq rfl rfl rfl ?_; refine wpO_cons ?_; refine op1_pick_t rfl rfl (by (conv => lhs; whnf) <;> rfl) ?_; refine zw1 ?_; refine zns ?_; refine wp_ret ?_; refine ret_of ?_; refine rk_tmp (by (conv => lhs; whnf) <;> rfl) ?_; refine rk_nil ?_
    refine ⟨?_, rfl⟩
    show Value.bool _ = _
    congr 1
    rw [decide_eq_decide]; omega
  · refine op1_skip rfl ?_; refine wpO_cons ?_; refine op1_skip rfl ?_; refine wpO_cons ?_; refine op1_pick_f rfl rfl (by (conv => lhs; whnf) <;> rfl) ?_; refine zw1 ?_; refine zns ?_; refine wp_ret ?_; refine ret_of ?_; refine rk_tmp (by (conv => lhs; whnf) <;> rfl) ?_; refine rk_nil ?_
    refine ⟨?_, rfl⟩
    rw [decide_eq_false (by omega)]; rfl

/-! ### ports -/
structure Dg where
  fr : Int
  to : Int
  data : List Int
def dgA (d : Dg) (cs : List Value) : Asn := exA fun vd => seps [sl 1 vd (u8s d.data), pur (cs = [.int .i64 d.fr, .int .i64 d.to, vd])]
theorem dgA_of {B H : AHeap} {As : List Asn} {w : Dg} {vd : Value} (hS : S B H (sl 1 vd (u8s w.data) :: As)) : S B H (dgA w [.int .i64 w.fr, .int .i64 w.to, vd] :: As) :=
  S.exI vd (S.seps (S.up1 (S.pur rfl hS)))
theorem dgA_un {B H : AHeap} {As : List Asn} {w : Dg} {cs : List Value} (hS : S B H (dgA w cs :: As)) : ∃ vd, cs = [.int .i64 w.fr, .int .i64 w.to, vd] ∧ S B H (sl 1 vd (u8s w.data) :: As) := by
  obtain ⟨vd, h⟩ := S.unex hS
  obtain ⟨h1, h⟩ := S.unpur (S.up1 (S.unseps h))
  exact ⟨vd, h1, h⟩
structure Po where
  num : Int
  lim : Int
  q : List Dg
def poL (p : Nat) (s : Po) (vq : Value) : List Asn := [pto p (.cells [.int .i64 s.num, .int .i64 s.lim, vq] 0 false), arr 3 dgA vq s.q]
def repPo (p : Nat) (s : Po) : Asn := exA fun vq => seps (poL p s vq)
theorem openPo {B H : AHeap} {As : List Asn} {p : Nat} {s : Po} (h : S B H (repPo p s :: As)) : ∃ vq, S B H (pto p (.cells [.int .i64 s.num, .int .i64 s.lim, vq] 0 false) :: arr 3 dgA vq s.q :: As) := by
  obtain ⟨vq, h⟩ := S.unex h
  exact ⟨vq, S.unseps h⟩
theorem closePo {B H : AHeap} {As : List Asn} {p : Nat} {s : Po} {vq : Value} (h : S B H (pto p (.cells [.int .i64 s.num, .int .i64 s.lim, vq] 0 false) :: arr 3 dgA vq s.q :: As)) : S B H (repPo p s :: As) := S.exI vq (S.seps h)
def PoOk (n l : Int) : Prop := (0 ≤ n ∧ n ≤ 65535) ∧ 1 ≤ l ∧ l ≤ 100
instance (n l : Int) : Decidable (PoOk n l) := by unfold PoOk; infer_instance
theorem L16 {B H : AHeap} {As : List Asn} {n l : Int} (hS : S B H As) : wpF C 16 [.int .i64 n, .int .i64 l] H fun v H' => (¬ PoOk n l → v = .tuple ⟨[.pointer none, .int .i64 34]⟩ ∧ S B H' As) ∧
    (PoOk n l → ∃ p, v = .tuple ⟨[.pointer (some ⟨p, 0, none⟩), .int .i64 0]⟩ ∧ S B H' (repPo p ⟨n, l, []⟩ :: As)) := by
  refine wpF_ofW o16 rfl rfl ?_
  refine zsr ?_; refine zw1 ?_; refine zw1 ?_; refine zns ?_; refine wp_seq ?_; refine zsr ?_; refine zw1 ?_; refine wpO_cons ?_; refine op1_call1 rfl (by (conv => lhs; whnf) <;> rfl) ?_
  refine wpF_mono L44 ?_
  rintro _ _ ⟨rfl, rfl⟩
  by_cases h0 : 0 ≤ n ∧ n ≤ 65535
  · rw [decide_eq_true h0]
    refine wpO_cons ?_; refine op1_not_t rfl rfl ?_; refine zw1 ?_; refine zw1 ?_; refine wpO_cons ?_; refine op1_lss rfl rfl rfl ?_; refine wpO_cons ?_; refine op1_pick_f rfl rfl (by (conv => lhs; whnf) <;> rfl) ?_; refine zw1 ?_; refine wpO_cons ?_
    refine op1_dec rfl (fun h1 => ?_) (fun h1 => ?_)
    · refine op1_skip rfl ?_; refine wpO_cons ?_; refine op1_skip rfl ?_; refine wpO_cons ?_; refine op1_pick_t rfl rfl (by (conv => lhs; whnf) <;> rfl) ?_; refine zns ?_; refine wp_true rfl ?_; refine zsr ?_; refine zw1 ?_; refine zw1 ?_; refine zns ?_; refine wp_ret ?_; refine seq_ret ?_; refine ret_of ?_; refine rk_tmp (by (conv => lhs; whnf) <;> rfl) ?_; refine rk_tmp (by (conv => lhs; whnf) <;> rfl) ?_; refine rk_nil ?_
      exact ⟨fun _ => ⟨rfl, hS⟩, fun h => by unfold PoOk at h; omega⟩
    refine op1_mov rfl (by (conv => lhs; whnf) <;> rfl) ?_; refine wpO_cons ?_; refine op1_gtr rfl rfl rfl ?_; refine wpO_cons ?_; refine op1_pick_f rfl rfl (by (conv => lhs; whnf) <;> rfl) ?_; refine zns ?_
    refine wp_dec rfl (fun h2 => ?_) (fun h2 => ?_)
    · refine zsr ?_; refine zw1 ?_; refine zw1 ?_; refine zns ?_; refine wp_ret ?_; refine seq_ret ?_; refine ret_of ?_; refine rk_tmp (by (conv => lhs; whnf) <;> rfl) ?_; refine rk_tmp (by (conv => lhs; whnf) <;> rfl) ?_; refine rk_nil ?_
      exact ⟨fun _ => ⟨rfl, hS⟩, fun h => by unfold PoOk at h; omega⟩
    refine wp_skip ?_; refine seq_normal ?_; refine zsr ?_; refine zw1 ?_; refine zw1 ?_; refine wpO_cons ?_; refine op1_build rfl ?_; refine bk_one (by (conv => lhs; whnf) <;> rfl) rfl rfl rfl ?_; refine bk_one (by (conv => lhs; whnf) <;> rfl) rfl rfl rfl ?_; refine bk_nil ?_; refine wpO_cons ?_; refine op1_boxNS rfl rfl rfl hS ?_; intro p1 H1 hS; refine zw1 ?_; refine zw1 ?_; refine zns ?_; refine wp_ret ?_; refine ret_of ?_; refine rk_tmp (by (conv => lhs; whnf) <;> rfl) ?_; refine rk_tmp (by (conv => lhs; whnf) <;> rfl) ?_; refine rk_nil ?_
    exact ⟨fun h => absurd ⟨h0, by omega, by omega⟩ h, fun _ => ⟨_, rfl, closePo (s := ⟨n, l, []⟩) (S.up1 (S.arrNil hS))⟩⟩
  · rw [decide_eq_false h0]
    refine wpO_cons ?_; refine op1_not_f rfl rfl ?_; refine zw1 ?_; refine wpO_cons ?_; refine op1_skip rfl ?_; refine wpO_cons ?_; refine op1_skip rfl ?_; refine wpO_cons ?_; refine op1_pick_t rfl rfl (by (conv => lhs; whnf) <;> rfl) ?_; refine zw1 ?_; refine wpO_cons ?_; refine op1_skip rfl ?_; refine wpO_cons ?_; refine op1_skip rfl ?_; refine wpO_cons ?_; refine op1_pick_t rfl rfl (by (conv => lhs; whnf) <;> rfl) ?_; refine zns ?_; refine wp_true rfl ?_; refine zsr ?_; refine zw1 ?_; refine zw1 ?_; refine zns ?_; refine wp_ret ?_; refine seq_ret ?_; refine ret_of ?_; refine rk_tmp (by (conv => lhs; whnf) <;> rfl) ?_; refine rk_tmp (by (conv => lhs; whnf) <;> rfl) ?_; refine rk_nil ?_
    exact ⟨fun _ => ⟨rfl, hS⟩, fun h => absurd h.1 h0⟩
theorem L17 {B H : AHeap} {As : List Asn} {n l : Int} (hS : S B H As) : wpF C 17 [.int .i64 n, .int .i64 l] H fun v H' => (¬ PoOk n l → v = .tuple ⟨[.pointer none, .int .i64 34]⟩ ∧ S B H' As) ∧
    (PoOk n l → ∃ p, v = .tuple ⟨[.pointer (some ⟨p, 0, none⟩), .int .i64 0]⟩ ∧ S B H' (repPo p ⟨n, l, []⟩ :: As)) := by
  refine wpF_ofW o17 rfl rfl ?_
  refine zsr ?_; refine zw1 ?_; refine zw1 ?_; refine zns ?_; refine wp_seq ?_; refine zsr ?_; refine zw1 ?_; refine wpO_cons ?_; refine op1_lss rfl rfl rfl ?_; refine zw1 ?_; refine wpO_cons ?_
  refine op1_dec rfl (fun h1 => ?_) (fun h1 => ?_)
  · refine op1_skip rfl ?_; refine wpO_cons ?_; refine op1_skip rfl ?_; refine wpO_cons ?_; refine op1_pick_t rfl rfl (by (conv => lhs; whnf) <;> rfl) ?_; refine zw1 ?_; refine wpO_cons ?_; refine op1_skip rfl ?_; refine wpO_cons ?_; refine op1_skip rfl ?_; refine wpO_cons ?_; refine op1_pick_t rfl rfl (by (conv => lhs; whnf) <;> rfl) ?_; refine zw1 ?_; refine wpO_cons ?_; refine op1_skip rfl ?_; refine wpO_cons ?_; refine op1_skip rfl ?_; refine wpO_cons ?_; refine op1_pick_t rfl rfl (by (conv => lhs; whnf) <;> rfl) ?_; refine zns ?_; refine wp_true rfl ?_; refine zsr ?_; refine zw1 ?_; refine zw1 ?_; refine zns ?_; refine wp_ret ?_; refine seq_ret ?_; refine ret_of ?_; refine rk_tmp (by (conv => lhs; whnf) <;> rfl) ?_; refine rk_tmp (by (conv => lhs; whnf) <;> rfl) ?_; refine rk_nil ?_
    exact ⟨fun _ => ⟨rfl, hS⟩, fun h => by unfold PoOk at h; omega⟩
  refine op1_mov rfl (by (conv => lhs; whnf) <;> rfl) ?_; refine wpO_cons ?_; refine op1_gtr rfl rfl rfl ?_; refine wpO_cons ?_; refine op1_pick_f rfl rfl (by (conv => lhs; whnf) <;> rfl) ?_; refine zw1 ?_; refine wpO_cons ?_
  refine op1_dec rfl (fun h2 => ?_) (fun h2 => ?_)
  · refine op1_skip rfl ?_; refine wpO_cons ?_; refine op1_skip rfl ?_; refine wpO_cons ?_; refine op1_pick_t rfl rfl (by (conv => lhs; whnf) <;> rfl) ?_; refine zw1 ?_; refine wpO_cons ?_; refine op1_skip rfl ?_; refine wpO_cons ?_; refine op1_skip rfl ?_; refine wpO_cons ?_; refine op1_pick_t rfl rfl (by (conv => lhs; whnf) <;> rfl) ?_; refine zns ?_; refine wp_true rfl ?_; refine zsr ?_; refine zw1 ?_; refine zw1 ?_; refine zns ?_; refine wp_ret ?_; refine seq_ret ?_; refine ret_of ?_; refine rk_tmp (by (conv => lhs; whnf) <;> rfl) ?_; refine rk_tmp (by (conv => lhs; whnf) <;> rfl) ?_; refine rk_nil ?_
    exact ⟨fun _ => ⟨rfl, hS⟩, fun h => by unfold PoOk at h; omega⟩
  refine op1_mov rfl (by (conv => lhs; whnf) <;> rfl) ?_; refine wpO_cons ?_; refine op1_lss rfl rfl rfl ?_; refine wpO_cons ?_; refine op1_pick_f rfl rfl (by (conv => lhs; whnf) <;> rfl) ?_; refine zw1 ?_; refine wpO_cons ?_
  refine op1_dec rfl (fun h3 => ?_) (fun h3 => ?_)
  · refine op1_skip rfl ?_; refine wpO_cons ?_; refine op1_skip rfl ?_; refine wpO_cons ?_; refine op1_pick_t rfl rfl (by (conv => lhs; whnf) <;> rfl) ?_; refine zns ?_; refine wp_true rfl ?_; refine zsr ?_; refine zw1 ?_; refine zw1 ?_; refine zns ?_; refine wp_ret ?_; refine seq_ret ?_; refine ret_of ?_; refine rk_tmp (by (conv => lhs; whnf) <;> rfl) ?_; refine rk_tmp (by (conv => lhs; whnf) <;> rfl) ?_; refine rk_nil ?_
    exact ⟨fun _ => ⟨rfl, hS⟩, fun h => by unfold PoOk at h; omega⟩
  refine op1_mov rfl (by (conv => lhs; whnf) <;> rfl) ?_; refine wpO_cons ?_; refine op1_gtr rfl rfl rfl ?_; refine wpO_cons ?_; refine op1_pick_f rfl rfl (by (conv => lhs; whnf) <;> rfl) ?_; refine zns ?_
  refine wp_dec rfl (fun h4 => ?_) (fun h4 => ?_)
  · refine zsr ?_; refine zw1 ?_; refine zw1 ?_; refine zns ?_; refine wp_ret ?_; refine seq_ret ?_; refine ret_of ?_; refine rk_tmp (by (conv => lhs; whnf) <;> rfl) ?_; refine rk_tmp (by (conv => lhs; whnf) <;> rfl) ?_; refine rk_nil ?_
    exact ⟨fun _ => ⟨rfl, hS⟩, fun h => by unfold PoOk at h; omega⟩
  refine wp_skip ?_; refine seq_normal ?_; refine zsr ?_; refine zw1 ?_; refine zw1 ?_; refine wpO_cons ?_; refine op1_build rfl ?_; refine bk_one (by (conv => lhs; whnf) <;> rfl) rfl rfl rfl ?_; refine bk_one (by (conv => lhs; whnf) <;> rfl) rfl rfl rfl ?_; refine bk_nil ?_; refine wpO_cons ?_; refine op1_boxNS rfl rfl rfl hS ?_; intro p1 H1 hS; refine zw1 ?_; refine zw1 ?_; refine zns ?_; refine wp_ret ?_; refine ret_of ?_; refine rk_tmp (by (conv => lhs; whnf) <;> rfl) ?_; refine rk_tmp (by (conv => lhs; whnf) <;> rfl) ?_; refine rk_nil ?_
  exact ⟨fun h => absurd ⟨⟨by omega, by omega⟩, by omega, by omega⟩ h, fun _ => ⟨_, rfl, closePo (s := ⟨n, l, []⟩) (S.up1 (S.arrNil hS))⟩⟩
end Go.E.St
