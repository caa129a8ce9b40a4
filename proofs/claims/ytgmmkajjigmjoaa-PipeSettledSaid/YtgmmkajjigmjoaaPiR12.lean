/- The reference's pipe: how it lies in the heap; its small methods. -/
import Derived.Test.YtgmmkajjigmjoaaPiCode2
import Derived.Test.YtgmmkajjigmjoaaPiF8
namespace Go.E.Pi
open Go Go.E Go.Proofs.Ytgmmkajjigmjoaa Go.Proofs
set_option linter.unusedVariables false
set_option linter.unusedSimpArgs false
set_option maxRecDepth 100000
def qC (s : PP) (vb vr vw : Value) : List Value := [.int .i64 s.cap, .int .i64 s.atomic, vb, .int .i64 s.o0, .int .i64 s.o1, vr, vw]
def repQ (q : Nat) (s : PP) : Asn := exA fun (x : Value × Value × Value) =>
  seps [pto q (.cells (qC s x.1 x.2.1 x.2.2) 0 false), sl 1 x.1 (u8s s.buf), sl 2 x.2.1 (s.readers.flatMap rdC), arr 3 wrA x.2.2 s.writers]
section
variable {B H : AHeap} {As : List Asn} {q : Nat} {s : PP}
theorem openQ (h : S B H (repQ q s :: As)) : ∃ ab cb ar cr aw cw, s.readers.length ≤ cr ∧ s.writers.length ≤ cw ∧ s.buf.length ≤ cb ∧ S B H (pto q (.cells (qC s (.slice ab s.buf.length cb) (.slice ar s.readers.length cr) (.slice aw s.writers.length cw)) 0 false) :: sl 1 (.slice ab s.buf.length cb) (u8s s.buf) :: sl 2 (.slice ar s.readers.length cr) (s.readers.flatMap rdC) :: arr 3 wrA (.slice aw s.writers.length cw) s.writers :: As) := by
  obtain ⟨⟨vb, vr, vw⟩, h⟩ := S.unex h
  have h := S.unseps h
  obtain ⟨ab, cb, e1⟩ := S.u1 (S.up1 h)
  obtain ⟨ar, cr, e2, h2⟩ := shapeR (S.up2 h)
  obtain ⟨aw, cw, e3, h3⟩ := S.arrShape (S.up3 h) (by omega)
  simp only at e1 e2 e3
  subst e1 e2 e3
  exact ⟨ab, cb, ar, cr, aw, cw, h2, h3, S.len_le (S.up1 h), h⟩
theorem closeQ {vb vr vw : Value} (h : S B H (pto q (.cells (qC s vb vr vw) 0 false) :: sl 1 vb (u8s s.buf) :: sl 2 vr (s.readers.flatMap rdC) :: arr 3 wrA vw s.writers :: As)) : S B H (repQ q s :: As) :=
  S.exI (X := Value × Value × Value) (vb, vr, vw) (S.seps h)
end
theorem L71 {H : AHeap} {t : Int} : wpF C 71 [.int .i64 t] H fun v H' => v = .bool (decide (0 ≤ t ∧ t < 256)) ∧ H = H' := by
  refine wpF_ofW o71 rfl rfl ?_
  refine zsr ?_; refine zw1 ?_; refine zns ?_; refine zsr ?_; refine zw1 ?_; refine wpO_cons ?_; refine op1_geq rfl rfl rfl ?_; refine zw1 ?_; refine wpO_cons ?_
  refine op1_dec rfl (fun hc => ?_) (fun hc => ?_)
  · refine op1_mov rfl (by (conv => lhs; whnf) <;> rfl) ?_; refine wpO_cons ?_; refine op1_lss rfl rfl rfl ?_; refine wpO_cons ?_; refine op1_pick_t rfl rfl (by (conv => lhs; whnf) <;> rfl) ?_; refine zw1 ?_; refine zns ?_; refine wp_ret ?_; refine ret_of ?_; refine rk_tmp (by (conv => lhs; whnf) <;> rfl) ?_; refine rk_nil ?_
    exact ⟨by simp only [resultV]; congr 1; rw [decide_eq_decide]; omega, rfl⟩
  · refine op1_skip rfl ?_; refine wpO_cons ?_; refine op1_skip rfl ?_; refine wpO_cons ?_; refine op1_pick_f rfl rfl (by (conv => lhs; whnf) <;> rfl) ?_; refine zw1 ?_; refine zns ?_; refine wp_ret ?_; refine ret_of ?_; refine rk_tmp (by (conv => lhs; whnf) <;> rfl) ?_; refine rk_nil ?_
    exact ⟨by simp only [resultV]; congr 1; rw [decide_eq_false (by omega)], rfl⟩
theorem L53 {B H : AHeap} {As : List Asn} {q : Nat} {s : PP} (hS : S B H (repQ q s :: As)) (hok : Ok s) : wpF C 53 [.pointer (some ⟨q, 0, none⟩)] H fun v H' => v = .int .i64 s.openR.1 ∧ S B H' (repQ q s.openR.2 :: As) := by
  have hC := hS
  have h0 := hok.o0
  obtain ⟨ab, cb, ar, cr, aw, cw, h2, h3, h4, hS⟩ := openQ hS
  refine wpF_ofW o53 rfl rfl ?_
  unfold PP.openR
  refine zsr ?_; refine zw1 ?_; refine zns ?_; refine wp_seq ?_; refine zsr ?_; refine zw1 ?_; refine wpO_cons ?_; refine op1_nilchk rfl rfl ?_; refine wpO_cons ?_; refine op1_faddr0 rfl rfl ?_; refine wpO_cons ?_; refine op1_load rfl rfl (by exact S.g0 hS) rfl ?_; refine wpO_cons ?_; refine op1_geq rfl rfl rfl ?_; refine zns ?_
  refine wp_dec rfl (fun hc => ?_) (fun hc => ?_)
  · rw [if_pos hc]
    refine zsr ?_; refine zw1 ?_; refine zns ?_; refine wp_ret ?_; refine seq_ret ?_; refine ret_of ?_; refine rk_tmp (by (conv => lhs; whnf) <;> rfl) ?_; refine rk_nil ?_
    exact ⟨rfl, hC⟩
  · rw [if_neg hc]
    refine wp_skip ?_; refine seq_normal ?_; refine zsr ?_; refine zw1 ?_; refine wpO_cons ?_; refine op1_nilchk rfl rfl ?_; refine wpO_cons ?_; refine op1_faddr0 rfl rfl ?_; refine wpO_cons ?_; refine op1_load rfl rfl (by exact S.g0 hS) rfl ?_; refine wpO_cons ?_; refine op1_add rfl rfl rfl (by exact wrap_i64 (by omega) (by omega)) ?_; refine wpO_cons ?_; refine op1_nilchk rfl rfl ?_; refine wpO_cons ?_; refine op1_faddr0 rfl rfl ?_; refine wpO_cons ?_; (refine op1_store1S rfl rfl (by (conv => lhs; whnf) <;> rfl) rfl rfl (S.up0 hS) rfl ?_; intro H1 hS; replace hS := S.dn0 hS); refine zns ?_; refine zsr ?_; refine zw1 ?_; refine zns ?_; refine wp_ret ?_; refine ret_of ?_; refine rk_tmp (by (conv => lhs; whnf) <;> rfl) ?_; refine rk_nil ?_
    exact ⟨rfl, closeQ (s := { s with o0 := s.o0 + 1 }) hS⟩
theorem L54 {B H : AHeap} {As : List Asn} {q : Nat} {s : PP} (hS : S B H (repQ q s :: As)) (hok : Ok s) : wpF C 54 [.pointer (some ⟨q, 0, none⟩)] H fun v H' => v = .int .i64 s.openW.1 ∧ S B H' (repQ q s.openW.2 :: As) := by
  have hC := hS
  have h0 := hok.o1
  obtain ⟨ab, cb, ar, cr, aw, cw, h2, h3, h4, hS⟩ := openQ hS
  refine wpF_ofW o54 rfl rfl ?_
  unfold PP.openW
  refine zsr ?_; refine zw1 ?_; refine zns ?_; refine wp_seq ?_; refine zsr ?_; refine zw1 ?_; refine wpO_cons ?_; refine op1_nilchk rfl rfl ?_; refine wpO_cons ?_; refine op1_faddr0 rfl rfl ?_; refine wpO_cons ?_; refine op1_load rfl rfl (by exact S.g0 hS) rfl ?_; refine wpO_cons ?_; refine op1_geq rfl rfl rfl ?_; refine zns ?_
  refine wp_dec rfl (fun hc => ?_) (fun hc => ?_)
  · rw [if_pos hc]
    refine zsr ?_; refine zw1 ?_; refine zns ?_; refine wp_ret ?_; refine seq_ret ?_; refine ret_of ?_; refine rk_tmp (by (conv => lhs; whnf) <;> rfl) ?_; refine rk_nil ?_
    exact ⟨rfl, hC⟩
  · rw [if_neg hc]
    refine wp_skip ?_; refine seq_normal ?_; refine zsr ?_; refine zw1 ?_; refine wpO_cons ?_; refine op1_nilchk rfl rfl ?_; refine wpO_cons ?_; refine op1_faddr0 rfl rfl ?_; refine wpO_cons ?_; refine op1_load rfl rfl (by exact S.g0 hS) rfl ?_; refine wpO_cons ?_; refine op1_add rfl rfl rfl (by exact wrap_i64 (by omega) (by omega)) ?_; refine wpO_cons ?_; refine op1_nilchk rfl rfl ?_; refine wpO_cons ?_; refine op1_faddr0 rfl rfl ?_; refine wpO_cons ?_; (refine op1_store1S rfl rfl (by (conv => lhs; whnf) <;> rfl) rfl rfl (S.up0 hS) rfl ?_; intro H1 hS; replace hS := S.dn0 hS); refine zns ?_; refine zsr ?_; refine zw1 ?_; refine zns ?_; refine wp_ret ?_; refine ret_of ?_; refine rk_tmp (by (conv => lhs; whnf) <;> rfl) ?_; refine rk_nil ?_
    exact ⟨rfl, closeQ (s := { s with o1 := s.o1 + 1 }) hS⟩

/-- how many bytes fit -/
def fitN (s : PP) (n : Nat) (whole : Bool) : Nat := if n ≤ s.cap - s.buf.length then n else if whole = true then 0 else s.cap - s.buf.length
theorem L74 {B H : AHeap} {As : List Asn} {q : Nat} {s : PP} {vb vr vw : Value} {ad : Option Addr} {n cd : Nat} {w : Bool} (hS : S B H (pto q (.cells (qC s vb vr vw) 0 false) :: As)) (hb : ∃ a c, vb = .slice a s.buf.length c) (hok : s.cap ≤ 4096) (hbl : s.buf.length ≤ s.cap) :
    wpF C 74 [.pointer (some ⟨q, 0, none⟩), .slice ad n cd, .bool w] H fun v H' => v = .int .i64 (fitN s n w : Nat) ∧ H = H' := by
  obtain ⟨ab, cb, rfl⟩ := hb
  refine wpF_ofW o74 rfl rfl ?_
  unfold fitN
  refine zsr ?_; refine zw1 ?_; refine zns ?_; refine wp_seq ?_; refine wp_regionD ?_; refine zd1 ?_; refine wpD_cons ?_; refine op1_nilchk rfl rfl ?_; refine wpD_cons ?_; refine op1_faddr0 rfl rfl ?_; refine wpD_cons ?_; refine op1_load rfl rfl (by exact S.g0 hS) rfl ?_; refine zd1 ?_; refine wpD_cons ?_; refine op1_nilchk rfl rfl ?_; refine wpD_cons ?_; refine op1_faddr0 rfl rfl ?_; refine wpD_cons ?_; refine op1_load rfl rfl (by exact S.g0 hS) rfl ?_; refine wpD_cons ?_; refine op1_len rfl rfl ?_; refine wpD_cons ?_; refine op1_sub rfl rfl rfl (by exact wrap_i64 (by omega) (by omega)) ?_; refine zd1 ?_; refine wpD_nil ?_; refine dk_of ?_ ?_; (iterate 3 refine chk_skip ?_); refine chk_cons 8 rfl rfl rfl ?_ ?_; refine chkFs_cons 0 rfl rfl ?_ ?_; exact chk_load rfl (by exact S.g0 hS) rfl rfl; exact chkFs_nil; (iterate 3 refine chk_skip ?_); refine chk_cons 4 rfl rfl rfl ?_ ?_; refine chkFs_cons 0 rfl rfl ?_ ?_; exact chk_load rfl (by exact S.g0 hS) rfl rfl; exact chkFs_nil; refine chk_cons 3 rfl rfl rfl ?_ ?_; refine chkFs_cons 0 rfl rfl ?_ ?_; exact chk_len rfl rfl; exact chkFs_nil; (iterate 2 refine chk_skip ?_); exact chk_end; refine seq_normal ?_; refine wp_seq ?_; refine zsr ?_; refine zw1 ?_; refine wpO_cons ?_; refine op1_len rfl rfl ?_; refine zw1 ?_; refine wpO_cons ?_; refine op1_leq rfl rfl rfl ?_; refine zns ?_
  refine wp_dec rfl (fun hc => ?_) (fun hc => ?_)
  · rw [if_pos (by omega)]
    refine zsr ?_; refine zw1 ?_; refine wpO_cons ?_; refine op1_len rfl rfl ?_; refine zw1 ?_; refine zns ?_; refine wp_ret ?_; refine seq_ret ?_; refine ret_of ?_; refine rk_tmp (by (conv => lhs; whnf) <;> rfl) ?_; refine rk_nil ?_
    exact ⟨rfl, rfl⟩
  rw [if_neg (by omega)]
  refine wp_skip ?_; refine seq_normal ?_; refine wp_seq ?_; refine zsr ?_; refine zw1 ?_; refine zns ?_
  cases w
  · refine wp_false rfl ?_; refine wp_skip ?_; refine seq_normal ?_; refine zsr ?_; refine zw1 ?_; refine zw1 ?_; refine zns ?_; refine wp_ret ?_; refine ret_of ?_; refine rk_tmp (by (conv => lhs; whnf) <;> rfl) ?_; refine rk_nil ?_
    exact ⟨by simp only [resultV]; congr 1; rw [if_neg (by simp)]; omega, rfl⟩
  · refine wp_true rfl ?_; refine zsr ?_; refine zw1 ?_; refine zns ?_; refine wp_ret ?_; refine seq_ret ?_; refine ret_of ?_; refine rk_tmp (by (conv => lhs; whnf) <;> rfl) ?_; refine rk_nil ?_
    exact ⟨rfl, rfl⟩

/-- take -/
theorem L73 {B H : AHeap} {As : List Asn} {q : Nat} {s : PP} {ab : Option Addr} {cb : Nat} {vr vw : Value} {n : Int} (hS : S B H (pto q (.cells (qC s (.slice ab s.buf.length cb) vr vw) 0 false) :: sl 1 (.slice ab s.buf.length cb) (u8s s.buf) :: As)) (hn : 0 ≤ n) (hbl : s.buf.length ≤ 4096) :
    wpF C 73 [.pointer (some ⟨q, 0, none⟩), .int .i64 n] H fun v H' => ∃ a c a' c', v = .slice a (min n s.buf.length).toNat c ∧ S B H' (sl 1 (.slice a (min n s.buf.length).toNat c) (u8s (s.buf.take (min n s.buf.length).toNat)) :: pto q (.cells (qC (s.rdTake n) (.slice a' (s.rdTake n).buf.length c') vr vw) 0 false) :: sl 1 (.slice a' (s.rdTake n).buf.length c') (u8s (s.rdTake n).buf) :: As) := by
  have hcb := S.len_le (S.up1 hS)
  refine wpF_ofW o73 rfl rfl ?_
  obtain ⟨m, hm⟩ : ∃ m : Nat, min n (s.buf.length : Int) = m := ⟨(min n (s.buf.length : Int)).toNat, by omega⟩
  have hrd : (s.rdTake n).buf = s.buf.drop m := by unfold PP.rdTake; rw [hm]; rfl
  rw [hrd, hm, Int.toNat_natCast]
  refine zsr ?_; refine zw1 ?_; refine zns ?_
  refine wp_cut [1] (fun vs H' => vs = [.int .i64 m] ∧ H = H') ?_ ?_
  · refine zsr ?_; refine zw1 ?_; refine zw1 ?_; refine wpO_cons ?_; refine op1_nilchk rfl rfl ?_; refine wpO_cons ?_; refine op1_faddr0 rfl rfl ?_; refine wpO_cons ?_; refine op1_load rfl rfl (by exact S.g0 hS) rfl ?_; refine wpO_cons ?_; refine op1_len rfl rfl ?_; refine wpO_cons ?_; refine op1_gtr rfl rfl rfl ?_; refine zns ?_; refine wp_cond rfl (fun hc0 => ?_) (fun hc0 => ?_); (focus (refine wp_region ?_; refine zw1 ?_; refine wpO_cons ?_; refine op1_nilchk rfl rfl ?_; refine wpO_cons ?_; refine op1_faddr0 rfl rfl ?_; refine wpO_cons ?_; refine op1_load rfl rfl (by exact S.g0 hS) rfl ?_; refine wpO_cons ?_; refine op1_len rfl rfl ?_; refine zw1 ?_; refine wpO_nil ?_; refine cut1 (by (conv => lhs; whnf) <;> rfl) ?_; (exact ⟨by simp_all <;> omega, rfl⟩))); (focus (refine wp_skip ?_; refine cut1 (by (conv => lhs; whnf) <;> rfl) ?_; (exact ⟨by simp_all <;> omega, rfl⟩)))
  rintro vs1 T1 H1 ⟨rfl, rfl⟩
  refine zsr ?_; refine wpO_cons ?_; refine op1_bsliceS rfl hS ?_; refine bk_nil ?_; intro p1 H1 hS; refine zw1 ?_; refine wpO_cons ?_; refine op1_nilchk rfl rfl ?_; refine wpO_cons ?_; refine op1_faddr0 rfl rfl ?_; refine wpO_cons ?_; refine op1_load rfl rfl (by exact S.g1 hS) rfl ?_; refine zw1 ?_; refine wpO_cons ?_
  replace hS := S.slNew (l := 0) (es := 1) hS rfl
  obtain ⟨_, hr, _⟩ := (S.up2 hS).rd
  refine op1_sliceR rfl rfl hr (bnds_hi (by omega) (by omega)) (by omega) (by simp only [Int.toNat_natCast]; omega) ?_
  simp only [Int.toNat_natCast, Nat.zero_mul, List.drop_zero, Nat.sub_zero, Nat.mul_one]
  intro a1 c1 hd1
  rw [u8s_take] at hd1
  refine wpO_cons ?_
  refine op1_appRS rfl rfl (by (conv => lhs; whnf) <;> rfl) rfl hd1 (by simp; omega) (u8s_one _) hS (by omega) ?_
  rw [List.nil_append, Nat.zero_add]
  intro a2 c2 H3 hS
  refine zw1 ?_; refine zns ?_; refine zsr ?_; refine zw1 ?_; refine wpO_cons ?_; refine op1_bsliceS rfl hS ?_; refine bk_nil ?_; intro p2 H2 hS; refine zw1 ?_; refine wpO_cons ?_; refine op1_nilchk rfl rfl ?_; refine wpO_cons ?_; refine op1_faddr0 rfl rfl ?_; refine wpO_cons ?_; refine op1_load rfl rfl (by exact S.g2 hS) rfl ?_; refine zw1 ?_; refine wpO_cons ?_
  replace hS := S.slNew (l := 0) (es := 1) hS rfl
  obtain ⟨_, hr2, _⟩ := (S.up3 hS).rd
  refine op1_sliceR rfl rfl hr2 (bnds_lo (by omega) (by omega) (by omega)) (by simp only [Int.toNat_natCast]; omega) (Nat.le_refl _) ?_
  simp only [Int.toNat_natCast, Nat.mul_one]
  intro a3 c3 hd3
  rw [u8s_drop, u8s_take, List.take_of_length_le (by simp)] at hd3
  refine wpO_cons ?_
  refine op1_appRS rfl rfl (by (conv => lhs; whnf) <;> rfl) rfl hd3 (by simp) (u8s_one _) hS (by omega) ?_
  rw [List.nil_append, Nat.zero_add]
  intro a4 c4 H5 hS
  refine wpO_cons ?_; refine op1_nilchk rfl rfl ?_; refine wpO_cons ?_; refine op1_faddr0 rfl rfl ?_; refine wpO_cons ?_; (refine op1_store1S rfl rfl (by (conv => lhs; whnf) <;> rfl) rfl rfl (S.up2 hS) rfl ?_; intro H4 hS; replace hS := S.dn2 hS); refine zns ?_; refine zsr ?_; refine zw1 ?_; refine zw1 ?_; refine zns ?_; refine wp_ret ?_; refine ret_of ?_; refine rk_tmp (by (conv => lhs; whnf) <;> rfl) ?_; refine rk_nil ?_
  refine ⟨_, _, a4, c4, rfl, ?_⟩
  rw [List.length_drop]
  exact S.dn2 (S.drop (S.up3 hS))

/-- blocked -/
theorem L72 {B H : AHeap} {As : List Asn} {q : Nat} {s : PP} {t : Int} (hS : S B H (repQ q s :: As)) (hl : s.readers.length ≤ 1000) (hl2 : s.writers.length ≤ 1000) :
    wpF C 72 [.pointer (some ⟨q, 0, none⟩), .int .i64 t] H fun v H' => v = .bool (s.blocked t) ∧ H = H' := by
  obtain ⟨ab, cb, ar, cr, aw, cw, h2, h3, h4, hS⟩ := openQ hS
  obtain ⟨css, hcss, hcl, hS⟩ := S.unarr (S.up3 hS)
  refine wpF_ofW o72 rfl rfl ?_
  refine zsr ?_; refine zw1 ?_; refine zns ?_; refine wp_seq ?_; refine zsr ?_; refine zw1 ?_; refine zns ?_; refine wp_block ?_
  refine wp_loop [5] (fun k vs H' => ∃ i : Nat, vs = [.int .i64 i] ∧ i + k = s.readers.length ∧ H = H' ∧ ∀ j x, j < i → s.readers[j]? = some x → x.1 ≠ t) ⟨s.readers.length, 0, rfl, by omega, rfl, by intro j x h; omega⟩ ?_
  rintro k vs T' H1 ⟨i, rfl, hk, rfl, hno⟩
  refine wp_seq ?_; refine zsr ?_; refine zw1 ?_; refine zw1 ?_; refine wpO_cons ?_; refine op1_nilchk rfl rfl ?_; refine wpO_cons ?_; refine op1_faddr0 rfl rfl ?_; refine wpO_cons ?_; refine op1_load rfl rfl (by exact S.g2 hS) rfl ?_; refine wpO_cons ?_; refine op1_len rfl rfl ?_; refine wpO_cons ?_; refine op1_lss rfl rfl rfl ?_; refine zns ?_
  refine wp_dec rfl (fun hc => ?_) (fun hc => ?_)
  · have hi : i < s.readers.length := by omega
    obtain ⟨x, hx⟩ : ∃ x, s.readers[i]? = some x := ⟨s.readers[i], by simp [hi]⟩
    obtain ⟨b, off, cs, rfl, hg, hle, htk, hat⟩ := (S.up4 hS).elt hi
    have hat0 := hat 0 (by omega)
    rw [flatMap_get (f := rdC) (es := 2) (fun _ => rfl) hx (by omega)] at hat0
    refine wp_skip ?_; refine seq_normal ?_; refine wp_seq ?_; refine wp_block ?_; refine zsr ?_; refine zw1 ?_; refine wpO_cons ?_; refine op1_nilchk rfl rfl ?_; refine wpO_cons ?_; refine op1_faddr0 rfl rfl ?_; refine wpO_cons ?_; refine op1_load rfl rfl (by exact S.g2 hS) rfl ?_; refine zw1 ?_; refine wpO_cons ?_; refine op1_iaddr rfl rfl rfl (by omega) (by omega) ?_; refine wpO_cons ?_; refine op1_faddr rfl rfl ?_; refine wpO_cons ?_
    refine op1_load rfl rfl hg (hat0.trans rfl) ?_
    refine zw1 ?_; refine wpO_cons ?_; refine op1_eqlI rfl rfl rfl ?_; refine zns ?_
    refine wp_dec rfl (fun he => ?_) (fun he => ?_)
    · refine zsr ?_; refine zw1 ?_; refine zns ?_; refine wp_ret ?_; refine block_ret ?_; refine seq_ret ?_; refine iter_ret ?_; refine block_ret ?_; refine seq_ret ?_; refine ret_of ?_; refine rk_tmp (by (conv => lhs; whnf) <;> rfl) ?_; refine rk_nil ?_
      refine ⟨?_, rfl⟩
      unfold PP.blocked
      rw [decide_eq_true (List.mem_map.2 ⟨x, List.mem_of_getElem? hx, he⟩)]
      rfl
    · refine wp_skip ?_; refine block_normal ?_; refine seq_normal ?_; refine wp_region ?_; refine zw1 ?_; refine wpO_cons ?_; refine op1_add rfl rfl rfl (by exact wrap_i64 (by omega) (by omega)) ?_; refine zw1 ?_; refine wpO_nil ?_
      refine ⟨k - 1, by omega, i + 1, rfl, by omega, rfl, fun j y hj hy => ?_⟩
      by_cases hji : j = i
      · subst hji
        rw [hx] at hy
        cases hy
        exact he
      · exact hno j y (by omega) hy
  · obtain rfl : i = s.readers.length := by omega
    have hr0 : decide (t ∈ s.readers.map (·.1)) = false := by
      rw [decide_eq_false_iff_not]
      intro h
      obtain ⟨x, hx, rfl⟩ := List.mem_map.1 h
      obtain ⟨j, hj⟩ := List.getElem?_of_mem hx
      exact hno j x (List.getElem?_eq_some_iff.1 hj).1 hj rfl
    refine wp_exit ?_; refine seq_exit ?_; refine iter_exit ?_; refine block_exit ?_; refine seq_normal ?_; refine wp_seq ?_; refine zsr ?_; refine zw1 ?_; refine zns ?_; refine wp_block ?_
    refine wp_loop [6] (fun k vs H' => ∃ i : Nat, vs = [.int .i64 i] ∧ i + k = s.writers.length ∧ H = H' ∧ ∀ j x, j < i → s.writers[j]? = some x → x.thread ≠ t) ⟨s.writers.length, 0, rfl, by omega, rfl, by intro j x h; omega⟩ ?_
    rintro k2 vs T2 H1 ⟨i, rfl, hk2, rfl, hno2⟩
    refine wp_seq ?_; refine zsr ?_; refine zw1 ?_; refine zw1 ?_; refine wpO_cons ?_; refine op1_nilchk rfl rfl ?_; refine wpO_cons ?_; refine op1_faddr0 rfl rfl ?_; refine wpO_cons ?_; refine op1_load rfl rfl (by exact S.g2 hS) rfl ?_; refine wpO_cons ?_; refine op1_len rfl rfl ?_; refine wpO_cons ?_; refine op1_lss rfl rfl rfl ?_; refine zns ?_
    refine wp_dec rfl (fun hc => ?_) (fun hc => ?_)
    · have hi : i < s.writers.length := by omega
      obtain ⟨x, hx⟩ : ∃ x, s.writers[i]? = some x := ⟨s.writers[i], by simp [hi]⟩
      obtain ⟨cs0, o0, hcs0, hw0, _⟩ := S.many_at (S.up1 hS) hx
      obtain ⟨avd, cvd, rfl, hvd⟩ := wrA_at hw0
      obtain ⟨b, off, cs, rfl, hg, hle, htk, hat⟩ := (S.up0 hS).elt hi
      have hat0 := hat 0 (by omega)
      rw [flatten_get hcss hcs0 (by omega)] at hat0
      refine wp_skip ?_; refine seq_normal ?_; refine wp_seq ?_; refine wp_block ?_; refine zsr ?_; refine zw1 ?_; refine wpO_cons ?_; refine op1_nilchk rfl rfl ?_; refine wpO_cons ?_; refine op1_faddr0 rfl rfl ?_; refine wpO_cons ?_; refine op1_load rfl rfl (by exact S.g2 hS) rfl ?_; refine zw1 ?_; refine wpO_cons ?_; refine op1_iaddr rfl rfl rfl (by omega) (by omega) ?_; refine wpO_cons ?_; refine op1_faddr rfl rfl ?_; refine wpO_cons ?_
      refine op1_load rfl rfl hg (hat0.trans rfl) ?_
      refine zw1 ?_; refine wpO_cons ?_; refine op1_eqlI rfl rfl rfl ?_; refine zns ?_
      refine wp_dec rfl (fun he => ?_) (fun he => ?_)
      · refine zsr ?_; refine zw1 ?_; refine zns ?_; refine wp_ret ?_; refine block_ret ?_; refine seq_ret ?_; refine iter_ret ?_; refine block_ret ?_; refine seq_ret ?_; refine ret_of ?_; refine rk_tmp (by (conv => lhs; whnf) <;> rfl) ?_; refine rk_nil ?_
        refine ⟨?_, rfl⟩
        unfold PP.blocked
        rw [hr0, decide_eq_true (List.mem_map.2 ⟨x, List.mem_of_getElem? hx, he⟩)]
        rfl
      · refine wp_skip ?_; refine block_normal ?_; refine seq_normal ?_; refine wp_region ?_; refine zw1 ?_; refine wpO_cons ?_; refine op1_add rfl rfl rfl (by exact wrap_i64 (by omega) (by omega)) ?_; refine zw1 ?_; refine wpO_nil ?_
        refine ⟨k2 - 1, by omega, i + 1, rfl, by omega, rfl, fun j y hj hy => ?_⟩
        by_cases hji : j = i
        · subst hji
          rw [hx] at hy
          cases hy
          exact he
        · exact hno2 j y (by omega) hy
    · obtain rfl : i = s.writers.length := by omega
      have hw0 : decide (t ∈ s.writers.map (·.thread)) = false := by
        rw [decide_eq_false_iff_not]
        intro h
        obtain ⟨x, hx, rfl⟩ := List.mem_map.1 h
        obtain ⟨j, hj⟩ := List.getElem?_of_mem hx
        exact hno2 j x (List.getElem?_eq_some_iff.1 hj).1 hj rfl
      refine wp_exit ?_; refine seq_exit ?_; refine iter_exit ?_; refine block_exit ?_; refine seq_normal ?_; refine zsr ?_; refine zw1 ?_; refine zns ?_; refine wp_ret ?_; refine ret_of ?_; refine rk_tmp (by (conv => lhs; whnf) <;> rfl) ?_; refine rk_nil ?_
      exact ⟨by unfold PP.blocked; rw [hr0, hw0]; rfl, rfl⟩
end Go.E.Pi
/- The reference's pipe: its steps. -/
namespace Go.E.Pi
open Go Go.E Go.Proofs.Ytgmmkajjigmjoaa Go.Proofs
set_option linter.unusedVariables false
set_option linter.unusedSimpArgs false
set_option maxRecDepth 100000
def fitW (s : PP) (w : Wr) : Nat := fitN s (w.data.length - w.done) (decide ((w.data.length : Int) ≤ s.atomic))
def stepWr (s : PP) : Option (Option EndM × PP) := match s.writers with
  | [] => none
  | w :: ws =>
    if s.o0 = 0 then some (some ⟨w.thread, [], w.done, 33⟩, { s with writers := ws })
    else if fitW s w = 0 then none
    else if w.done + fitW s w = w.data.length then some (some ⟨w.thread, [], (w.done + fitW s w : Nat), 0⟩, { s with buf := s.buf ++ (w.data.drop w.done).take (fitW s w), writers := ws })
    else some (none, { s with buf := s.buf ++ (w.data.drop w.done).take (fitW s w), writers := { w with done := w.done + fitW s w } :: ws })
def resOf (o : Option (Option EndM × PP)) (s : PP) (acc : List EndM) : List EndM × Bool × PP := match o with
  | none => (acc, false, s)
  | some (e, s') => (acc ++ e.toList, true, s')

theorem op1_sliSE {B H : AHeap} {T : FEnv} {K : FEnv → AHeap → Prop} {d : Nat} {g : Option (Nat × Bool)} {As : List Asn} {es : Nat} {x : NOpd} {lo hi : Option NOpd} {a : Option Addr} {l c i h : Nat} {xs xs' : List Value} (hw : wantedF g T = true) (hx : x.evF T = .slice a l c) (hS : S B H (sl es (.slice a l c) xs :: As))
    (hb : sliceBnds l c (lo.map (·.evF T)) (hi.map (·.evF T)) none = some (i, h, c)) (hih : i ≤ h) (hhl : h ≤ l) (he : (xs.drop (i * es)).take ((h - i) * es) = xs')
    (kk : ∀ a' c', S B H (sl es (.slice a' (h - i) c') xs' :: As) → K (upd T d (.slice a' (h - i) c')) H) : op1 C ⟨some d, .slice es x lo hi none, g⟩ T H K := by
  subst he
  exact op1_sliS hw hx hS hb hih hhl kk
theorem closeQE {B H : AHeap} {As : List Asn} {q : Nat} {s : PP} {vb vr vw vo : Value} {css ess : List (List Value)} {acc : List EndM} (hcss : ∀ cs ∈ css, cs.length = 3) (hess : ∀ cs ∈ ess, cs.length = 4)
    (hS : S B H (pto q (.cells (qC s vb vr vw) 0 false) :: sl 1 vb (u8s s.buf) :: sl 2 vr (s.readers.flatMap rdC) :: sl 3 vw css.flatten :: many wrA s.writers css :: sl 4 vo ess.flatten :: many endA acc ess :: As)) : S B H (arr 4 endA vo acc :: repQ q s :: As) := by
  have h1 := S.arrI (S.up6 (S.up6 hS)) hess
  have h2 := S.arrI (S.up5 (S.up5 h1)) hcss
  exact S.up1 (closeQ (S.dn4 (S.dn4 h2)))

theorem L86 {B H : AHeap} {As : List Asn} {q : Nat} {s : PP} {vo : Value} {acc : List EndM} (hS : S B H (arr 4 endA vo acc :: repQ q s :: As)) (hok : Ok s) (hal : acc.length ≤ 1000000) :
    wpF C 86 [.pointer (some ⟨q, 0, none⟩), vo] H fun v H' => ∃ vo', v = .tuple ⟨[vo', .bool (resOf (stepWr s) s acc).2.1]⟩ ∧ S B H' (arr 4 endA vo' (resOf (stepWr s) s acc).1 :: repQ q (resOf (stepWr s) s acc).2.2 :: As) := by
  have hC := hS
  have hbl := hok.buf
  have hcap := hok.cap
  have hwl := hok.wl
  obtain ⟨ab, cb, ar, cr, aw, cw, h2, h3, h4, hS⟩ := openQ (S.up1 hS)
  obtain ⟨ao, co, rfl, hco⟩ := S.arrShape (S.up4 hS) (by omega)
  obtain ⟨css, hcss, hcl, hS⟩ := S.unarr (S.up3 hS)
  replace hS := S.dn4 (S.dn4 hS)
  obtain ⟨ess, hess, hel, hS⟩ := S.unarr (S.up5 hS)
  replace hS := S.dn6 (S.dn6 hS)
  refine wpF_ofW o86 rfl rfl ?_
  refine zsr ?_; refine zw1 ?_; refine zw1 ?_; refine zns ?_; refine wp_seq ?_; refine zsr ?_; refine zw1 ?_; refine wpO_cons ?_; refine op1_nilchk rfl rfl ?_; refine wpO_cons ?_; refine op1_faddr0 rfl rfl ?_; refine wpO_cons ?_; refine op1_load rfl rfl (by exact S.g0 hS) rfl ?_; refine wpO_cons ?_; refine op1_len rfl rfl ?_; refine wpO_cons ?_; refine op1_eqlI rfl rfl rfl ?_; refine zns ?_
  refine wp_dec rfl (fun hw0 => ?_) (fun hw0 => ?_)
  · have hws : s.writers = [] := List.eq_nil_of_length_eq_zero (by omega)
    have hst : stepWr s = none := by unfold stepWr; rw [hws]
    rw [hst]
    refine zsr ?_; refine zw1 ?_; refine zw1 ?_; refine zw1 ?_; refine zns ?_; refine wp_ret ?_; refine seq_ret ?_; refine ret_of ?_; refine rk_tmp (by (conv => lhs; whnf) <;> rfl) ?_; refine rk_tmp (by (conv => lhs; whnf) <;> rfl) ?_; refine rk_nil ?_
    exact ⟨_, rfl, hC⟩
  rcases hws : s.writers with _ | ⟨w, ws⟩
  · rw [hws] at hw0; simp at hw0
  simp only [hws, List.length_cons] at hS hcl h3 hwl
  simp only [hws, List.length_cons]
  obtain ⟨cs0, css, rfl, hS⟩ := S.many_uncons (S.up4 hS)
  obtain ⟨ad, cd, rfl, hcd, hS⟩ := wrA_un hS
  replace hS := S.dn5 (S.dn5 hS)
  have hwo := hok.ws w (by rw [hws]; simp)
  obtain ⟨bw, off, cw3, rfl, _, _, _, _⟩ := (S.up3 hS).elt (i := 0) (by omega)
  have hfl : ((([Value.int .i64 w.thread, .slice ad w.data.length cd, .int .i64 w.done] :: css).flatten.drop (Int.toNat 1 * 3)).take ((ws.length + 1 - Int.toNat 1) * 3)) = css.flatten := by
    show (css.flatten).take _ = css.flatten
    refine List.take_of_length_le ?_
    rw [flat_len 3 css fun c hc => hcss c (by simp [hc])]
    have : css.length = ws.length := by simpa using hcl
    rw [this]
    simp
  have hes4 : ∀ {x : List Value}, x.length = 4 → ∀ cs ∈ ess ++ [x], cs.length = 4 := fun hx c hc => by
    simp only [List.mem_append, List.mem_singleton] at hc
    rcases hc with hc | rfl
    · exact hess c hc
    · exact hx
  refine wp_skip ?_; refine seq_normal ?_; refine zsr ?_; refine zw1 ?_; refine wpO_cons ?_; refine op1_nilchk rfl rfl ?_; refine wpO_cons ?_; refine op1_faddr0 rfl rfl ?_; refine wpO_cons ?_; refine op1_load rfl rfl (by exact S.g0 hS) rfl ?_; refine wpO_cons ?_; refine op1_iaddr rfl rfl rfl (by omega) (by omega) ?_; refine zw1 ?_; refine zns ?_; refine wp_seq ?_; refine zsr ?_; refine zw1 ?_; refine wpO_cons ?_; refine op1_nilchk rfl rfl ?_; refine wpO_cons ?_; refine op1_faddr0 rfl rfl ?_; refine wpO_cons ?_; refine op1_load rfl rfl (by exact S.g0 hS) rfl ?_; refine wpO_cons ?_; refine op1_eqlI rfl rfl rfl ?_; refine zns ?_
  refine wp_dec rfl (fun ho0 => ?_) (fun ho0 => ?_)
  · have hst : stepWr s = some (some ⟨w.thread, [], w.done, 33⟩, { s with writers := ws }) := by unfold stepWr; rw [hws]; simp only [if_pos ho0]
    rw [hst]
    refine wp_seq ?_; refine wp_regionD ?_; refine zd1 ?_; refine zd1 ?_; refine wpD_cons ?_; refine op1_nilchk rfl rfl ?_; refine wpD_cons ?_; refine op1_faddr rfl rfl ?_; refine wpD_cons ?_; refine op1_loadL rfl rfl (S.up3 hS) rfl (by omega) rfl ?_; refine zd1 ?_; refine wpD_cons ?_; refine op1_nilchk rfl rfl ?_; refine wpD_cons ?_; refine op1_faddr rfl rfl ?_; refine wpD_cons ?_; refine op1_loadL rfl rfl (S.up3 hS) rfl (by omega) rfl ?_; refine wpD_cons ?_; refine op1_build rfl ?_; refine bk_one (by (conv => lhs; whnf) <;> rfl) rfl rfl rfl ?_; refine bk_one (by (conv => lhs; whnf) <;> rfl) rfl rfl rfl ?_; refine bk_one (by (conv => lhs; whnf) <;> rfl) rfl rfl rfl ?_; refine bk_nil ?_; refine wpD_cons ?_; refine op1_bsliceS rfl hS ?_; refine bk_agg rfl rfl rfl rfl ?_; refine bk_nil ?_; intro p1 H1 hS; refine wpD_cons ?_; (refine op1_appBS rfl rfl (by (conv => lhs; whnf) <;> rfl) rfl (S.g0 hS) rfl rfl (S.up7 hS) (by omega) ?_; intro a1 c1 H2 hS; replace hS := S.dn7 hS; replace hS := S.drop hS); refine zd1 ?_; refine wpD_nil ?_; refine dk_of ?_ ?_; (iterate 4 refine chk_skip ?_); refine chk_cons 9 rfl rfl rfl ?_ ?_; refine chkFs_cons 2 rfl rfl ?_ ?_; exact chk_loadL rfl (S.up4 (by assumption)) rfl (by omega) rfl rfl; exact chkFs_nil; (iterate 3 refine chk_skip ?_); refine chk_cons 5 rfl rfl rfl ?_ ?_; refine chkFs_cons 2 rfl rfl ?_ ?_; exact chk_loadL rfl (S.up4 (by assumption)) rfl (by omega) rfl rfl; exact chkFs_nil; (iterate 4 refine chk_skip ?_); exact chk_end; refine seq_normal ?_; refine zsr ?_; refine zw1 ?_; refine zw1 ?_; refine wpO_cons ?_; refine op1_nilchk rfl rfl ?_; refine wpO_cons ?_; refine op1_faddr0 rfl rfl ?_; refine wpO_cons ?_; refine op1_load rfl rfl (by exact S.g0 hS) rfl ?_; refine wpO_cons ?_
    refine op1_sliS rfl rfl (S.up3 hS) (bnds_lo (i := .i64) (n := 1) (by omega) (by omega) (by omega)) (by simp) (by simp) ?_
    intro a8 c8 hS
    rw [hfl] at hS
    replace hS := S.dn3 hS
    refine wpO_cons ?_; refine op1_nilchk rfl rfl ?_; refine wpO_cons ?_; refine op1_faddr0 rfl rfl ?_; refine wpO_cons ?_; (refine op1_store1S rfl rfl (by (conv => lhs; whnf) <;> rfl) rfl rfl (S.up0 hS) rfl ?_; intro H3 hS; replace hS := S.dn0 hS); refine zns ?_; refine zsr ?_; refine zw1 ?_; refine zw1 ?_; refine zw1 ?_; refine zns ?_; refine wp_ret ?_; refine seq_ret ?_; refine ret_of ?_; refine rk_tmp (by (conv => lhs; whnf) <;> rfl) ?_; refine rk_tmp (by (conv => lhs; whnf) <;> rfl) ?_; refine rk_nil ?_
    have h6 := S.dn6 (S.many_snoc (endA_nil (e := ⟨w.thread, [], w.done, 33⟩) rfl (S.up6 (S.drop (S.up4 hS)))))
    rw [← flatten_snoc (css := ess)] at h6
    exact ⟨_, rfl, closeQE (s := { s with writers := ws }) (fun c hc => hcss c (by simp [hc])) (hes4 rfl) h6⟩
  · have hfw : fitW s w = fitN s (w.data.length - w.done) (decide ((w.data.length : Int) ≤ s.atomic)) := rfl
    obtain ⟨_, hrw, _⟩ := (S.up4 hS).rd
    refine wp_skip ?_; refine seq_normal ?_; refine wp_seq ?_; refine wp_regionD ?_; refine zd1 ?_; refine wpD_cons ?_; refine op1_nilchk rfl rfl ?_; refine wpD_cons ?_; refine op1_faddr rfl rfl ?_; refine wpD_cons ?_; refine op1_loadL rfl rfl (S.up3 hS) rfl (by omega) rfl ?_; refine zd1 ?_; refine wpD_cons ?_; refine op1_nilchk rfl rfl ?_; refine wpD_cons ?_; refine op1_faddr rfl rfl ?_; refine wpD_cons ?_; refine op1_loadL rfl rfl (S.up3 hS) rfl (by omega) rfl ?_; refine wpD_cons ?_
    refine op1_sliceRC rfl rfl hrw (bnds_lo (by omega) (by omega) hcd) (by simp only [Int.toNat_natCast]; omega) (Nat.le_refl _) ?_
    simp only [Int.toNat_natCast, Nat.mul_one]
    intro a7 c7 hd7 hck7
    rw [u8s_drop, u8s_take, List.take_of_length_le (by simp only [List.length_drop]; omega)] at hd7
    have hcd7 := hd7.le_cap
    refine zd1 ?_; refine wpD_nil ?_; refine dk_of ?_ ?_; (iterate 3 refine chk_skip ?_); refine chk_cons 7 rfl rfl rfl ?_ ?_; refine chkFs_cons 0 rfl rfl ?_ ?_; exact chk_loadL rfl (S.up3 (by assumption)) rfl (by omega) rfl rfl; exact chkFs_nil; (iterate 3 refine chk_skip ?_); refine chk_cons 3 rfl rfl rfl ?_ ?_; refine chkFs_cons 0 rfl rfl ?_ ?_; exact chk_loadL rfl (S.up3 (by assumption)) rfl (by omega) rfl rfl; exact chkFs_nil; refine chk_cons 2 rfl rfl rfl ?_ ?_; refine chkFs_cons 0 rfl rfl ?_ ?_
    · exact hck7 _ _ (fun _ _ => rfl) rfl
    exact chkFs_nil; refine chk_skip ?_; exact chk_end; refine seq_normal ?_; refine wp_seq ?_; refine wp_regionD ?_; refine zd1 ?_; refine zd1 ?_; refine zd1 ?_; refine wpD_cons ?_; refine op1_nilchk rfl rfl ?_; refine wpD_cons ?_; refine op1_faddr rfl rfl ?_; refine wpD_cons ?_; refine op1_loadL rfl rfl (S.up3 hS) rfl (by omega) rfl ?_; refine wpD_cons ?_; refine op1_len rfl rfl ?_; refine zd1 ?_; refine wpD_cons ?_; refine op1_nilchk rfl rfl ?_; refine wpD_cons ?_; refine op1_faddr0 rfl rfl ?_; refine wpD_cons ?_; refine op1_load rfl rfl (by exact S.g0 hS) rfl ?_; refine wpD_cons ?_; refine op1_leq rfl rfl rfl ?_; refine wpD_cons ?_; refine op1_call3 rfl (by (conv => lhs; whnf) <;> rfl) (by (conv => lhs; whnf) <;> rfl) (by (conv => lhs; whnf) <;> rfl) ?_
    refine wpF_mono (L74 (s := s) hS ⟨_, _, rfl⟩ hcap.2 hbl) ?_
    rintro _ _ ⟨rfl, rfl⟩
    rw [← hfw]
    have hfle : fitW s w ≤ w.data.length - w.done ∧ s.buf.length + fitW s w ≤ s.cap := by
      rw [hfw]; unfold fitN
      split
      · omega
      · split <;> omega
    generalize hn : fitW s w = n at *
    refine zd1 ?_; refine wpD_nil ?_; refine dk_of ?_ ?_; (iterate 5 refine chk_skip ?_); refine chk_cons 9 rfl rfl rfl ?_ ?_; refine chkFs_cons 2 rfl rfl ?_ ?_; exact chk_loadL rfl (S.up3 (by assumption)) rfl (by omega) rfl rfl; exact chkFs_nil; refine chk_cons 8 rfl rfl rfl ?_ ?_; refine chkFs_cons 2 rfl rfl ?_ ?_; exact chk_len rfl rfl; exact chkFs_nil; (iterate 3 refine chk_skip ?_); refine chk_cons 4 rfl rfl rfl ?_ ?_; refine chkFs_cons 2 rfl rfl ?_ ?_; exact chk_load rfl (by exact S.g0 hS) rfl rfl; exact chkFs_nil; (iterate 3 refine chk_skip ?_); exact chk_end; refine seq_normal ?_; refine wp_seq ?_; refine zsr ?_; refine zw1 ?_; refine wpO_cons ?_; refine op1_eqlI rfl rfl rfl ?_; refine zns ?_
    refine wp_dec rfl (fun hn0 => ?_) (fun hn0 => ?_)
    · have hst : stepWr s = none := by unfold stepWr; rw [hws]; simp only [if_neg ho0]; rw [if_pos (by omega)]
      rw [hst]
      refine zsr ?_; refine zw1 ?_; refine zw1 ?_; refine zw1 ?_; refine zns ?_; refine wp_ret ?_; refine seq_ret ?_; refine ret_of ?_; refine rk_tmp (by (conv => lhs; whnf) <;> rfl) ?_; refine rk_tmp (by (conv => lhs; whnf) <;> rfl) ?_; refine rk_nil ?_
      exact ⟨_, rfl, hC⟩
    refine wp_skip ?_; refine seq_normal ?_; refine wp_seq ?_; refine wp_regionD ?_; refine zd1 ?_; refine zd1 ?_; refine wpD_cons ?_; refine op1_nilchk rfl rfl ?_; refine wpD_cons ?_; refine op1_faddr0 rfl rfl ?_; refine wpD_cons ?_; refine op1_load rfl rfl (by exact S.g0 hS) rfl ?_; refine zd1 ?_; refine zd1 ?_; refine wpD_cons ?_
    refine op1_sliceRC rfl rfl hd7 (bnds_hi (by omega) (by omega)) (by omega) (by simp only [Int.toNat_natCast]; omega) ?_
    simp only [Int.toNat_natCast, Nat.zero_mul, List.drop_zero, Nat.sub_zero, Nat.mul_one]
    intro a9 c9 hd9 hck9
    rw [u8s_take] at hd9
    have hpl : ((w.data.drop w.done).take n).length = n := by simp only [List.length_take, List.length_drop]; omega
    refine wpD_cons ?_
    refine op1_appRS rfl rfl (by (conv => lhs; whnf) <;> rfl) rfl hd9 (by simp; omega) (u8s_one _) (S.up1 hS) (by omega) ?_
    rw [← u8s_append]
    intro ab2 cb2 H2 hS
    replace hS := S.dn1 hS
    refine wpD_cons ?_; refine op1_nilchk rfl rfl ?_; refine wpD_cons ?_; refine op1_faddr0 rfl rfl ?_; refine wpD_cons ?_; (refine op1_store1S rfl rfl (by (conv => lhs; whnf) <;> rfl) rfl rfl (S.up0 hS) rfl ?_; intro H1 hS; replace hS := S.dn0 hS); refine wpD_nil ?_; refine dk_of ?_ ?_; (iterate 4 refine chk_skip ?_); refine chk_cons 8 rfl rfl rfl ?_ ?_; refine chkFs_cons 4 rfl rfl ?_ ?_; exact chk_load rfl (by exact S.g0 (by assumption)) rfl rfl; exact chkFs_nil; (iterate 2 refine chk_skip ?_); refine chk_cons 5 rfl rfl rfl ?_ ?_; refine chkFs_cons 4 rfl rfl ?_ ?_
    · exact hck9 _ _ (fun _ _ => rfl) rfl
    exact chkFs_nil; (iterate 4 refine chk_skip ?_); exact chk_end; refine seq_normal ?_; refine zsr ?_; refine zw1 ?_; refine zw1 ?_; refine wpO_cons ?_; refine op1_nilchk rfl rfl ?_; refine wpO_cons ?_; refine op1_faddr rfl rfl ?_; refine wpO_cons ?_; refine op1_loadL rfl rfl (S.up3 hS) rfl (by omega) rfl ?_; refine zw1 ?_; refine wpO_cons ?_; refine op1_add rfl rfl rfl (by exact wrap_i64 (by omega) (by omega)) ?_; refine wpO_cons ?_; refine op1_nilchk rfl rfl ?_; refine wpO_cons ?_; refine op1_faddr rfl rfl ?_; refine wpO_cons ?_; (refine op1_store1L rfl rfl (by (conv => lhs; whnf) <;> rfl) rfl rfl (S.up3 hS) (by omega) ?_; intro H3 hS; replace hS := S.dn3 hS); refine zns ?_; refine wp_seq ?_; refine wp_seq ?_; refine wp_regionD ?_; refine zd1 ?_; refine wpD_cons ?_; refine op1_nilchk rfl rfl ?_; refine wpD_cons ?_; refine op1_faddr rfl rfl ?_; refine wpD_cons ?_; refine op1_loadL rfl rfl (S.up3 hS) rfl (by omega) rfl ?_; refine zd1 ?_; refine wpD_cons ?_; refine op1_nilchk rfl rfl ?_; refine wpD_cons ?_; refine op1_faddr rfl rfl ?_; refine wpD_cons ?_; refine op1_loadL rfl rfl (S.up3 hS) rfl (by omega) rfl ?_; refine wpD_cons ?_; refine op1_len rfl rfl ?_; refine wpD_cons ?_; refine op1_eqlI rfl rfl rfl ?_; refine wpD_nil ?_; refine dk_of ?_ ?_; (iterate 3 refine chk_skip ?_); refine chk_cons 7 rfl rfl rfl ?_ ?_; refine chkFs_cons 0 rfl rfl ?_ ?_; exact chk_loadL rfl (S.up3 (by assumption)) rfl (by omega) rfl rfl; exact chkFs_nil; (iterate 3 refine chk_skip ?_); refine chk_cons 3 rfl rfl rfl ?_ ?_; refine chkFs_cons 0 rfl rfl ?_ ?_; exact chk_loadL rfl (S.up3 (by assumption)) rfl (by omega) rfl rfl; exact chkFs_nil; refine chk_cons 2 rfl rfl rfl ?_ ?_; refine chkFs_cons 0 rfl rfl ?_ ?_; exact chk_len rfl rfl; exact chkFs_nil; refine chk_skip ?_; exact chk_end; refine seq_normal ?_
    refine wp_dec rfl (fun hdone => ?_) (fun hdone => ?_)
    · have hst : stepWr s = some (some ⟨w.thread, [], (w.done + n : Nat), 0⟩, { s with buf := s.buf ++ (w.data.drop w.done).take n, writers := ws }) := by
        unfold stepWr; rw [hws]; simp only [if_neg ho0, hn]; rw [if_neg (by omega), if_pos (by omega)]
      rw [hst]
      refine wp_seq ?_; refine wp_regionD ?_; refine zd1 ?_; refine zd1 ?_; refine wpD_cons ?_; refine op1_nilchk rfl rfl ?_; refine wpD_cons ?_; refine op1_faddr rfl rfl ?_; refine wpD_cons ?_; refine op1_loadL rfl rfl (S.up3 hS) rfl (by omega) rfl ?_; refine zd1 ?_; refine wpD_cons ?_; refine op1_nilchk rfl rfl ?_; refine wpD_cons ?_; refine op1_faddr rfl rfl ?_; refine wpD_cons ?_; refine op1_loadL rfl rfl (S.up3 hS) rfl (by omega) rfl ?_; refine wpD_cons ?_; refine op1_build rfl ?_; refine bk_one (by (conv => lhs; whnf) <;> rfl) rfl rfl rfl ?_; refine bk_one (by (conv => lhs; whnf) <;> rfl) rfl rfl rfl ?_; refine bk_nil ?_; refine wpD_cons ?_; refine op1_bsliceS rfl hS ?_; refine bk_agg rfl rfl rfl rfl ?_; refine bk_nil ?_; intro p1 H4 hS; refine wpD_cons ?_; (refine op1_appBS rfl rfl (by (conv => lhs; whnf) <;> rfl) rfl (S.g0 hS) rfl rfl (S.up7 hS) (by omega) ?_; intro a1 c1 H5 hS; replace hS := S.dn7 hS; replace hS := S.drop hS); refine zd1 ?_; refine wpD_nil ?_; refine dk_of ?_ ?_; (iterate 4 refine chk_skip ?_); refine chk_cons 9 rfl rfl rfl ?_ ?_; refine chkFs_cons 2 rfl rfl ?_ ?_; exact chk_loadL rfl (S.up4 (by assumption)) rfl (by omega) rfl rfl; exact chkFs_nil; (iterate 3 refine chk_skip ?_); refine chk_cons 5 rfl rfl rfl ?_ ?_; refine chkFs_cons 2 rfl rfl ?_ ?_; exact chk_loadL rfl (S.up4 (by assumption)) rfl (by omega) rfl rfl; exact chkFs_nil; (iterate 4 refine chk_skip ?_); exact chk_end; refine seq_normal ?_; refine wp_region ?_; refine zw1 ?_; refine zw1 ?_; refine wpO_cons ?_; refine op1_nilchk rfl rfl ?_; refine wpO_cons ?_; refine op1_faddr0 rfl rfl ?_; refine wpO_cons ?_; refine op1_load rfl rfl (by exact S.g0 hS) rfl ?_; refine wpO_cons ?_
      refine op1_sliSE (xs' := css.flatten) rfl rfl (S.up3 hS) (bnds_lo (i := .i64) (n := 1) (by omega) (by omega) (by omega)) (by simp) (by simp) hfl ?_
      intro a8 c8 hS
      replace hS := S.dn3 hS
      refine wpO_cons ?_; refine op1_nilchk rfl rfl ?_; refine wpO_cons ?_; refine op1_faddr0 rfl rfl ?_; refine wpO_cons ?_; (refine op1_store1S rfl rfl (by (conv => lhs; whnf) <;> rfl) rfl rfl (S.up0 hS) rfl ?_; intro H6 hS; replace hS := S.dn0 hS); refine zns ?_; refine zsr ?_; refine zw1 ?_; refine zw1 ?_; refine zw1 ?_; refine zns ?_; refine wp_ret ?_; refine ret_of ?_; refine rk_tmp (by (conv => lhs; whnf) <;> rfl) ?_; refine rk_tmp (by (conv => lhs; whnf) <;> rfl) ?_; refine rk_nil ?_
      have h6 := S.dn6 (S.many_snoc (endA_nil (e := ⟨w.thread, [], (w.done + n : Nat), 0⟩) rfl (S.up6 (S.drop (S.up4 hS)))))
      rw [← flatten_snoc (css := ess)] at h6
      exact ⟨_, rfl, closeQE (s := { s with buf := s.buf ++ (w.data.drop w.done).take n, writers := ws }) (fun c hc => hcss c (by simp [hc])) (hes4 rfl) h6⟩
    · have hst : stepWr s = some (none, { s with buf := s.buf ++ (w.data.drop w.done).take n, writers := { w with done := w.done + n } :: ws }) := by
        unfold stepWr; rw [hws]; simp only [if_neg ho0, hn]; rw [if_neg (by omega), if_neg (by omega)]
      rw [hst]
      refine wp_skip ?_; refine seq_normal ?_; refine zsr ?_; refine zw1 ?_; refine zw1 ?_; refine zw1 ?_; refine zns ?_; refine wp_ret ?_; refine ret_of ?_; refine rk_tmp (by (conv => lhs; whnf) <;> rfl) ?_; refine rk_tmp (by (conv => lhs; whnf) <;> rfl) ?_; refine rk_nil ?_
      have h6 := S.dn4 (S.many_cons (S.up1 (S.up5 (wrA_of (w := { w with done := w.done + n }) (S.up4 hS)))))
      refine ⟨_, rfl, ?_⟩
      show S B H3 (arr 4 endA _ (acc ++ []) :: _)
      rw [List.append_nil]
      exact closeQE (s := { s with buf := s.buf ++ (w.data.drop w.done).take n, writers := { w with done := w.done + n } :: ws }) (css := [.int .i64 w.thread, .slice ad w.data.length cd, .int .i64 (w.done + n : Nat)] :: css) (fun c hc => by
        simp only [List.mem_cons] at hc
        rcases hc with rfl | hc
        · rfl
        · exact hcss c (by simp [hc])) hess h6

theorem L87 {B H : AHeap} {As : List Asn} {q : Nat} {s : PP} {vo : Value} {acc : List EndM} (hS : S B H (arr 4 endA vo acc :: repQ q s :: As)) (hok : Ok s) (hal : acc.length ≤ 1000000) :
    wpF C 87 [.pointer (some ⟨q, 0, none⟩), vo] H fun v H' => ∃ vo', v = .tuple ⟨[vo', .bool (resOf (stepR s) s acc).2.1]⟩ ∧ S B H' (arr 4 endA vo' (resOf (stepR s) s acc).1 :: repQ q (resOf (stepR s) s acc).2.2 :: As) := by
  have hC := hS
  have hbl := hok.buf
  have hcap := hok.cap
  have hwl := hok.wl
  have hrl := hok.rl
  obtain ⟨ab, cb, ar, cr, aw, cw, h2, h3, h4, hS⟩ := openQ (S.up1 hS)
  obtain ⟨ao, co, rfl, hco⟩ := S.arrShape (S.up4 hS) (by omega)
  obtain ⟨ess, hess, hel, hS⟩ := S.unarr (S.up4 hS)
  replace hS := S.dn5 (S.dn5 hS)
  refine wpF_ofW o87 rfl rfl ?_
  refine zsr ?_; refine zw1 ?_; refine zw1 ?_; refine zns ?_; refine wp_seq ?_; refine zsr ?_; refine zw1 ?_; refine wpO_cons ?_; refine op1_nilchk rfl rfl ?_; refine wpO_cons ?_; refine op1_faddr0 rfl rfl ?_; refine wpO_cons ?_; refine op1_load rfl rfl (by exact S.g0 hS) rfl ?_; refine wpO_cons ?_; refine op1_len rfl rfl ?_; refine wpO_cons ?_; refine op1_eqlI rfl rfl rfl ?_; refine zns ?_
  refine wp_dec rfl (fun hr0 => ?_) (fun hr0 => ?_)
  · have hrs : s.readers = [] := List.eq_nil_of_length_eq_zero (by omega)
    have hst : stepR s = none := by unfold stepR; rw [hrs]
    rw [hst]
    refine zsr ?_; refine zw1 ?_; refine zw1 ?_; refine zw1 ?_; refine zns ?_; refine wp_ret ?_; refine seq_ret ?_; refine ret_of ?_; refine rk_tmp (by (conv => lhs; whnf) <;> rfl) ?_; refine rk_tmp (by (conv => lhs; whnf) <;> rfl) ?_; refine rk_nil ?_
    exact ⟨_, rfl, hC⟩
  rcases hrs : s.readers with _ | ⟨x, rs⟩
  · rw [hrs] at hr0; simp at hr0
  simp only [hrs, List.length_cons] at hS h2 hrl
  simp only [hrs, List.length_cons]
  have hxo := hok.rs x (by rw [hrs]; simp)
  obtain ⟨br, offr, cw4, rfl, _, _, _, _⟩ := (S.up2 hS).elt (i := 0) (by omega)
  refine wp_skip ?_; refine seq_normal ?_; refine zsr ?_; refine zw1 ?_; refine wpO_cons ?_; refine op1_nilchk rfl rfl ?_; refine wpO_cons ?_; refine op1_faddr0 rfl rfl ?_; refine wpO_cons ?_; refine op1_load rfl rfl (by exact S.g0 hS) rfl ?_; refine wpO_cons ?_; refine op1_iaddr rfl rfl rfl (by omega) (by omega) ?_; refine wpO_cons ?_; refine op1_loadNL rfl rfl (S.up2 hS) rfl rfl (by omega) rfl ?_; refine wpO_cons ?_; refine op1_allocS rfl hS ?_; intro p1 H1 hS; refine wpO_cons ?_; (refine op1_storeNS rfl rfl (by (conv => lhs; whnf) <;> rfl) rfl rfl (S.up0 hS) (Nat.le_of_ble_eq_true rfl) ?_; intro H2 hS; replace hS := S.dn0 hS); refine zns ?_; refine wp_seq ?_; refine zsr ?_; refine zw1 ?_; refine wpO_cons ?_; refine op1_nilchk rfl rfl ?_; refine wpO_cons ?_; refine op1_faddr0 rfl rfl ?_; refine wpO_cons ?_; refine op1_load rfl rfl (by exact S.g1 hS) rfl ?_; refine wpO_cons ?_; refine op1_len rfl rfl ?_; refine wpO_cons ?_; refine op1_gtr rfl rfl rfl ?_; refine zns ?_
  have hfr : (((x :: rs).flatMap rdC).drop (Int.toNat 1 * 2)).take ((rs.length + 1 - Int.toNat 1) * 2) = rs.flatMap rdC := by
    show (rs.flatMap rdC).take _ = rs.flatMap rdC
    refine List.take_of_length_le ?_
    rw [rdC_len]
    simp
  have hes4 : ∀ {x : List Value}, x.length = 4 → ∀ cs ∈ ess ++ [x], cs.length = 4 := fun hx c hc => by
    simp only [List.mem_append, List.mem_singleton] at hc
    rcases hc with hc | rfl
    · exact hess c hc
    · exact hx
  refine wp_dec rfl (fun hb => ?_) (fun hb => ?_)
  · have hst : stepR s = some (some ⟨x.1, s.buf.take (min x.2 s.buf.length).toNat, (min x.2 s.buf.length).toNat, 0⟩, { s with buf := s.buf.drop (min x.2 s.buf.length).toNat, readers := rs }) := by
      unfold stepR; rw [hrs]; simp only; rw [if_pos (.inl (by omega))]
    rw [hst]
    refine zsr ?_; refine zw1 ?_; refine wpO_cons ?_; refine op1_faddr0 rfl rfl ?_; refine wpO_cons ?_; refine op1_load rfl rfl (by exact S.g0 hS) rfl ?_; refine wpO_cons ?_; refine op1_call2 rfl (by (conv => lhs; whnf) <;> rfl) (by (conv => lhs; whnf) <;> rfl) ?_
    refine wpF_mono (L73 (s := s) (S.up2 (S.up2 hS)) (by omega) (by omega)) ?_
    rintro _ H3 ⟨a5, c5, a6, c6, rfl, hS⟩
    refine zw1 ?_; refine zns ?_; refine wp_region ?_; refine zw1 ?_; refine wpO_cons ?_; refine op1_faddr0 rfl rfl ?_; refine wpO_cons ?_; refine op1_load rfl rfl (by exact S.g3 hS) rfl ?_; refine zw1 ?_; refine zw1 ?_; refine wpO_cons ?_; refine op1_len rfl rfl ?_; refine wpO_cons ?_; refine op1_build rfl ?_; refine bk_one (by (conv => lhs; whnf) <;> rfl) rfl rfl rfl ?_; refine bk_one (by (conv => lhs; whnf) <;> rfl) rfl rfl rfl ?_; refine bk_one (by (conv => lhs; whnf) <;> rfl) rfl rfl rfl ?_; refine bk_nil ?_; refine wpO_cons ?_; refine op1_bsliceS rfl hS ?_; refine bk_agg rfl rfl rfl rfl ?_; refine bk_nil ?_; intro p2 H4 hS; refine wpO_cons ?_; (refine op1_appBS rfl rfl (by (conv => lhs; whnf) <;> rfl) rfl (S.g0 hS) rfl rfl (S.up7 hS) (by omega) ?_; intro a1 c1 H5 hS; replace hS := S.dn7 hS; replace hS := S.drop hS); refine zw1 ?_; refine zns ?_; refine zsr ?_; refine zw1 ?_; refine zw1 ?_; refine wpO_cons ?_; refine op1_nilchk rfl rfl ?_; refine wpO_cons ?_; refine op1_faddr0 rfl rfl ?_; refine wpO_cons ?_; refine op1_load rfl rfl (by exact S.g1 hS) rfl ?_; refine wpO_cons ?_
    refine op1_sliSE (xs' := rs.flatMap rdC) rfl rfl (S.up4 hS) (bnds_lo (i := .i64) (n := 1) (by omega) (by omega) (by omega)) (by simp) (by simp) hfr ?_
    intro a8 c8 hS
    replace hS := S.dn4 hS
    refine wpO_cons ?_; refine op1_nilchk rfl rfl ?_; refine wpO_cons ?_; refine op1_faddr0 rfl rfl ?_; refine wpO_cons ?_; (refine op1_store1S rfl rfl (by (conv => lhs; whnf) <;> rfl) rfl rfl (S.up1 hS) rfl ?_; intro H6 hS; replace hS := S.dn1 hS); refine zns ?_; refine zsr ?_; refine zw1 ?_; refine zw1 ?_; refine zw1 ?_; refine zns ?_; refine wp_ret ?_; refine ret_of ?_; refine rk_tmp (by (conv => lhs; whnf) <;> rfl) ?_; refine rk_tmp (by (conv => lhs; whnf) <;> rfl) ?_; refine rk_nil ?_
    have h6 := S.many_snoc (S.up1 (S.up7 (endA_of (e := ⟨x.1, s.buf.take (min x.2 s.buf.length).toNat, (min x.2 s.buf.length).toNat, 0⟩) hS)))
    rw [← flatten_snoc (css := ess)] at h6
    have h7 := S.arrI (S.up6 h6) (hes4 rfl)
    exact ⟨_, rfl, S.up1 (closeQ (s := { s with buf := s.buf.drop (min x.2 s.buf.length).toNat, readers := rs }) (S.dn4 (S.drop (S.up3 h7))))⟩
  · have hb0 : s.buf = [] := List.eq_nil_of_length_eq_zero (by omega)
    skip
    refine wp_cut [52] (fun vs H' => vs = [.bool (decide (s.o1 = 0 ∧ s.writers.length = 0))] ∧ H2 = H') ?_ ?_
    · refine wp_region ?_; refine zw1 ?_; refine wpO_cons ?_; refine op1_nilchk rfl rfl ?_; refine wpO_cons ?_; refine op1_faddr0 rfl rfl ?_; refine wpO_cons ?_; refine op1_load rfl rfl (by exact S.g1 hS) rfl ?_; refine wpO_cons ?_; refine op1_eqlI rfl rfl rfl ?_; refine zw1 ?_; refine wpO_cons ?_; refine op1_split rfl (fun hc0 => ?_) (fun hc0 => ?_); (focus (refine op1_mov rfl (by (conv => lhs; whnf) <;> rfl) ?_; refine wpO_cons ?_; refine op1_nilchk rfl rfl ?_; refine wpO_cons ?_; refine op1_faddr0 rfl rfl ?_; refine wpO_cons ?_; refine op1_load rfl rfl (by exact S.g1 hS) rfl ?_; refine wpO_cons ?_; refine op1_len rfl rfl ?_; refine wpO_cons ?_; refine op1_eqlI rfl rfl rfl ?_; refine wpO_cons ?_; refine op1_pick_t rfl rfl (by (conv => lhs; whnf) <;> rfl) ?_; refine wpO_nil ?_; refine cut1 (by (conv => lhs; whnf) <;> rfl) ?_; (exact ⟨bool_leaf (by simp_all <;> omega), rfl⟩))); (focus (refine op1_skip rfl ?_; refine wpO_cons ?_; refine op1_skip rfl ?_; refine wpO_cons ?_; refine op1_skip rfl ?_; refine wpO_cons ?_; refine op1_skip rfl ?_; refine wpO_cons ?_; refine op1_skip rfl ?_; refine wpO_cons ?_; refine op1_skip rfl ?_; refine wpO_cons ?_; refine op1_pick_f rfl rfl (by (conv => lhs; whnf) <;> rfl) ?_; refine wpO_nil ?_; refine cut1 (by (conv => lhs; whnf) <;> rfl) ?_; (exact ⟨bool_leaf (by simp_all <;> omega), rfl⟩)))
    rintro vs2 T2 H3 ⟨rfl, rfl⟩
    refine wp_dec rfl (fun hgo => ?_) (fun hgo => ?_)
    · have hmz : (min x.2 s.buf.length).toNat = 0 := by rw [hb0]; simp; omega
      have hst : stepR s = some (some ⟨x.1, [], 0, 0⟩, { s with buf := s.buf, readers := rs }) := by
        unfold stepR; rw [hrs]; simp only; rw [if_pos (.inr hgo), hmz]; simp
      rw [hst]
      refine wp_region ?_; refine zw1 ?_; refine wpO_cons ?_; refine op1_faddr0 rfl rfl ?_; refine wpO_cons ?_; refine op1_load rfl rfl (by exact S.g0 hS) rfl ?_; refine wpO_cons ?_; refine op1_build rfl ?_; refine bk_one (by (conv => lhs; whnf) <;> rfl) rfl rfl rfl ?_; refine bk_nil ?_; refine wpO_cons ?_; refine op1_bsliceS rfl hS ?_; refine bk_agg rfl rfl rfl rfl ?_; refine bk_nil ?_; intro p2 H3 hS; refine wpO_cons ?_; (refine op1_appBS rfl rfl (by (conv => lhs; whnf) <;> rfl) rfl (S.g0 hS) rfl rfl (S.up6 hS) (by omega) ?_; intro a1 c1 H4 hS; replace hS := S.dn6 hS; replace hS := S.drop hS); refine zw1 ?_; refine zns ?_; refine zsr ?_; refine zw1 ?_; refine zw1 ?_; refine wpO_cons ?_; refine op1_nilchk rfl rfl ?_; refine wpO_cons ?_; refine op1_faddr0 rfl rfl ?_; refine wpO_cons ?_; refine op1_load rfl rfl (by exact S.g1 hS) rfl ?_; refine wpO_cons ?_
      refine op1_sliSE (xs' := rs.flatMap rdC) rfl rfl (S.up3 hS) (bnds_lo (i := .i64) (n := 1) (by omega) (by omega) (by omega)) (by simp) (by simp) hfr ?_
      intro a8 c8 hS
      replace hS := S.dn3 hS
      refine wpO_cons ?_; refine op1_nilchk rfl rfl ?_; refine wpO_cons ?_; refine op1_faddr0 rfl rfl ?_; refine wpO_cons ?_; (refine op1_store1S rfl rfl (by (conv => lhs; whnf) <;> rfl) rfl rfl (S.up1 hS) rfl ?_; intro H5 hS; replace hS := S.dn1 hS); refine zns ?_; refine zsr ?_; refine zw1 ?_; refine zw1 ?_; refine zw1 ?_; refine zns ?_; refine wp_ret ?_; refine ret_of ?_; refine rk_tmp (by (conv => lhs; whnf) <;> rfl) ?_; refine rk_tmp (by (conv => lhs; whnf) <;> rfl) ?_; refine rk_nil ?_
      have h6 := S.many_snoc (endA_nil (e := ⟨x.1, [], 0, 0⟩) rfl (S.up5 (S.drop hS)))
      rw [← flatten_snoc (css := ess)] at h6
      have h8 := S.dn4 (S.arrI (S.up5 h6) (hes4 rfl))
      exact ⟨_, rfl, S.up1 (closeQ (s := { s with buf := s.buf, readers := rs }) h8)⟩
    · have hst : stepR s = none := by
        unfold stepR; rw [hrs]; simp only; rw [if_neg (fun h => h.elim (fun h => by omega) hgo)]
      rw [hst]
      refine zsr ?_; refine zw1 ?_; refine zw1 ?_; refine zw1 ?_; refine zns ?_; refine wp_ret ?_; refine seq_ret ?_; refine ret_of ?_; refine rk_tmp (by (conv => lhs; whnf) <;> rfl) ?_; refine rk_tmp (by (conv => lhs; whnf) <;> rfl) ?_; refine rk_nil ?_
      have h7 := S.arrI (S.up5 (S.up5 (S.drop hS))) hess
      rw [← hrs] at h7
      have h8 := S.dn4 h7
      exact ⟨_, rfl, S.up1 (closeQ (s := s) h8)⟩
end Go.E.Pi
