/- The reference's pipe: how it lies in the heap; its small methods. -/
import Derived.Test.YtgmmkajjigmjoaaPiCode2
import Derived.Test.YtgmmkajjigmjoaaPiF8
namespace Go.E.Pi
open Go Go.E Go.Proofs.Ytgmmkajjigmjoaa Go.Proofs
set_option linter.unusedVariables false
set_option linter.unusedSimpArgs false
set_option maxRecDepth 100000

def qC (s : PP) (vb vr vw : Value) : List Value := [.int .i64 s.cap, .int .i64 s.atomic, vb, .int .i64 s.o0, .int .i64 s.o1, vr, vw]
def repQ (q : Nat) (s : PP) : Asn := exA fun (x : Value × Value × Value) =>
  seps [pto q (.cells (qC s x.1 x.2.1 x.2.2) 0 false), sl 1 x.1 (u8s s.buf), sl 2 x.2.1 (s.readers.flatMap rdC), arr 3 wrA x.2.2 s.writers]
section
variable {B H : AHeap} {As : List Asn} {q : Nat} {s : PP}
theorem openQ (h : S B H (repQ q s :: As)) : ∃ ab cb ar cr aw cw, s.readers.length ≤ cr ∧ s.writers.length ≤ cw ∧ s.buf.length ≤ cb ∧ S B H (pto q (.cells (qC s (.slice ab s.buf.length cb) (.slice ar s.readers.length cr) (.slice aw s.writers.length cw)) 0 false) :: sl 1 (.slice ab s.buf.length cb) (u8s s.buf) :: sl 2 (.slice ar s.readers.length cr) (s.readers.flatMap rdC) :: arr 3 wrA (.slice aw s.writers.length cw) s.writers :: As) := by
  obtain ⟨⟨vb, vr, vw⟩, h⟩ := S.unex h
  have h := S.unseps h
  obtain ⟨ab, cb, e1⟩ := S.u1 (S.up1 h)
  obtain ⟨ar, cr, e2, h2⟩ := shapeR (S.up2 h)
  obtain ⟨aw, cw, e3, h3⟩ := S.arrShape (S.up3 h) (by omega)
  simp only at e1 e2 e3
  subst e1 e2 e3
  exact ⟨ab, cb, ar, cr, aw, cw, h2, h3, S.len_le (S.up1 h), h⟩
theorem closeQ {vb vr vw : Value} (h : S B H (pto q (.cells (qC s vb vr vw) 0 false) :: sl 1 vb (u8s s.buf) :: sl 2 vr (s.readers.flatMap rdC) :: arr 3 wrA vw s.writers :: As)) : S B H (repQ q s :: As) :=
  S.exI (X := Value × Value × Value) (vb, vr, vw) (S.seps h)
end

theorem L28 {B H : AHeap} {As : List Asn} {q : Nat} {s : PP} (hS : S B H (repQ q s :: As)) : wpF C 28 [.pointer (some ⟨q, 0, none⟩)] H fun v H' => v = .int .i64 s.buf.length ∧ H = H' := by
  obtain ⟨ab, cb, ar, cr, aw, cw, h2, h3, h4, hS⟩ := openQ hS
  refine wpF_ofW o28 rfl rfl ?_
  refine wp_seq ?_; refine wp_region ?_; refine wpO_cons ?_; refine op1_mov rfl (by (conv => lhs; whnf) <;> rfl) ?_; refine wpO_nil ?_; refine seq_normal ?_; refine wp_seq ?_; refine wp_region ?_; refine wpO_cons ?_; refine op1_mov rfl (by (conv => lhs; whnf) <;> rfl) ?_; refine wpO_cons ?_; refine op1_nilchk rfl rfl ?_; refine wpO_cons ?_; refine op1_faddr0 rfl rfl ?_; refine wpO_cons ?_; refine op1_load rfl rfl (by exact S.g0 hS) rfl ?_; refine wpO_cons ?_; refine op1_len rfl rfl ?_; refine wpO_cons ?_; refine op1_mov rfl (by (conv => lhs; whnf) <;> rfl) ?_; refine wpO_nil ?_; refine seq_normal ?_; refine wp_ret ?_; refine ret_of ?_; refine rk_tmp (by (conv => lhs; whnf) <;> rfl) ?_; refine rk_nil ?_
  exact ⟨rfl, rfl⟩
theorem L71 {H : AHeap} {t : Int} : wpF C 71 [.int .i64 t] H fun v H' => v = .bool (decide (0 ≤ t ∧ t < 256)) ∧ H = H' := by
  refine wpF_ofW o71 rfl rfl ?_
  refine wp_seq ?_; refine wp_region ?_; refine wpO_cons ?_; refine op1_mov rfl (by (conv => lhs; whnf) <;> rfl) ?_; refine wpO_nil ?_; refine seq_normal ?_; refine wp_seq ?_; refine wp_region ?_; refine wpO_cons ?_; refine op1_mov rfl (by (conv => lhs; whnf) <;> rfl) ?_; refine wpO_cons ?_; refine op1_geq rfl rfl rfl ?_; refine wpO_cons ?_; refine op1_mov rfl (by (conv => lhs; whnf) <;> rfl) ?_; refine wpO_cons ?_
  refine op1_dec rfl (fun hc => ?_) (fun hc => ?_)
  · refine op1_mov rfl (by (conv => lhs; whnf) <;> rfl) ?_; refine wpO_cons ?_; refine op1_lss rfl rfl rfl ?_; refine wpO_cons ?_; refine op1_pick_t rfl rfl (by (conv => lhs; whnf) <;> rfl) ?_; refine wpO_cons ?_; refine op1_mov rfl (by (conv => lhs; whnf) <;> rfl) ?_; refine wpO_nil ?_; refine seq_normal ?_; refine wp_ret ?_; refine ret_of ?_; refine rk_tmp (by (conv => lhs; whnf) <;> rfl) ?_; refine rk_nil ?_
    exact ⟨by simp only [resultV]; congr 1; rw [decide_eq_decide]; omega, rfl⟩
  · refine op1_skip rfl ?_; refine wpO_cons ?_; refine op1_skip rfl ?_; refine wpO_cons ?_; refine op1_pick_f rfl rfl (by (conv => lhs; whnf) <;> rfl) ?_; refine wpO_cons ?_; refine op1_mov rfl (by (conv => lhs; whnf) <;> rfl) ?_; refine wpO_nil ?_; refine seq_normal ?_; refine wp_ret ?_; refine ret_of ?_; refine rk_tmp (by (conv => lhs; whnf) <;> rfl) ?_; refine rk_nil ?_
    exact ⟨by simp only [resultV]; congr 1; rw [decide_eq_false (by omega)], rfl⟩
theorem L53 {B H : AHeap} {As : List Asn} {q : Nat} {s : PP} (hS : S B H (repQ q s :: As)) (hok : Ok s) : wpF C 53 [.pointer (some ⟨q, 0, none⟩)] H fun v H' => v = .int .i64 s.openR.1 ∧ S B H' (repQ q s.openR.2 :: As) := by
  have hC := hS
  have h0 := hok.o0
  obtain ⟨ab, cb, ar, cr, aw, cw, h2, h3, h4, hS⟩ := openQ hS
  refine wpF_ofW o53 rfl rfl ?_
  unfold PP.openR
  refine wp_seq ?_; refine wp_region ?_; refine wpO_cons ?_; refine op1_mov rfl (by (conv => lhs; whnf) <;> rfl) ?_; refine wpO_nil ?_; refine seq_normal ?_; refine wp_seq ?_; refine wp_seq ?_; refine wp_region ?_; refine wpO_cons ?_; refine op1_mov rfl (by (conv => lhs; whnf) <;> rfl) ?_; refine wpO_cons ?_; refine op1_nilchk rfl rfl ?_; refine wpO_cons ?_; refine op1_faddr0 rfl rfl ?_; refine wpO_cons ?_; refine op1_load rfl rfl (by exact S.g0 hS) rfl ?_; refine wpO_cons ?_; refine op1_geq rfl rfl rfl ?_; refine wpO_nil ?_; refine seq_normal ?_
  refine wp_dec rfl (fun hc => ?_) (fun hc => ?_)
  · rw [if_pos hc]
    refine wp_seq ?_; refine wp_region ?_; refine wpO_cons ?_; refine op1_mov rfl (by (conv => lhs; whnf) <;> rfl) ?_; refine wpO_nil ?_; refine seq_normal ?_; refine wp_ret ?_; refine seq_ret ?_; refine ret_of ?_; refine rk_tmp (by (conv => lhs; whnf) <;> rfl) ?_; refine rk_nil ?_
    exact ⟨rfl, hC⟩
  · rw [if_neg hc]
    refine wp_skip ?_; refine seq_normal ?_; refine wp_seq ?_; refine wp_region ?_; refine wpO_cons ?_; refine op1_mov rfl (by (conv => lhs; whnf) <;> rfl) ?_; refine wpO_cons ?_; refine op1_nilchk rfl rfl ?_; refine wpO_cons ?_; refine op1_faddr0 rfl rfl ?_; refine wpO_cons ?_; refine op1_load rfl rfl (by exact S.g0 hS) rfl ?_; refine wpO_cons ?_; refine op1_add rfl rfl rfl (by exact wrap_i64 (by omega) (by omega)) ?_; refine wpO_cons ?_; refine op1_nilchk rfl rfl ?_; refine wpO_cons ?_; refine op1_faddr0 rfl rfl ?_; refine wpO_cons ?_; (refine op1_store1S rfl rfl (by (conv => lhs; whnf) <;> rfl) rfl rfl (S.up0 hS) rfl ?_; intro H1 hS; replace hS := S.dn0 hS); refine wpO_nil ?_; refine seq_normal ?_; refine wp_seq ?_; refine wp_region ?_; refine wpO_cons ?_; refine op1_mov rfl (by (conv => lhs; whnf) <;> rfl) ?_; refine wpO_nil ?_; refine seq_normal ?_; refine wp_ret ?_; refine ret_of ?_; refine rk_tmp (by (conv => lhs; whnf) <;> rfl) ?_; refine rk_nil ?_
    exact ⟨rfl, closeQ (s := { s with o0 := s.o0 + 1 }) hS⟩
theorem L54 {B H : AHeap} {As : List Asn} {q : Nat} {s : PP} (hS : S B H (repQ q s :: As)) (hok : Ok s) : wpF C 54 [.pointer (some ⟨q, 0, none⟩)] H fun v H' => v = .int .i64 s.openW.1 ∧ S B H' (repQ q s.openW.2 :: As) := by
  have hC := hS
  have h0 := hok.o1
  obtain ⟨ab, cb, ar, cr, aw, cw, h2, h3, h4, hS⟩ := openQ hS
  refine wpF_ofW o54 rfl rfl ?_
  unfold PP.openW
  refine wp_seq ?_; refine wp_region ?_; refine wpO_cons ?_; refine op1_mov rfl (by (conv => lhs; whnf) <;> rfl) ?_; refine wpO_nil ?_; refine seq_normal ?_; refine wp_seq ?_; refine wp_seq ?_; refine wp_region ?_; refine wpO_cons ?_; refine op1_mov rfl (by (conv => lhs; whnf) <;> rfl) ?_; refine wpO_cons ?_; refine op1_nilchk rfl rfl ?_; refine wpO_cons ?_; refine op1_faddr0 rfl rfl ?_; refine wpO_cons ?_; refine op1_load rfl rfl (by exact S.g0 hS) rfl ?_; refine wpO_cons ?_; refine op1_geq rfl rfl rfl ?_; refine wpO_nil ?_; refine seq_normal ?_
  refine wp_dec rfl (fun hc => ?_) (fun hc => ?_)
  · rw [if_pos hc]
    refine wp_seq ?_; refine wp_region ?_; refine wpO_cons ?_; refine op1_mov rfl (by (conv => lhs; whnf) <;> rfl) ?_; refine wpO_nil ?_; refine seq_normal ?_; refine wp_ret ?_; refine seq_ret ?_; refine ret_of ?_; refine rk_tmp (by (conv => lhs; whnf) <;> rfl) ?_; refine rk_nil ?_
    exact ⟨rfl, hC⟩
  · rw [if_neg hc]
    refine wp_skip ?_; refine seq_normal ?_; refine wp_seq ?_; refine wp_region ?_; refine wpO_cons ?_; refine op1_mov rfl (by (conv => lhs; whnf) <;> rfl) ?_; refine wpO_cons ?_; refine op1_nilchk rfl rfl ?_; refine wpO_cons ?_; refine op1_faddr0 rfl rfl ?_; refine wpO_cons ?_; refine op1_load rfl rfl (by exact S.g0 hS) rfl ?_; refine wpO_cons ?_; refine op1_add rfl rfl rfl (by exact wrap_i64 (by omega) (by omega)) ?_; refine wpO_cons ?_; refine op1_nilchk rfl rfl ?_; refine wpO_cons ?_; refine op1_faddr0 rfl rfl ?_; refine wpO_cons ?_; (refine op1_store1S rfl rfl (by (conv => lhs; whnf) <;> rfl) rfl rfl (S.up0 hS) rfl ?_; intro H1 hS; replace hS := S.dn0 hS); refine wpO_nil ?_; refine seq_normal ?_; refine wp_seq ?_; refine wp_region ?_; refine wpO_cons ?_; refine op1_mov rfl (by (conv => lhs; whnf) <;> rfl) ?_; refine wpO_nil ?_; refine seq_normal ?_; refine wp_ret ?_; refine ret_of ?_; refine rk_tmp (by (conv => lhs; whnf) <;> rfl) ?_; refine rk_nil ?_
    exact ⟨rfl, closeQ (s := { s with o1 := s.o1 + 1 }) hS⟩

/-- how many bytes fit -/
def fitN (s : PP) (n : Nat) (whole : Bool) : Nat := if n ≤ s.cap - s.buf.length then n else if whole = true then 0 else s.cap - s.buf.length
theorem L74 {B H : AHeap} {As : List Asn} {q : Nat} {s : PP} {vb vr vw : Value} {ad : Option Addr} {n cd : Nat} {w : Bool} (hS : S B H (pto q (.cells (qC s vb vr vw) 0 false) :: As)) (hb : ∃ a c, vb = .slice a s.buf.length c) (hok : s.cap ≤ 4096) (hbl : s.buf.length ≤ s.cap) :
    wpF C 74 [.pointer (some ⟨q, 0, none⟩), .slice ad n cd, .bool w] H fun v H' => v = .int .i64 (fitN s n w : Nat) ∧ H = H' := by
  obtain ⟨ab, cb, rfl⟩ := hb
  refine wpF_ofW o74 rfl rfl ?_
  unfold fitN
  refine wp_seq ?_; refine wp_region ?_; refine wpO_cons ?_; refine op1_mov rfl (by (conv => lhs; whnf) <;> rfl) ?_; refine wpO_nil ?_; refine seq_normal ?_; refine wp_seq ?_; refine wp_regionD ?_; refine wpD_cons ?_; refine op1_mov rfl (by (conv => lhs; whnf) <;> rfl) ?_; refine wpD_cons ?_; refine op1_nilchk rfl rfl ?_; refine wpD_cons ?_; refine op1_faddr0 rfl rfl ?_; refine wpD_cons ?_; refine op1_load rfl rfl (by exact S.g0 hS) rfl ?_; refine wpD_cons ?_; refine op1_mov rfl (by (conv => lhs; whnf) <;> rfl) ?_; refine wpD_cons ?_; refine op1_nilchk rfl rfl ?_; refine wpD_cons ?_; refine op1_faddr0 rfl rfl ?_; refine wpD_cons ?_; refine op1_load rfl rfl (by exact S.g0 hS) rfl ?_; refine wpD_cons ?_; refine op1_len rfl rfl ?_; refine wpD_cons ?_; refine op1_sub rfl rfl rfl (by exact wrap_i64 (by omega) (by omega)) ?_; refine wpD_cons ?_; refine op1_mov rfl (by (conv => lhs; whnf) <;> rfl) ?_; refine wpD_nil ?_; refine dk_of ?_ ?_; refine chk_skip ?_; refine chk_skip ?_; refine chk_skip ?_; refine chk_cons 8 rfl rfl rfl ?_ ?_; refine chkFs_cons 0 rfl rfl ?_ ?_; exact chk_load rfl (by exact S.g0 hS) rfl rfl; exact chkFs_nil; refine chk_skip ?_; refine chk_skip ?_; refine chk_skip ?_; refine chk_cons 4 rfl rfl rfl ?_ ?_; refine chkFs_cons 0 rfl rfl ?_ ?_; exact chk_load rfl (by exact S.g0 hS) rfl rfl; exact chkFs_nil; refine chk_cons 3 rfl rfl rfl ?_ ?_; refine chkFs_cons 0 rfl rfl ?_ ?_; exact chk_len rfl rfl; exact chkFs_nil; refine chk_skip ?_; refine chk_skip ?_; exact chk_end; refine seq_normal ?_; refine wp_seq ?_; refine wp_seq ?_; refine wp_region ?_; refine wpO_cons ?_; refine op1_mov rfl (by (conv => lhs; whnf) <;> rfl) ?_; refine wpO_cons ?_; refine op1_len rfl rfl ?_; refine wpO_cons ?_; refine op1_mov rfl (by (conv => lhs; whnf) <;> rfl) ?_; refine wpO_cons ?_; refine op1_leq rfl rfl rfl ?_; refine wpO_nil ?_; refine seq_normal ?_
  refine wp_dec rfl (fun hc => ?_) (fun hc => ?_)
  · rw [if_pos (by omega)]
    refine wp_seq ?_; refine wp_region ?_; refine wpO_cons ?_; refine op1_mov rfl (by (conv => lhs; whnf) <;> rfl) ?_; refine wpO_cons ?_; refine op1_len rfl rfl ?_; refine wpO_cons ?_; refine op1_mov rfl (by (conv => lhs; whnf) <;> rfl) ?_; refine wpO_nil ?_; refine seq_normal ?_; refine wp_ret ?_; refine seq_ret ?_; refine ret_of ?_; refine rk_tmp (by (conv => lhs; whnf) <;> rfl) ?_; refine rk_nil ?_
    exact ⟨rfl, rfl⟩
  rw [if_neg (by omega)]
  refine wp_skip ?_; refine seq_normal ?_; refine wp_seq ?_; refine wp_seq ?_; refine wp_region ?_; refine wpO_cons ?_; refine op1_mov rfl (by (conv => lhs; whnf) <;> rfl) ?_; refine wpO_nil ?_; refine seq_normal ?_
  cases w
  · refine wp_false rfl ?_; refine wp_skip ?_; refine seq_normal ?_; refine wp_seq ?_; refine wp_region ?_; refine wpO_cons ?_; refine op1_mov rfl (by (conv => lhs; whnf) <;> rfl) ?_; refine wpO_cons ?_; refine op1_mov rfl (by (conv => lhs; whnf) <;> rfl) ?_; refine wpO_nil ?_; refine seq_normal ?_; refine wp_ret ?_; refine ret_of ?_; refine rk_tmp (by (conv => lhs; whnf) <;> rfl) ?_; refine rk_nil ?_
    exact ⟨by simp only [resultV]; congr 1; rw [if_neg (by simp)]; omega, rfl⟩
  · refine wp_true rfl ?_; refine wp_seq ?_; refine wp_region ?_; refine wpO_cons ?_; refine op1_mov rfl (by (conv => lhs; whnf) <;> rfl) ?_; refine wpO_nil ?_; refine seq_normal ?_; refine wp_ret ?_; refine seq_ret ?_; refine ret_of ?_; refine rk_tmp (by (conv => lhs; whnf) <;> rfl) ?_; refine rk_nil ?_
    exact ⟨rfl, rfl⟩

/-- take -/
theorem L73 {B H : AHeap} {As : List Asn} {q : Nat} {s : PP} {ab : Option Addr} {cb : Nat} {vr vw : Value} {n : Int} (hS : S B H (pto q (.cells (qC s (.slice ab s.buf.length cb) vr vw) 0 false) :: sl 1 (.slice ab s.buf.length cb) (u8s s.buf) :: As)) (hn : 0 ≤ n) (hbl : s.buf.length ≤ 4096) :
    wpF C 73 [.pointer (some ⟨q, 0, none⟩), .int .i64 n] H fun v H' => ∃ a c a' c', v = .slice a (min n s.buf.length).toNat c ∧ S B H' (sl 1 (.slice a (min n s.buf.length).toNat c) (u8s (s.buf.take (min n s.buf.length).toNat)) :: pto q (.cells (qC (s.rdTake n) (.slice a' (s.rdTake n).buf.length c') vr vw) 0 false) :: sl 1 (.slice a' (s.rdTake n).buf.length c') (u8s (s.rdTake n).buf) :: As) := by
  have hcb := S.len_le (S.up1 hS)
  refine wpF_ofW o73 rfl rfl ?_
  obtain ⟨m, hm⟩ : ∃ m : Nat, min n (s.buf.length : Int) = m := ⟨(min n (s.buf.length : Int)).toNat, by omega⟩
  have hrd : (s.rdTake n).buf = s.buf.drop m := by unfold PP.rdTake; rw [hm]; rfl
  rw [hrd, hm, Int.toNat_natCast]
  refine wp_seq ?_; refine wp_region ?_; refine wpO_cons ?_; refine op1_mov rfl (by (conv => lhs; whnf) <;> rfl) ?_; refine wpO_nil ?_; refine seq_normal ?_
  refine wp_cut [1] (fun vs H' => vs = [.int .i64 m] ∧ H = H') ?_ ?_
  · refine wp_seq ?_; refine wp_region ?_; refine wpO_cons ?_; refine op1_mov rfl (by (conv => lhs; whnf) <;> rfl) ?_; refine wpO_cons ?_; refine op1_mov rfl (by (conv => lhs; whnf) <;> rfl) ?_; refine wpO_cons ?_; refine op1_nilchk rfl rfl ?_; refine wpO_cons ?_; refine op1_faddr0 rfl rfl ?_; refine wpO_cons ?_; refine op1_load rfl rfl (by exact S.g0 hS) rfl ?_; refine wpO_cons ?_; refine op1_len rfl rfl ?_; refine wpO_cons ?_; refine op1_gtr rfl rfl rfl ?_; refine wpO_nil ?_; refine seq_normal ?_; refine wp_cond rfl (fun hc0 => ?_) (fun hc0 => ?_); (focus (refine wp_region ?_; refine wpO_cons ?_; refine op1_mov rfl (by (conv => lhs; whnf) <;> rfl) ?_; refine wpO_cons ?_; refine op1_nilchk rfl rfl ?_; refine wpO_cons ?_; refine op1_faddr0 rfl rfl ?_; refine wpO_cons ?_; refine op1_load rfl rfl (by exact S.g0 hS) rfl ?_; refine wpO_cons ?_; refine op1_len rfl rfl ?_; refine wpO_cons ?_; refine op1_mov rfl (by (conv => lhs; whnf) <;> rfl) ?_; refine wpO_nil ?_; refine cut1 (by (conv => lhs; whnf) <;> rfl) ?_; (exact ⟨by simp_all <;> omega, rfl⟩))); (focus (refine wp_skip ?_; refine cut1 (by (conv => lhs; whnf) <;> rfl) ?_; (exact ⟨by simp_all <;> omega, rfl⟩)))
  rintro vs1 T1 H1 ⟨rfl, rfl⟩
  refine wp_seq ?_; refine wp_region ?_; refine wpO_cons ?_; refine op1_bsliceS rfl hS ?_; refine bk_nil ?_; intro p1 H1 hS; refine wpO_cons ?_; refine op1_mov rfl (by (conv => lhs; whnf) <;> rfl) ?_; refine wpO_cons ?_; refine op1_nilchk rfl rfl ?_; refine wpO_cons ?_; refine op1_faddr0 rfl rfl ?_; refine wpO_cons ?_; refine op1_load rfl rfl (by exact S.g1 hS) rfl ?_; refine wpO_cons ?_; refine op1_mov rfl (by (conv => lhs; whnf) <;> rfl) ?_; refine wpO_cons ?_
  replace hS := S.slNew (l := 0) (es := 1) hS rfl
  obtain ⟨_, hr, _⟩ := (S.up2 hS).rd
  refine op1_sliceR rfl rfl hr (bnds_hi (by omega) (by omega)) (by omega) (by simp only [Int.toNat_natCast]; omega) ?_
  simp only [Int.toNat_natCast, Nat.zero_mul, List.drop_zero, Nat.sub_zero, Nat.mul_one]
  intro a1 c1 hd1
  rw [u8s_take] at hd1
  refine wpO_cons ?_
  refine op1_appRS rfl rfl (by (conv => lhs; whnf) <;> rfl) rfl hd1 (by simp; omega) (u8s_one _) hS (by omega) ?_
  rw [List.nil_append, Nat.zero_add]
  intro a2 c2 H3 hS
  refine wpO_cons ?_; refine op1_mov rfl (by (conv => lhs; whnf) <;> rfl) ?_; refine wpO_nil ?_; refine seq_normal ?_; refine wp_seq ?_; refine wp_region ?_; refine wpO_cons ?_; refine op1_mov rfl (by (conv => lhs; whnf) <;> rfl) ?_; refine wpO_cons ?_; refine op1_bsliceS rfl hS ?_; refine bk_nil ?_; intro p2 H2 hS; refine wpO_cons ?_; refine op1_mov rfl (by (conv => lhs; whnf) <;> rfl) ?_; refine wpO_cons ?_; refine op1_nilchk rfl rfl ?_; refine wpO_cons ?_; refine op1_faddr0 rfl rfl ?_; refine wpO_cons ?_; refine op1_load rfl rfl (by exact S.g2 hS) rfl ?_; refine wpO_cons ?_; refine op1_mov rfl (by (conv => lhs; whnf) <;> rfl) ?_; refine wpO_cons ?_
  replace hS := S.slNew (l := 0) (es := 1) hS rfl
  obtain ⟨_, hr2, _⟩ := (S.up3 hS).rd
  refine op1_sliceR rfl rfl hr2 (bnds_lo (by omega) (by omega) (by omega)) (by simp only [Int.toNat_natCast]; omega) (Nat.le_refl _) ?_
  simp only [Int.toNat_natCast, Nat.mul_one]
  intro a3 c3 hd3
  rw [u8s_drop, u8s_take, List.take_of_length_le (by simp)] at hd3
  refine wpO_cons ?_
  refine op1_appRS rfl rfl (by (conv => lhs; whnf) <;> rfl) rfl hd3 (by simp) (u8s_one _) hS (by omega) ?_
  rw [List.nil_append, Nat.zero_add]
  intro a4 c4 H5 hS
  refine wpO_cons ?_; refine op1_nilchk rfl rfl ?_; refine wpO_cons ?_; refine op1_faddr0 rfl rfl ?_; refine wpO_cons ?_; (refine op1_store1S rfl rfl (by (conv => lhs; whnf) <;> rfl) rfl rfl (S.up2 hS) rfl ?_; intro H4 hS; replace hS := S.dn2 hS); refine wpO_nil ?_; refine seq_normal ?_; refine wp_seq ?_; refine wp_region ?_; refine wpO_cons ?_; refine op1_mov rfl (by (conv => lhs; whnf) <;> rfl) ?_; refine wpO_cons ?_; refine op1_mov rfl (by (conv => lhs; whnf) <;> rfl) ?_; refine wpO_nil ?_; refine seq_normal ?_; refine wp_ret ?_; refine ret_of ?_; refine rk_tmp (by (conv => lhs; whnf) <;> rfl) ?_; refine rk_nil ?_
  refine ⟨_, _, a4, c4, rfl, ?_⟩
  rw [List.length_drop]
  exact S.dn2 (S.drop (S.up3 hS))

/-- blocked -/
theorem L72 {B H : AHeap} {As : List Asn} {q : Nat} {s : PP} {t : Int} (hS : S B H (repQ q s :: As)) (hl : s.readers.length ≤ 1000) (hl2 : s.writers.length ≤ 1000) :
    wpF C 72 [.pointer (some ⟨q, 0, none⟩), .int .i64 t] H fun v H' => v = .bool (s.blocked t) ∧ H = H' := by
  obtain ⟨ab, cb, ar, cr, aw, cw, h2, h3, h4, hS⟩ := openQ hS
  obtain ⟨css, hcss, hcl, hS⟩ := S.unarr (S.up3 hS)
  refine wpF_ofW o72 rfl rfl ?_
  refine wp_seq ?_; refine wp_region ?_; refine wpO_cons ?_; refine op1_mov rfl (by (conv => lhs; whnf) <;> rfl) ?_; refine wpO_nil ?_; refine seq_normal ?_; refine wp_seq ?_; refine wp_seq ?_; refine wp_region ?_; refine wpO_cons ?_; refine op1_mov rfl (by (conv => lhs; whnf) <;> rfl) ?_; refine wpO_nil ?_; refine seq_normal ?_; refine wp_block ?_
  refine wp_loop [5] (fun k vs H' => ∃ i : Nat, vs = [.int .i64 i] ∧ i + k = s.readers.length ∧ H = H' ∧ ∀ j x, j < i → s.readers[j]? = some x → x.1 ≠ t) ⟨s.readers.length, 0, rfl, by omega, rfl, by intro j x h; omega⟩ ?_
  rintro k vs T' H1 ⟨i, rfl, hk, rfl, hno⟩
  refine wp_seq ?_; refine wp_seq ?_; refine wp_region ?_; refine wpO_cons ?_; refine op1_mov rfl (by (conv => lhs; whnf) <;> rfl) ?_; refine wpO_cons ?_; refine op1_mov rfl (by (conv => lhs; whnf) <;> rfl) ?_; refine wpO_cons ?_; refine op1_nilchk rfl rfl ?_; refine wpO_cons ?_; refine op1_faddr0 rfl rfl ?_; refine wpO_cons ?_; refine op1_load rfl rfl (by exact S.g2 hS) rfl ?_; refine wpO_cons ?_; refine op1_len rfl rfl ?_; refine wpO_cons ?_; refine op1_lss rfl rfl rfl ?_; refine wpO_nil ?_; refine seq_normal ?_
  refine wp_dec rfl (fun hc => ?_) (fun hc => ?_)
  · have hi : i < s.readers.length := by omega
    obtain ⟨x, hx⟩ : ∃ x, s.readers[i]? = some x := ⟨s.readers[i], by simp [hi]⟩
    obtain ⟨b, off, cs, rfl, hg, hle, htk, hat⟩ := (S.up4 hS).elt hi
    have hat0 := hat 0 (by omega)
    rw [flatMap_get (f := rdC) (es := 2) (fun _ => rfl) hx (by omega)] at hat0
    refine wp_skip ?_; refine seq_normal ?_; refine wp_seq ?_; refine wp_block ?_; refine wp_seq ?_; refine wp_region ?_; refine wpO_cons ?_; refine op1_mov rfl (by (conv => lhs; whnf) <;> rfl) ?_; refine wpO_cons ?_; refine op1_nilchk rfl rfl ?_; refine wpO_cons ?_; refine op1_faddr0 rfl rfl ?_; refine wpO_cons ?_; refine op1_load rfl rfl (by exact S.g2 hS) rfl ?_; refine wpO_cons ?_; refine op1_mov rfl (by (conv => lhs; whnf) <;> rfl) ?_; refine wpO_cons ?_; refine op1_iaddr rfl rfl rfl (by omega) (by omega) ?_; refine wpO_cons ?_; refine op1_faddr rfl rfl ?_; refine wpO_cons ?_
    refine op1_load rfl rfl hg (hat0.trans rfl) ?_
    refine wpO_cons ?_; refine op1_mov rfl (by (conv => lhs; whnf) <;> rfl) ?_; refine wpO_cons ?_; refine op1_eqlI rfl rfl rfl ?_; refine wpO_nil ?_; refine seq_normal ?_
    refine wp_dec rfl (fun he => ?_) (fun he => ?_)
    · refine wp_seq ?_; refine wp_region ?_; refine wpO_cons ?_; refine op1_mov rfl (by (conv => lhs; whnf) <;> rfl) ?_; refine wpO_nil ?_; refine seq_normal ?_; refine wp_ret ?_; refine block_ret ?_; refine seq_ret ?_; refine iter_ret ?_; refine block_ret ?_; refine seq_ret ?_; refine ret_of ?_; refine rk_tmp (by (conv => lhs; whnf) <;> rfl) ?_; refine rk_nil ?_
      refine ⟨?_, rfl⟩
      unfold PP.blocked
      rw [decide_eq_true (List.mem_map.2 ⟨x, List.mem_of_getElem? hx, he⟩)]
      rfl
    · refine wp_skip ?_; refine block_normal ?_; refine seq_normal ?_; refine wp_region ?_; refine wpO_cons ?_; refine op1_mov rfl (by (conv => lhs; whnf) <;> rfl) ?_; refine wpO_cons ?_; refine op1_add rfl rfl rfl (by exact wrap_i64 (by omega) (by omega)) ?_; refine wpO_cons ?_; refine op1_mov rfl (by (conv => lhs; whnf) <;> rfl) ?_; refine wpO_nil ?_
      refine ⟨k - 1, by omega, i + 1, rfl, by omega, rfl, fun j y hj hy => ?_⟩
      by_cases hji : j = i
      · subst hji
        rw [hx] at hy
        cases hy
        exact he
      · exact hno j y (by omega) hy
  · obtain rfl : i = s.readers.length := by omega
    have hr0 : decide (t ∈ s.readers.map (·.1)) = false := by
      rw [decide_eq_false_iff_not]
      intro h
      obtain ⟨x, hx, rfl⟩ := List.mem_map.1 h
      obtain ⟨j, hj⟩ := List.getElem?_of_mem hx
      exact hno j x (List.getElem?_eq_some_iff.1 hj).1 hj rfl
    refine wp_exit ?_; refine seq_exit ?_; refine iter_exit ?_; refine block_exit ?_; refine seq_normal ?_; refine wp_seq ?_; refine wp_seq ?_; refine wp_region ?_; refine wpO_cons ?_; refine op1_mov rfl (by (conv => lhs; whnf) <;> rfl) ?_; refine wpO_nil ?_; refine seq_normal ?_; refine wp_block ?_
    refine wp_loop [6] (fun k vs H' => ∃ i : Nat, vs = [.int .i64 i] ∧ i + k = s.writers.length ∧ H = H' ∧ ∀ j x, j < i → s.writers[j]? = some x → x.thread ≠ t) ⟨s.writers.length, 0, rfl, by omega, rfl, by intro j x h; omega⟩ ?_
    rintro k2 vs T2 H1 ⟨i, rfl, hk2, rfl, hno2⟩
    refine wp_seq ?_; refine wp_seq ?_; refine wp_region ?_; refine wpO_cons ?_; refine op1_mov rfl (by (conv => lhs; whnf) <;> rfl) ?_; refine wpO_cons ?_; refine op1_mov rfl (by (conv => lhs; whnf) <;> rfl) ?_; refine wpO_cons ?_; refine op1_nilchk rfl rfl ?_; refine wpO_cons ?_; refine op1_faddr0 rfl rfl ?_; refine wpO_cons ?_; refine op1_load rfl rfl (by exact S.g2 hS) rfl ?_; refine wpO_cons ?_; refine op1_len rfl rfl ?_; refine wpO_cons ?_; refine op1_lss rfl rfl rfl ?_; refine wpO_nil ?_; refine seq_normal ?_
    refine wp_dec rfl (fun hc => ?_) (fun hc => ?_)
    · have hi : i < s.writers.length := by omega
      obtain ⟨x, hx⟩ : ∃ x, s.writers[i]? = some x := ⟨s.writers[i], by simp [hi]⟩
      obtain ⟨cs0, o0, hcs0, hw0, _⟩ := S.many_at (S.up1 hS) hx
      obtain ⟨avd, cvd, rfl, hvd⟩ := wrA_at hw0
      obtain ⟨b, off, cs, rfl, hg, hle, htk, hat⟩ := (S.up0 hS).elt hi
      have hat0 := hat 0 (by omega)
      rw [flatten_get hcss hcs0 (by omega)] at hat0
      refine wp_skip ?_; refine seq_normal ?_; refine wp_seq ?_; refine wp_block ?_; refine wp_seq ?_; refine wp_region ?_; refine wpO_cons ?_; refine op1_mov rfl (by (conv => lhs; whnf) <;> rfl) ?_; refine wpO_cons ?_; refine op1_nilchk rfl rfl ?_; refine wpO_cons ?_; refine op1_faddr0 rfl rfl ?_; refine wpO_cons ?_; refine op1_load rfl rfl (by exact S.g2 hS) rfl ?_; refine wpO_cons ?_; refine op1_mov rfl (by (conv => lhs; whnf) <;> rfl) ?_; refine wpO_cons ?_; refine op1_iaddr rfl rfl rfl (by omega) (by omega) ?_; refine wpO_cons ?_; refine op1_faddr rfl rfl ?_; refine wpO_cons ?_
      refine op1_load rfl rfl hg (hat0.trans rfl) ?_
      refine wpO_cons ?_; refine op1_mov rfl (by (conv => lhs; whnf) <;> rfl) ?_; refine wpO_cons ?_; refine op1_eqlI rfl rfl rfl ?_; refine wpO_nil ?_; refine seq_normal ?_
      refine wp_dec rfl (fun he => ?_) (fun he => ?_)
      · refine wp_seq ?_; refine wp_region ?_; refine wpO_cons ?_; refine op1_mov rfl (by (conv => lhs; whnf) <;> rfl) ?_; refine wpO_nil ?_; refine seq_normal ?_; refine wp_ret ?_; refine block_ret ?_; refine seq_ret ?_; refine iter_ret ?_; refine block_ret ?_; refine seq_ret ?_; refine ret_of ?_; refine rk_tmp (by (conv => lhs; whnf) <;> rfl) ?_; refine rk_nil ?_
        refine ⟨?_, rfl⟩
        unfold PP.blocked
        rw [hr0, decide_eq_true (List.mem_map.2 ⟨x, List.mem_of_getElem? hx, he⟩)]
        rfl
      · refine wp_skip ?_; refine block_normal ?_; refine seq_normal ?_; refine wp_region ?_; refine wpO_cons ?_; refine op1_mov rfl (by (conv => lhs; whnf) <;> rfl) ?_; refine wpO_cons ?_; refine op1_add rfl rfl rfl (by exact wrap_i64 (by omega) (by omega)) ?_; refine wpO_cons ?_; refine op1_mov rfl (by (conv => lhs; whnf) <;> rfl) ?_; refine wpO_nil ?_
        refine ⟨k2 - 1, by omega, i + 1, rfl, by omega, rfl, fun j y hj hy => ?_⟩
        by_cases hji : j = i
        · subst hji
          rw [hx] at hy
          cases hy
          exact he
        · exact hno2 j y (by omega) hy
    · obtain rfl : i = s.writers.length := by omega
      have hw0 : decide (t ∈ s.writers.map (·.thread)) = false := by
        rw [decide_eq_false_iff_not]
        intro h
        obtain ⟨x, hx, rfl⟩ := List.mem_map.1 h
        obtain ⟨j, hj⟩ := List.getElem?_of_mem hx
        exact hno2 j x (List.getElem?_eq_some_iff.1 hj).1 hj rfl
      refine wp_exit ?_; refine seq_exit ?_; refine iter_exit ?_; refine block_exit ?_; refine seq_normal ?_; refine wp_seq ?_; refine wp_region ?_; refine wpO_cons ?_; refine op1_mov rfl (by (conv => lhs; whnf) <;> rfl) ?_; refine wpO_nil ?_; refine seq_normal ?_; refine wp_ret ?_; refine ret_of ?_; refine rk_tmp (by (conv => lhs; whnf) <;> rfl) ?_; refine rk_nil ?_
      exact ⟨by unfold PP.blocked; rw [hr0, hw0]; rfl, rfl⟩
end Go.E.Pi
