/- The pipe's queues, walked through. -/
import Derived.Test.YtgmmkajjigmjoaaPiF2
namespace Go.E.Pi
open Go Go.E Go.Proofs.Ytgmmkajjigmjoaa Go.Proofs
set_option linter.unusedVariables false
set_option linter.unusedSimpArgs false
set_option maxRecDepth 100000

theorem rdC_drop {x : Int × Int} {l : List (Int × Int)} : ((x :: l).flatMap rdC).drop 2 = l.flatMap rdC := rfl
theorem L67 {B H : AHeap} {As : List Asn} {p rb f : Nat} {s : PP} {vr vw : Value} {x : Int × Int} {l : List (Int × Int)} (hS : S B H (pto p (.cells (pipeC s rb f vr vw) 0 false) :: sl 2 vr ((x :: l).flatMap rdC) :: As)) (hl : l.length ≤ 1000) :
    wpF C 67 [.pointer (some ⟨p, 6, none⟩)] H fun v H' => ∃ vr', S B H' (pto p (.cells (pipeC s rb f vr' vw) 0 false) :: sl 2 vr' (l.flatMap rdC) :: As) := by
  obtain ⟨ar, cr, rfl, hcr⟩ := shapeR (S.up1 hS)
  refine wpF_ofW o67 rfl rfl ?_
  refine wp_region ?_; refine wpO_cons ?_; refine op1_mov rfl (by (conv => lhs; whnf) <;> rfl) ?_; refine wpO_cons ?_; refine op1_mov rfl (by (conv => lhs; whnf) <;> rfl) ?_; refine wpO_cons ?_; refine op1_nilchk rfl rfl ?_; refine wpO_cons ?_; refine op1_faddr rfl rfl ?_; refine wpO_cons ?_; refine op1_load rfl rfl (by exact S.g0 hS) rfl ?_; refine wpO_cons ?_; refine op1_call3 rfl (by (conv => lhs; whnf) <;> rfl) (by (conv => lhs; whnf) <;> rfl) (by (conv => lhs; whnf) <;> rfl) ?_
  refine wpF_mono (L49 0 rfl (S.up1 hS) (rdC_one _) (by simp) (by simp; omega)) ?_
  rintro v H1 ⟨a', c', rfl, hS⟩
  replace hS := S.dn1 hS
  rw [Nat.zero_mul, List.take_zero, List.nil_append, show (0 + 1) * 2 = 2 from rfl, rdC_drop] at hS
  refine wpO_cons ?_; refine op1_nilchk rfl rfl ?_; refine wpO_cons ?_; refine op1_faddr rfl rfl ?_; refine wpO_cons ?_; (refine op1_store1S rfl rfl (by (conv => lhs; whnf) <;> rfl) rfl rfl (S.up0 hS) rfl ?_; intro H2 hS; replace hS := S.dn0 hS); refine wpO_nil ?_; refine nrm_of ?_; refine rk_nil ?_
  exact ⟨_, hS⟩

theorem L66 {B H : AHeap} {As : List Asn} {p rb f n : Nat} {s : PP} {vr : Value} {aw : Option Addr} {cw : Nat} {cells : List Value} (hS : S B H (pto p (.cells (pipeC s rb f vr (.slice aw n cw)) 0 false) :: sl 3 (.slice aw n cw) cells :: As)) (h1 : cells.all (·.oneCell') = true) (hn : 0 < n) (hl : n ≤ 1000) :
    wpF C 66 [.pointer (some ⟨p, 7, none⟩)] H fun v H' => ∃ vw', S B H' (pto p (.cells (pipeC s rb f vr vw') 0 false) :: sl 3 vw' (cells.drop 3) :: As) := by
  refine wpF_ofW o66 rfl rfl ?_
  refine wp_region ?_; refine wpO_cons ?_; refine op1_mov rfl (by (conv => lhs; whnf) <;> rfl) ?_; refine wpO_cons ?_; refine op1_mov rfl (by (conv => lhs; whnf) <;> rfl) ?_; refine wpO_cons ?_; refine op1_nilchk rfl rfl ?_; refine wpO_cons ?_; refine op1_faddr rfl rfl ?_; refine wpO_cons ?_; refine op1_load rfl rfl (by exact S.g0 hS) rfl ?_; refine wpO_cons ?_; refine op1_call3 rfl (by (conv => lhs; whnf) <;> rfl) (by (conv => lhs; whnf) <;> rfl) (by (conv => lhs; whnf) <;> rfl) ?_
  refine wpF_mono (L50 0 rfl (S.up1 hS) h1 hn (by omega)) ?_
  rintro v H1 ⟨a', c', rfl, hS⟩
  replace hS := S.dn1 hS
  rw [Nat.zero_mul, List.take_zero, List.nil_append, show (0 + 1) * 3 = 3 from rfl] at hS
  refine wpO_cons ?_; refine op1_nilchk rfl rfl ?_; refine wpO_cons ?_; refine op1_faddr rfl rfl ?_; refine wpO_cons ?_; (refine op1_store1S rfl rfl (by (conv => lhs; whnf) <;> rfl) rfl rfl (S.up0 hS) rfl ?_; intro H2 hS; replace hS := S.dn0 hS); refine wpO_nil ?_; refine nrm_of ?_; refine rk_nil ?_
  exact ⟨_, hS⟩

theorem L46 {B H : AHeap} {As : List Asn} {p rb f : Nat} {s : PP} {vr vw : Value} {t w : Int} {l : List (Int × Int)} (hS : S B H (pto p (.cells (pipeC s rb f vr vw) 0 false) :: sl 2 vr (l.flatMap rdC) :: As)) (hl : l.length ≤ 1000) :
    wpF C 46 [.pointer (some ⟨p, 6, none⟩), .agg ⟨[.int .i64 t, .int .i64 w]⟩] H fun v H' => ∃ vr', S B H' (pto p (.cells (pipeC s rb f vr' vw) 0 false) :: sl 2 vr' ((l ++ [(t, w)]).flatMap rdC) :: As) := by
  obtain ⟨ar, cr, rfl, hcr⟩ := shapeR (S.up1 hS)
  refine wpF_ofW o46 rfl rfl ?_
  refine wp_seq ?_; refine wp_region ?_; refine wpO_cons ?_; refine op1_boxNS rfl rfl rfl hS ?_; intro p1 H1 hS; refine wpO_nil ?_; refine seq_normal ?_; refine wp_regionD ?_; refine wpD_cons ?_; refine op1_mov rfl (by (conv => lhs; whnf) <;> rfl) ?_; refine wpD_cons ?_; refine op1_mov rfl (by (conv => lhs; whnf) <;> rfl) ?_; refine wpD_cons ?_; refine op1_nilchk rfl rfl ?_; refine wpD_cons ?_; refine op1_faddr rfl rfl ?_; refine wpD_cons ?_; refine op1_load rfl rfl (by exact S.g1 hS) rfl ?_; refine wpD_cons ?_; refine op1_load_2 rfl rfl (by exact S.g0 hS) rfl rfl ?_; refine wpD_cons ?_; refine op1_bsliceS rfl hS ?_; refine bk_agg rfl rfl rfl rfl ?_; refine bk_nil ?_; intro p2 H2 hS; refine wpD_cons ?_; (refine op1_appBS rfl rfl (by (conv => lhs; whnf) <;> rfl) rfl (S.g0 hS) rfl rfl (S.up3 hS) (by omega) ?_; intro a1 c1 H3 hS; replace hS := S.dn3 hS; replace hS := S.drop hS); refine wpD_cons ?_; refine op1_nilchk rfl rfl ?_; refine wpD_cons ?_; refine op1_faddr rfl rfl ?_; refine wpD_cons ?_; (refine op1_store1S rfl rfl (by (conv => lhs; whnf) <;> rfl) rfl rfl (S.up1 hS) rfl ?_; intro H4 hS; replace hS := S.dn1 hS); refine wpD_nil ?_; refine dk_of ?_ ?_; refine chk_skip ?_; refine chk_skip ?_; refine chk_skip ?_; refine chk_skip ?_; refine chk_cons 7 rfl rfl rfl ?_ ?_; refine chkFs_cons 4 rfl rfl ?_ ?_; exact chk_load rfl (by exact S.g2 (by assumption)) rfl rfl; exact chkFs_nil; refine chk_cons 6 rfl rfl rfl ?_ ?_; refine chkFs_cons 4 rfl rfl ?_ ?_; exact chk_loadN rfl (by exact S.g1 (by assumption)) rfl rfl rfl; exact chkFs_nil; refine chk_skip ?_; refine chk_skip ?_; refine chk_skip ?_; refine chk_skip ?_; refine chk_skip ?_; exact chk_end; refine nrm_of ?_; refine rk_nil ?_
  rw [List.flatMap_append]
  exact ⟨_, S.drop hS⟩

theorem L42 {B H : AHeap} {As : List Asn} {p rb f n : Nat} {s : PP} {vr : Value} {aw : Option Addr} {cw : Nat} {t dn : Int} {ad : Option Addr} {ld cd : Nat} {cells : List Value} (hS : S B H (pto p (.cells (pipeC s rb f vr (.slice aw n cw)) 0 false) :: sl 3 (.slice aw n cw) cells :: As)) (hl : n ≤ 1000) :
    wpF C 42 [.pointer (some ⟨p, 7, none⟩), .agg ⟨[.int .i64 t, .slice ad ld cd, .int .i64 dn]⟩] H fun v H' => ∃ vw', S B H' (pto p (.cells (pipeC s rb f vr vw') 0 false) :: sl 3 vw' (cells ++ [.int .i64 t, .slice ad ld cd, .int .i64 dn]) :: As) := by
  refine wpF_ofW o42 rfl rfl ?_
  refine wp_seq ?_; refine wp_region ?_; refine wpO_cons ?_; refine op1_boxNS rfl rfl rfl hS ?_; intro p1 H1 hS; refine wpO_nil ?_; refine seq_normal ?_; refine wp_regionD ?_; refine wpD_cons ?_; refine op1_mov rfl (by (conv => lhs; whnf) <;> rfl) ?_; refine wpD_cons ?_; refine op1_mov rfl (by (conv => lhs; whnf) <;> rfl) ?_; refine wpD_cons ?_; refine op1_nilchk rfl rfl ?_; refine wpD_cons ?_; refine op1_faddr rfl rfl ?_; refine wpD_cons ?_; refine op1_load rfl rfl (by exact S.g1 hS) rfl ?_; refine wpD_cons ?_; refine op1_load_3 rfl rfl (by exact S.g0 hS) rfl rfl ?_; refine wpD_cons ?_; refine op1_bsliceS rfl hS ?_; refine bk_agg rfl rfl rfl rfl ?_; refine bk_nil ?_; intro p2 H2 hS; refine wpD_cons ?_; (refine op1_appBS rfl rfl (by (conv => lhs; whnf) <;> rfl) rfl (S.g0 hS) rfl rfl (S.up3 hS) (by omega) ?_; intro a1 c1 H3 hS; replace hS := S.dn3 hS; replace hS := S.drop hS); refine wpD_cons ?_; refine op1_nilchk rfl rfl ?_; refine wpD_cons ?_; refine op1_faddr rfl rfl ?_; refine wpD_cons ?_; (refine op1_store1S rfl rfl (by (conv => lhs; whnf) <;> rfl) rfl rfl (S.up1 hS) rfl ?_; intro H4 hS; replace hS := S.dn1 hS); refine wpD_nil ?_; refine dk_of ?_ ?_; refine chk_skip ?_; refine chk_skip ?_; refine chk_skip ?_; refine chk_skip ?_; refine chk_cons 7 rfl rfl rfl ?_ ?_; refine chkFs_cons 4 rfl rfl ?_ ?_; exact chk_load rfl (by exact S.g2 (by assumption)) rfl rfl; exact chkFs_nil; refine chk_cons 6 rfl rfl rfl ?_ ?_; refine chkFs_cons 4 rfl rfl ?_ ?_; exact chk_loadN rfl (by exact S.g1 (by assumption)) rfl rfl rfl; exact chkFs_nil; refine chk_skip ?_; refine chk_skip ?_; refine chk_skip ?_; refine chk_skip ?_; refine chk_skip ?_; exact chk_end; refine nrm_of ?_; refine rk_nil ?_
  exact ⟨_, S.drop hS⟩

def PP.fits (s : PP) (n : Nat) : Bool := if (n : Int) ≤ s.atomic then decide (n ≤ s.cap - s.buf.length) else decide (0 < s.cap - s.buf.length)
theorem L40 {B H : AHeap} {As : List Asn} {p rb f : Nat} {s : PP} {vr vw : Value} {t dn : Int} {ad : Option Addr} {ld cd : Nat} (hS : S B H (pto p (.cells (pipeC s rb f vr vw) 0 false) :: As)) (hc : s.cap ≤ 4096) (hn : s.buf.length ≤ s.cap) :
    wpF C 40 [.pointer (some ⟨p, 0, none⟩), .agg ⟨[.int .i64 t, .slice ad ld cd, .int .i64 dn]⟩] H fun v H' => v = .bool (s.fits ld) ∧ S B H' (pto p (.cells (pipeC s rb f vr vw) 0 false) :: As) := by
  refine wpF_ofW o40 rfl rfl ?_
  refine wp_seq ?_; refine wp_region ?_; refine wpO_cons ?_; refine op1_boxNS rfl rfl rfl hS ?_; intro p1 H1 hS; refine wpO_cons ?_; refine op1_mov rfl (by (conv => lhs; whnf) <;> rfl) ?_; refine wpO_nil ?_; refine seq_normal ?_; refine wp_seq ?_; refine wp_seq ?_; refine wp_regionD ?_; refine wpD_cons ?_; refine op1_faddr0 rfl rfl ?_; refine wpD_cons ?_; refine op1_load rfl rfl (by exact S.g0 hS) rfl ?_; refine wpD_cons ?_; refine op1_len rfl rfl ?_; refine wpD_cons ?_; refine op1_mov rfl (by (conv => lhs; whnf) <;> rfl) ?_; refine wpD_cons ?_; refine op1_nilchk rfl rfl ?_; refine wpD_cons ?_; refine op1_faddr0 rfl rfl ?_; refine wpD_cons ?_; refine op1_load rfl rfl (by exact S.g1 hS) rfl ?_; refine wpD_cons ?_; refine op1_leq rfl rfl rfl ?_; refine wpD_nil ?_; refine dk_of ?_ ?_; refine chk_skip ?_; refine chk_cons 7 rfl rfl rfl ?_ ?_; refine chkFs_cons 0 rfl rfl ?_ ?_; exact chk_load rfl (by exact S.g0 hS) rfl rfl; exact chkFs_nil; refine chk_cons 6 rfl rfl rfl ?_ ?_; refine chkFs_cons 0 rfl rfl ?_ ?_; exact chk_len rfl rfl; exact chkFs_nil; refine chk_skip ?_; refine chk_skip ?_; refine chk_skip ?_; refine chk_cons 2 rfl rfl rfl ?_ ?_; refine chkFs_cons 0 rfl rfl ?_ ?_; exact chk_load rfl (by exact S.g1 hS) rfl rfl; exact chkFs_nil; refine chk_skip ?_; exact chk_end; refine seq_normal ?_
  unfold PP.fits
  refine wp_dec rfl (fun hq => ?_) (fun hq => ?_)
  · rw [if_pos hq]
    refine wp_seq ?_; refine wp_regionD ?_; refine wpD_cons ?_; refine op1_mov rfl (by (conv => lhs; whnf) <;> rfl) ?_; refine wpD_cons ?_; refine op1_nilchk rfl rfl ?_; refine wpD_cons ?_; refine op1_faddr0 rfl rfl ?_; refine wpD_cons ?_; refine op1_faddr0 rfl rfl ?_; refine wpD_cons ?_; refine op1_load rfl rfl (by exact S.g0 hS) rfl ?_; refine wpD_cons ?_; refine op1_len rfl rfl ?_; refine wpD_cons ?_; refine op1_call1 rfl (by (conv => lhs; whnf) <;> rfl) ?_
    refine wpF_mono (L41 (S.up1 hS) hc hn) ?_
    rintro _ _ ⟨rfl, rfl⟩
    refine wpD_cons ?_; refine op1_geq rfl rfl rfl ?_; refine wpD_cons ?_; refine op1_mov rfl (by (conv => lhs; whnf) <;> rfl) ?_; refine wpD_nil ?_; refine dk_of ?_ ?_; refine chk_skip ?_; refine chk_skip ?_; refine chk_skip ?_; refine chk_skip ?_; refine chk_cons 5 rfl rfl rfl ?_ ?_; refine chkFs_cons 3 rfl rfl ?_ ?_; exact chk_load rfl (by exact S.g0 hS) rfl rfl; refine chkFs_cons 0 rfl rfl ?_ ?_; exact chk_load rfl (by exact S.g0 hS) rfl rfl; exact chkFs_nil; refine chk_cons 4 rfl rfl rfl ?_ ?_; refine chkFs_cons 3 rfl rfl ?_ ?_; exact chk_len rfl rfl; refine chkFs_cons 0 rfl rfl ?_ ?_; exact chk_len rfl rfl; exact chkFs_nil; refine chk_skip ?_; refine chk_skip ?_; refine chk_skip ?_; exact chk_end; refine seq_normal ?_; refine wp_ret ?_; refine seq_ret ?_; refine ret_of ?_; refine rk_tmp (by (conv => lhs; whnf) <;> rfl) ?_; refine rk_nil ?_
    exact ⟨by simp only [resultV]; congr 1; rw [decide_eq_decide]; omega, S.drop hS⟩
  · rw [if_neg hq]
    refine wp_skip ?_; refine seq_normal ?_; refine wp_seq ?_; refine wp_region ?_; refine wpO_cons ?_; refine op1_mov rfl (by (conv => lhs; whnf) <;> rfl) ?_; refine wpO_cons ?_; refine op1_nilchk rfl rfl ?_; refine wpO_cons ?_; refine op1_faddr0 rfl rfl ?_; refine wpO_cons ?_; refine op1_call1 rfl (by (conv => lhs; whnf) <;> rfl) ?_
    refine wpF_mono (L41 (S.up1 hS) hc hn) ?_
    rintro _ _ ⟨rfl, rfl⟩
    refine wpO_cons ?_; refine op1_gtr rfl rfl rfl ?_; refine wpO_cons ?_; refine op1_mov rfl (by (conv => lhs; whnf) <;> rfl) ?_; refine wpO_nil ?_; refine seq_normal ?_; refine wp_ret ?_; refine ret_of ?_; refine rk_tmp (by (conv => lhs; whnf) <;> rfl) ?_; refine rk_nil ?_
    exact ⟨by simp only [resultV]; congr 1; rw [decide_eq_decide]; omega, S.drop hS⟩

theorem L68 {B H : AHeap} {As : List Asn} {p rb f : Nat} {s : PP} {r : List Int} {vr vw : Value} {t w : Int} (hS : S B H (pto p (.cells (pipeC s rb f vr vw) 0 false) :: pto rb (.cells (u8s r) 1 false) :: As)) (hR : RingOk s r f) (hc : 1 ≤ s.cap ∧ s.cap ≤ 4096) (hw : 0 ≤ w) :
    wpF C 68 [.pointer (some ⟨p, 0, none⟩), .agg ⟨[.int .i64 t, .int .i64 w]⟩] H fun v H' => ∃ vd f', v = .agg ⟨[.int .i64 t, vd, .int .i64 (min w s.buf.length).toNat, .int .i64 0]⟩ ∧ RingOk { s with buf := s.buf.drop (min w s.buf.length).toNat } r f' ∧
      S B H' (sl 1 vd (u8s (s.buf.take (min w s.buf.length).toNat)) :: pto p (.cells (pipeC { s with buf := s.buf.drop (min w s.buf.length).toNat } rb f' vr vw) 0 false) :: pto rb (.cells (u8s r) 1 false) :: As) := by
  obtain ⟨m, hm⟩ : ∃ m : Nat, min w (s.buf.length : Int) = m := ⟨(min w (s.buf.length : Int)).toNat, by omega⟩
  have hmn : m ≤ s.buf.length := by omega
  have hln := hR.len
  have hlt := hR.lt
  have hle := hR.le
  have hrl := rot_left (r := r) (f := f) (m := m) (n := s.buf.length) (by omega) hmn (by omega)
  rw [← hR.buf] at hrl
  refine wpF_ofW o68 rfl rfl ?_
  refine wp_seq ?_; refine wp_region ?_; refine wpO_cons ?_; refine op1_boxNS rfl rfl rfl hS ?_; intro p1 H1 hS; refine wpO_cons ?_; refine op1_allocS rfl hS ?_; intro p2 H2 hS; refine wpO_nil ?_; refine seq_normal ?_; refine wp_seq ?_; refine wp_regionD ?_; refine wpD_cons ?_; refine op1_mov rfl (by (conv => lhs; whnf) <;> rfl) ?_; refine wpD_cons ?_; refine op1_nilchk rfl rfl ?_; refine wpD_cons ?_; refine op1_faddr0 rfl rfl ?_; refine wpD_cons ?_; refine op1_faddr0 rfl rfl ?_; refine wpD_cons ?_; refine op1_load rfl rfl (by exact S.g1 hS) rfl ?_; refine wpD_cons ?_; refine op1_call2 rfl (by (conv => lhs; whnf) <;> rfl) (by (conv => lhs; whnf) <;> rfl) ?_
  refine wpF_mono (L45 (rest := [.int .i64 s.atomic, .int .i64 s.o0, .int .i64 s.o1, vr, vw]) (S.up3 (S.up3 hS)) hR.len hc hR.lt hR.le hw) ?_
  rw [hm, Int.toNat_natCast]
  rintro v H1 ⟨hf2, a, cc, rfl, hS⟩
  have hR2 : RingOk { s with buf := s.buf.drop m } r (rix s.cap f m) := ⟨hR.len, hf2, by
    show s.buf.drop m = rot r _ (s.buf.drop m).length
    rw [List.length_drop, ← hR.len, hrl.2], by show (s.buf.drop m).length ≤ s.cap; rw [List.length_drop]; omega⟩
  rw [hrl.1, ← List.length_drop] at hS
  refine wpD_cons ?_; refine op1_mov rfl (by (conv => lhs; whnf) <;> rfl) ?_; refine wpD_nil ?_; refine dk_of ?_ ?_; refine chk_skip ?_; refine chk_skip ?_; refine chk_skip ?_; refine chk_skip ?_; refine chk_cons 3 rfl rfl rfl ?_ ?_; refine chkFs_cons 2 rfl rfl ?_ ?_; exact chk_load rfl (by exact S.g1 (by assumption)) rfl rfl; exact chkFs_nil; refine chk_skip ?_; refine chk_skip ?_; exact chk_end; refine seq_normal ?_; refine wp_seq ?_; refine wp_seq ?_; refine wp_region ?_; refine wpO_cons ?_; refine op1_mov rfl (by (conv => lhs; whnf) <;> rfl) ?_; refine wpO_cons ?_; refine op1_len rfl rfl ?_; refine wpO_cons ?_; refine op1_eqlI rfl rfl rfl ?_; refine wpO_nil ?_; refine seq_normal ?_
  refine wp_dec rfl (fun hq => ?_) (fun hq => ?_)
  · refine wp_seq ?_; refine wp_region ?_; refine wpO_cons ?_; refine op1_faddr0 rfl rfl ?_; refine wpO_cons ?_; refine op1_load rfl rfl (by exact S.g4 hS) rfl ?_; refine wpO_cons ?_; refine op1_build rfl ?_; refine bk_one (by (conv => lhs; whnf) <;> rfl) rfl rfl rfl ?_; refine bk_nil ?_; refine wpO_cons ?_; (refine op1_storeNS rfl rfl (by (conv => lhs; whnf) <;> rfl) rfl rfl (S.up3 hS) (Nat.le_of_ble_eq_true rfl) ?_; intro H3 hS; replace hS := S.dn3 hS); refine wpO_nil ?_; refine seq_normal ?_; refine wp_ret ?_; refine seq_ret ?_; refine ret_of ?_; refine rk_cellN rfl (by exact S.g3 hS) rfl rfl ?_; refine rk_nil ?_
    obtain rfl : m = 0 := by omega
    replace hS := S.drop (S.up3 (S.drop (S.up3 hS)))
    exact ⟨_, _, rfl, hR2, S.slNil (S.drop hS)⟩
  · refine wp_skip ?_; refine seq_normal ?_; refine wp_seq ?_; refine wp_region ?_; refine wpO_cons ?_; refine op1_faddr0 rfl rfl ?_; refine wpO_cons ?_; refine op1_load rfl rfl (by exact S.g4 hS) rfl ?_; refine wpO_cons ?_; refine op1_mov rfl (by (conv => lhs; whnf) <;> rfl) ?_; refine wpO_cons ?_; refine op1_mov rfl (by (conv => lhs; whnf) <;> rfl) ?_; refine wpO_cons ?_; refine op1_len rfl rfl ?_; refine wpO_cons ?_; refine op1_build rfl ?_; refine bk_one (by (conv => lhs; whnf) <;> rfl) rfl rfl rfl ?_; refine bk_one (by (conv => lhs; whnf) <;> rfl) rfl rfl rfl ?_; refine bk_one (by (conv => lhs; whnf) <;> rfl) rfl rfl rfl ?_; refine bk_nil ?_; refine wpO_cons ?_; (refine op1_storeNS rfl rfl (by (conv => lhs; whnf) <;> rfl) rfl rfl (S.up3 hS) (Nat.le_of_ble_eq_true rfl) ?_; intro H3 hS; replace hS := S.dn3 hS); refine wpO_nil ?_; refine seq_normal ?_; refine wp_ret ?_; refine ret_of ?_; refine rk_cellN rfl (by exact S.g3 hS) rfl rfl ?_; refine rk_nil ?_
    replace hS := S.drop (S.up3 (S.drop (S.up3 hS)))
    exact ⟨_, _, rfl, hR2, hS⟩
end Go.E.Pi
