/- The pipe's methods, walked through. -/
import Derived.Test.YtgmmkajjigmjoaaPiF45
namespace Go.E.Pi
open Go Go.E Go.Proofs.Ytgmmkajjigmjoaa Go.Proofs
set_option linter.unusedVariables false
set_option linter.unusedSimpArgs false
set_option maxRecDepth 100000
/-- what a read gives: bytes, whether it waits, the ends, the error, the pipe -/
structure RdRes where
  data : List Int
  is : Bool
  ends : List EndM
  err : Int
  s : PP
def PP.rdTake (s : PP) (n : Int) : PP := { s with buf := s.buf.drop (min n s.buf.length).toNat }
def PP.read (s : PP) (t n : Int) (wait : Bool) : RdRes :=
  if t < 0 ∨ 256 ≤ t ∨ n < 0 ∨ 4096 < n then ⟨[], false, [], 34, s⟩
  else if s.o0 = 0 then ⟨[], false, [], 35, s⟩
  else if s.blocked t = true then ⟨[], false, [], 5, s⟩
  else if n = 0 then ⟨[], false, [], 0, s⟩
  else if s.readers.length = 0 ∧ 0 < s.buf.length then ⟨s.buf.take (min n s.buf.length).toNat, false, (prog (s.rdTake n) []).1, 0, (prog (s.rdTake n) []).2⟩
  else if s.readers.length = 0 ∧ s.o1 = 0 ∧ s.writers.length = 0 then ⟨[], false, [], 0, s⟩
  else if wait = false then ⟨[], false, [], 2, s⟩
  else if 64 ≤ s.readers.length then ⟨[], false, [], 18, s⟩
  else ⟨[], true, [], 0, { s with readers := s.readers ++ [(t, n)] }⟩

theorem L37 {H : AHeap} {t : Int} : wpF C 37 [.int .i64 t] H fun v H' => v = .bool (decide (0 ≤ t ∧ t < 256)) ∧ H = H' := by
  refine wpF_ofW o37 rfl rfl ?_
  refine zsr ?_; refine zw1 ?_; refine zns ?_; refine zsr ?_; refine zw1 ?_; refine wpO_cons ?_; refine op1_geq rfl rfl rfl ?_; refine zw1 ?_; refine wpO_cons ?_
  refine op1_dec rfl (fun hc => ?_) (fun hc => ?_)
  · refine op1_mov rfl (by (conv => lhs; whnf) <;> rfl) ?_; refine wpO_cons ?_; refine op1_lss rfl rfl rfl ?_; refine wpO_cons ?_; refine op1_pick_t rfl rfl (by (conv => lhs; whnf) <;> rfl) ?_; refine zw1 ?_; refine zns ?_; refine wp_ret ?_; refine ret_of ?_; refine rk_tmp (by (conv => lhs; whnf) <;> rfl) ?_; refine rk_nil ?_
    exact ⟨by simp only [resultV]; congr 1; rw [decide_eq_decide]; omega, rfl⟩
  · refine op1_skip rfl ?_; refine wpO_cons ?_; refine op1_skip rfl ?_; refine wpO_cons ?_; refine op1_pick_f rfl rfl (by (conv => lhs; whnf) <;> rfl) ?_; refine zw1 ?_; refine zns ?_; refine wp_ret ?_; refine ret_of ?_; refine rk_tmp (by (conv => lhs; whnf) <;> rfl) ?_; refine rk_nil ?_
    exact ⟨by simp only [resultV]; congr 1; rw [decide_eq_false (by omega)], rfl⟩

theorem okTake {s : PP} (hok : Ok s) (n : Int) : Ok (s.rdTake n) :=
  ⟨hok.cap, hok.atm, hok.o0, hok.o1, hok.rl, hok.wl, hok.rs, hok.ws, by have := hok.buf; show (s.buf.drop _).length ≤ _; rw [List.length_drop]; show _ ≤ s.cap; omega⟩

theorem bool_leaf {x : Bool} {P : Prop} [Decidable P] (h : x = true ↔ P) : [Value.bool x] = [.bool (decide P)] := by
  congr 2
  cases x
  · rw [decide_eq_false (fun hp => by have := h.2 hp; cases this)]
  · rw [decide_eq_true (h.1 rfl)]
theorem L12 {B H : AHeap} {As : List Asn} {p : Nat} {s : PP} {t n : Int} {w : Bool} (hS : S B H (repP p s :: As)) (hok : Ok s) :
    wpF C 12 [.pointer (some ⟨p, 0, none⟩), .int .i64 t, .int .i64 n, .bool w] H fun v H' => ∃ vd ve, v = .tuple ⟨[vd, .bool (s.read t n w).is, ve, .int .i64 (s.read t n w).err]⟩ ∧
      S B H' (sl 1 vd (u8s (s.read t n w).data) :: arr 4 endA ve (s.read t n w).ends :: repP p (s.read t n w).s :: As) := by
  have hrl := hok.rl
  have hwl := hok.wl
  obtain ⟨rb0, vr0, vw0, r0, f0, _, hO⟩ := openP hS
  refine wpF_ofW o12 rfl rfl ?_
  refine zsr ?_; (iterate 4 refine zw1 ?_); refine zns ?_; refine wp_seq ?_; refine wp_block ?_; refine zsr ?_; refine zw1 ?_; refine wpO_cons ?_; refine op1_bin_false rfl (by (conv => lhs; whnf) <;> rfl) (by (conv => lhs; whnf) <;> rfl) rfl ?_; refine zw1 ?_; refine zns ?_; refine wp_false rfl ?_
  refine wp_cut [16] (fun vs H' => vs = [.bool (decide (t < 0 ∨ 256 ≤ t ∨ n < 0 ∨ 4096 < n))] ∧ H = H') ?_ ?_
  · refine wp_region ?_; refine zw1 ?_; refine wpO_cons ?_; refine op1_call1 rfl (by (conv => lhs; whnf) <;> rfl) ?_; (refine wpF_mono L37 ?_; rintro _ _ ⟨rfl, rfl⟩); refine wpO_cons ?_; refine op1_not rfl rfl ?_; refine zw1 ?_; refine wpO_cons ?_; refine op1_split rfl (fun hc0 => ?_) (fun hc0 => ?_); (focus (refine op1_skip rfl ?_; refine wpO_cons ?_; refine op1_skip rfl ?_; refine wpO_cons ?_; refine op1_pick_t rfl rfl (by (conv => lhs; whnf) <;> rfl) ?_; refine zw1 ?_; refine wpO_cons ?_; refine op1_skip rfl ?_; refine wpO_cons ?_; refine op1_skip rfl ?_; refine wpO_cons ?_; refine op1_pick_t rfl rfl (by (conv => lhs; whnf) <;> rfl) ?_; refine zw1 ?_; refine wpO_nil ?_; refine cut1 (by (conv => lhs; whnf) <;> rfl) ?_; (exact ⟨bool_leaf (by simp_all <;> omega), rfl⟩))); (focus (refine op1_mov rfl (by (conv => lhs; whnf) <;> rfl) ?_; refine wpO_cons ?_; refine op1_lss rfl rfl rfl ?_; refine wpO_cons ?_; refine op1_pick_f rfl rfl (by (conv => lhs; whnf) <;> rfl) ?_; refine zw1 ?_; refine wpO_cons ?_; refine op1_split rfl (fun hc1 => ?_) (fun hc1 => ?_); (focus (refine op1_skip rfl ?_; refine wpO_cons ?_; refine op1_skip rfl ?_; refine wpO_cons ?_; refine op1_pick_t rfl rfl (by (conv => lhs; whnf) <;> rfl) ?_; refine zw1 ?_; refine wpO_nil ?_; refine cut1 (by (conv => lhs; whnf) <;> rfl) ?_; (exact ⟨bool_leaf (by simp_all <;> omega), rfl⟩))); (focus (refine op1_mov rfl (by (conv => lhs; whnf) <;> rfl) ?_; refine wpO_cons ?_; refine op1_gtr rfl rfl rfl ?_; refine wpO_cons ?_; refine op1_pick_f rfl rfl (by (conv => lhs; whnf) <;> rfl) ?_; refine zw1 ?_; refine wpO_nil ?_; refine cut1 (by (conv => lhs; whnf) <;> rfl) ?_; (exact ⟨bool_leaf (by simp_all <;> omega), rfl⟩)))))
  rintro vs1 T1 H1 ⟨rfl, rfl⟩
  unfold PP.read
  refine wp_dec rfl (fun h1 => ?_) (fun h1 => ?_)
  · rw [if_pos h1]
    refine zsr ?_; (iterate 4 refine zw1 ?_); refine zns ?_; refine wp_ret ?_; refine block_ret ?_; refine seq_ret ?_; refine ret_of ?_; refine rk_tmp (by (conv => lhs; whnf) <;> rfl) ?_; refine rk_tmp (by (conv => lhs; whnf) <;> rfl) ?_; refine rk_tmp (by (conv => lhs; whnf) <;> rfl) ?_; refine rk_tmp (by (conv => lhs; whnf) <;> rfl) ?_; refine rk_nil ?_
    exact ⟨_, _, rfl, S.slNil (S.arrNil hS)⟩
  rw [if_neg h1]
  refine zsr ?_; refine zw1 ?_; refine wpO_cons ?_; refine op1_nilchk rfl rfl ?_; refine wpO_cons ?_; refine op1_faddr0 rfl rfl ?_; refine wpO_cons ?_; refine op1_iaddrArr rfl rfl rfl (by omega) (by omega) ?_; refine wpO_cons ?_; refine op1_load rfl rfl (by exact S.g0 hO) rfl ?_; refine wpO_cons ?_; refine op1_eqlI rfl rfl rfl ?_; refine zw1 ?_; refine zns ?_
  refine wp_dec rfl (fun h2 => ?_) (fun h2 => ?_)
  · rw [if_pos h2]
    refine zsr ?_; (iterate 4 refine zw1 ?_); refine zns ?_; refine wp_ret ?_; refine block_ret ?_; refine seq_ret ?_; refine ret_of ?_; refine rk_tmp (by (conv => lhs; whnf) <;> rfl) ?_; refine rk_tmp (by (conv => lhs; whnf) <;> rfl) ?_; refine rk_tmp (by (conv => lhs; whnf) <;> rfl) ?_; refine rk_tmp (by (conv => lhs; whnf) <;> rfl) ?_; refine rk_nil ?_
    exact ⟨_, _, rfl, S.slNil (S.arrNil hS)⟩
  rw [if_neg h2]
  refine zsr ?_; refine zw1 ?_; refine zw1 ?_; refine wpO_cons ?_; refine op1_call2 rfl (by (conv => lhs; whnf) <;> rfl) (by (conv => lhs; whnf) <;> rfl) ?_
  refine wpF_mono (L38 hS (by omega) (by omega)) ?_
  rintro _ H1 ⟨rfl, hS⟩
  refine zw1 ?_; refine zns ?_
  refine wp_cond rfl (fun h3 => ?_) (fun h3 => ?_)
  · rw [if_pos h3]
    refine zsr ?_; (iterate 4 refine zw1 ?_); refine zns ?_; refine wp_ret ?_; refine block_ret ?_; refine seq_ret ?_; refine ret_of ?_; refine rk_tmp (by (conv => lhs; whnf) <;> rfl) ?_; refine rk_tmp (by (conv => lhs; whnf) <;> rfl) ?_; refine rk_tmp (by (conv => lhs; whnf) <;> rfl) ?_; refine rk_tmp (by (conv => lhs; whnf) <;> rfl) ?_; refine rk_nil ?_
    exact ⟨_, _, rfl, S.slNil (S.arrNil hS)⟩
  rw [if_neg (by rw [h3]; simp)]
  refine zsr ?_; refine zw1 ?_; refine wpO_cons ?_; refine op1_eqlI rfl rfl rfl ?_; refine zw1 ?_; refine zns ?_
  refine wp_dec rfl (fun h4 => ?_) (fun h4 => ?_)
  · rw [if_pos h4]
    refine zsr ?_; (iterate 4 refine zw1 ?_); refine zns ?_; refine wp_ret ?_; refine block_ret ?_; refine seq_ret ?_; refine ret_of ?_; refine rk_tmp (by (conv => lhs; whnf) <;> rfl) ?_; refine rk_tmp (by (conv => lhs; whnf) <;> rfl) ?_; refine rk_tmp (by (conv => lhs; whnf) <;> rfl) ?_; refine rk_tmp (by (conv => lhs; whnf) <;> rfl) ?_; refine rk_nil ?_
    exact ⟨_, _, rfl, S.slNil (S.arrNil hS)⟩
  rw [if_neg h4]
  have hC := hS
  obtain ⟨rb, vr, vw, r, f, hr, hS⟩ := openP hS
  obtain ⟨ar, cr, rfl, hcr⟩ := shapeR (S.up2 hS)
  obtain ⟨aw, cw, rfl, hcw⟩ := S.arrShape (S.up3 hS) (by omega)
  have hcap := hok.cap
  refine wp_skip ?_; refine block_normal ?_; refine seq_normal ?_; refine wp_seq ?_; refine zsr ?_; refine zw1 ?_; refine wpO_cons ?_; refine op1_nilchk rfl rfl ?_; refine wpO_cons ?_; refine op1_faddr0 rfl rfl ?_; refine wpO_cons ?_; refine op1_faddr rfl rfl ?_; refine wpO_cons ?_; refine op1_load rfl rfl (by exact S.g0 hS) rfl ?_; refine wpO_cons ?_; refine op1_len rfl rfl ?_; refine wpO_cons ?_; refine op1_eqlI rfl rfl rfl ?_; refine zns ?_
  refine wp_dec rfl (fun h5 => ?_) (fun h5 => ?_)
  · refine wp_seq ?_; refine zsr ?_; refine zw1 ?_; refine wpO_cons ?_; refine op1_nilchk rfl rfl ?_; refine wpO_cons ?_; refine op1_faddr0 rfl rfl ?_; refine wpO_cons ?_; refine op1_faddr0 rfl rfl ?_; refine wpO_cons ?_; refine op1_load rfl rfl (by exact S.g0 hS) rfl ?_; refine wpO_cons ?_; refine op1_gtr rfl rfl rfl ?_; refine zns ?_
    refine wp_dec rfl (fun h6 => ?_) (fun h6 => ?_)
    · rw [if_pos ⟨by omega, by omega⟩]
      refine zsr ?_; refine zw1 ?_; refine wpO_cons ?_; refine op1_nilchk rfl rfl ?_; refine wpO_cons ?_; refine op1_faddr0 rfl rfl ?_; refine zw1 ?_; refine wpO_cons ?_; refine op1_call2 rfl (by (conv => lhs; whnf) <;> rfl) (by (conv => lhs; whnf) <;> rfl) ?_
      refine wpF_mono (L45 (rest := [.int .i64 s.atomic, .int .i64 s.o0, .int .i64 s.o1, .slice ar s.readers.length cr, .slice aw s.writers.length cw]) hS hr.len hcap hr.lt hr.le (by omega)) ?_
      rintro v4 H2 ⟨hf2, a4, c4, rfl, hS⟩
      have hmn : (min n s.buf.length).toNat ≤ s.buf.length := by omega
      have hln := hr.len
      have hrl2 := rot_left (r := r) (f := f) (m := (min n s.buf.length).toNat) (n := s.buf.length) (by have := hr.lt; omega) hmn (by have := hr.le; omega)
      rw [← hr.buf] at hrl2
      rw [hrl2.1, ← List.length_drop] at hS
      have hR2 : RingOk (s.rdTake n) r (rix s.cap f (min n s.buf.length).toNat) := ⟨hr.len, hf2, by
        show s.buf.drop _ = rot r _ (s.buf.drop _).length
        rw [List.length_drop, ← hr.len, hrl2.2], by show (s.buf.drop _).length ≤ s.cap; rw [List.length_drop]; have := hr.le; omega⟩
      have h7 := S.up1 (closeP (s := s.rdTake n) hR2 (S.dn4 hS))
      refine zw1 ?_; refine zns ?_; refine zsr ?_; refine zw1 ?_; refine zw1 ?_; refine wpO_cons ?_; refine op1_call1 rfl (by (conv => lhs; whnf) <;> rfl) ?_
      refine wpF_mono (L44 (S.up1 h7) (okTake hok n)) ?_
      rintro v5 H3 hS
      (iterate 4 refine zw1 ?_); refine zns ?_; refine wp_ret ?_; refine seq_ret ?_; refine seq_ret ?_; refine ret_of ?_; refine rk_tmp (by (conv => lhs; whnf) <;> rfl) ?_; refine rk_tmp (by (conv => lhs; whnf) <;> rfl) ?_; refine rk_tmp (by (conv => lhs; whnf) <;> rfl) ?_; refine rk_tmp (by (conv => lhs; whnf) <;> rfl) ?_; refine rk_nil ?_
      exact ⟨_, _, rfl, S.up2 hS⟩
    · rw [if_neg (by omega)]
      refine wp_skip ?_; refine seq_normal ?_; refine zsr ?_; refine zw1 ?_; refine wpO_cons ?_; refine op1_nilchk rfl rfl ?_; refine wpO_cons ?_; refine op1_faddr0 rfl rfl ?_; refine wpO_cons ?_; refine op1_iaddrArr rfl rfl rfl (by omega) (by omega) ?_; refine wpO_cons ?_; refine op1_load rfl rfl (by exact S.g0 hS) rfl ?_; refine wpO_cons ?_; refine op1_eqlI rfl rfl rfl ?_; refine zw1 ?_; refine wpO_cons ?_
      refine op1_dec rfl (fun h7 => ?_) (fun h7 => ?_)
      · refine op1_mov rfl (by (conv => lhs; whnf) <;> rfl) ?_; refine wpO_cons ?_; refine op1_nilchk rfl rfl ?_; refine wpO_cons ?_; refine op1_faddr0 rfl rfl ?_; refine wpO_cons ?_; refine op1_faddr rfl rfl ?_; refine wpO_cons ?_; refine op1_load rfl rfl (by exact S.g0 hS) rfl ?_; refine wpO_cons ?_; refine op1_len rfl rfl ?_; refine wpO_cons ?_; refine op1_eqlI rfl rfl rfl ?_; refine wpO_cons ?_; refine op1_pick_t rfl rfl (by (conv => lhs; whnf) <;> rfl) ?_; refine zns ?_
        refine wp_dec rfl (fun h9 => ?_) (fun h9 => ?_)
        · rw [if_pos ⟨by omega, h7, by omega⟩]
          refine zsr ?_; (iterate 4 refine zw1 ?_); refine zns ?_; refine wp_ret ?_; refine seq_ret ?_; refine ret_of ?_; refine rk_tmp (by (conv => lhs; whnf) <;> rfl) ?_; refine rk_tmp (by (conv => lhs; whnf) <;> rfl) ?_; refine rk_tmp (by (conv => lhs; whnf) <;> rfl) ?_; refine rk_tmp (by (conv => lhs; whnf) <;> rfl) ?_; refine rk_nil ?_
          exact ⟨_, _, rfl, S.slNil (S.arrNil hC)⟩
        rw [if_neg (by omega)]
        refine wp_skip ?_; refine seq_normal ?_; refine wp_seq ?_; refine wp_block ?_; refine zsr ?_; refine zw1 ?_; refine wpO_cons ?_; refine op1_not rfl rfl ?_; refine zw1 ?_; refine zns ?_
        cases w
        · rw [if_pos rfl]
          refine wp_true rfl ?_; refine zsr ?_; (iterate 4 refine zw1 ?_); refine zns ?_; refine wp_ret ?_; refine block_ret ?_; refine seq_ret ?_; refine ret_of ?_; refine rk_tmp (by (conv => lhs; whnf) <;> rfl) ?_; refine rk_tmp (by (conv => lhs; whnf) <;> rfl) ?_; refine rk_tmp (by (conv => lhs; whnf) <;> rfl) ?_; refine rk_tmp (by (conv => lhs; whnf) <;> rfl) ?_; refine rk_nil ?_
          exact ⟨_, _, rfl, S.slNil (S.arrNil hC)⟩
        rw [if_neg (by simp)]
        refine wp_false rfl ?_; refine zsr ?_; refine zw1 ?_; refine wpO_cons ?_; refine op1_nilchk rfl rfl ?_; refine wpO_cons ?_; refine op1_faddr0 rfl rfl ?_; refine wpO_cons ?_; refine op1_faddr rfl rfl ?_; refine wpO_cons ?_; refine op1_load rfl rfl (by exact S.g0 hS) rfl ?_; refine wpO_cons ?_; refine op1_len rfl rfl ?_; refine wpO_cons ?_; refine op1_geq rfl rfl rfl ?_; refine zw1 ?_; refine zns ?_
        refine wp_dec rfl (fun h8 => ?_) (fun h8 => ?_)
        · rw [if_pos (by omega)]
          refine zsr ?_; (iterate 4 refine zw1 ?_); refine zns ?_; refine wp_ret ?_; refine block_ret ?_; refine seq_ret ?_; refine ret_of ?_; refine rk_tmp (by (conv => lhs; whnf) <;> rfl) ?_; refine rk_tmp (by (conv => lhs; whnf) <;> rfl) ?_; refine rk_tmp (by (conv => lhs; whnf) <;> rfl) ?_; refine rk_tmp (by (conv => lhs; whnf) <;> rfl) ?_; refine rk_nil ?_
          exact ⟨_, _, rfl, S.slNil (S.arrNil hC)⟩
        rw [if_neg (by omega)]
        refine wp_skip ?_; refine block_normal ?_; refine seq_normal ?_; refine zsr ?_; refine zw1 ?_; refine wpO_cons ?_; refine op1_nilchk rfl rfl ?_; refine wpO_cons ?_; refine op1_faddr0 rfl rfl ?_; refine zw1 ?_; refine zw1 ?_; refine wpO_cons ?_; refine op1_build rfl ?_; refine bk_one (by (conv => lhs; whnf) <;> rfl) rfl rfl rfl ?_; refine bk_one (by (conv => lhs; whnf) <;> rfl) rfl rfl rfl ?_; refine bk_nil ?_; refine wpO_cons ?_; refine op1_call2 rfl (by (conv => lhs; whnf) <;> rfl) (by (conv => lhs; whnf) <;> rfl) ?_
        refine wpF_mono (L46 (s := s) (S.up1 (S.up2 hS)) (by omega)) ?_
        rintro v5 H3 ⟨vr', hS⟩
        refine zns ?_; refine zsr ?_; (iterate 4 refine zw1 ?_); refine zns ?_; refine wp_ret ?_; refine ret_of ?_; refine rk_tmp (by (conv => lhs; whnf) <;> rfl) ?_; refine rk_tmp (by (conv => lhs; whnf) <;> rfl) ?_; refine rk_tmp (by (conv => lhs; whnf) <;> rfl) ?_; refine rk_tmp (by (conv => lhs; whnf) <;> rfl) ?_; refine rk_nil ?_
        exact ⟨_, _, rfl, S.slNil (S.arrNil (closeP (s := { s with readers := s.readers ++ [(t, n)] }) ⟨hr.len, hr.lt, hr.buf, hr.le⟩ (S.dn2 (S.up1 hS))))⟩
      · rw [if_neg (fun h => h7 h.2.1)]
        refine op1_skip rfl ?_; refine wpO_cons ?_; refine op1_skip rfl ?_; refine wpO_cons ?_; refine op1_skip rfl ?_; refine wpO_cons ?_; refine op1_skip rfl ?_; refine wpO_cons ?_; refine op1_skip rfl ?_; refine wpO_cons ?_; refine op1_skip rfl ?_; refine wpO_cons ?_; refine op1_skip rfl ?_; refine wpO_cons ?_; refine op1_pick_f rfl rfl (by (conv => lhs; whnf) <;> rfl) ?_; refine zns ?_; refine wp_false rfl ?_; refine wp_skip ?_; refine seq_normal ?_; refine wp_seq ?_; refine wp_block ?_; refine zsr ?_; refine zw1 ?_; refine wpO_cons ?_; refine op1_not rfl rfl ?_; refine zw1 ?_; refine zns ?_
        cases w
        · rw [if_pos rfl]
          refine wp_true rfl ?_; refine zsr ?_; (iterate 4 refine zw1 ?_); refine zns ?_; refine wp_ret ?_; refine block_ret ?_; refine seq_ret ?_; refine ret_of ?_; refine rk_tmp (by (conv => lhs; whnf) <;> rfl) ?_; refine rk_tmp (by (conv => lhs; whnf) <;> rfl) ?_; refine rk_tmp (by (conv => lhs; whnf) <;> rfl) ?_; refine rk_tmp (by (conv => lhs; whnf) <;> rfl) ?_; refine rk_nil ?_
          exact ⟨_, _, rfl, S.slNil (S.arrNil hC)⟩
        rw [if_neg (by simp)]
        refine wp_false rfl ?_; refine zsr ?_; refine zw1 ?_; refine wpO_cons ?_; refine op1_nilchk rfl rfl ?_; refine wpO_cons ?_; refine op1_faddr0 rfl rfl ?_; refine wpO_cons ?_; refine op1_faddr rfl rfl ?_; refine wpO_cons ?_; refine op1_load rfl rfl (by exact S.g0 hS) rfl ?_; refine wpO_cons ?_; refine op1_len rfl rfl ?_; refine wpO_cons ?_; refine op1_geq rfl rfl rfl ?_; refine zw1 ?_; refine zns ?_
        refine wp_dec rfl (fun h8 => ?_) (fun h8 => ?_)
        · rw [if_pos (by omega)]
          refine zsr ?_; (iterate 4 refine zw1 ?_); refine zns ?_; refine wp_ret ?_; refine block_ret ?_; refine seq_ret ?_; refine ret_of ?_; refine rk_tmp (by (conv => lhs; whnf) <;> rfl) ?_; refine rk_tmp (by (conv => lhs; whnf) <;> rfl) ?_; refine rk_tmp (by (conv => lhs; whnf) <;> rfl) ?_; refine rk_tmp (by (conv => lhs; whnf) <;> rfl) ?_; refine rk_nil ?_
          exact ⟨_, _, rfl, S.slNil (S.arrNil hC)⟩
        rw [if_neg (by omega)]
        refine wp_skip ?_; refine block_normal ?_; refine seq_normal ?_; refine zsr ?_; refine zw1 ?_; refine wpO_cons ?_; refine op1_nilchk rfl rfl ?_; refine wpO_cons ?_; refine op1_faddr0 rfl rfl ?_; refine zw1 ?_; refine zw1 ?_; refine wpO_cons ?_; refine op1_build rfl ?_; refine bk_one (by (conv => lhs; whnf) <;> rfl) rfl rfl rfl ?_; refine bk_one (by (conv => lhs; whnf) <;> rfl) rfl rfl rfl ?_; refine bk_nil ?_; refine wpO_cons ?_; refine op1_call2 rfl (by (conv => lhs; whnf) <;> rfl) (by (conv => lhs; whnf) <;> rfl) ?_
        refine wpF_mono (L46 (s := s) (S.up1 (S.up2 hS)) (by omega)) ?_
        rintro v5 H3 ⟨vr', hS⟩
        refine zns ?_; refine zsr ?_; (iterate 4 refine zw1 ?_); refine zns ?_; refine wp_ret ?_; refine ret_of ?_; refine rk_tmp (by (conv => lhs; whnf) <;> rfl) ?_; refine rk_tmp (by (conv => lhs; whnf) <;> rfl) ?_; refine rk_tmp (by (conv => lhs; whnf) <;> rfl) ?_; refine rk_tmp (by (conv => lhs; whnf) <;> rfl) ?_; refine rk_nil ?_
        exact ⟨_, _, rfl, S.slNil (S.arrNil (closeP (s := { s with readers := s.readers ++ [(t, n)] }) ⟨hr.len, hr.lt, hr.buf, hr.le⟩ (S.dn2 (S.up1 hS))))⟩
  · rw [if_neg (by omega), if_neg (by omega)]
    refine wp_skip ?_; refine seq_normal ?_; refine wp_seq ?_; refine wp_block ?_; refine zsr ?_; refine zw1 ?_; refine wpO_cons ?_; refine op1_not rfl rfl ?_; refine zw1 ?_; refine zns ?_
    cases w
    · rw [if_pos rfl]
      refine wp_true rfl ?_; refine zsr ?_; (iterate 4 refine zw1 ?_); refine zns ?_; refine wp_ret ?_; refine block_ret ?_; refine seq_ret ?_; refine ret_of ?_; refine rk_tmp (by (conv => lhs; whnf) <;> rfl) ?_; refine rk_tmp (by (conv => lhs; whnf) <;> rfl) ?_; refine rk_tmp (by (conv => lhs; whnf) <;> rfl) ?_; refine rk_tmp (by (conv => lhs; whnf) <;> rfl) ?_; refine rk_nil ?_
      exact ⟨_, _, rfl, S.slNil (S.arrNil hC)⟩
    rw [if_neg (by simp)]
    refine wp_false rfl ?_; refine zsr ?_; refine zw1 ?_; refine wpO_cons ?_; refine op1_nilchk rfl rfl ?_; refine wpO_cons ?_; refine op1_faddr0 rfl rfl ?_; refine wpO_cons ?_; refine op1_faddr rfl rfl ?_; refine wpO_cons ?_; refine op1_load rfl rfl (by exact S.g0 hS) rfl ?_; refine wpO_cons ?_; refine op1_len rfl rfl ?_; refine wpO_cons ?_; refine op1_geq rfl rfl rfl ?_; refine zw1 ?_; refine zns ?_
    refine wp_dec rfl (fun h8 => ?_) (fun h8 => ?_)
    · rw [if_pos (by omega)]
      refine zsr ?_; (iterate 4 refine zw1 ?_); refine zns ?_; refine wp_ret ?_; refine block_ret ?_; refine seq_ret ?_; refine ret_of ?_; refine rk_tmp (by (conv => lhs; whnf) <;> rfl) ?_; refine rk_tmp (by (conv => lhs; whnf) <;> rfl) ?_; refine rk_tmp (by (conv => lhs; whnf) <;> rfl) ?_; refine rk_tmp (by (conv => lhs; whnf) <;> rfl) ?_; refine rk_nil ?_
      exact ⟨_, _, rfl, S.slNil (S.arrNil hC)⟩
    rw [if_neg (by omega)]
    refine wp_skip ?_; refine block_normal ?_; refine seq_normal ?_; refine zsr ?_; refine zw1 ?_; refine wpO_cons ?_; refine op1_nilchk rfl rfl ?_; refine wpO_cons ?_; refine op1_faddr0 rfl rfl ?_; refine zw1 ?_; refine zw1 ?_; refine wpO_cons ?_; refine op1_build rfl ?_; refine bk_one (by (conv => lhs; whnf) <;> rfl) rfl rfl rfl ?_; refine bk_one (by (conv => lhs; whnf) <;> rfl) rfl rfl rfl ?_; refine bk_nil ?_; refine wpO_cons ?_; refine op1_call2 rfl (by (conv => lhs; whnf) <;> rfl) (by (conv => lhs; whnf) <;> rfl) ?_
    refine wpF_mono (L46 (s := s) (S.up1 (S.up2 hS)) (by omega)) ?_
    rintro v5 H3 ⟨vr', hS⟩
    refine zns ?_; refine zsr ?_; (iterate 4 refine zw1 ?_); refine zns ?_; refine wp_ret ?_; refine ret_of ?_; refine rk_tmp (by (conv => lhs; whnf) <;> rfl) ?_; refine rk_tmp (by (conv => lhs; whnf) <;> rfl) ?_; refine rk_tmp (by (conv => lhs; whnf) <;> rfl) ?_; refine rk_tmp (by (conv => lhs; whnf) <;> rfl) ?_; refine rk_nil ?_
    exact ⟨_, _, rfl, S.slNil (S.arrNil (closeP (s := { s with readers := s.readers ++ [(t, n)] }) ⟨hr.len, hr.lt, hr.buf, hr.le⟩ (S.dn2 (S.up1 hS))))⟩
end Go.E.Pi
/- The pipe's methods, walked through: opening, closing, writing. -/
namespace Go.E.Pi
open Go Go.E Go.Proofs.Ytgmmkajjigmjoaa Go.Proofs
set_option linter.unusedVariables false
set_option linter.unusedSimpArgs false
set_option maxRecDepth 100000
theorem L13 {B H : AHeap} {As : List Asn} {p : Nat} {s : PP} (hS : S B H (repP p s :: As)) : wpF C 13 [.pointer (some ⟨p, 0, none⟩)] H fun v H' => v = .int .i64 s.buf.length ∧ H = H' := by
  obtain ⟨rb, vr, vw, r, f, hr, hS⟩ := openP hS
  refine wpF_ofW o13 rfl rfl ?_
  refine zsr ?_; refine zw1 ?_; refine zns ?_; refine wp_seq ?_; refine zsr ?_; refine zw1 ?_; refine wpO_cons ?_; refine op1_bin_false rfl (by (conv => lhs; whnf) <;> rfl) (by (conv => lhs; whnf) <;> rfl) rfl ?_; refine zns ?_; refine wp_false rfl ?_; refine wp_skip ?_; refine seq_normal ?_; refine zsr ?_; refine zw1 ?_; refine wpO_cons ?_; refine op1_nilchk rfl rfl ?_; refine wpO_cons ?_; refine op1_faddr0 rfl rfl ?_; refine wpO_cons ?_; refine op1_faddr0 rfl rfl ?_; refine wpO_cons ?_; refine op1_load rfl rfl (by exact S.g0 hS) rfl ?_; refine zw1 ?_; refine zns ?_; refine wp_ret ?_; refine ret_of ?_; refine rk_tmp (by (conv => lhs; whnf) <;> rfl) ?_; refine rk_nil ?_
  exact ⟨rfl, rfl⟩

def PP.openR (s : PP) : Int × PP := if 64 ≤ s.o0 then (18, s) else (0, { s with o0 := s.o0 + 1 })
def PP.openW (s : PP) : Int × PP := if 64 ≤ s.o1 then (18, s) else (0, { s with o1 := s.o1 + 1 })
theorem L51_0 {B H : AHeap} {As : List Asn} {p : Nat} {s : PP} (hS : S B H (repP p s :: As)) (hok : Ok s) : wpF C 51 [.pointer (some ⟨p, 0, none⟩), .int .i64 0] H fun v H' => v = .int .i64 s.openR.1 ∧ S B H' (repP p s.openR.2 :: As) := by
  have hC := hS
  have h0 := hok.o0
  have h1 := hok.o1
  obtain ⟨rb, vr, vw, r, f, hr, hS⟩ := openP hS
  refine wpF_ofW o51 rfl rfl ?_
  unfold PP.openR
  refine zsr ?_; refine zw1 ?_; refine zns ?_; refine wp_seq ?_; refine wp_block ?_; refine zsr ?_; refine zw1 ?_; refine wpO_cons ?_; refine op1_bin_false rfl (by (conv => lhs; whnf) <;> rfl) (by (conv => lhs; whnf) <;> rfl) rfl ?_; refine zw1 ?_; refine zns ?_; refine wp_false rfl ?_; refine zsr ?_; refine zw1 ?_; refine zw1 ?_; refine wpO_cons ?_; refine op1_nilchk rfl rfl ?_; refine wpO_cons ?_; refine op1_faddr0 rfl rfl ?_; refine wpO_cons ?_; refine op1_iaddrArr rfl rfl rfl (by omega) (by omega) ?_; refine wpO_cons ?_; refine op1_load rfl rfl (by exact S.g0 hS) rfl ?_; refine wpO_cons ?_; refine op1_geq rfl rfl rfl ?_; refine zw1 ?_; refine zns ?_
  refine wp_dec rfl (fun hc => ?_) (fun hc => ?_)
  · rw [if_pos hc]
    refine zsr ?_; refine zw1 ?_; refine zns ?_; refine wp_ret ?_; refine block_ret ?_; refine seq_ret ?_; refine ret_of ?_; refine rk_tmp (by (conv => lhs; whnf) <;> rfl) ?_; refine rk_nil ?_
    exact ⟨rfl, hC⟩
  · rw [if_neg hc]
    refine wp_skip ?_; refine block_normal ?_; refine seq_normal ?_; refine wp_seq ?_; refine wp_regionD ?_; refine zd1 ?_; refine zd1 ?_; refine wpD_cons ?_; refine op1_nilchk rfl rfl ?_; refine wpD_cons ?_; refine op1_faddr0 rfl rfl ?_; refine wpD_cons ?_; refine op1_iaddrArr rfl rfl rfl (by omega) (by omega) ?_; refine wpD_cons ?_; refine op1_load rfl rfl (by exact S.g0 hS) rfl ?_; refine wpD_cons ?_; refine op1_add rfl rfl rfl (by exact wrap_i64 (by omega) (by omega)) ?_; refine wpD_cons ?_; refine op1_nilchk rfl rfl ?_; refine wpD_cons ?_; refine op1_faddr0 rfl rfl ?_; refine wpD_cons ?_; refine op1_iaddrArr rfl rfl rfl (by omega) (by omega) ?_; refine wpD_cons ?_; (refine op1_store1S rfl rfl (by (conv => lhs; whnf) <;> rfl) rfl rfl (S.up0 hS) rfl ?_; intro H1 hS; replace hS := S.dn0 hS); refine wpD_nil ?_; refine dk_of ?_ ?_; (iterate 5 refine chk_skip ?_); refine chk_cons 6 rfl rfl rfl ?_ ?_; refine chkFs_cons 1 rfl rfl ?_ ?_; exact chk_load rfl (by exact S.g0 (by assumption)) rfl rfl; exact chkFs_nil; (iterate 5 refine chk_skip ?_); exact chk_end; refine seq_normal ?_; refine zsr ?_; refine zw1 ?_; refine zns ?_; refine wp_ret ?_; refine ret_of ?_; refine rk_tmp (by (conv => lhs; whnf) <;> rfl) ?_; refine rk_nil ?_
    exact ⟨rfl, closeP (s := { s with o0 := s.o0 + 1 }) ⟨hr.len, hr.lt, hr.buf, hr.le⟩ hS⟩
theorem L51_1 {B H : AHeap} {As : List Asn} {p : Nat} {s : PP} (hS : S B H (repP p s :: As)) (hok : Ok s) : wpF C 51 [.pointer (some ⟨p, 0, none⟩), .int .i64 1] H fun v H' => v = .int .i64 s.openW.1 ∧ S B H' (repP p s.openW.2 :: As) := by
  have hC := hS
  have h0 := hok.o0
  have h1 := hok.o1
  obtain ⟨rb, vr, vw, r, f, hr, hS⟩ := openP hS
  refine wpF_ofW o51 rfl rfl ?_
  unfold PP.openW
  refine zsr ?_; refine zw1 ?_; refine zns ?_; refine wp_seq ?_; refine wp_block ?_; refine zsr ?_; refine zw1 ?_; refine wpO_cons ?_; refine op1_bin_false rfl (by (conv => lhs; whnf) <;> rfl) (by (conv => lhs; whnf) <;> rfl) rfl ?_; refine zw1 ?_; refine zns ?_; refine wp_false rfl ?_; refine zsr ?_; refine zw1 ?_; refine zw1 ?_; refine wpO_cons ?_; refine op1_nilchk rfl rfl ?_; refine wpO_cons ?_; refine op1_faddr0 rfl rfl ?_; refine wpO_cons ?_; refine op1_iaddrArr rfl rfl rfl (by omega) (by omega) ?_; refine wpO_cons ?_; refine op1_load rfl rfl (by exact S.g0 hS) rfl ?_; refine wpO_cons ?_; refine op1_geq rfl rfl rfl ?_; refine zw1 ?_; refine zns ?_
  refine wp_dec rfl (fun hc => ?_) (fun hc => ?_)
  · rw [if_pos hc]
    refine zsr ?_; refine zw1 ?_; refine zns ?_; refine wp_ret ?_; refine block_ret ?_; refine seq_ret ?_; refine ret_of ?_; refine rk_tmp (by (conv => lhs; whnf) <;> rfl) ?_; refine rk_nil ?_
    exact ⟨rfl, hC⟩
  · rw [if_neg hc]
    refine wp_skip ?_; refine block_normal ?_; refine seq_normal ?_; refine wp_seq ?_; refine wp_regionD ?_; refine zd1 ?_; refine zd1 ?_; refine wpD_cons ?_; refine op1_nilchk rfl rfl ?_; refine wpD_cons ?_; refine op1_faddr0 rfl rfl ?_; refine wpD_cons ?_; refine op1_iaddrArr rfl rfl rfl (by omega) (by omega) ?_; refine wpD_cons ?_; refine op1_load rfl rfl (by exact S.g0 hS) rfl ?_; refine wpD_cons ?_; refine op1_add rfl rfl rfl (by exact wrap_i64 (by omega) (by omega)) ?_; refine wpD_cons ?_; refine op1_nilchk rfl rfl ?_; refine wpD_cons ?_; refine op1_faddr0 rfl rfl ?_; refine wpD_cons ?_; refine op1_iaddrArr rfl rfl rfl (by omega) (by omega) ?_; refine wpD_cons ?_; (refine op1_store1S rfl rfl (by (conv => lhs; whnf) <;> rfl) rfl rfl (S.up0 hS) rfl ?_; intro H1 hS; replace hS := S.dn0 hS); refine wpD_nil ?_; refine dk_of ?_ ?_; (iterate 5 refine chk_skip ?_); refine chk_cons 6 rfl rfl rfl ?_ ?_; refine chkFs_cons 1 rfl rfl ?_ ?_; exact chk_load rfl (by exact S.g0 (by assumption)) rfl rfl; exact chkFs_nil; (iterate 5 refine chk_skip ?_); exact chk_end; refine seq_normal ?_; refine zsr ?_; refine zw1 ?_; refine zns ?_; refine wp_ret ?_; refine ret_of ?_; refine rk_tmp (by (conv => lhs; whnf) <;> rfl) ?_; refine rk_nil ?_
    exact ⟨rfl, closeP (s := { s with o1 := s.o1 + 1 }) ⟨hr.len, hr.lt, hr.buf, hr.le⟩ hS⟩

theorem L19 {B H : AHeap} {As : List Asn} {p : Nat} {s : PP} (hS : S B H (repP p s :: As)) (hok : Ok s) : wpF C 19 [.pointer (some ⟨p, 0, none⟩)] H fun v H' => v = .int .i64 s.openR.1 ∧ S B H' (repP p s.openR.2 :: As) := by
  refine wpF_ofW o19 rfl rfl ?_
  refine zsr ?_; refine zw1 ?_; refine zns ?_; refine zsr ?_; refine zw1 ?_; refine wpO_cons ?_; refine op1_call2 rfl (by (conv => lhs; whnf) <;> rfl) (by (conv => lhs; whnf) <;> rfl) ?_
  refine wpF_mono (L51_0 hS hok) ?_
  rintro _ H1 ⟨rfl, hS⟩
  refine zw1 ?_; refine zns ?_; refine wp_ret ?_; refine ret_of ?_; refine rk_tmp (by (conv => lhs; whnf) <;> rfl) ?_; refine rk_nil ?_
  exact ⟨rfl, hS⟩
theorem L20 {B H : AHeap} {As : List Asn} {p : Nat} {s : PP} (hS : S B H (repP p s :: As)) (hok : Ok s) : wpF C 20 [.pointer (some ⟨p, 0, none⟩)] H fun v H' => v = .int .i64 s.openW.1 ∧ S B H' (repP p s.openW.2 :: As) := by
  refine wpF_ofW o20 rfl rfl ?_
  refine zsr ?_; refine zw1 ?_; refine zns ?_; refine zsr ?_; refine zw1 ?_; refine wpO_cons ?_; refine op1_call2 rfl (by (conv => lhs; whnf) <;> rfl) (by (conv => lhs; whnf) <;> rfl) ?_
  refine wpF_mono (L51_1 hS hok) ?_
  rintro _ H1 ⟨rfl, hS⟩
  refine zw1 ?_; refine zns ?_; refine wp_ret ?_; refine ret_of ?_; refine rk_tmp (by (conv => lhs; whnf) <;> rfl) ?_; refine rk_nil ?_
  exact ⟨rfl, hS⟩
theorem okOpenR {s : PP} (hok : Ok s) : Ok s.openR.2 := by
  unfold PP.openR
  have := hok.o0
  split
  · exact hok
  · exact ⟨hok.cap, hok.atm, by simp only; omega, hok.o1, hok.rl, hok.wl, hok.rs, hok.ws, hok.buf⟩
theorem okOpenW {s : PP} (hok : Ok s) : Ok s.openW.2 := by
  unfold PP.openW
  have := hok.o1
  split
  · exact hok
  · exact ⟨hok.cap, hok.atm, hok.o0, by simp only; omega, hok.rl, hok.wl, hok.rs, hok.ws, hok.buf⟩

def PP.closeR (s : PP) : List EndM × Int × PP := if s.o0 = 0 then ([], 35, s) else if s.o0 = 1 ∧ 0 < s.readers.length then ([], 5, s) else ((prog { s with o0 := s.o0 - 1 } []).1, 0, (prog { s with o0 := s.o0 - 1 } []).2)
def PP.closeW (s : PP) : List EndM × Int × PP := if s.o1 = 0 then ([], 35, s) else if s.o1 = 1 ∧ 0 < s.writers.length then ([], 5, s) else ((prog { s with o1 := s.o1 - 1 } []).1, 0, (prog { s with o1 := s.o1 - 1 } []).2)
theorem okCR {s : PP} (hok : Ok s) (h : s.o0 ≠ 0) : Ok { s with o0 := s.o0 - 1 } := ⟨hok.cap, hok.atm, by have := hok.o0; simp only; omega, hok.o1, hok.rl, hok.wl, hok.rs, hok.ws, hok.buf⟩
theorem okCW {s : PP} (hok : Ok s) (h : s.o1 ≠ 0) : Ok { s with o1 := s.o1 - 1 } := ⟨hok.cap, hok.atm, hok.o0, by have := hok.o1; simp only; omega, hok.rl, hok.wl, hok.rs, hok.ws, hok.buf⟩
theorem L47_0 {B H : AHeap} {As : List Asn} {p : Nat} {s : PP} {n : Int} (hS : S B H (repP p s :: As)) (hok : Ok s) (hn : n = s.readers.length) : wpF C 47 [.pointer (some ⟨p, 0, none⟩), .int .i64 0, .int .i64 n] H fun v H' => ∃ ve, v = .tuple ⟨[ve, .int .i64 s.closeR.2.1]⟩ ∧ S B H' (arr 4 endA ve s.closeR.1 :: repP p s.closeR.2.2 :: As) := by
  have hC := hS
  have h0 := hok.o0
  have h1 := hok.o1
  obtain ⟨rb, vr, vw, r, f, hr, hS⟩ := openP hS
  refine wpF_ofW o47 rfl rfl ?_
  unfold PP.closeR
  refine zsr ?_; refine zw1 ?_; refine zw1 ?_; refine zns ?_; refine wp_seq ?_; refine wp_block ?_; refine zsr ?_; refine zw1 ?_; refine zw1 ?_; refine wpO_cons ?_; refine op1_nilchk rfl rfl ?_; refine wpO_cons ?_; refine op1_faddr0 rfl rfl ?_; refine wpO_cons ?_; refine op1_iaddrArr rfl rfl rfl (by omega) (by omega) ?_; refine wpO_cons ?_; refine op1_load rfl rfl (by exact S.g0 hS) rfl ?_; refine wpO_cons ?_; refine op1_eqlI rfl rfl rfl ?_; refine zw1 ?_; refine zns ?_
  refine wp_dec rfl (fun hc => ?_) (fun hc => ?_)
  · rw [if_pos hc]
    refine zsr ?_; refine zw1 ?_; refine zw1 ?_; refine zns ?_; refine wp_ret ?_; refine block_ret ?_; refine seq_ret ?_; refine ret_of ?_; refine rk_tmp (by (conv => lhs; whnf) <;> rfl) ?_; refine rk_tmp (by (conv => lhs; whnf) <;> rfl) ?_; refine rk_nil ?_
    exact ⟨_, rfl, S.arrNil hC⟩
  rw [if_neg hc]
  skip
  refine wp_cut [16] (fun vs H' => vs = [.bool (decide (s.o0 = 1 ∧ 0 < s.readers.length))] ∧ H = H') ?_ ?_
  · refine wp_region ?_; refine zw1 ?_; refine zw1 ?_; refine wpO_cons ?_; refine op1_nilchk rfl rfl ?_; refine wpO_cons ?_; refine op1_faddr0 rfl rfl ?_; refine wpO_cons ?_; refine op1_iaddrArr rfl rfl rfl (by omega) (by omega) ?_; refine wpO_cons ?_; refine op1_load rfl rfl (by exact S.g0 hS) rfl ?_; refine wpO_cons ?_; refine op1_eqlI rfl rfl rfl ?_; refine zw1 ?_; refine wpO_cons ?_; refine op1_split rfl (fun hc0 => ?_) (fun hc0 => ?_); (focus (refine op1_mov rfl (by (conv => lhs; whnf) <;> rfl) ?_; refine wpO_cons ?_; refine op1_gtr rfl rfl rfl ?_; refine wpO_cons ?_; refine op1_pick_t rfl rfl (by (conv => lhs; whnf) <;> rfl) ?_; refine zw1 ?_; refine wpO_nil ?_; refine cut1 (by (conv => lhs; whnf) <;> rfl) ?_; (exact ⟨bool_leaf (by simp_all <;> omega), rfl⟩))); (focus (refine op1_skip rfl ?_; refine wpO_cons ?_; refine op1_skip rfl ?_; refine wpO_cons ?_; refine op1_pick_f rfl rfl (by (conv => lhs; whnf) <;> rfl) ?_; refine zw1 ?_; refine wpO_nil ?_; refine cut1 (by (conv => lhs; whnf) <;> rfl) ?_; (exact ⟨bool_leaf (by simp_all <;> omega), rfl⟩)))
  rintro vs2 T2 H2 ⟨rfl, rfl⟩
  refine wp_dec rfl (fun hc2 => ?_) (fun hc2 => ?_)
  · rw [if_pos hc2]
    refine zsr ?_; refine zw1 ?_; refine zw1 ?_; refine zns ?_; refine wp_ret ?_; refine block_ret ?_; refine seq_ret ?_; refine ret_of ?_; refine rk_tmp (by (conv => lhs; whnf) <;> rfl) ?_; refine rk_tmp (by (conv => lhs; whnf) <;> rfl) ?_; refine rk_nil ?_
    exact ⟨_, rfl, S.arrNil hC⟩
  rw [if_neg hc2]
  refine wp_skip ?_; refine block_normal ?_; refine seq_normal ?_; refine wp_seq ?_; refine wp_regionD ?_; refine zd1 ?_; refine zd1 ?_; refine wpD_cons ?_; refine op1_nilchk rfl rfl ?_; refine wpD_cons ?_; refine op1_faddr0 rfl rfl ?_; refine wpD_cons ?_; refine op1_iaddrArr rfl rfl rfl (by omega) (by omega) ?_; refine wpD_cons ?_; refine op1_load rfl rfl (by exact S.g0 hS) rfl ?_; refine wpD_cons ?_; refine op1_sub rfl rfl rfl (by exact wrap_i64 (by omega) (by omega)) ?_; refine wpD_cons ?_; refine op1_nilchk rfl rfl ?_; refine wpD_cons ?_; refine op1_faddr0 rfl rfl ?_; refine wpD_cons ?_; refine op1_iaddrArr rfl rfl rfl (by omega) (by omega) ?_; refine wpD_cons ?_; (refine op1_store1S rfl rfl (by (conv => lhs; whnf) <;> rfl) rfl rfl (S.up0 hS) rfl ?_; intro H1 hS; replace hS := S.dn0 hS); refine wpD_nil ?_; refine dk_of ?_ ?_; (iterate 5 refine chk_skip ?_); refine chk_cons 6 rfl rfl rfl ?_ ?_; refine chkFs_cons 1 rfl rfl ?_ ?_; exact chk_load rfl (by exact S.g0 (by assumption)) rfl rfl; exact chkFs_nil; (iterate 5 refine chk_skip ?_); exact chk_end; refine seq_normal ?_; refine zsr ?_; refine zw1 ?_; refine wpO_cons ?_; refine op1_call1 rfl (by (conv => lhs; whnf) <;> rfl) ?_
  refine wpF_mono (L44 (closeP (s := { s with o0 := s.o0 - 1 }) ⟨hr.len, hr.lt, hr.buf, hr.le⟩ hS) (okCR hok hc)) ?_
  rintro ve H3 hS
  refine zw1 ?_; refine zw1 ?_; refine zns ?_; refine wp_ret ?_; refine ret_of ?_; refine rk_tmp (by (conv => lhs; whnf) <;> rfl) ?_; refine rk_tmp (by (conv => lhs; whnf) <;> rfl) ?_; refine rk_nil ?_
  exact ⟨_, rfl, hS⟩
theorem L47_1 {B H : AHeap} {As : List Asn} {p : Nat} {s : PP} {n : Int} (hS : S B H (repP p s :: As)) (hok : Ok s) (hn : n = s.writers.length) : wpF C 47 [.pointer (some ⟨p, 0, none⟩), .int .i64 1, .int .i64 n] H fun v H' => ∃ ve, v = .tuple ⟨[ve, .int .i64 s.closeW.2.1]⟩ ∧ S B H' (arr 4 endA ve s.closeW.1 :: repP p s.closeW.2.2 :: As) := by
  have hC := hS
  have h0 := hok.o0
  have h1 := hok.o1
  obtain ⟨rb, vr, vw, r, f, hr, hS⟩ := openP hS
  refine wpF_ofW o47 rfl rfl ?_
  unfold PP.closeW
  refine zsr ?_; refine zw1 ?_; refine zw1 ?_; refine zns ?_; refine wp_seq ?_; refine wp_block ?_; refine zsr ?_; refine zw1 ?_; refine zw1 ?_; refine wpO_cons ?_; refine op1_nilchk rfl rfl ?_; refine wpO_cons ?_; refine op1_faddr0 rfl rfl ?_; refine wpO_cons ?_; refine op1_iaddrArr rfl rfl rfl (by omega) (by omega) ?_; refine wpO_cons ?_; refine op1_load rfl rfl (by exact S.g0 hS) rfl ?_; refine wpO_cons ?_; refine op1_eqlI rfl rfl rfl ?_; refine zw1 ?_; refine zns ?_
  refine wp_dec rfl (fun hc => ?_) (fun hc => ?_)
  · rw [if_pos hc]
    refine zsr ?_; refine zw1 ?_; refine zw1 ?_; refine zns ?_; refine wp_ret ?_; refine block_ret ?_; refine seq_ret ?_; refine ret_of ?_; refine rk_tmp (by (conv => lhs; whnf) <;> rfl) ?_; refine rk_tmp (by (conv => lhs; whnf) <;> rfl) ?_; refine rk_nil ?_
    exact ⟨_, rfl, S.arrNil hC⟩
  rw [if_neg hc]
  skip
  refine wp_cut [16] (fun vs H' => vs = [.bool (decide (s.o1 = 1 ∧ 0 < s.writers.length))] ∧ H = H') ?_ ?_
  · refine wp_region ?_; refine zw1 ?_; refine zw1 ?_; refine wpO_cons ?_; refine op1_nilchk rfl rfl ?_; refine wpO_cons ?_; refine op1_faddr0 rfl rfl ?_; refine wpO_cons ?_; refine op1_iaddrArr rfl rfl rfl (by omega) (by omega) ?_; refine wpO_cons ?_; refine op1_load rfl rfl (by exact S.g0 hS) rfl ?_; refine wpO_cons ?_; refine op1_eqlI rfl rfl rfl ?_; refine zw1 ?_; refine wpO_cons ?_; refine op1_split rfl (fun hc0 => ?_) (fun hc0 => ?_); (focus (refine op1_mov rfl (by (conv => lhs; whnf) <;> rfl) ?_; refine wpO_cons ?_; refine op1_gtr rfl rfl rfl ?_; refine wpO_cons ?_; refine op1_pick_t rfl rfl (by (conv => lhs; whnf) <;> rfl) ?_; refine zw1 ?_; refine wpO_nil ?_; refine cut1 (by (conv => lhs; whnf) <;> rfl) ?_; (exact ⟨bool_leaf (by simp_all <;> omega), rfl⟩))); (focus (refine op1_skip rfl ?_; refine wpO_cons ?_; refine op1_skip rfl ?_; refine wpO_cons ?_; refine op1_pick_f rfl rfl (by (conv => lhs; whnf) <;> rfl) ?_; refine zw1 ?_; refine wpO_nil ?_; refine cut1 (by (conv => lhs; whnf) <;> rfl) ?_; (exact ⟨bool_leaf (by simp_all <;> omega), rfl⟩)))
  rintro vs2 T2 H2 ⟨rfl, rfl⟩
  refine wp_dec rfl (fun hc2 => ?_) (fun hc2 => ?_)
  · rw [if_pos hc2]
    refine zsr ?_; refine zw1 ?_; refine zw1 ?_; refine zns ?_; refine wp_ret ?_; refine block_ret ?_; refine seq_ret ?_; refine ret_of ?_; refine rk_tmp (by (conv => lhs; whnf) <;> rfl) ?_; refine rk_tmp (by (conv => lhs; whnf) <;> rfl) ?_; refine rk_nil ?_
    exact ⟨_, rfl, S.arrNil hC⟩
  rw [if_neg hc2]
  refine wp_skip ?_; refine block_normal ?_; refine seq_normal ?_; refine wp_seq ?_; refine wp_regionD ?_; refine zd1 ?_; refine zd1 ?_; refine wpD_cons ?_; refine op1_nilchk rfl rfl ?_; refine wpD_cons ?_; refine op1_faddr0 rfl rfl ?_; refine wpD_cons ?_; refine op1_iaddrArr rfl rfl rfl (by omega) (by omega) ?_; refine wpD_cons ?_; refine op1_load rfl rfl (by exact S.g0 hS) rfl ?_; refine wpD_cons ?_; refine op1_sub rfl rfl rfl (by exact wrap_i64 (by omega) (by omega)) ?_; refine wpD_cons ?_; refine op1_nilchk rfl rfl ?_; refine wpD_cons ?_; refine op1_faddr0 rfl rfl ?_; refine wpD_cons ?_; refine op1_iaddrArr rfl rfl rfl (by omega) (by omega) ?_; refine wpD_cons ?_; (refine op1_store1S rfl rfl (by (conv => lhs; whnf) <;> rfl) rfl rfl (S.up0 hS) rfl ?_; intro H1 hS; replace hS := S.dn0 hS); refine wpD_nil ?_; refine dk_of ?_ ?_; (iterate 5 refine chk_skip ?_); refine chk_cons 6 rfl rfl rfl ?_ ?_; refine chkFs_cons 1 rfl rfl ?_ ?_; exact chk_load rfl (by exact S.g0 (by assumption)) rfl rfl; exact chkFs_nil; (iterate 5 refine chk_skip ?_); exact chk_end; refine seq_normal ?_; refine zsr ?_; refine zw1 ?_; refine wpO_cons ?_; refine op1_call1 rfl (by (conv => lhs; whnf) <;> rfl) ?_
  refine wpF_mono (L44 (closeP (s := { s with o1 := s.o1 - 1 }) ⟨hr.len, hr.lt, hr.buf, hr.le⟩ hS) (okCW hok hc)) ?_
  rintro ve H3 hS
  refine zw1 ?_; refine zw1 ?_; refine zns ?_; refine wp_ret ?_; refine ret_of ?_; refine rk_tmp (by (conv => lhs; whnf) <;> rfl) ?_; refine rk_tmp (by (conv => lhs; whnf) <;> rfl) ?_; refine rk_nil ?_
  exact ⟨_, rfl, hS⟩

theorem L16 {B H : AHeap} {As : List Asn} {p : Nat} {s : PP} (hS : S B H (repP p s :: As)) (hok : Ok s) : wpF C 16 [.pointer (some ⟨p, 0, none⟩)] H fun v H' => ∃ ve, v = .tuple ⟨[ve, .int .i64 s.closeR.2.1]⟩ ∧ S B H' (arr 4 endA ve s.closeR.1 :: repP p s.closeR.2.2 :: As) := by
  have hC := hS
  obtain ⟨rb, vr, vw, r, f, hr, hS⟩ := openP hS
  obtain ⟨ar, cr, rfl, hcr⟩ := shapeR (S.up2 hS)
  refine wpF_ofW o16 rfl rfl ?_
  refine zsr ?_; refine zw1 ?_; refine zw1 ?_; refine zns ?_; refine wp_seq ?_; refine zsr ?_; refine zw1 ?_; refine wpO_cons ?_; refine op1_bin_false rfl (by (conv => lhs; whnf) <;> rfl) (by (conv => lhs; whnf) <;> rfl) rfl ?_; refine zns ?_; refine wp_false rfl ?_; refine wp_skip ?_; refine seq_normal ?_; refine zsr ?_; refine zw1 ?_; refine zw1 ?_; refine wpO_cons ?_; refine op1_nilchk rfl rfl ?_; refine wpO_cons ?_; refine op1_faddr0 rfl rfl ?_; refine wpO_cons ?_; refine op1_faddr rfl rfl ?_; refine wpO_cons ?_; refine op1_load rfl rfl (by exact S.g0 hS) rfl ?_; refine wpO_cons ?_; refine op1_len rfl rfl ?_; refine wpO_cons ?_; refine op1_call3 rfl (by (conv => lhs; whnf) <;> rfl) (by (conv => lhs; whnf) <;> rfl) (by (conv => lhs; whnf) <;> rfl) ?_
  refine wpF_mono (L47_0 hC hok rfl) ?_
  rintro _ H1 ⟨ve, rfl, hS⟩
  refine wpO_cons ?_; refine op1_extract rfl rfl rfl ?_; refine wpO_cons ?_; refine op1_extract rfl rfl rfl ?_; refine zw1 ?_; refine zw1 ?_; refine zns ?_; refine wp_ret ?_; refine ret_of ?_; refine rk_tmp (by (conv => lhs; whnf) <;> rfl) ?_; refine rk_tmp (by (conv => lhs; whnf) <;> rfl) ?_; refine rk_nil ?_
  exact ⟨_, rfl, hS⟩
theorem L17 {B H : AHeap} {As : List Asn} {p : Nat} {s : PP} (hS : S B H (repP p s :: As)) (hok : Ok s) : wpF C 17 [.pointer (some ⟨p, 0, none⟩)] H fun v H' => ∃ ve, v = .tuple ⟨[ve, .int .i64 s.closeW.2.1]⟩ ∧ S B H' (arr 4 endA ve s.closeW.1 :: repP p s.closeW.2.2 :: As) := by
  have hC := hS
  obtain ⟨rb, vr, vw, r, f, hr, hS⟩ := openP hS
  obtain ⟨aw, cw, rfl, hcw⟩ := S.arrShape (S.up3 hS) (by omega)
  refine wpF_ofW o17 rfl rfl ?_
  refine zsr ?_; refine zw1 ?_; refine zw1 ?_; refine zns ?_; refine wp_seq ?_; refine zsr ?_; refine zw1 ?_; refine wpO_cons ?_; refine op1_bin_false rfl (by (conv => lhs; whnf) <;> rfl) (by (conv => lhs; whnf) <;> rfl) rfl ?_; refine zns ?_; refine wp_false rfl ?_; refine wp_skip ?_; refine seq_normal ?_; refine zsr ?_; refine zw1 ?_; refine zw1 ?_; refine wpO_cons ?_; refine op1_nilchk rfl rfl ?_; refine wpO_cons ?_; refine op1_faddr0 rfl rfl ?_; refine wpO_cons ?_; refine op1_faddr rfl rfl ?_; refine wpO_cons ?_; refine op1_load rfl rfl (by exact S.g0 hS) rfl ?_; refine wpO_cons ?_; refine op1_len rfl rfl ?_; refine wpO_cons ?_; refine op1_call3 rfl (by (conv => lhs; whnf) <;> rfl) (by (conv => lhs; whnf) <;> rfl) (by (conv => lhs; whnf) <;> rfl) ?_
  refine wpF_mono (L47_1 hC hok rfl) ?_
  rintro _ H1 ⟨ve, rfl, hS⟩
  refine wpO_cons ?_; refine op1_extract rfl rfl rfl ?_; refine wpO_cons ?_; refine op1_extract rfl rfl rfl ?_; refine zw1 ?_; refine zw1 ?_; refine zns ?_; refine wp_ret ?_; refine ret_of ?_; refine rk_tmp (by (conv => lhs; whnf) <;> rfl) ?_; refine rk_tmp (by (conv => lhs; whnf) <;> rfl) ?_; refine rk_nil ?_
  exact ⟨_, rfl, hS⟩

theorem L39 {B H : AHeap} {As : List Asn} {v : Value} {d : List Int} (hd : RD B As 1 v (u8s d)) (hS : S B H As) (hl : d.length ≤ 1000000) : wpF C 39 [v] H fun v' H' => S B H' (sl 1 v' (u8s d) :: As) := by
  obtain ⟨a, c, rfl⟩ := hd.u1 hS
  obtain ⟨r, hr, _⟩ := hd H hS
  refine wpF_ofW o39 rfl rfl ?_
  cases a with
  | none =>
    have hd0 : d = [] := by
      generalize hx : u8s d = xs at hr
      generalize hn : d.length = n at hr
      cases hr
      simpa [u8s] using hx
    subst hd0
    refine zsr ?_; refine zw1 ?_; refine zns ?_; refine wp_seq ?_; refine zsr ?_; refine zw1 ?_; refine wpO_cons ?_; refine op1_bin_true rfl (by (conv => lhs; whnf) <;> rfl) (by (conv => lhs; whnf) <;> rfl) rfl ?_; refine zns ?_; refine wp_true rfl ?_; refine zsr ?_; refine zw1 ?_; refine zns ?_; refine wp_ret ?_; refine seq_ret ?_; refine ret_of ?_; refine rk_tmp (by (conv => lhs; whnf) <;> rfl) ?_; refine rk_nil ?_
    exact hS.slNil
  | some a =>
    refine zsr ?_; refine zw1 ?_; refine zns ?_; refine wp_seq ?_; refine zsr ?_; refine zw1 ?_; refine wpO_cons ?_; refine op1_bin_false rfl (by (conv => lhs; whnf) <;> rfl) (by (conv => lhs; whnf) <;> rfl) rfl ?_; refine zns ?_; refine wp_false rfl ?_; refine wp_skip ?_; refine seq_normal ?_; refine zsr ?_; refine wpO_cons ?_; refine op1_bsliceS rfl hS ?_; refine bk_nil ?_; intro p1 H1 hS; refine zw1 ?_; refine wpO_cons ?_
    replace hS := S.slNew (l := 0) (es := 1) hS rfl
    obtain ⟨r2, hr2, _⟩ := hd _ hS.drop
    refine op1_appRS rfl rfl (by (conv => lhs; whnf) <;> rfl) rfl hr2 (by simp) (u8s_one _) hS (by omega) ?_
    rw [List.nil_append, Nat.zero_add]
    intro a1 c1 H2 hS
    refine zw1 ?_; refine zns ?_; refine wp_ret ?_; refine ret_of ?_; refine rk_tmp (by (conv => lhs; whnf) <;> rfl) ?_; refine rk_nil ?_
    exact hS
end Go.E.Pi
