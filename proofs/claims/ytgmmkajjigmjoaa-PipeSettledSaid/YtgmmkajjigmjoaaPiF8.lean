/- The pipe's methods, walked through: writing. -/
import Derived.Test.YtgmmkajjigmjoaaPiF67
namespace Go.E.Pi
open Go Go.E Go.Proofs.Ytgmmkajjigmjoaa Go.Proofs
set_option linter.unusedVariables false
set_option linter.unusedSimpArgs false
set_option maxRecDepth 100000
structure WtRes where
  n : Int
  is : Bool
  ends : List EndM
  err : Int
  s : PP
def PP.can (s : PP) (d : List Int) : Bool := decide (s.writers.length = 0) && s.fits d.length
def PP.put (s : PP) (d : List Int) : PP := { s with buf := s.buf ++ d.take (min d.length (s.cap - s.buf.length)) }
def PP.queue (s : PP) (w : Wr) : PP := { s with writers := s.writers ++ [w] }
def PP.write (s : PP) (t : Int) (d : List Int) (wait : Bool) : WtRes :=
  if t < 0 ∨ 256 ≤ t then ⟨0, false, [], 34, s⟩
  else if 4096 < d.length then ⟨0, false, [], 20, s⟩
  else if s.o1 = 0 then ⟨0, false, [], 35, s⟩
  else if s.blocked t = true then ⟨0, false, [], 5, s⟩
  else if s.o0 = 0 then ⟨0, false, [], 33, s⟩
  else if d.length = 0 then ⟨0, false, [], 0, s⟩
  else if s.can d = false ∧ wait = false then ⟨0, false, [], 2, s⟩
  else if (s.can d = false ∨ (wait = true ∧ s.cap - s.buf.length < d.length)) ∧ 64 ≤ s.writers.length then ⟨0, false, [], 18, s⟩
  else if s.can d = false then ⟨0, true, [], 0, s.queue ⟨t, d, 0⟩⟩
  else if min d.length (s.cap - s.buf.length) < d.length ∧ wait = true then
    ⟨0, true, (prog ((s.put d).queue ⟨t, d, min d.length (s.cap - s.buf.length)⟩) []).1, 0, (prog ((s.put d).queue ⟨t, d, min d.length (s.cap - s.buf.length)⟩) []).2⟩
  else ⟨(min d.length (s.cap - s.buf.length) : Nat), false, (prog (s.put d) []).1, 0, (prog (s.put d) []).2⟩

theorem L42q {B H : AHeap} {As : List Asn} {p p1 rb f : Nat} {s : PP} {r : List Int} {vr : Value} {aw ac : Option Addr} {cw cc dn : Nat} {t : Int} {d : List Int} (hr : RingOk s r f)
    (hS : S B H (pto p (.cells (pipeC s rb f vr (.slice aw s.writers.length cw)) 0 false) :: pto p1 (.cells [.int .i64 t, .slice ac d.length cc, .int .i64 dn] 0 false) :: pto rb (.cells (u8s r) 1 false) :: sl 2 vr (s.readers.flatMap rdC) :: arr 3 wrA (.slice aw s.writers.length cw) s.writers :: sl 1 (.slice ac d.length cc) (u8s d) :: As)) (hwl : s.writers.length ≤ 1000) :
    wpF C 42 [.pointer (some ⟨p, 7, none⟩), .agg ⟨[.int .i64 t, .slice ac d.length cc, .int .i64 dn]⟩] H fun v H' => S B H' (repP p (s.queue ⟨t, d, dn⟩) :: As) := by
  obtain ⟨css, hcss, hcl, hS⟩ := S.unarr (S.up4 hS)
  refine wpF_mono (L42 (s := s) (S.up2 hS) hwl) ?_
  rintro v H1 ⟨vw', hS⟩
  have h1 := S.up2 (S.many_snoc (S.up1 (S.up3 (wrA_of (w := ⟨t, d, dn⟩) (S.up6 hS)))))
  rw [← flatten_snoc] at h1
  have h2 := S.arrI h1 (fun c hc => by
    simp only [List.mem_append, List.mem_singleton] at hc
    rcases hc with hc | rfl
    · exact hcss c hc
    · rfl)
  exact closeP (s := s.queue ⟨t, d, dn⟩) ⟨hr.len, hr.lt, hr.buf, hr.le⟩ (S.dn3 (S.up1 (S.drop (S.up2 (S.dn1 h2)))))

theorem okPut {s : PP} (hok : Ok s) (d : List Int) : Ok (s.put d) := by
  have := hok.buf
  refine ⟨hok.cap, hok.atm, hok.o0, hok.o1, hok.rl, hok.wl, hok.rs, hok.ws, ?_⟩
  show (s.buf ++ d.take _).length ≤ s.cap
  simp only [List.length_append, List.length_take]
  omega
theorem okQueue {s : PP} (hok : Ok s) {w : Wr} (h1 : s.writers.length < 64) (h2 : w.done < w.data.length ∧ w.data.length ≤ 4096) : Ok (s.queue w) :=
  ⟨hok.cap, hok.atm, hok.o0, hok.o1, hok.rl, by show (s.writers ++ [w]).length ≤ 64; simp; omega, hok.rs, fun x hx => by
    have hx : x ∈ s.writers ++ [w] := hx
    simp only [List.mem_append, List.mem_singleton] at hx
    rcases hx with hx | rfl
    · exact hok.ws x hx
    · exact h2, hok.buf⟩
theorem L11 {B H : AHeap} {As : List Asn} {p : Nat} {s : PP} {t : Int} {vd : Value} {d : List Int} {w : Bool} (hd : RD B As 1 vd (u8s d)) (hS : S B H (repP p s :: As)) (hok : Ok s) (hdl : d.length ≤ 1000000) :
    wpF C 11 [.pointer (some ⟨p, 0, none⟩), .int .i64 t, vd, .bool w] H fun v H' => ∃ ve, v = .tuple ⟨[.int .i64 (s.write t d w).n, .bool (s.write t d w).is, ve, .int .i64 (s.write t d w).err]⟩ ∧
      S B H' (arr 4 endA ve (s.write t d w).ends :: repP p (s.write t d w).s :: As) := by
  have hrl := hok.rl
  have hwl := hok.wl
  have hcap := hok.cap
  have hbl := hok.buf
  obtain ⟨a, c, rfl⟩ := hd.u1 hS.drop
  obtain ⟨rb0, vr0, vw0, r0, f0, _, hO⟩ := openP hS
  refine wpF_ofW o11 rfl rfl ?_
  unfold PP.write
  refine zsr ?_; (iterate 4 refine zw1 ?_); refine zns ?_; refine wp_seq ?_; refine wp_block ?_; refine zsr ?_; refine zw1 ?_; refine wpO_cons ?_; refine op1_bin_false rfl (by (conv => lhs; whnf) <;> rfl) (by (conv => lhs; whnf) <;> rfl) rfl ?_; refine zw1 ?_; refine zns ?_; refine wp_false rfl ?_; refine zsr ?_; refine zw1 ?_; refine wpO_cons ?_; refine op1_call1 rfl (by (conv => lhs; whnf) <;> rfl) ?_; (refine wpF_mono L37 ?_; rintro _ _ ⟨rfl, rfl⟩); refine wpO_cons ?_; refine op1_not rfl rfl ?_; refine zw1 ?_; refine zns ?_
  refine wp_ndec rfl (fun h1 => ?_) (fun h1 => ?_)
  · rw [if_pos (by omega)]
    refine zsr ?_; (iterate 4 refine zw1 ?_); refine zns ?_; refine wp_ret ?_; refine block_ret ?_; refine seq_ret ?_; refine ret_of ?_; refine rk_tmp (by (conv => lhs; whnf) <;> rfl) ?_; refine rk_tmp (by (conv => lhs; whnf) <;> rfl) ?_; refine rk_tmp (by (conv => lhs; whnf) <;> rfl) ?_; refine rk_tmp (by (conv => lhs; whnf) <;> rfl) ?_; refine rk_nil ?_
    exact ⟨_, rfl, S.arrNil hS⟩
  rw [if_neg (by omega)]
  refine zsr ?_; refine zw1 ?_; refine wpO_cons ?_; refine op1_len rfl rfl ?_; refine wpO_cons ?_; refine op1_gtr rfl rfl rfl ?_; refine zw1 ?_; refine zns ?_
  refine wp_dec rfl (fun h2 => ?_) (fun h2 => ?_)
  · rw [if_pos (by omega)]
    refine zsr ?_; (iterate 4 refine zw1 ?_); refine zns ?_; refine wp_ret ?_; refine block_ret ?_; refine seq_ret ?_; refine ret_of ?_; refine rk_tmp (by (conv => lhs; whnf) <;> rfl) ?_; refine rk_tmp (by (conv => lhs; whnf) <;> rfl) ?_; refine rk_tmp (by (conv => lhs; whnf) <;> rfl) ?_; refine rk_tmp (by (conv => lhs; whnf) <;> rfl) ?_; refine rk_nil ?_
    exact ⟨_, rfl, S.arrNil hS⟩
  rw [if_neg (by omega)]
  refine zsr ?_; refine zw1 ?_; refine wpO_cons ?_; refine op1_nilchk rfl rfl ?_; refine wpO_cons ?_; refine op1_faddr0 rfl rfl ?_; refine wpO_cons ?_; refine op1_iaddrArr rfl rfl rfl (by omega) (by omega) ?_; refine wpO_cons ?_; refine op1_load rfl rfl (by exact S.g0 hO) rfl ?_; refine wpO_cons ?_; refine op1_eqlI rfl rfl rfl ?_; refine zw1 ?_; refine zns ?_
  refine wp_dec rfl (fun h3 => ?_) (fun h3 => ?_)
  · rw [if_pos h3]
    refine zsr ?_; (iterate 4 refine zw1 ?_); refine zns ?_; refine wp_ret ?_; refine block_ret ?_; refine seq_ret ?_; refine ret_of ?_; refine rk_tmp (by (conv => lhs; whnf) <;> rfl) ?_; refine rk_tmp (by (conv => lhs; whnf) <;> rfl) ?_; refine rk_tmp (by (conv => lhs; whnf) <;> rfl) ?_; refine rk_tmp (by (conv => lhs; whnf) <;> rfl) ?_; refine rk_nil ?_
    exact ⟨_, rfl, S.arrNil hS⟩
  rw [if_neg h3]
  refine zsr ?_; refine zw1 ?_; refine zw1 ?_; refine wpO_cons ?_; refine op1_call2 rfl (by (conv => lhs; whnf) <;> rfl) (by (conv => lhs; whnf) <;> rfl) ?_
  refine wpF_mono (L38 hS (by omega) (by omega)) ?_
  rintro _ H1 ⟨rfl, hS⟩
  clear hO
  obtain ⟨rb1, vr1, vw1, r1, f1, _, hO⟩ := openP hS
  refine zw1 ?_; refine zns ?_
  refine wp_cond rfl (fun h4 => ?_) (fun h4 => ?_)
  · rw [if_pos h4]
    refine zsr ?_; (iterate 4 refine zw1 ?_); refine zns ?_; refine wp_ret ?_; refine block_ret ?_; refine seq_ret ?_; refine ret_of ?_; refine rk_tmp (by (conv => lhs; whnf) <;> rfl) ?_; refine rk_tmp (by (conv => lhs; whnf) <;> rfl) ?_; refine rk_tmp (by (conv => lhs; whnf) <;> rfl) ?_; refine rk_tmp (by (conv => lhs; whnf) <;> rfl) ?_; refine rk_nil ?_
    exact ⟨_, rfl, S.arrNil hS⟩
  rw [if_neg (by rw [h4]; simp)]
  refine zsr ?_; refine zw1 ?_; refine wpO_cons ?_; refine op1_nilchk rfl rfl ?_; refine wpO_cons ?_; refine op1_faddr0 rfl rfl ?_; refine wpO_cons ?_; refine op1_iaddrArr rfl rfl rfl (by omega) (by omega) ?_; refine wpO_cons ?_; refine op1_load rfl rfl (by exact S.g0 hO) rfl ?_; refine wpO_cons ?_; refine op1_eqlI rfl rfl rfl ?_; refine zw1 ?_; refine zns ?_
  refine wp_dec rfl (fun h5 => ?_) (fun h5 => ?_)
  · rw [if_pos h5]
    refine zsr ?_; (iterate 4 refine zw1 ?_); refine zns ?_; refine wp_ret ?_; refine block_ret ?_; refine seq_ret ?_; refine ret_of ?_; refine rk_tmp (by (conv => lhs; whnf) <;> rfl) ?_; refine rk_tmp (by (conv => lhs; whnf) <;> rfl) ?_; refine rk_tmp (by (conv => lhs; whnf) <;> rfl) ?_; refine rk_tmp (by (conv => lhs; whnf) <;> rfl) ?_; refine rk_nil ?_
    exact ⟨_, rfl, S.arrNil hS⟩
  rw [if_neg h5]
  refine zsr ?_; refine zw1 ?_; refine wpO_cons ?_; refine op1_len rfl rfl ?_; refine wpO_cons ?_; refine op1_eqlI rfl rfl rfl ?_; refine zw1 ?_; refine zns ?_
  refine wp_dec rfl (fun h6 => ?_) (fun h6 => ?_)
  · rw [if_pos (by omega)]
    refine zsr ?_; (iterate 4 refine zw1 ?_); refine zns ?_; refine wp_ret ?_; refine block_ret ?_; refine seq_ret ?_; refine ret_of ?_; refine rk_tmp (by (conv => lhs; whnf) <;> rfl) ?_; refine rk_tmp (by (conv => lhs; whnf) <;> rfl) ?_; refine rk_tmp (by (conv => lhs; whnf) <;> rfl) ?_; refine rk_tmp (by (conv => lhs; whnf) <;> rfl) ?_; refine rk_nil ?_
    exact ⟨_, rfl, S.arrNil hS⟩
  rw [if_neg (by omega)]
  clear hO
  refine wp_skip ?_; refine block_normal ?_; refine seq_normal ?_; refine zsr ?_; refine zw1 ?_; refine zw1 ?_; refine wpO_cons ?_; refine op1_call1 rfl (by (conv => lhs; whnf) <;> rfl) ?_
  refine wpF_mono (L39 hd.cons hS hdl) ?_
  rintro vc H2 hS
  obtain ⟨ac, cc, rfl⟩ := hS.u1
  obtain ⟨rb, vr, vw, r, f, hr, hS⟩ := openP (S.up1 hS)
  obtain ⟨aw, cw, rfl, hcw⟩ := S.arrShape (S.up3 hS) (by omega)
  refine wpO_cons ?_; refine op1_build rfl ?_; refine bk_one (by (conv => lhs; whnf) <;> rfl) rfl rfl rfl ?_; refine bk_one (by (conv => lhs; whnf) <;> rfl) rfl rfl rfl ?_; refine bk_nil ?_; refine wpO_cons ?_; refine op1_allocS rfl hS ?_; intro p1 H3 hS; refine wpO_cons ?_; (refine op1_storeNS rfl rfl (by (conv => lhs; whnf) <;> rfl) rfl rfl (S.up0 hS) (Nat.le_of_ble_eq_true rfl) ?_; intro H4 hS; replace hS := S.dn0 hS); refine zns ?_
  refine wp_cut [13] (fun vs H' => vs = [.bool (s.can d)] ∧ S B H' (pto p (.cells (pipeC s rb f vr (.slice aw s.writers.length cw)) 0 false) :: pto p1 (.cells [.int .i64 t, .slice ac d.length cc, .int .i64 0] 0 false) :: pto rb (.cells (u8s r) 1 false) :: sl 2 vr (s.readers.flatMap rdC) :: arr 3 wrA (.slice aw s.writers.length cw) s.writers :: sl 1 (.slice ac d.length cc) (u8s d) :: As)) ?_ ?_
  · refine wp_region ?_; refine zw1 ?_; refine wpO_cons ?_; refine op1_nilchk rfl rfl ?_; refine wpO_cons ?_; refine op1_faddr0 rfl rfl ?_; refine wpO_cons ?_; refine op1_faddr rfl rfl ?_; refine wpO_cons ?_; refine op1_load rfl rfl (by exact S.g1 hS) rfl ?_; refine wpO_cons ?_; refine op1_len rfl rfl ?_; refine wpO_cons ?_; refine op1_eqlI rfl rfl rfl ?_; refine zw1 ?_; refine wpO_cons ?_
    refine op1_dec rfl (fun hc => ?_) (fun hc => ?_)
    · refine op1_mov rfl (by (conv => lhs; whnf) <;> rfl) ?_; refine wpO_cons ?_; refine op1_load_3 rfl rfl (by exact S.g0 hS) rfl rfl ?_; refine wpO_cons ?_; refine op1_call2 rfl (by (conv => lhs; whnf) <;> rfl) (by (conv => lhs; whnf) <;> rfl) ?_
      refine wpF_mono (L40 (s := s) (S.up1 hS) hcap.2 hbl) ?_
      rintro _ H5 ⟨rfl, hS⟩
      refine wpO_cons ?_; refine op1_pick_t rfl rfl (by (conv => lhs; whnf) <;> rfl) ?_; refine zw1 ?_; refine wpO_nil ?_; refine cut1 (by (conv => lhs; whnf) <;> rfl) ?_
      exact ⟨by unfold PP.can; rw [decide_eq_true (by omega)]; rfl, hS⟩
    · refine op1_skip rfl ?_; refine wpO_cons ?_; refine op1_skip rfl ?_; refine wpO_cons ?_; refine op1_skip rfl ?_; refine wpO_cons ?_; refine op1_pick_f rfl rfl (by (conv => lhs; whnf) <;> rfl) ?_; refine zw1 ?_; refine wpO_nil ?_; refine cut1 (by (conv => lhs; whnf) <;> rfl) ?_
      exact ⟨by unfold PP.can; rw [decide_eq_false (by omega)]; rfl, S.up1 hS⟩
  clear hS
  rintro vs3 T3 H5 ⟨rfl, hS⟩
  have hcan : s.can d = true → s.writers.length = 0 := fun h => by
    unfold PP.can at h
    simp only [Bool.and_eq_true, decide_eq_true_eq] at h
    exact h.1
  generalize s.can d = can at *
  have hC5 := closeP hr (S.drop (S.up4 (S.drop (S.up1 hS))))
  refine wp_seq ?_; refine wp_block ?_
  refine wp_cut [63] (fun vs H' => vs = [.bool (decide (can = false ∧ w = false))] ∧ H5 = H') ?_ ?_
  · refine wp_region ?_; refine zw1 ?_; refine wpO_cons ?_; refine op1_not rfl rfl ?_; refine zw1 ?_; refine wpO_cons ?_; refine op1_split rfl (fun hc0 => ?_) (fun hc0 => ?_); (focus (refine op1_mov rfl (by (conv => lhs; whnf) <;> rfl) ?_; refine wpO_cons ?_; refine op1_not rfl rfl ?_; refine wpO_cons ?_; refine op1_pick_t rfl rfl (by (conv => lhs; whnf) <;> rfl) ?_; refine zw1 ?_; refine wpO_nil ?_; refine cut1 (by (conv => lhs; whnf) <;> rfl) ?_; (exact ⟨bool_leaf (by simp_all), rfl⟩))); (focus (refine op1_skip rfl ?_; refine wpO_cons ?_; refine op1_skip rfl ?_; refine wpO_cons ?_; refine op1_pick_f rfl rfl (by (conv => lhs; whnf) <;> rfl) ?_; refine zw1 ?_; refine wpO_nil ?_; refine cut1 (by (conv => lhs; whnf) <;> rfl) ?_; (exact ⟨bool_leaf (by simp_all), rfl⟩)))
  rintro vs4 T4 H6 ⟨rfl, rfl⟩
  refine wp_dec rfl (fun h7 => ?_) (fun h7 => ?_)
  · rw [if_pos h7]
    refine zsr ?_; (iterate 4 refine zw1 ?_); refine zns ?_; refine wp_ret ?_; refine block_ret ?_; refine seq_ret ?_; refine ret_of ?_; refine rk_tmp (by (conv => lhs; whnf) <;> rfl) ?_; refine rk_tmp (by (conv => lhs; whnf) <;> rfl) ?_; refine rk_tmp (by (conv => lhs; whnf) <;> rfl) ?_; refine rk_tmp (by (conv => lhs; whnf) <;> rfl) ?_; refine rk_nil ?_
    exact ⟨_, rfl, S.arrNil hC5⟩
  rw [if_neg h7]
  refine wp_cut [70] (fun vs H' => vs = [.bool (decide ((can = false ∨ (w = true ∧ s.cap - s.buf.length < d.length)) ∧ 64 ≤ s.writers.length))] ∧ H5 = H') ?_ ?_
  · refine wp_region ?_; refine zw1 ?_; refine wpO_cons ?_; refine op1_not rfl rfl ?_; refine zw1 ?_; refine wpO_cons ?_; refine op1_split rfl (fun hc0 => ?_) (fun hc0 => ?_); (focus (refine op1_skip rfl ?_; refine wpO_cons ?_; refine op1_skip rfl ?_; refine wpO_cons ?_; refine op1_skip rfl ?_; refine wpO_cons ?_; refine op1_skip rfl ?_; refine wpO_cons ?_; refine op1_skip rfl ?_; refine wpO_cons ?_; refine op1_skip rfl ?_; refine wpO_cons ?_; refine op1_skip rfl ?_; refine wpO_cons ?_; refine op1_skip rfl ?_; refine wpO_cons ?_; refine op1_skip rfl ?_; refine wpO_cons ?_; refine op1_skip rfl ?_; refine wpO_cons ?_; refine op1_pick_t rfl rfl (by (conv => lhs; whnf) <;> rfl) ?_; refine zw1 ?_; refine zw1 ?_; refine wpO_cons ?_; refine op1_nilchk rfl rfl ?_; refine wpO_cons ?_; refine op1_faddr0 rfl rfl ?_; refine wpO_cons ?_; refine op1_faddr rfl rfl ?_; refine wpO_cons ?_; refine op1_load rfl rfl (by exact S.g0 hS) rfl ?_; refine wpO_cons ?_; refine op1_len rfl rfl ?_; refine wpO_cons ?_; refine op1_geq rfl rfl rfl ?_; refine wpO_cons ?_; refine op1_pick_t rfl rfl (by (conv => lhs; whnf) <;> rfl) ?_; refine zw1 ?_; refine wpO_nil ?_; refine cut1 (by (conv => lhs; whnf) <;> rfl) ?_; (exact ⟨bool_leaf (by simp_all <;> omega), rfl⟩))); (focus (refine op1_mov rfl (by (conv => lhs; whnf) <;> rfl) ?_; refine zw1 ?_; refine wpO_cons ?_; refine op1_split rfl (fun hc1 => ?_) (fun hc1 => ?_); (focus (refine op1_mov rfl (by (conv => lhs; whnf) <;> rfl) ?_; refine wpO_cons ?_; refine op1_nilchk rfl rfl ?_; refine wpO_cons ?_; refine op1_faddr0 rfl rfl ?_; refine wpO_cons ?_; refine op1_call1 rfl (by (conv => lhs; whnf) <;> rfl) ?_; (refine wpF_mono (L41 (rest := [.int .i64 s.atomic, .int .i64 s.o0, .int .i64 s.o1, vr, .slice aw s.writers.length cw]) hS hcap.2 hbl) ?_; rintro _ _ ⟨rfl, rfl⟩); refine zw1 ?_; refine wpO_cons ?_; refine op1_len rfl rfl ?_; refine wpO_cons ?_; refine op1_lss rfl rfl rfl ?_; refine wpO_cons ?_; refine op1_pick_t rfl rfl (by (conv => lhs; whnf) <;> rfl) ?_; refine wpO_cons ?_; refine op1_pick_f rfl rfl (by (conv => lhs; whnf) <;> rfl) ?_; refine zw1 ?_; refine wpO_cons ?_; refine op1_split rfl (fun hc2 => ?_) (fun hc2 => ?_); (focus (refine op1_mov rfl (by (conv => lhs; whnf) <;> rfl) ?_; refine wpO_cons ?_; refine op1_nilchk rfl rfl ?_; refine wpO_cons ?_; refine op1_faddr0 rfl rfl ?_; refine wpO_cons ?_; refine op1_faddr rfl rfl ?_; refine wpO_cons ?_; refine op1_load rfl rfl (by exact S.g0 hS) rfl ?_; refine wpO_cons ?_; refine op1_len rfl rfl ?_; refine wpO_cons ?_; refine op1_geq rfl rfl rfl ?_; refine wpO_cons ?_; refine op1_pick_t rfl rfl (by (conv => lhs; whnf) <;> rfl) ?_; refine zw1 ?_; refine wpO_nil ?_; refine cut1 (by (conv => lhs; whnf) <;> rfl) ?_; (exact ⟨bool_leaf (by simp_all <;> omega), rfl⟩))); (focus (refine op1_skip rfl ?_; refine wpO_cons ?_; refine op1_skip rfl ?_; refine wpO_cons ?_; refine op1_skip rfl ?_; refine wpO_cons ?_; refine op1_skip rfl ?_; refine wpO_cons ?_; refine op1_skip rfl ?_; refine wpO_cons ?_; refine op1_skip rfl ?_; refine wpO_cons ?_; refine op1_skip rfl ?_; refine wpO_cons ?_; refine op1_pick_f rfl rfl (by (conv => lhs; whnf) <;> rfl) ?_; refine zw1 ?_; refine wpO_nil ?_; refine cut1 (by (conv => lhs; whnf) <;> rfl) ?_; (exact ⟨bool_leaf (by simp_all <;> omega), rfl⟩))))); (focus (refine op1_skip rfl ?_; refine wpO_cons ?_; refine op1_skip rfl ?_; refine wpO_cons ?_; refine op1_skip rfl ?_; refine wpO_cons ?_; refine op1_skip rfl ?_; refine wpO_cons ?_; refine op1_skip rfl ?_; refine wpO_cons ?_; refine op1_skip rfl ?_; refine wpO_cons ?_; refine op1_skip rfl ?_; refine wpO_cons ?_; refine op1_pick_f rfl rfl (by (conv => lhs; whnf) <;> rfl) ?_; refine wpO_cons ?_; refine op1_pick_f rfl rfl (by (conv => lhs; whnf) <;> rfl) ?_; refine zw1 ?_; refine wpO_cons ?_; refine op1_skip rfl ?_; refine wpO_cons ?_; refine op1_skip rfl ?_; refine wpO_cons ?_; refine op1_skip rfl ?_; refine wpO_cons ?_; refine op1_skip rfl ?_; refine wpO_cons ?_; refine op1_skip rfl ?_; refine wpO_cons ?_; refine op1_skip rfl ?_; refine wpO_cons ?_; refine op1_skip rfl ?_; refine wpO_cons ?_; refine op1_pick_f rfl rfl (by (conv => lhs; whnf) <;> rfl) ?_; refine zw1 ?_; refine wpO_nil ?_; refine cut1 (by (conv => lhs; whnf) <;> rfl) ?_; (exact ⟨bool_leaf (by simp_all <;> omega), rfl⟩)))))
  rintro vs4 T4 H6 ⟨rfl, rfl⟩
  refine wp_dec rfl (fun h8 => ?_) (fun h8 => ?_)
  · rw [if_pos h8]
    refine zsr ?_; (iterate 4 refine zw1 ?_); refine zns ?_; refine wp_ret ?_; refine block_ret ?_; refine seq_ret ?_; refine ret_of ?_; refine rk_tmp (by (conv => lhs; whnf) <;> rfl) ?_; refine rk_tmp (by (conv => lhs; whnf) <;> rfl) ?_; refine rk_tmp (by (conv => lhs; whnf) <;> rfl) ?_; refine rk_tmp (by (conv => lhs; whnf) <;> rfl) ?_; refine rk_nil ?_
    exact ⟨_, rfl, S.arrNil hC5⟩
  rw [if_neg h8]
  refine zsr ?_; refine zw1 ?_; refine wpO_cons ?_; refine op1_not rfl rfl ?_; refine zw1 ?_; refine zns ?_
  refine wp_cond rfl (fun h9 => ?_) (fun h9 => ?_)
  · have h9 : can = false := by simpa using h9
    rw [if_pos h9]
    refine wp_seq ?_; refine wp_regionD ?_; refine zd1 ?_; refine wpD_cons ?_; refine op1_nilchk rfl rfl ?_; refine wpD_cons ?_; refine op1_faddr0 rfl rfl ?_; refine wpD_cons ?_; refine op1_load_3 rfl rfl (by exact S.g1 hS) rfl rfl ?_; refine wpD_cons ?_; refine op1_call2 rfl (by (conv => lhs; whnf) <;> rfl) (by (conv => lhs; whnf) <;> rfl) ?_
    refine wpF_mono (L42q (dn := 0) hr hS (by omega)) ?_
    rintro v6 H6 hS
    refine wpD_nil ?_; refine dk_of ?_ ?_; (iterate 3 refine chk_skip ?_); refine chk_cons 2 rfl rfl rfl ?_ ?_; refine chkFs_cons 1 rfl rfl ?_ ?_; exact chk_loadN rfl (by exact S.g1 (by assumption)) rfl rfl rfl; exact chkFs_nil; refine chk_skip ?_; exact chk_end; refine seq_normal ?_; refine zsr ?_; (iterate 4 refine zw1 ?_); refine zns ?_; refine wp_ret ?_; refine block_ret ?_; refine seq_ret ?_; refine ret_of ?_; refine rk_tmp (by (conv => lhs; whnf) <;> rfl) ?_; refine rk_tmp (by (conv => lhs; whnf) <;> rfl) ?_; refine rk_tmp (by (conv => lhs; whnf) <;> rfl) ?_; refine rk_tmp (by (conv => lhs; whnf) <;> rfl) ?_; refine rk_nil ?_
    exact ⟨_, rfl, S.arrNil hS⟩
  have h9 : can = true := by simpa using h9
  have hw0 := hcan h9
  rw [if_neg (by rw [h9]; simp)]
  refine wp_skip ?_; refine block_normal ?_; refine seq_normal ?_; refine zsr ?_; refine zw1 ?_; refine wpO_cons ?_; refine op1_nilchk rfl rfl ?_; refine wpO_cons ?_; refine op1_faddr0 rfl rfl ?_; refine zw1 ?_; refine wpO_cons ?_; refine op1_call2 rfl (by (conv => lhs; whnf) <;> rfl) (by (conv => lhs; whnf) <;> rfl) ?_
  refine wpF_mono (L43 (c := s.cap) (f := f) (n := s.buf.length) (d := d) (rest := [.int .i64 s.atomic, .int .i64 s.o0, .int .i64 s.o1, vr, .slice aw s.writers.length cw]) (As := pto p1 (.cells [.int .i64 t, .slice ac d.length cc, .int .i64 0] 0 false) :: sl 2 vr (s.readers.flatMap rdC) :: arr 3 wrA (.slice aw s.writers.length cw) s.writers :: sl 1 (.slice ac d.length cc) (u8s d) :: As) (S.dn2 (S.up1 hS)) (RD.cons (RD.cons (RD.cons (RD.cons hd)))) hr.len hcap hr.lt hbl (by omega)) ?_
  rintro _ H6 ⟨rfl, r', hr1, hr2, hS⟩
  have hbl2 : (s.put d).buf.length = s.buf.length + min d.length (s.cap - s.buf.length) := by
    show (s.buf ++ d.take _).length = _
    simp only [List.length_append, List.length_take]
    omega
  rw [← hbl2, ← hr.buf] at hr2
  rw [← hbl2] at hS
  have hro : RingOk (s.put d) r' f := ⟨hr1, hr.lt, hr2.symm, (okPut hok d).buf⟩
  obtain ⟨m, hm⟩ : ∃ m, min d.length (s.cap - s.buf.length) = m := ⟨_, rfl⟩
  rw [hm] at *
  refine wpO_cons ?_; refine op1_faddr0 rfl rfl ?_; refine wpO_cons ?_; (refine op1_store1S rfl rfl (by (conv => lhs; whnf) <;> rfl) rfl rfl (S.up2 hS) rfl ?_; intro H7 hS; replace hS := S.dn2 hS); refine zns ?_; refine wp_seq ?_; refine zsr ?_; refine wpO_cons ?_; refine op1_faddr0 rfl rfl ?_; refine wpO_cons ?_; refine op1_load rfl rfl (by exact S.g2 hS) rfl ?_; refine zw1 ?_; refine wpO_cons ?_; refine op1_len rfl rfl ?_; refine wpO_cons ?_; refine op1_lss rfl rfl rfl ?_; refine zw1 ?_; refine wpO_cons ?_
  refine op1_dec rfl (fun h10 => ?_) (fun h10 => ?_)
  · refine op1_mov rfl (by (conv => lhs; whnf) <;> rfl) ?_; refine wpO_cons ?_; refine op1_pick_t rfl rfl (by (conv => lhs; whnf) <;> rfl) ?_; refine zns ?_
    cases w
    · rw [if_neg (by simp)]
      refine wp_false rfl ?_; refine wp_skip ?_; refine seq_normal ?_; refine wp_seq ?_; refine wp_regionD ?_; refine wpD_cons ?_; refine op1_faddr0 rfl rfl ?_; refine wpD_cons ?_; refine op1_load rfl rfl (by exact S.g2 hS) rfl ?_; refine zd1 ?_; refine wpD_cons ?_; refine op1_call1 rfl (by (conv => lhs; whnf) <;> rfl) ?_
      have h7 := closeP hro (S.dn4 (S.up2 hS))
      refine wpF_mono (L44 h7 (okPut hok d)) ?_
      rintro ve H8 hS
      (iterate 4 refine zd1 ?_); refine wpD_nil ?_; refine dk_of ?_ ?_; refine chk_skip ?_; refine chk_cons 7 rfl rfl rfl ?_ ?_; refine chkFs_cons 5 rfl rfl ?_ ?_; exact chk_load rfl (by exact S.g1 h7) rfl rfl; refine chkFs_cons 0 rfl rfl ?_ ?_; exact chk_load rfl (by exact S.g2 hS) rfl rfl; exact chkFs_nil; (iterate 6 refine chk_skip ?_); exact chk_end; refine seq_normal ?_; refine wp_ret ?_; refine ret_of ?_; refine rk_tmp (by (conv => lhs; whnf) <;> rfl) ?_; refine rk_tmp (by (conv => lhs; whnf) <;> rfl) ?_; refine rk_tmp (by (conv => lhs; whnf) <;> rfl) ?_; refine rk_tmp (by (conv => lhs; whnf) <;> rfl) ?_; refine rk_nil ?_
      exact ⟨_, rfl, S.dn1 (S.drop (S.up2 (S.dn1 (S.drop (S.up2 hS)))))⟩
    · rw [if_pos ⟨by omega, rfl⟩]
      refine wp_true rfl ?_; refine wp_seq ?_; refine wp_regionD ?_; refine zd1 ?_; refine wpD_cons ?_; refine op1_nilchk rfl rfl ?_; refine wpD_cons ?_; refine op1_faddr0 rfl rfl ?_; refine wpD_cons ?_; refine op1_load_3 rfl rfl (by exact S.g2 hS) rfl rfl ?_; refine wpD_cons ?_; refine op1_call2 rfl (by (conv => lhs; whnf) <;> rfl) (by (conv => lhs; whnf) <;> rfl) ?_
      refine wpF_mono (L42q (s := s.put d) (dn := m) hro (S.up1 (S.up2 hS)) (by show s.writers.length ≤ 1000; omega)) ?_
      rintro v7 H8 hS
      refine wpD_nil ?_; refine dk_of ?_ ?_; (iterate 3 refine chk_skip ?_); refine chk_cons 2 rfl rfl rfl ?_ ?_; refine chkFs_cons 1 rfl rfl ?_ ?_; exact chk_loadN rfl (by exact S.g2 (by assumption)) rfl rfl rfl; exact chkFs_nil; refine chk_skip ?_; exact chk_end; refine seq_normal ?_; refine zsr ?_; refine zw1 ?_; refine wpO_cons ?_; refine op1_call1 rfl (by (conv => lhs; whnf) <;> rfl) ?_
      refine wpF_mono (L44 hS (okQueue (okPut hok d) (by show s.writers.length < 64; omega) ⟨by show m < d.length; omega, by show d.length ≤ 4096; omega⟩)) ?_
      rintro ve H9 hS
      (iterate 4 refine zw1 ?_); refine zns ?_; refine wp_ret ?_; refine seq_ret ?_; refine ret_of ?_; refine rk_tmp (by (conv => lhs; whnf) <;> rfl) ?_; refine rk_tmp (by (conv => lhs; whnf) <;> rfl) ?_; refine rk_tmp (by (conv => lhs; whnf) <;> rfl) ?_; refine rk_tmp (by (conv => lhs; whnf) <;> rfl) ?_; refine rk_nil ?_
      exact ⟨_, rfl, hS⟩
  · rw [if_neg (fun h => h10 (by omega))]
    refine op1_skip rfl ?_; refine wpO_cons ?_; refine op1_pick_f rfl rfl (by (conv => lhs; whnf) <;> rfl) ?_; refine zns ?_; refine wp_false rfl ?_; refine wp_skip ?_; refine seq_normal ?_; refine wp_seq ?_; refine wp_regionD ?_; refine wpD_cons ?_; refine op1_faddr0 rfl rfl ?_; refine wpD_cons ?_; refine op1_load rfl rfl (by exact S.g2 hS) rfl ?_; refine zd1 ?_; refine wpD_cons ?_; refine op1_call1 rfl (by (conv => lhs; whnf) <;> rfl) ?_
    have h7 := closeP hro (S.dn4 (S.up2 hS))
    refine wpF_mono (L44 h7 (okPut hok d)) ?_
    rintro ve H8 hS
    (iterate 4 refine zd1 ?_); refine wpD_nil ?_; refine dk_of ?_ ?_; refine chk_skip ?_; refine chk_cons 7 rfl rfl rfl ?_ ?_; refine chkFs_cons 5 rfl rfl ?_ ?_; exact chk_load rfl (by exact S.g1 h7) rfl rfl; refine chkFs_cons 0 rfl rfl ?_ ?_; exact chk_load rfl (by exact S.g2 hS) rfl rfl; exact chkFs_nil; (iterate 6 refine chk_skip ?_); exact chk_end; refine seq_normal ?_; refine wp_ret ?_; refine ret_of ?_; refine rk_tmp (by (conv => lhs; whnf) <;> rfl) ?_; refine rk_tmp (by (conv => lhs; whnf) <;> rfl) ?_; refine rk_tmp (by (conv => lhs; whnf) <;> rfl) ?_; refine rk_tmp (by (conv => lhs; whnf) <;> rfl) ?_; refine rk_nil ?_
    exact ⟨_, rfl, S.dn1 (S.drop (S.up2 (S.dn1 (S.drop (S.up2 hS)))))⟩
end Go.E.Pi
