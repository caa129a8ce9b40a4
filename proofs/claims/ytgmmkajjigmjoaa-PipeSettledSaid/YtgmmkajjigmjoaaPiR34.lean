/- The reference's pipe: it goes on. -/
import Derived.Test.YtgmmkajjigmjoaaPiR12
namespace Go.E.Pi
open Go Go.E Go.Proofs.Ytgmmkajjigmjoaa Go.Proofs
set_option linter.unusedVariables false
set_option linter.unusedSimpArgs false
set_option maxRecDepth 100000
theorem fitW_le (s : PP) (w : Wr) (hb : s.buf.length ≤ s.cap) : fitW s w ≤ w.data.length - w.done ∧ s.buf.length + fitW s w ≤ s.cap := by
  unfold fitW fitN
  split
  · omega
  · split <;> omega
theorem stepWr_mu {s s' : PP} {e : Option EndM} (hok : Ok s) (h : stepWr s = some (e, s')) : mu s' < mu s := by
  unfold stepWr at h
  split at h
  · cases h
  · rename_i w ws hw
    have hw1 := hok.ws w (by rw [hw]; simp)
    have hf := fitW_le s w hok.buf
    unfold mu wsum
    split at h
    · cases h
      rw [hw]
      simp only [List.map_cons, List.sum_cons]
      omega
    · split at h
      · cases h
      split at h
      · cases h
        rw [hw]
        simp only [List.map_cons, List.sum_cons]
        omega
      · cases h
        rw [hw]
        simp only [List.map_cons, List.sum_cons]
        omega
theorem stepWr_ok {s s' : PP} {e : Option EndM} (h : stepWr s = some (e, s')) (hok : Ok s) : Ok s' := by
  unfold stepWr at h
  split at h
  · cases h
  · rename_i w ws hw
    have hw1 := hok.ws w (by rw [hw]; simp)
    have hwl := hok.wl
    rw [hw] at hwl
    simp only [List.length_cons] at hwl
    have hb := hok.buf
    have hf := fitW_le s w hok.buf
    split at h
    · cases h
      exact ⟨hok.cap, hok.atm, hok.o0, hok.o1, hok.rl, by simp only; omega, hok.rs, fun r hm => hok.ws r (by rw [hw]; simp [hm]), hb⟩
    · split at h
      · cases h
      have hpl : ((w.data.drop w.done).take (fitW s w)).length = fitW s w := by
        simp only [List.length_take, List.length_drop]; omega
      have hbl : (s.buf ++ (w.data.drop w.done).take (fitW s w)).length ≤ s.cap := by
        rw [List.length_append, hpl]; omega
      split at h
      · cases h
        exact ⟨hok.cap, hok.atm, hok.o0, hok.o1, hok.rl, by simp only; omega, hok.rs, fun r hm => hok.ws r (by rw [hw]; simp [hm]), hbl⟩
      · rename_i hne
        cases h
        refine ⟨hok.cap, hok.atm, hok.o0, hok.o1, hok.rl, by simp only [List.length_cons]; omega, hok.rs, fun r hm => ?_, hbl⟩
        simp only [List.mem_cons] at hm
        rcases hm with rfl | hm
        · refine ⟨?_, hw1.2⟩
          show w.done + fitW s w < w.data.length
          omega
        · exact hok.ws r (by rw [hw]; simp [hm])

structure Go1 (s : PP) (acc : List EndM) (r : List EndM × Bool × PP) : Prop where
  ok : Ok r.2.2
  le : r.1.length + mu r.2.2 ≤ acc.length + mu s
  mule : mu r.2.2 ≤ mu s
  lt : r.2.1 = true → mu r.2.2 < mu s
  no : r.2.1 = false → r.1 = acc ∧ r.2.2 = s
theorem resOf_go {s : PP} {acc : List EndM} {o : Option (Option EndM × PP)} (hok : Ok s) (h : ∀ e s', o = some (e, s') → Ok s' ∧ mu s' < mu s) : Go1 s acc (resOf o s acc) := by
  match o, h with
  | none, _ => exact ⟨hok, Nat.le_refl _, Nat.le_refl _, fun h => (by cases h), fun _ => ⟨rfl, rfl⟩⟩
  | some (e, s'), h =>
    obtain ⟨h1, h2⟩ := h e s' rfl
    refine ⟨h1, ?_, Nat.le_of_lt h2, fun _ => h2, fun h => (by cases h)⟩
    show (acc ++ e.toList).length + mu s' ≤ _
    cases e <;> simp <;> omega
theorem goW {s : PP} (acc : List EndM) (hok : Ok s) : Go1 s acc (resOf (stepWr s) s acc) := resOf_go hok fun e s' h => ⟨stepWr_ok h hok, stepWr_mu hok h⟩
theorem goR {s : PP} (acc : List EndM) (hok : Ok s) : Go1 s acc (resOf (stepR s) s acc) := resOf_go hok fun e s' h => ⟨stepR_ok h hok, (stepR_mu h).1⟩

/-- one turn: a write, then a read -/
def turn (s : PP) (acc : List EndM) : List EndM × Bool × PP :=
  ((resOf (stepR (resOf (stepWr s) s acc).2.2) (resOf (stepWr s) s acc).2.2 (resOf (stepWr s) s acc).1).1,
   (resOf (stepWr s) s acc).2.1 || (resOf (stepR (resOf (stepWr s) s acc).2.2) (resOf (stepWr s) s acc).2.2 (resOf (stepWr s) s acc).1).2.1,
   (resOf (stepR (resOf (stepWr s) s acc).2.2) (resOf (stepWr s) s acc).2.2 (resOf (stepWr s) s acc).1).2.2)
theorem goT {s : PP} (acc : List EndM) (hok : Ok s) : Go1 s acc (turn s acc) := by
  have h1 := goW acc hok
  have h2 := goR (resOf (stepWr s) s acc).1 h1.ok
  unfold turn
  generalize resOf (stepWr s) s acc = a at *
  generalize resOf (stepR a.2.2) a.2.2 a.1 = b at *
  have := h1.le
  have := h2.le
  have := h1.mule
  have := h2.mule
  refine ⟨h2.ok, by simp only; omega, by simp only; omega, fun h => ?_, fun h => ?_⟩
  · simp only [Bool.or_eq_true] at h
    rcases h with h | h
    · have := h1.lt h
      simp only; omega
    · have := h2.lt h
      simp only; omega
  · simp only [Bool.or_eq_false_iff] at h
    obtain ⟨e1, e2⟩ := h1.no h.1
    obtain ⟨e3, e4⟩ := h2.no h.2
    exact ⟨by rw [← e1]; exact e3, by rw [← e2]; exact e4⟩
def progQN : Nat → PP → List EndM → List EndM × PP
  | 0, s, acc => (acc, s)
  | n + 1, s, acc => if (turn s acc).2.1 = true then progQN n (turn s acc).2.2 (turn s acc).1 else (acc, s)
def progQ (s : PP) : List EndM × PP := progQN (mu s + 1) s []
theorem progQN_more : ∀ {n m : Nat} {s : PP} {acc : List EndM}, Ok s → mu s < n → mu s < m → progQN n s acc = progQN m s acc
  | 0, _, _, _, _, h, _ => by omega
  | _, 0, _, _, _, _, h => by omega
  | n + 1, m + 1, s, acc, hok, h1, h2 => by
    have g := goT acc hok
    unfold progQN
    by_cases ht : (turn s acc).2.1 = true
    · rw [if_pos ht, if_pos ht]
      have := g.lt ht
      exact progQN_more g.ok (by omega) (by omega)
    · rw [if_neg ht, if_neg ht]
theorem L69 {B H : AHeap} {As : List Asn} {q : Nat} {s : PP} (hS : S B H (repQ q s :: As)) (hok : Ok s) :
    wpF C 69 [.pointer (some ⟨q, 0, none⟩)] H fun v H' => S B H' (arr 4 endA v (progQ s).1 :: repQ q (progQ s).2 :: As) := by
  have hmu := mu_le hok
  generalize hP : progQ s = P at *
  refine wpF_ofW o69 rfl rfl ?_
  refine zsr ?_; refine zw1 ?_; refine zns ?_; refine zsr ?_; refine zw1 ?_; refine zns ?_; refine wp_block ?_
  refine wp_loop [3] (fun k vs H' => ∃ (si : PP) (acc : List EndM) (vo : Value), vs = [vo] ∧ mu si = k ∧ progQN (mu si + 1) si acc = P ∧ Ok si ∧ acc.length + mu si ≤ 300000 ∧ S B H' (arr 4 endA vo acc :: repQ q si :: As))
    ⟨mu s, s, [], .slice none 0 0, rfl, rfl, hP, hok, by simpa using hmu, S.arrNil hS⟩ ?_
  clear hS hok hmu hP s
  rintro k vs T' H1 ⟨s, acc, vo, rfl, hk, hP, hok, hacc, hS⟩
  have h1 := goW acc hok
  have h2 := goR (resOf (stepWr s) s acc).1 h1.ok
  have hT := goT acc hok
  have hT1 : (turn s acc).2.1 = ((resOf (stepWr s) s acc).2.1 || (resOf (stepR (resOf (stepWr s) s acc).2.2) (resOf (stepWr s) s acc).2.2 (resOf (stepWr s) s acc).1).2.1) := rfl
  have hT2 : (turn s acc).1 = (resOf (stepR (resOf (stepWr s) s acc).2.2) (resOf (stepWr s) s acc).2.2 (resOf (stepWr s) s acc).1).1 := rfl
  have hT3 : (turn s acc).2.2 = (resOf (stepR (resOf (stepWr s) s acc).2.2) (resOf (stepWr s) s acc).2.2 (resOf (stepWr s) s acc).1).2.2 := rfl
  have hle1 := h1.le
  refine wp_block ?_; refine zsr ?_; refine zw1 ?_; refine zw1 ?_; refine zns ?_; refine zsr ?_; refine zw1 ?_; refine zw1 ?_; refine wpO_cons ?_; refine op1_call2 rfl (by (conv => lhs; whnf) <;> rfl) (by (conv => lhs; whnf) <;> rfl) ?_
  refine wpF_mono (L86 hS hok (by omega)) ?_
  rintro _ H2 ⟨vo1, rfl, hS⟩
  refine zw1 ?_; refine wpO_cons ?_; refine op1_extract rfl rfl rfl ?_; refine wpO_cons ?_; refine op1_extract rfl rfl rfl ?_; refine zw1 ?_; refine zw1 ?_; refine zns ?_; refine zsr ?_; refine zw1 ?_; refine zw1 ?_; refine wpO_cons ?_; refine op1_call2 rfl (by (conv => lhs; whnf) <;> rfl) (by (conv => lhs; whnf) <;> rfl) ?_
  refine wpF_mono (L87 hS h1.ok (by omega)) ?_
  rintro _ H3 ⟨vo2, rfl, hS⟩
  rw [← hT2, ← hT3] at hS
  generalize (resOf (stepR (resOf (stepWr s) s acc).2.2) (resOf (stepWr s) s acc).2.2 (resOf (stepWr s) s acc).1).2.1 = b2 at *
  generalize (resOf (stepWr s) s acc).2.1 = b1 at *
  have hle := hT.le
  by_cases hb : (turn s acc).2.1 = true
  · have hlt := hT.lt hb
    rw [progQN, if_pos hb] at hP
    rw [progQN_more (m := mu (turn s acc).2.2 + 1) hT.ok hlt (by omega)] at hP
    cases b1
    · cases b2
      · rw [hT1] at hb; cases hb
      refine zw1 ?_; refine wpO_cons ?_; refine op1_extract rfl rfl rfl ?_; refine wpO_cons ?_; refine op1_extract rfl rfl rfl ?_; refine zw1 ?_; refine zw1 ?_; refine zns ?_; refine zsr ?_; refine zw1 ?_; refine wpO_cons ?_; refine op1_not_f rfl rfl ?_; refine zw1 ?_; refine zw1 ?_; refine wpO_cons ?_; refine op1_not_t rfl rfl ?_; refine wpO_cons ?_; refine op1_pick_t rfl rfl (by (conv => lhs; whnf) <;> rfl) ?_; refine zns ?_; refine wp_false rfl ?_; refine wp_skip ?_; refine block_normal ?_
      exact ⟨_, by rw [← hk]; exact hlt, _, _, _, rfl, rfl, hP, hT.ok, by omega, hS⟩
    · refine zw1 ?_; refine wpO_cons ?_; refine op1_extract rfl rfl rfl ?_; refine wpO_cons ?_; refine op1_extract rfl rfl rfl ?_; refine zw1 ?_; refine zw1 ?_; refine zns ?_; refine zsr ?_; refine zw1 ?_; refine wpO_cons ?_; refine op1_not_t rfl rfl ?_; refine zw1 ?_; refine wpO_cons ?_; refine op1_skip rfl ?_; refine wpO_cons ?_; refine op1_skip rfl ?_; refine wpO_cons ?_; refine op1_pick_f rfl rfl (by (conv => lhs; whnf) <;> rfl) ?_; refine zns ?_; refine wp_false rfl ?_; refine wp_skip ?_; refine block_normal ?_
      exact ⟨_, by rw [← hk]; exact hlt, _, _, _, rfl, rfl, hP, hT.ok, by omega, hS⟩
  · rw [progQN, if_neg hb] at hP
    have hb0 : (turn s acc).2.1 = false := by simpa using hb
    obtain ⟨e1, e2⟩ := hT.no hb0
    rw [e1, e2] at hS
    rw [hT1] at hb0
    subst hP
    cases b1
    · cases b2
      · refine zw1 ?_; refine wpO_cons ?_; refine op1_extract rfl rfl rfl ?_; refine wpO_cons ?_; refine op1_extract rfl rfl rfl ?_; refine zw1 ?_; refine zw1 ?_; refine zns ?_; refine zsr ?_; refine zw1 ?_; refine wpO_cons ?_; refine op1_not_f rfl rfl ?_; refine zw1 ?_; refine zw1 ?_; refine wpO_cons ?_; refine op1_not_f rfl rfl ?_; refine wpO_cons ?_; refine op1_pick_t rfl rfl (by (conv => lhs; whnf) <;> rfl) ?_; refine zns ?_; refine wp_true rfl ?_; refine zsr ?_; refine zw1 ?_; refine zw1 ?_; refine zns ?_; refine wp_ret ?_; refine block_ret ?_; refine iter_ret ?_; refine block_ret ?_; refine ret_of ?_; refine rk_tmp (by (conv => lhs; whnf) <;> rfl) ?_; refine rk_nil ?_
        exact hS
      · cases hb0
    · cases hb0

def PP.closeRQ (s : PP) : List EndM × Int × PP := if s.o0 = 0 then ([], 35, s) else if s.o0 = 1 ∧ 0 < s.readers.length then ([], 5, s) else ((progQ { s with o0 := s.o0 - 1 }).1, 0, (progQ { s with o0 := s.o0 - 1 }).2)
def PP.closeWQ (s : PP) : List EndM × Int × PP := if s.o1 = 0 then ([], 35, s) else if s.o1 = 1 ∧ 0 < s.writers.length then ([], 5, s) else ((progQ { s with o1 := s.o1 - 1 }).1, 0, (progQ { s with o1 := s.o1 - 1 }).2)
theorem L55 {B H : AHeap} {As : List Asn} {q : Nat} {s : PP} (hS : S B H (repQ q s :: As)) (hok : Ok s) : wpF C 55 [.pointer (some ⟨q, 0, none⟩)] H fun v H' => ∃ ve, v = .tuple ⟨[ve, .int .i64 s.closeRQ.2.1]⟩ ∧ S B H' (arr 4 endA ve s.closeRQ.1 :: repQ q s.closeRQ.2.2 :: As) := by
  have hC := hS
  have h0 := hok.o0
  have h1 := hok.o1
  obtain ⟨ab, cb, ar, cr, aw, cw, h2, h3, h4, hS⟩ := openQ hS
  refine wpF_ofW o55 rfl rfl ?_
  unfold PP.closeRQ
  refine zsr ?_; refine zw1 ?_; refine zw1 ?_; refine zns ?_; refine wp_seq ?_; refine zsr ?_; refine zw1 ?_; refine wpO_cons ?_; refine op1_nilchk rfl rfl ?_; refine wpO_cons ?_; refine op1_faddr0 rfl rfl ?_; refine wpO_cons ?_; refine op1_load rfl rfl (by exact S.g0 hS) rfl ?_; refine wpO_cons ?_; refine op1_eqlI rfl rfl rfl ?_; refine zns ?_
  refine wp_dec rfl (fun hc => ?_) (fun hc => ?_)
  · rw [if_pos hc]
    refine zsr ?_; refine zw1 ?_; refine zw1 ?_; refine zns ?_; refine wp_ret ?_; refine seq_ret ?_; refine ret_of ?_; refine rk_tmp (by (conv => lhs; whnf) <;> rfl) ?_; refine rk_tmp (by (conv => lhs; whnf) <;> rfl) ?_; refine rk_nil ?_
    exact ⟨_, rfl, S.arrNil hC⟩
  rw [if_neg hc]
  refine wp_skip ?_; refine seq_normal ?_; refine wp_seq ?_
  refine wp_cut [21] (fun vs H' => vs = [.bool (decide (s.o0 = 1 ∧ 0 < s.readers.length))] ∧ H = H') ?_ ?_
  · refine wp_region ?_; refine zw1 ?_; refine wpO_cons ?_; refine op1_nilchk rfl rfl ?_; refine wpO_cons ?_; refine op1_faddr0 rfl rfl ?_; refine wpO_cons ?_; refine op1_load rfl rfl (by exact S.g0 hS) rfl ?_; refine wpO_cons ?_; refine op1_eqlI rfl rfl rfl ?_; refine zw1 ?_; refine wpO_cons ?_; refine op1_split rfl (fun hc0 => ?_) (fun hc0 => ?_); (focus (refine op1_mov rfl (by (conv => lhs; whnf) <;> rfl) ?_; refine wpO_cons ?_; refine op1_nilchk rfl rfl ?_; refine wpO_cons ?_; refine op1_faddr0 rfl rfl ?_; refine wpO_cons ?_; refine op1_load rfl rfl (by exact S.g0 hS) rfl ?_; refine wpO_cons ?_; refine op1_len rfl rfl ?_; refine wpO_cons ?_; refine op1_gtr rfl rfl rfl ?_; refine wpO_cons ?_; refine op1_pick_t rfl rfl (by (conv => lhs; whnf) <;> rfl) ?_; refine wpO_nil ?_; refine cut1 (by (conv => lhs; whnf) <;> rfl) ?_; (exact ⟨bool_leaf (by simp_all <;> omega), rfl⟩))); (focus (refine op1_skip rfl ?_; refine wpO_cons ?_; refine op1_skip rfl ?_; refine wpO_cons ?_; refine op1_skip rfl ?_; refine wpO_cons ?_; refine op1_skip rfl ?_; refine wpO_cons ?_; refine op1_skip rfl ?_; refine wpO_cons ?_; refine op1_skip rfl ?_; refine wpO_cons ?_; refine op1_pick_f rfl rfl (by (conv => lhs; whnf) <;> rfl) ?_; refine wpO_nil ?_; refine cut1 (by (conv => lhs; whnf) <;> rfl) ?_; (exact ⟨bool_leaf (by simp_all <;> omega), rfl⟩)))
  rintro vs2 T2 H2 ⟨rfl, rfl⟩
  refine wp_dec rfl (fun hc2 => ?_) (fun hc2 => ?_)
  · rw [if_pos hc2]
    refine zsr ?_; refine zw1 ?_; refine zw1 ?_; refine zns ?_; refine wp_ret ?_; refine seq_ret ?_; refine ret_of ?_; refine rk_tmp (by (conv => lhs; whnf) <;> rfl) ?_; refine rk_tmp (by (conv => lhs; whnf) <;> rfl) ?_; refine rk_nil ?_
    exact ⟨_, rfl, S.arrNil hC⟩
  rw [if_neg hc2]
  refine wp_skip ?_; refine seq_normal ?_; refine zsr ?_; refine zw1 ?_; refine wpO_cons ?_; refine op1_nilchk rfl rfl ?_; refine wpO_cons ?_; refine op1_faddr0 rfl rfl ?_; refine wpO_cons ?_; refine op1_load rfl rfl (by exact S.g0 hS) rfl ?_; refine wpO_cons ?_; refine op1_sub rfl rfl rfl (by exact wrap_i64 (by omega) (by omega)) ?_; refine wpO_cons ?_; refine op1_nilchk rfl rfl ?_; refine wpO_cons ?_; refine op1_faddr0 rfl rfl ?_; refine wpO_cons ?_; (refine op1_store1S rfl rfl (by (conv => lhs; whnf) <;> rfl) rfl rfl (S.up0 hS) rfl ?_; intro H1 hS; replace hS := S.dn0 hS); refine zns ?_; refine zsr ?_; refine zw1 ?_; refine wpO_cons ?_; refine op1_call1 rfl (by (conv => lhs; whnf) <;> rfl) ?_
  refine wpF_mono (L69 (closeQ (s := { s with o0 := s.o0 - 1 }) hS) (okCR hok hc)) ?_
  rintro ve H3 hS
  refine zw1 ?_; refine zw1 ?_; refine zns ?_; refine wp_ret ?_; refine ret_of ?_; refine rk_tmp (by (conv => lhs; whnf) <;> rfl) ?_; refine rk_tmp (by (conv => lhs; whnf) <;> rfl) ?_; refine rk_nil ?_
  exact ⟨_, rfl, hS⟩
theorem L57 {B H : AHeap} {As : List Asn} {q : Nat} {s : PP} (hS : S B H (repQ q s :: As)) (hok : Ok s) : wpF C 57 [.pointer (some ⟨q, 0, none⟩)] H fun v H' => ∃ ve, v = .tuple ⟨[ve, .int .i64 s.closeWQ.2.1]⟩ ∧ S B H' (arr 4 endA ve s.closeWQ.1 :: repQ q s.closeWQ.2.2 :: As) := by
  have hC := hS
  have h0 := hok.o0
  have h1 := hok.o1
  obtain ⟨ab, cb, ar, cr, aw, cw, h2, h3, h4, hS⟩ := openQ hS
  refine wpF_ofW o57 rfl rfl ?_
  unfold PP.closeWQ
  refine zsr ?_; refine zw1 ?_; refine zw1 ?_; refine zns ?_; refine wp_seq ?_; refine zsr ?_; refine zw1 ?_; refine wpO_cons ?_; refine op1_nilchk rfl rfl ?_; refine wpO_cons ?_; refine op1_faddr0 rfl rfl ?_; refine wpO_cons ?_; refine op1_load rfl rfl (by exact S.g0 hS) rfl ?_; refine wpO_cons ?_; refine op1_eqlI rfl rfl rfl ?_; refine zns ?_
  refine wp_dec rfl (fun hc => ?_) (fun hc => ?_)
  · rw [if_pos hc]
    refine zsr ?_; refine zw1 ?_; refine zw1 ?_; refine zns ?_; refine wp_ret ?_; refine seq_ret ?_; refine ret_of ?_; refine rk_tmp (by (conv => lhs; whnf) <;> rfl) ?_; refine rk_tmp (by (conv => lhs; whnf) <;> rfl) ?_; refine rk_nil ?_
    exact ⟨_, rfl, S.arrNil hC⟩
  rw [if_neg hc]
  refine wp_skip ?_; refine seq_normal ?_; refine wp_seq ?_
  refine wp_cut [21] (fun vs H' => vs = [.bool (decide (s.o1 = 1 ∧ 0 < s.writers.length))] ∧ H = H') ?_ ?_
  · refine wp_region ?_; refine zw1 ?_; refine wpO_cons ?_; refine op1_nilchk rfl rfl ?_; refine wpO_cons ?_; refine op1_faddr0 rfl rfl ?_; refine wpO_cons ?_; refine op1_load rfl rfl (by exact S.g0 hS) rfl ?_; refine wpO_cons ?_; refine op1_eqlI rfl rfl rfl ?_; refine zw1 ?_; refine wpO_cons ?_; refine op1_split rfl (fun hc0 => ?_) (fun hc0 => ?_); (focus (refine op1_mov rfl (by (conv => lhs; whnf) <;> rfl) ?_; refine wpO_cons ?_; refine op1_nilchk rfl rfl ?_; refine wpO_cons ?_; refine op1_faddr0 rfl rfl ?_; refine wpO_cons ?_; refine op1_load rfl rfl (by exact S.g0 hS) rfl ?_; refine wpO_cons ?_; refine op1_len rfl rfl ?_; refine wpO_cons ?_; refine op1_gtr rfl rfl rfl ?_; refine wpO_cons ?_; refine op1_pick_t rfl rfl (by (conv => lhs; whnf) <;> rfl) ?_; refine wpO_nil ?_; refine cut1 (by (conv => lhs; whnf) <;> rfl) ?_; (exact ⟨bool_leaf (by simp_all <;> omega), rfl⟩))); (focus (refine op1_skip rfl ?_; refine wpO_cons ?_; refine op1_skip rfl ?_; refine wpO_cons ?_; refine op1_skip rfl ?_; refine wpO_cons ?_; refine op1_skip rfl ?_; refine wpO_cons ?_; refine op1_skip rfl ?_; refine wpO_cons ?_; refine op1_skip rfl ?_; refine wpO_cons ?_; refine op1_pick_f rfl rfl (by (conv => lhs; whnf) <;> rfl) ?_; refine wpO_nil ?_; refine cut1 (by (conv => lhs; whnf) <;> rfl) ?_; (exact ⟨bool_leaf (by simp_all <;> omega), rfl⟩)))
  rintro vs2 T2 H2 ⟨rfl, rfl⟩
  refine wp_dec rfl (fun hc2 => ?_) (fun hc2 => ?_)
  · rw [if_pos hc2]
    refine zsr ?_; refine zw1 ?_; refine zw1 ?_; refine zns ?_; refine wp_ret ?_; refine seq_ret ?_; refine ret_of ?_; refine rk_tmp (by (conv => lhs; whnf) <;> rfl) ?_; refine rk_tmp (by (conv => lhs; whnf) <;> rfl) ?_; refine rk_nil ?_
    exact ⟨_, rfl, S.arrNil hC⟩
  rw [if_neg hc2]
  refine wp_skip ?_; refine seq_normal ?_; refine zsr ?_; refine zw1 ?_; refine wpO_cons ?_; refine op1_nilchk rfl rfl ?_; refine wpO_cons ?_; refine op1_faddr0 rfl rfl ?_; refine wpO_cons ?_; refine op1_load rfl rfl (by exact S.g0 hS) rfl ?_; refine wpO_cons ?_; refine op1_sub rfl rfl rfl (by exact wrap_i64 (by omega) (by omega)) ?_; refine wpO_cons ?_; refine op1_nilchk rfl rfl ?_; refine wpO_cons ?_; refine op1_faddr0 rfl rfl ?_; refine wpO_cons ?_; (refine op1_store1S rfl rfl (by (conv => lhs; whnf) <;> rfl) rfl rfl (S.up0 hS) rfl ?_; intro H1 hS; replace hS := S.dn0 hS); refine zns ?_; refine zsr ?_; refine zw1 ?_; refine wpO_cons ?_; refine op1_call1 rfl (by (conv => lhs; whnf) <;> rfl) ?_
  refine wpF_mono (L69 (closeQ (s := { s with o1 := s.o1 - 1 }) hS) (okCW hok hc)) ?_
  rintro ve H3 hS
  refine zw1 ?_; refine zw1 ?_; refine zns ?_; refine wp_ret ?_; refine ret_of ?_; refine rk_tmp (by (conv => lhs; whnf) <;> rfl) ?_; refine rk_tmp (by (conv => lhs; whnf) <;> rfl) ?_; refine rk_nil ?_
  exact ⟨_, rfl, hS⟩

/-- New -/
theorem L26 {B H : AHeap} {As : List Asn} (hS : S B H As) {c : Nat} {a : Int} (hc : 1 ≤ c ∧ c ≤ 4096) (ha : 1 ≤ a ∧ a ≤ c) :
    wpF C 26 [.int .i64 c, .int .i64 a] H fun v H' => ∃ p, v = .tuple ⟨[.pointer (some ⟨p, 0, none⟩), .int .i64 0]⟩ ∧ S B H' (repQ p ⟨c, a, [], 0, 0, [], []⟩ :: As) := by
  refine wpF_ofW o26 rfl rfl ?_
  refine zsr ?_; refine zw1 ?_; refine zw1 ?_; refine zns ?_; refine wp_seq ?_
  refine wp_cut [20] (fun vs H' => vs = [.bool (decide (¬ (1 ≤ c ∧ c ≤ 4096 ∧ 1 ≤ a ∧ a ≤ c)))] ∧ H = H') ?_ ?_
  · refine wp_region ?_; refine zw1 ?_; refine wpO_cons ?_; refine op1_lss rfl rfl rfl ?_; refine zw1 ?_; refine wpO_cons ?_; refine op1_split rfl (fun hc0 => ?_) (fun hc0 => ?_); (focus (refine op1_skip rfl ?_; refine wpO_cons ?_; refine op1_skip rfl ?_; refine wpO_cons ?_; refine op1_pick_t rfl rfl (by (conv => lhs; whnf) <;> rfl) ?_; refine zw1 ?_; refine wpO_cons ?_; refine op1_skip rfl ?_; refine wpO_cons ?_; refine op1_skip rfl ?_; refine wpO_cons ?_; refine op1_pick_t rfl rfl (by (conv => lhs; whnf) <;> rfl) ?_; refine zw1 ?_; refine wpO_cons ?_; refine op1_skip rfl ?_; refine wpO_cons ?_; refine op1_skip rfl ?_; refine wpO_cons ?_; refine op1_skip rfl ?_; refine wpO_cons ?_; refine op1_pick_t rfl rfl (by (conv => lhs; whnf) <;> rfl) ?_; refine wpO_nil ?_; refine cut1 (by (conv => lhs; whnf) <;> rfl) ?_; (exact ⟨bool_leaf (by simp_all <;> omega), rfl⟩))); (focus (refine op1_mov rfl (by (conv => lhs; whnf) <;> rfl) ?_; refine wpO_cons ?_; refine op1_gtr rfl rfl rfl ?_; refine wpO_cons ?_; refine op1_pick_f rfl rfl (by (conv => lhs; whnf) <;> rfl) ?_; refine zw1 ?_; refine wpO_cons ?_; refine op1_split rfl (fun hc1 => ?_) (fun hc1 => ?_); (focus (refine op1_skip rfl ?_; refine wpO_cons ?_; refine op1_skip rfl ?_; refine wpO_cons ?_; refine op1_pick_t rfl rfl (by (conv => lhs; whnf) <;> rfl) ?_; refine zw1 ?_; refine wpO_cons ?_; refine op1_skip rfl ?_; refine wpO_cons ?_; refine op1_skip rfl ?_; refine wpO_cons ?_; refine op1_skip rfl ?_; refine wpO_cons ?_; refine op1_pick_t rfl rfl (by (conv => lhs; whnf) <;> rfl) ?_; refine wpO_nil ?_; refine cut1 (by (conv => lhs; whnf) <;> rfl) ?_; (exact ⟨bool_leaf (by simp_all <;> omega), rfl⟩))); (focus (refine op1_mov rfl (by (conv => lhs; whnf) <;> rfl) ?_; refine wpO_cons ?_; refine op1_lss rfl rfl rfl ?_; refine wpO_cons ?_; refine op1_pick_f rfl rfl (by (conv => lhs; whnf) <;> rfl) ?_; refine zw1 ?_; refine wpO_cons ?_; refine op1_split rfl (fun hc2 => ?_) (fun hc2 => ?_); (focus (refine op1_skip rfl ?_; refine wpO_cons ?_; refine op1_skip rfl ?_; refine wpO_cons ?_; refine op1_skip rfl ?_; refine wpO_cons ?_; refine op1_pick_t rfl rfl (by (conv => lhs; whnf) <;> rfl) ?_; refine wpO_nil ?_; refine cut1 (by (conv => lhs; whnf) <;> rfl) ?_; (exact ⟨bool_leaf (by simp_all <;> omega), rfl⟩))); (focus (refine op1_mov rfl (by (conv => lhs; whnf) <;> rfl) ?_; refine zw1 ?_; refine wpO_cons ?_; refine op1_gtr rfl rfl rfl ?_; refine wpO_cons ?_; refine op1_pick_f rfl rfl (by (conv => lhs; whnf) <;> rfl) ?_; refine wpO_nil ?_; refine cut1 (by (conv => lhs; whnf) <;> rfl) ?_; (exact ⟨bool_leaf (by simp_all <;> omega), rfl⟩)))))))
  rintro vs2 T2 H2 ⟨rfl, rfl⟩
  refine wp_dec rfl (fun hc2 => ?_) (fun hc2 => ?_)
  · omega
  refine wp_skip ?_; refine seq_normal ?_; refine zsr ?_; refine zw1 ?_; refine zw1 ?_; refine wpO_cons ?_; refine op1_build rfl ?_; refine bk_one (by (conv => lhs; whnf) <;> rfl) rfl rfl rfl ?_; refine bk_one (by (conv => lhs; whnf) <;> rfl) rfl rfl rfl ?_; refine bk_nil ?_; refine wpO_cons ?_; refine op1_boxNS rfl rfl rfl hS ?_; intro p1 H1 hS; refine zw1 ?_; refine zw1 ?_; refine zns ?_; refine wp_ret ?_; refine ret_of ?_; refine rk_tmp (by (conv => lhs; whnf) <;> rfl) ?_; refine rk_tmp (by (conv => lhs; whnf) <;> rfl) ?_; refine rk_nil ?_
  exact ⟨_, rfl, closeQ (s := ⟨c, a, [], 0, 0, [], []⟩) (S.dn3 (S.arrNil (S.dn2 (S.slNil (S.dn1 (S.slNil hS))))))⟩
end Go.E.Pi
/- The reference's pipe: reading and writing. -/
namespace Go.E.Pi
open Go Go.E Go.Proofs.Ytgmmkajjigmjoaa Go.Proofs
set_option linter.unusedVariables false
set_option linter.unusedSimpArgs false
set_option maxRecDepth 100000
def PP.readQ (s : PP) (t n : Int) (wait : Bool) : RdRes :=
  if t < 0 ∨ 256 ≤ t ∨ n < 0 ∨ 4096 < n then ⟨[], false, [], 34, s⟩
  else if s.o0 = 0 then ⟨[], false, [], 35, s⟩
  else if s.blocked t = true then ⟨[], false, [], 5, s⟩
  else if n = 0 then ⟨[], false, [], 0, s⟩
  else if s.readers.length = 0 ∧ 0 < s.buf.length then ⟨s.buf.take (min n s.buf.length).toNat, false, (progQ (s.rdTake n)).1, 0, (progQ (s.rdTake n)).2⟩
  else if s.readers.length = 0 ∧ s.o1 = 0 ∧ s.writers.length = 0 then ⟨[], false, [], 0, s⟩
  else if wait = false then ⟨[], false, [], 2, s⟩
  else if 64 ≤ s.readers.length then ⟨[], false, [], 18, s⟩
  else ⟨[], true, [], 0, { s with readers := s.readers ++ [(t, n)] }⟩

theorem L58 {B H : AHeap} {As : List Asn} {q : Nat} {s : PP} {t n : Int} {w : Bool} (hS : S B H (repQ q s :: As)) (hok : Ok s) :
    wpF C 58 [.pointer (some ⟨q, 0, none⟩), .int .i64 t, .int .i64 n, .bool w] H fun v H' => ∃ vd ve, v = .tuple ⟨[vd, .bool (s.readQ t n w).is, ve, .int .i64 (s.readQ t n w).err]⟩ ∧
      S B H' (sl 1 vd (u8s (s.readQ t n w).data) :: arr 4 endA ve (s.readQ t n w).ends :: repQ q (s.readQ t n w).s :: As) := by
  have hrl := hok.rl
  have hwl := hok.wl
  have hcap := hok.cap
  have hbl := hok.buf
  have hC := hS
  obtain ⟨ab, cb, ar, cr, aw, cw, h2, h3, h4, hS⟩ := openQ hS
  refine wpF_ofW o58 rfl rfl ?_
  unfold PP.readQ
  refine zsr ?_; (iterate 4 refine zw1 ?_); refine zns ?_; refine wp_seq ?_
  refine wp_cut [23] (fun vs H' => vs = [.bool (decide (t < 0 ∨ 256 ≤ t ∨ n < 0 ∨ 4096 < n))] ∧ H = H') ?_ ?_
  · refine wp_region ?_; refine zw1 ?_; refine wpO_cons ?_; refine op1_call1 rfl (by (conv => lhs; whnf) <;> rfl) ?_; (refine wpF_mono L71 ?_; rintro _ _ ⟨rfl, rfl⟩); refine wpO_cons ?_; refine op1_not rfl rfl ?_; refine zw1 ?_; refine wpO_cons ?_; refine op1_split rfl (fun hc0 => ?_) (fun hc0 => ?_); (focus (refine op1_skip rfl ?_; refine wpO_cons ?_; refine op1_skip rfl ?_; refine wpO_cons ?_; refine op1_pick_t rfl rfl (by (conv => lhs; whnf) <;> rfl) ?_; refine zw1 ?_; refine wpO_cons ?_; refine op1_skip rfl ?_; refine wpO_cons ?_; refine op1_skip rfl ?_; refine wpO_cons ?_; refine op1_pick_t rfl rfl (by (conv => lhs; whnf) <;> rfl) ?_; refine wpO_nil ?_; refine cut1 (by (conv => lhs; whnf) <;> rfl) ?_; (exact ⟨bool_leaf (by simp_all <;> omega), rfl⟩))); (focus (refine op1_mov rfl (by (conv => lhs; whnf) <;> rfl) ?_; refine wpO_cons ?_; refine op1_lss rfl rfl rfl ?_; refine wpO_cons ?_; refine op1_pick_f rfl rfl (by (conv => lhs; whnf) <;> rfl) ?_; refine zw1 ?_; refine wpO_cons ?_; refine op1_split rfl (fun hc1 => ?_) (fun hc1 => ?_); (focus (refine op1_skip rfl ?_; refine wpO_cons ?_; refine op1_skip rfl ?_; refine wpO_cons ?_; refine op1_pick_t rfl rfl (by (conv => lhs; whnf) <;> rfl) ?_; refine wpO_nil ?_; refine cut1 (by (conv => lhs; whnf) <;> rfl) ?_; (exact ⟨bool_leaf (by simp_all <;> omega), rfl⟩))); (focus (refine op1_mov rfl (by (conv => lhs; whnf) <;> rfl) ?_; refine wpO_cons ?_; refine op1_gtr rfl rfl rfl ?_; refine wpO_cons ?_; refine op1_pick_f rfl rfl (by (conv => lhs; whnf) <;> rfl) ?_; refine wpO_nil ?_; refine cut1 (by (conv => lhs; whnf) <;> rfl) ?_; (exact ⟨bool_leaf (by simp_all <;> omega), rfl⟩)))))
  rintro vs2 T2 H2 ⟨rfl, rfl⟩
  refine wp_dec rfl (fun h1 => ?_) (fun h1 => ?_)
  · rw [if_pos h1]
    refine zsr ?_; (iterate 4 refine zw1 ?_); refine zns ?_; refine wp_ret ?_; refine seq_ret ?_; refine ret_of ?_; refine rk_tmp (by (conv => lhs; whnf) <;> rfl) ?_; refine rk_tmp (by (conv => lhs; whnf) <;> rfl) ?_; refine rk_tmp (by (conv => lhs; whnf) <;> rfl) ?_; refine rk_tmp (by (conv => lhs; whnf) <;> rfl) ?_; refine rk_nil ?_
    exact ⟨_, _, rfl, S.slNil (S.arrNil hC)⟩
  rw [if_neg h1]
  refine wp_skip ?_; refine seq_normal ?_; refine wp_seq ?_; refine zsr ?_; refine zw1 ?_; refine wpO_cons ?_; refine op1_nilchk rfl rfl ?_; refine wpO_cons ?_; refine op1_faddr0 rfl rfl ?_; refine wpO_cons ?_; refine op1_load rfl rfl (by exact S.g0 hS) rfl ?_; refine wpO_cons ?_; refine op1_eqlI rfl rfl rfl ?_; refine zns ?_
  refine wp_dec rfl (fun h5 => ?_) (fun h5 => ?_)
  · rw [if_pos h5]
    refine zsr ?_; (iterate 4 refine zw1 ?_); refine zns ?_; refine wp_ret ?_; refine seq_ret ?_; refine ret_of ?_; refine rk_tmp (by (conv => lhs; whnf) <;> rfl) ?_; refine rk_tmp (by (conv => lhs; whnf) <;> rfl) ?_; refine rk_tmp (by (conv => lhs; whnf) <;> rfl) ?_; refine rk_tmp (by (conv => lhs; whnf) <;> rfl) ?_; refine rk_nil ?_
    exact ⟨_, _, rfl, S.slNil (S.arrNil hC)⟩
  rw [if_neg h5]
  refine wp_skip ?_; refine seq_normal ?_; refine wp_seq ?_; refine zsr ?_; refine zw1 ?_; refine zw1 ?_; refine wpO_cons ?_; refine op1_call2 rfl (by (conv => lhs; whnf) <;> rfl) (by (conv => lhs; whnf) <;> rfl) ?_
  refine wpF_mono (L72 hC (by omega) (by omega)) ?_
  rintro _ _ ⟨rfl, rfl⟩
  refine zns ?_
  refine wp_cond rfl (fun h6 => ?_) (fun h6 => ?_)
  · rw [if_pos h6]
    refine zsr ?_; (iterate 4 refine zw1 ?_); refine zns ?_; refine wp_ret ?_; refine seq_ret ?_; refine ret_of ?_; refine rk_tmp (by (conv => lhs; whnf) <;> rfl) ?_; refine rk_tmp (by (conv => lhs; whnf) <;> rfl) ?_; refine rk_tmp (by (conv => lhs; whnf) <;> rfl) ?_; refine rk_tmp (by (conv => lhs; whnf) <;> rfl) ?_; refine rk_nil ?_
    exact ⟨_, _, rfl, S.slNil (S.arrNil hC)⟩
  rw [if_neg (by rw [h6]; simp)]
  refine wp_skip ?_; refine seq_normal ?_; refine wp_seq ?_; refine zsr ?_; refine zw1 ?_; refine wpO_cons ?_; refine op1_eqlI rfl rfl rfl ?_; refine zns ?_
  refine wp_dec rfl (fun h7 => ?_) (fun h7 => ?_)
  · rw [if_pos h7]
    refine zsr ?_; (iterate 4 refine zw1 ?_); refine zns ?_; refine wp_ret ?_; refine seq_ret ?_; refine ret_of ?_; refine rk_tmp (by (conv => lhs; whnf) <;> rfl) ?_; refine rk_tmp (by (conv => lhs; whnf) <;> rfl) ?_; refine rk_tmp (by (conv => lhs; whnf) <;> rfl) ?_; refine rk_tmp (by (conv => lhs; whnf) <;> rfl) ?_; refine rk_nil ?_
    exact ⟨_, _, rfl, S.slNil (S.arrNil hC)⟩
  rw [if_neg h7]
  refine wp_skip ?_; refine seq_normal ?_; refine wp_seq ?_
  refine wp_cut [47] (fun vs H' => vs = [.bool (decide (s.readers.length = 0 ∧ 0 < s.buf.length))] ∧ H = H') ?_ ?_
  · refine wp_region ?_; refine zw1 ?_; refine wpO_cons ?_; refine op1_nilchk rfl rfl ?_; refine wpO_cons ?_; refine op1_faddr0 rfl rfl ?_; refine wpO_cons ?_; refine op1_load rfl rfl (by exact S.g0 hS) rfl ?_; refine wpO_cons ?_; refine op1_len rfl rfl ?_; refine wpO_cons ?_; refine op1_eqlI rfl rfl rfl ?_; refine zw1 ?_; refine wpO_cons ?_; refine op1_split rfl (fun hc0 => ?_) (fun hc0 => ?_); (focus (refine op1_mov rfl (by (conv => lhs; whnf) <;> rfl) ?_; refine wpO_cons ?_; refine op1_nilchk rfl rfl ?_; refine wpO_cons ?_; refine op1_faddr0 rfl rfl ?_; refine wpO_cons ?_; refine op1_load rfl rfl (by exact S.g0 hS) rfl ?_; refine wpO_cons ?_; refine op1_len rfl rfl ?_; refine wpO_cons ?_; refine op1_gtr rfl rfl rfl ?_; refine wpO_cons ?_; refine op1_pick_t rfl rfl (by (conv => lhs; whnf) <;> rfl) ?_; refine wpO_nil ?_; refine cut1 (by (conv => lhs; whnf) <;> rfl) ?_; (exact ⟨bool_leaf (by simp_all <;> omega), rfl⟩))); (focus (refine op1_skip rfl ?_; refine wpO_cons ?_; refine op1_skip rfl ?_; refine wpO_cons ?_; refine op1_skip rfl ?_; refine wpO_cons ?_; refine op1_skip rfl ?_; refine wpO_cons ?_; refine op1_skip rfl ?_; refine wpO_cons ?_; refine op1_skip rfl ?_; refine wpO_cons ?_; refine op1_pick_f rfl rfl (by (conv => lhs; whnf) <;> rfl) ?_; refine wpO_nil ?_; refine cut1 (by (conv => lhs; whnf) <;> rfl) ?_; (exact ⟨bool_leaf (by simp_all <;> omega), rfl⟩)))
  rintro vs2 T2 H2 ⟨rfl, rfl⟩
  refine wp_dec rfl (fun h8 => ?_) (fun h8 => ?_)
  · rw [if_pos h8]
    refine zsr ?_; refine zw1 ?_; refine zw1 ?_; refine wpO_cons ?_; refine op1_call2 rfl (by (conv => lhs; whnf) <;> rfl) (by (conv => lhs; whnf) <;> rfl) ?_
    refine wpF_mono (L73 (s := s) hS (by omega) (by omega)) ?_
    rintro _ H3 ⟨a5, c5, a6, c6, rfl, hS⟩
    refine zw1 ?_; refine zns ?_; refine zsr ?_; refine zw1 ?_; refine zw1 ?_; refine wpO_cons ?_; refine op1_call1 rfl (by (conv => lhs; whnf) <;> rfl) ?_
    refine wpF_mono (L69 (closeQ (s := s.rdTake n) (S.dn4 hS)) (okTake hok n)) ?_
    rintro ve H4 hS
    (iterate 4 refine zw1 ?_); refine zns ?_; refine wp_ret ?_; refine seq_ret ?_; refine ret_of ?_; refine rk_tmp (by (conv => lhs; whnf) <;> rfl) ?_; refine rk_tmp (by (conv => lhs; whnf) <;> rfl) ?_; refine rk_tmp (by (conv => lhs; whnf) <;> rfl) ?_; refine rk_tmp (by (conv => lhs; whnf) <;> rfl) ?_; refine rk_nil ?_
    exact ⟨_, _, rfl, S.up2 hS⟩
  rw [if_neg h8]
  refine wp_skip ?_; refine seq_normal ?_; refine wp_seq ?_
  refine wp_cut [74] (fun vs H' => vs = [.bool (decide (s.readers.length = 0 ∧ s.o1 = 0 ∧ s.writers.length = 0))] ∧ H = H') ?_ ?_
  · refine wp_region ?_; refine zw1 ?_; refine wpO_cons ?_; refine op1_nilchk rfl rfl ?_; refine wpO_cons ?_; refine op1_faddr0 rfl rfl ?_; refine wpO_cons ?_; refine op1_load rfl rfl (by exact S.g0 hS) rfl ?_; refine wpO_cons ?_; refine op1_len rfl rfl ?_; refine wpO_cons ?_; refine op1_eqlI rfl rfl rfl ?_; refine zw1 ?_; refine wpO_cons ?_; refine op1_split rfl (fun hc0 => ?_) (fun hc0 => ?_); (focus (refine op1_mov rfl (by (conv => lhs; whnf) <;> rfl) ?_; refine wpO_cons ?_; refine op1_nilchk rfl rfl ?_; refine wpO_cons ?_; refine op1_faddr0 rfl rfl ?_; refine wpO_cons ?_; refine op1_load rfl rfl (by exact S.g0 hS) rfl ?_; refine wpO_cons ?_; refine op1_eqlI rfl rfl rfl ?_; refine wpO_cons ?_; refine op1_pick_t rfl rfl (by (conv => lhs; whnf) <;> rfl) ?_; refine zw1 ?_; refine wpO_cons ?_; refine op1_split rfl (fun hc1 => ?_) (fun hc1 => ?_); (focus (refine op1_mov rfl (by (conv => lhs; whnf) <;> rfl) ?_; refine wpO_cons ?_; refine op1_nilchk rfl rfl ?_; refine wpO_cons ?_; refine op1_faddr0 rfl rfl ?_; refine wpO_cons ?_; refine op1_load rfl rfl (by exact S.g0 hS) rfl ?_; refine wpO_cons ?_; refine op1_len rfl rfl ?_; refine wpO_cons ?_; refine op1_eqlI rfl rfl rfl ?_; refine wpO_cons ?_; refine op1_pick_t rfl rfl (by (conv => lhs; whnf) <;> rfl) ?_; refine wpO_nil ?_; refine cut1 (by (conv => lhs; whnf) <;> rfl) ?_; (exact ⟨bool_leaf (by simp_all <;> omega), rfl⟩))); (focus (refine op1_skip rfl ?_; refine wpO_cons ?_; refine op1_skip rfl ?_; refine wpO_cons ?_; refine op1_skip rfl ?_; refine wpO_cons ?_; refine op1_skip rfl ?_; refine wpO_cons ?_; refine op1_skip rfl ?_; refine wpO_cons ?_; refine op1_skip rfl ?_; refine wpO_cons ?_; refine op1_pick_f rfl rfl (by (conv => lhs; whnf) <;> rfl) ?_; refine wpO_nil ?_; refine cut1 (by (conv => lhs; whnf) <;> rfl) ?_; (exact ⟨bool_leaf (by simp_all <;> omega), rfl⟩))))); (focus (refine op1_skip rfl ?_; refine wpO_cons ?_; refine op1_skip rfl ?_; refine wpO_cons ?_; refine op1_skip rfl ?_; refine wpO_cons ?_; refine op1_skip rfl ?_; refine wpO_cons ?_; refine op1_skip rfl ?_; refine wpO_cons ?_; refine op1_pick_f rfl rfl (by (conv => lhs; whnf) <;> rfl) ?_; refine zw1 ?_; refine wpO_cons ?_; refine op1_skip rfl ?_; refine wpO_cons ?_; refine op1_skip rfl ?_; refine wpO_cons ?_; refine op1_skip rfl ?_; refine wpO_cons ?_; refine op1_skip rfl ?_; refine wpO_cons ?_; refine op1_skip rfl ?_; refine wpO_cons ?_; refine op1_skip rfl ?_; refine wpO_cons ?_; refine op1_pick_f rfl rfl (by (conv => lhs; whnf) <;> rfl) ?_; refine wpO_nil ?_; refine cut1 (by (conv => lhs; whnf) <;> rfl) ?_; (exact ⟨bool_leaf (by simp_all <;> omega), rfl⟩)))
  rintro vs2 T2 H2 ⟨rfl, rfl⟩
  refine wp_dec rfl (fun h9 => ?_) (fun h9 => ?_)
  · rw [if_pos h9]
    refine zsr ?_; (iterate 4 refine zw1 ?_); refine zns ?_; refine wp_ret ?_; refine seq_ret ?_; refine ret_of ?_; refine rk_tmp (by (conv => lhs; whnf) <;> rfl) ?_; refine rk_tmp (by (conv => lhs; whnf) <;> rfl) ?_; refine rk_tmp (by (conv => lhs; whnf) <;> rfl) ?_; refine rk_tmp (by (conv => lhs; whnf) <;> rfl) ?_; refine rk_nil ?_
    exact ⟨_, _, rfl, S.slNil (S.arrNil hC)⟩
  rw [if_neg h9]
  refine wp_skip ?_; refine seq_normal ?_; refine wp_seq ?_; refine zsr ?_; refine zw1 ?_; refine wpO_cons ?_; refine op1_not rfl rfl ?_; refine zns ?_
  cases w
  · rw [if_pos rfl]
    refine wp_true rfl ?_; refine zsr ?_; (iterate 4 refine zw1 ?_); refine zns ?_; refine wp_ret ?_; refine seq_ret ?_; refine ret_of ?_; refine rk_tmp (by (conv => lhs; whnf) <;> rfl) ?_; refine rk_tmp (by (conv => lhs; whnf) <;> rfl) ?_; refine rk_tmp (by (conv => lhs; whnf) <;> rfl) ?_; refine rk_tmp (by (conv => lhs; whnf) <;> rfl) ?_; refine rk_nil ?_
    exact ⟨_, _, rfl, S.slNil (S.arrNil hC)⟩
  rw [if_neg (by simp)]
  refine wp_false rfl ?_; refine wp_skip ?_; refine seq_normal ?_; refine wp_seq ?_; refine zsr ?_; refine zw1 ?_; refine wpO_cons ?_; refine op1_nilchk rfl rfl ?_; refine wpO_cons ?_; refine op1_faddr0 rfl rfl ?_; refine wpO_cons ?_; refine op1_load rfl rfl (by exact S.g0 hS) rfl ?_; refine wpO_cons ?_; refine op1_len rfl rfl ?_; refine wpO_cons ?_; refine op1_geq rfl rfl rfl ?_; refine zns ?_
  refine wp_dec rfl (fun h10 => ?_) (fun h10 => ?_)
  · rw [if_pos (by omega)]
    refine zsr ?_; (iterate 4 refine zw1 ?_); refine zns ?_; refine wp_ret ?_; refine seq_ret ?_; refine ret_of ?_; refine rk_tmp (by (conv => lhs; whnf) <;> rfl) ?_; refine rk_tmp (by (conv => lhs; whnf) <;> rfl) ?_; refine rk_tmp (by (conv => lhs; whnf) <;> rfl) ?_; refine rk_tmp (by (conv => lhs; whnf) <;> rfl) ?_; refine rk_nil ?_
    exact ⟨_, _, rfl, S.slNil (S.arrNil hC)⟩
  rw [if_neg (by omega)]
  refine wp_skip ?_; refine seq_normal ?_; refine zsr ?_; refine zw1 ?_; refine zw1 ?_; refine wpO_cons ?_; refine op1_nilchk rfl rfl ?_; refine wpO_cons ?_; refine op1_faddr0 rfl rfl ?_; refine wpO_cons ?_; refine op1_load rfl rfl (by exact S.g0 hS) rfl ?_; refine zw1 ?_; refine zw1 ?_; refine wpO_cons ?_; refine op1_build rfl ?_; refine bk_one (by (conv => lhs; whnf) <;> rfl) rfl rfl rfl ?_; refine bk_one (by (conv => lhs; whnf) <;> rfl) rfl rfl rfl ?_; refine bk_nil ?_; refine wpO_cons ?_; refine op1_bsliceS rfl hS ?_; refine bk_agg rfl rfl rfl rfl ?_; refine bk_nil ?_; intro p1 H1 hS; refine wpO_cons ?_; (refine op1_appBS rfl rfl (by (conv => lhs; whnf) <;> rfl) rfl (S.g0 hS) rfl rfl (S.up3 hS) (by omega) ?_; intro a1 c1 H2 hS; replace hS := S.dn3 hS; replace hS := S.drop hS); refine wpO_cons ?_; refine op1_nilchk rfl rfl ?_; refine wpO_cons ?_; refine op1_faddr0 rfl rfl ?_; refine wpO_cons ?_; (refine op1_store1S rfl rfl (by (conv => lhs; whnf) <;> rfl) rfl rfl (S.up0 hS) rfl ?_; intro H3 hS; replace hS := S.dn0 hS); refine zns ?_; refine zsr ?_; (iterate 4 refine zw1 ?_); refine zns ?_; refine wp_ret ?_; refine ret_of ?_; refine rk_tmp (by (conv => lhs; whnf) <;> rfl) ?_; refine rk_tmp (by (conv => lhs; whnf) <;> rfl) ?_; refine rk_tmp (by (conv => lhs; whnf) <;> rfl) ?_; refine rk_tmp (by (conv => lhs; whnf) <;> rfl) ?_; refine rk_nil ?_
  refine ⟨_, _, rfl, S.slNil (S.arrNil (closeQ (s := { s with readers := s.readers ++ [(t, n)] }) (vb := .slice ab s.buf.length cb) (vr := .slice a1 (s.readers.length + 1) c1) (vw := .slice aw s.writers.length cw) ?_))⟩
  rw [List.flatMap_append]
  exact hS

def PP.nQ (s : PP) (d : List Int) : Nat := if s.writers.length = 0 then fitN s d.length (decide ((d.length : Int) ≤ s.atomic)) else 0
def PP.putQ (s : PP) (d : List Int) : PP := { s with buf := s.buf ++ d.take (s.nQ d) }
def PP.writeQ (s : PP) (t : Int) (d : List Int) (wait : Bool) : WtRes :=
  if t < 0 ∨ 256 ≤ t then ⟨0, false, [], 34, s⟩
  else if 4096 < d.length then ⟨0, false, [], 20, s⟩
  else if s.o1 = 0 then ⟨0, false, [], 35, s⟩
  else if s.blocked t = true then ⟨0, false, [], 5, s⟩
  else if s.o0 = 0 then ⟨0, false, [], 33, s⟩
  else if d.length = 0 then ⟨0, false, [], 0, s⟩
  else if s.nQ d = 0 ∧ wait = false then ⟨0, false, [], 2, s⟩
  else if s.nQ d < d.length ∧ wait = true ∧ 64 ≤ s.writers.length then ⟨0, false, [], 18, s⟩
  else if s.nQ d = d.length ∨ wait = false then ⟨s.nQ d, false, (progQ (s.putQ d)).1, 0, (progQ (s.putQ d)).2⟩
  else if s.nQ d = 0 then ⟨0, true, [], 0, (s.putQ d).queue ⟨t, d, s.nQ d⟩⟩
  else ⟨0, true, (progQ ((s.putQ d).queue ⟨t, d, s.nQ d⟩)).1, 0, (progQ ((s.putQ d).queue ⟨t, d, s.nQ d⟩)).2⟩
theorem nQ_le {s : PP} (d : List Int) (hb : s.buf.length ≤ s.cap) : s.nQ d ≤ d.length ∧ s.buf.length + s.nQ d ≤ s.cap := by
  unfold PP.nQ fitN
  split
  · split
    · omega
    · split <;> omega
  · omega
theorem okPutQ {s : PP} (hok : Ok s) (d : List Int) : Ok (s.putQ d) := by
  have := nQ_le d hok.buf
  refine ⟨hok.cap, hok.atm, hok.o0, hok.o1, hok.rl, hok.wl, hok.rs, hok.ws, ?_⟩
  show (s.buf ++ d.take _).length ≤ s.cap
  simp only [List.length_append, List.length_take]
  omega

theorem L59 {B H : AHeap} {As : List Asn} {q : Nat} {s : PP} {t : Int} {vd : Value} {d : List Int} {w : Bool} (hd : RD B As 1 vd (u8s d)) (hS : S B H (repQ q s :: As)) (hok : Ok s) (hdl : d.length ≤ 1000000) :
    wpF C 59 [.pointer (some ⟨q, 0, none⟩), .int .i64 t, vd, .bool w] H fun v H' => ∃ ve, v = .tuple ⟨[.int .i64 (s.writeQ t d w).n, .bool (s.writeQ t d w).is, ve, .int .i64 (s.writeQ t d w).err]⟩ ∧
      S B H' (arr 4 endA ve (s.writeQ t d w).ends :: repQ q (s.writeQ t d w).s :: As) := by
  have hrl := hok.rl
  have hwl := hok.wl
  have hcap := hok.cap
  have hbl := hok.buf
  obtain ⟨a, c, rfl⟩ := hd.u1 hS.drop
  have hC := hS
  obtain ⟨ab, cb, ar, cr, aw, cw, h2, h3, h4, hS⟩ := openQ hS
  have hnq := nQ_le d hbl
  refine wpF_ofW o59 rfl rfl ?_
  unfold PP.writeQ
  refine zsr ?_; (iterate 4 refine zw1 ?_); refine zns ?_; refine wp_seq ?_; refine zsr ?_; refine zw1 ?_; refine wpO_cons ?_; refine op1_call1 rfl (by (conv => lhs; whnf) <;> rfl) ?_; (refine wpF_mono L71 ?_; rintro _ _ ⟨rfl, rfl⟩); refine wpO_cons ?_; refine op1_not rfl rfl ?_; refine zns ?_
  refine wp_ndec rfl (fun h1 => ?_) (fun h1 => ?_)
  · rw [if_pos (by omega)]
    refine zsr ?_; (iterate 4 refine zw1 ?_); refine zns ?_; refine wp_ret ?_; refine seq_ret ?_; refine ret_of ?_; refine rk_tmp (by (conv => lhs; whnf) <;> rfl) ?_; refine rk_tmp (by (conv => lhs; whnf) <;> rfl) ?_; refine rk_tmp (by (conv => lhs; whnf) <;> rfl) ?_; refine rk_tmp (by (conv => lhs; whnf) <;> rfl) ?_; refine rk_nil ?_
    exact ⟨_, rfl, S.arrNil hC⟩
  rw [if_neg (by omega)]
  refine wp_skip ?_; refine seq_normal ?_; refine wp_seq ?_; refine zsr ?_; refine zw1 ?_; refine wpO_cons ?_; refine op1_len rfl rfl ?_; refine wpO_cons ?_; refine op1_gtr rfl rfl rfl ?_; refine zns ?_
  refine wp_dec rfl (fun h5 => ?_) (fun h5 => ?_)
  · rw [if_pos (by omega)]
    refine zsr ?_; (iterate 4 refine zw1 ?_); refine zns ?_; refine wp_ret ?_; refine seq_ret ?_; refine ret_of ?_; refine rk_tmp (by (conv => lhs; whnf) <;> rfl) ?_; refine rk_tmp (by (conv => lhs; whnf) <;> rfl) ?_; refine rk_tmp (by (conv => lhs; whnf) <;> rfl) ?_; refine rk_tmp (by (conv => lhs; whnf) <;> rfl) ?_; refine rk_nil ?_
    exact ⟨_, rfl, S.arrNil hC⟩
  rw [if_neg (by omega)]
  refine wp_skip ?_; refine seq_normal ?_; refine wp_seq ?_; refine zsr ?_; refine zw1 ?_; refine wpO_cons ?_; refine op1_nilchk rfl rfl ?_; refine wpO_cons ?_; refine op1_faddr0 rfl rfl ?_; refine wpO_cons ?_; refine op1_load rfl rfl (by exact S.g0 hS) rfl ?_; refine wpO_cons ?_; refine op1_eqlI rfl rfl rfl ?_; refine zns ?_
  refine wp_dec rfl (fun h6 => ?_) (fun h6 => ?_)
  · rw [if_pos h6]
    refine zsr ?_; (iterate 4 refine zw1 ?_); refine zns ?_; refine wp_ret ?_; refine seq_ret ?_; refine ret_of ?_; refine rk_tmp (by (conv => lhs; whnf) <;> rfl) ?_; refine rk_tmp (by (conv => lhs; whnf) <;> rfl) ?_; refine rk_tmp (by (conv => lhs; whnf) <;> rfl) ?_; refine rk_tmp (by (conv => lhs; whnf) <;> rfl) ?_; refine rk_nil ?_
    exact ⟨_, rfl, S.arrNil hC⟩
  rw [if_neg h6]
  refine wp_skip ?_; refine seq_normal ?_; refine wp_seq ?_; refine zsr ?_; refine zw1 ?_; refine zw1 ?_; refine wpO_cons ?_; refine op1_call2 rfl (by (conv => lhs; whnf) <;> rfl) (by (conv => lhs; whnf) <;> rfl) ?_
  refine wpF_mono (L72 hC (by omega) (by omega)) ?_
  rintro _ _ ⟨rfl, rfl⟩
  refine zns ?_
  refine wp_cond rfl (fun h7 => ?_) (fun h7 => ?_)
  · rw [if_pos h7]
    refine zsr ?_; (iterate 4 refine zw1 ?_); refine zns ?_; refine wp_ret ?_; refine seq_ret ?_; refine ret_of ?_; refine rk_tmp (by (conv => lhs; whnf) <;> rfl) ?_; refine rk_tmp (by (conv => lhs; whnf) <;> rfl) ?_; refine rk_tmp (by (conv => lhs; whnf) <;> rfl) ?_; refine rk_tmp (by (conv => lhs; whnf) <;> rfl) ?_; refine rk_nil ?_
    exact ⟨_, rfl, S.arrNil hC⟩
  rw [if_neg (by rw [h7]; simp)]
  refine wp_skip ?_; refine seq_normal ?_; refine wp_seq ?_; refine zsr ?_; refine zw1 ?_; refine wpO_cons ?_; refine op1_nilchk rfl rfl ?_; refine wpO_cons ?_; refine op1_faddr0 rfl rfl ?_; refine wpO_cons ?_; refine op1_load rfl rfl (by exact S.g0 hS) rfl ?_; refine wpO_cons ?_; refine op1_eqlI rfl rfl rfl ?_; refine zns ?_
  refine wp_dec rfl (fun h8 => ?_) (fun h8 => ?_)
  · rw [if_pos h8]
    refine zsr ?_; (iterate 4 refine zw1 ?_); refine zns ?_; refine wp_ret ?_; refine seq_ret ?_; refine ret_of ?_; refine rk_tmp (by (conv => lhs; whnf) <;> rfl) ?_; refine rk_tmp (by (conv => lhs; whnf) <;> rfl) ?_; refine rk_tmp (by (conv => lhs; whnf) <;> rfl) ?_; refine rk_tmp (by (conv => lhs; whnf) <;> rfl) ?_; refine rk_nil ?_
    exact ⟨_, rfl, S.arrNil hC⟩
  rw [if_neg h8]
  refine wp_skip ?_; refine seq_normal ?_; refine wp_seq ?_; refine zsr ?_; refine zw1 ?_; refine wpO_cons ?_; refine op1_len rfl rfl ?_; refine wpO_cons ?_; refine op1_eqlI rfl rfl rfl ?_; refine zns ?_
  refine wp_dec rfl (fun h9 => ?_) (fun h9 => ?_)
  · rw [if_pos (by omega)]
    refine zsr ?_; (iterate 4 refine zw1 ?_); refine zns ?_; refine wp_ret ?_; refine seq_ret ?_; refine ret_of ?_; refine rk_tmp (by (conv => lhs; whnf) <;> rfl) ?_; refine rk_tmp (by (conv => lhs; whnf) <;> rfl) ?_; refine rk_tmp (by (conv => lhs; whnf) <;> rfl) ?_; refine rk_tmp (by (conv => lhs; whnf) <;> rfl) ?_; refine rk_nil ?_
    exact ⟨_, rfl, S.arrNil hC⟩
  rw [if_neg (by omega)]
  refine wp_skip ?_; refine seq_normal ?_; refine zsr ?_; refine zw1 ?_; refine zns ?_
  refine wp_cut [12] (fun vs H' => vs = [.int .i64 (s.nQ d : Nat)] ∧ H = H') ?_ ?_
  · refine zsr ?_; refine zw1 ?_; refine wpO_cons ?_; refine op1_nilchk rfl rfl ?_; refine wpO_cons ?_; refine op1_faddr0 rfl rfl ?_; refine wpO_cons ?_; refine op1_load rfl rfl (by exact S.g0 hS) rfl ?_; refine wpO_cons ?_; refine op1_len rfl rfl ?_; refine wpO_cons ?_; refine op1_eqlI rfl rfl rfl ?_; refine zns ?_
    refine wp_dec rfl (fun hc => ?_) (fun hc => ?_)
    · refine wp_region ?_; refine zw1 ?_; refine zw1 ?_; refine zw1 ?_; refine wpO_cons ?_; refine op1_len rfl rfl ?_; refine zw1 ?_; refine wpO_cons ?_; refine op1_nilchk rfl rfl ?_; refine wpO_cons ?_; refine op1_faddr0 rfl rfl ?_; refine wpO_cons ?_; refine op1_load rfl rfl (by exact S.g0 hS) rfl ?_; refine wpO_cons ?_; refine op1_leq rfl rfl rfl ?_; refine wpO_cons ?_; refine op1_call3 rfl (by (conv => lhs; whnf) <;> rfl) (by (conv => lhs; whnf) <;> rfl) (by (conv => lhs; whnf) <;> rfl) ?_
      refine wpF_mono (L74 (s := s) hS ⟨_, _, rfl⟩ hcap.2 hbl) ?_
      rintro _ _ ⟨rfl, rfl⟩
      refine zw1 ?_; refine wpO_nil ?_; refine cut1 (by (conv => lhs; whnf) <;> rfl) ?_
      exact ⟨by unfold PP.nQ; rw [if_pos (by omega)], rfl⟩
    · refine wp_skip ?_; refine cut1 (by (conv => lhs; whnf) <;> rfl) ?_
      exact ⟨by unfold PP.nQ; rw [if_neg (by omega)]; rfl, rfl⟩
  rintro vs3 T3 H3 ⟨rfl, rfl⟩
  have hpq : s.putQ d = { s with buf := s.buf ++ d.take (s.nQ d) } := rfl
  have hop := okPutQ hok d
  generalize s.nQ d = n at *
  refine wp_seq ?_
  refine wp_cut [56] (fun vs H' => vs = [.bool (decide (n = 0 ∧ w = false))] ∧ H = H') ?_ ?_
  · refine wp_region ?_; refine zw1 ?_; refine wpO_cons ?_; refine op1_eqlI rfl rfl rfl ?_; refine zw1 ?_; refine wpO_cons ?_; refine op1_split rfl (fun hc0 => ?_) (fun hc0 => ?_); (focus (refine op1_mov rfl (by (conv => lhs; whnf) <;> rfl) ?_; refine wpO_cons ?_; refine op1_not rfl rfl ?_; refine wpO_cons ?_; refine op1_pick_t rfl rfl (by (conv => lhs; whnf) <;> rfl) ?_; refine wpO_nil ?_; refine cut1 (by (conv => lhs; whnf) <;> rfl) ?_; (exact ⟨bool_leaf (by simp_all <;> omega), rfl⟩))); (focus (refine op1_skip rfl ?_; refine wpO_cons ?_; refine op1_skip rfl ?_; refine wpO_cons ?_; refine op1_pick_f rfl rfl (by (conv => lhs; whnf) <;> rfl) ?_; refine wpO_nil ?_; refine cut1 (by (conv => lhs; whnf) <;> rfl) ?_; (exact ⟨bool_leaf (by simp_all <;> omega), rfl⟩)))
  rintro vs4 T4 H6 ⟨rfl, rfl⟩
  refine wp_dec rfl (fun h10 => ?_) (fun h10 => ?_)
  · rw [if_pos h10]
    refine zsr ?_; (iterate 4 refine zw1 ?_); refine zns ?_; refine wp_ret ?_; refine seq_ret ?_; refine ret_of ?_; refine rk_tmp (by (conv => lhs; whnf) <;> rfl) ?_; refine rk_tmp (by (conv => lhs; whnf) <;> rfl) ?_; refine rk_tmp (by (conv => lhs; whnf) <;> rfl) ?_; refine rk_tmp (by (conv => lhs; whnf) <;> rfl) ?_; refine rk_nil ?_
    exact ⟨_, rfl, S.arrNil hC⟩
  rw [if_neg h10]
  refine wp_skip ?_; refine seq_normal ?_; refine wp_seq ?_
  refine wp_cut [71] (fun vs H' => vs = [.bool (decide (n < d.length ∧ w = true ∧ 64 ≤ s.writers.length))] ∧ H = H') ?_ ?_
  · refine wp_region ?_; refine zw1 ?_; refine zw1 ?_; refine wpO_cons ?_; refine op1_len rfl rfl ?_; refine wpO_cons ?_; refine op1_lss rfl rfl rfl ?_; refine zw1 ?_; refine wpO_cons ?_; refine op1_split rfl (fun hc0 => ?_) (fun hc0 => ?_); (focus (refine op1_mov rfl (by (conv => lhs; whnf) <;> rfl) ?_; refine wpO_cons ?_; refine op1_pick_t rfl rfl (by (conv => lhs; whnf) <;> rfl) ?_; refine zw1 ?_; refine wpO_cons ?_; refine op1_split rfl (fun hc1 => ?_) (fun hc1 => ?_); (focus (refine op1_mov rfl (by (conv => lhs; whnf) <;> rfl) ?_; refine wpO_cons ?_; refine op1_nilchk rfl rfl ?_; refine wpO_cons ?_; refine op1_faddr0 rfl rfl ?_; refine wpO_cons ?_; refine op1_load rfl rfl (by exact S.g0 hS) rfl ?_; refine wpO_cons ?_; refine op1_len rfl rfl ?_; refine wpO_cons ?_; refine op1_geq rfl rfl rfl ?_; refine wpO_cons ?_; refine op1_pick_t rfl rfl (by (conv => lhs; whnf) <;> rfl) ?_; refine wpO_nil ?_; refine cut1 (by (conv => lhs; whnf) <;> rfl) ?_; (exact ⟨bool_leaf (by simp_all <;> omega), rfl⟩))); (focus (refine op1_skip rfl ?_; refine wpO_cons ?_; refine op1_skip rfl ?_; refine wpO_cons ?_; refine op1_skip rfl ?_; refine wpO_cons ?_; refine op1_skip rfl ?_; refine wpO_cons ?_; refine op1_skip rfl ?_; refine wpO_cons ?_; refine op1_skip rfl ?_; refine wpO_cons ?_; refine op1_pick_f rfl rfl (by (conv => lhs; whnf) <;> rfl) ?_; refine wpO_nil ?_; refine cut1 (by (conv => lhs; whnf) <;> rfl) ?_; (exact ⟨bool_leaf (by simp_all <;> omega), rfl⟩))))); (focus (refine op1_skip rfl ?_; refine wpO_cons ?_; refine op1_pick_f rfl rfl (by (conv => lhs; whnf) <;> rfl) ?_; refine zw1 ?_; refine wpO_cons ?_; refine op1_skip rfl ?_; refine wpO_cons ?_; refine op1_skip rfl ?_; refine wpO_cons ?_; refine op1_skip rfl ?_; refine wpO_cons ?_; refine op1_skip rfl ?_; refine wpO_cons ?_; refine op1_skip rfl ?_; refine wpO_cons ?_; refine op1_skip rfl ?_; refine wpO_cons ?_; refine op1_pick_f rfl rfl (by (conv => lhs; whnf) <;> rfl) ?_; refine wpO_nil ?_; refine cut1 (by (conv => lhs; whnf) <;> rfl) ?_; (exact ⟨bool_leaf (by simp_all <;> omega), rfl⟩)))
  rintro vs4 T4 H6 ⟨rfl, rfl⟩
  refine wp_dec rfl (fun h11 => ?_) (fun h11 => ?_)
  · rw [if_pos h11]
    refine zsr ?_; (iterate 4 refine zw1 ?_); refine zns ?_; refine wp_ret ?_; refine seq_ret ?_; refine ret_of ?_; refine rk_tmp (by (conv => lhs; whnf) <;> rfl) ?_; refine rk_tmp (by (conv => lhs; whnf) <;> rfl) ?_; refine rk_tmp (by (conv => lhs; whnf) <;> rfl) ?_; refine rk_tmp (by (conv => lhs; whnf) <;> rfl) ?_; refine rk_nil ?_
    exact ⟨_, rfl, S.arrNil hC⟩
  rw [if_neg h11]
  refine wp_skip ?_; refine seq_normal ?_; refine wp_seq ?_; refine wp_regionD ?_; refine zd1 ?_; refine zd1 ?_; refine wpD_cons ?_; refine op1_nilchk rfl rfl ?_; refine wpD_cons ?_; refine op1_faddr0 rfl rfl ?_; refine wpD_cons ?_; refine op1_load rfl rfl (by exact S.g0 hS) rfl ?_; refine zd1 ?_; refine zd1 ?_; refine wpD_cons ?_
  obtain ⟨_, hr0, _⟩ := hd H (S.drop (S.drop (S.drop (S.drop hS))))
  have hlc := hr0.le_cap
  refine op1_sliceRC rfl rfl hr0 (bnds_hi (by omega) (by omega)) (by omega) (by simp only [Int.toNat_natCast]; omega) ?_
  simp only [Int.toNat_natCast, Nat.zero_mul, List.drop_zero, Nat.sub_zero, Nat.mul_one]
  intro a9 c9 hd9 hck9
  rw [u8s_take] at hd9
  have hpl : (d.take n).length = n := by simp only [List.length_take]; omega
  refine wpD_cons ?_
  refine op1_appRS rfl rfl (by (conv => lhs; whnf) <;> rfl) rfl hd9 (by simp; omega) (u8s_one _) (S.up1 hS) (by omega) ?_
  rw [← u8s_append]
  intro ab2 cb2 H2 hS
  replace hS := S.dn1 hS
  refine wpD_cons ?_; refine op1_nilchk rfl rfl ?_; refine wpD_cons ?_; refine op1_faddr0 rfl rfl ?_; refine wpD_cons ?_; (refine op1_store1S rfl rfl (by (conv => lhs; whnf) <;> rfl) rfl rfl (S.up0 hS) rfl ?_; intro H1 hS; replace hS := S.dn0 hS); refine wpD_nil ?_; refine dk_of ?_ ?_; (iterate 4 refine chk_skip ?_); refine chk_cons 8 rfl rfl rfl ?_ ?_; refine chkFs_cons 4 rfl rfl ?_ ?_; exact chk_load rfl (by exact S.g0 (by assumption)) rfl rfl; exact chkFs_nil; (iterate 2 refine chk_skip ?_); refine chk_cons 5 rfl rfl rfl ?_ ?_; refine chkFs_cons 4 rfl rfl ?_ ?_
  · exact hck9 _ _ (fun _ _ => rfl) rfl
  exact chkFs_nil; (iterate 4 refine chk_skip ?_); exact chk_end; refine seq_normal ?_
  rw [hpq] at hop ⊢
  have hln : s.buf.length + n = (s.buf ++ d.take n).length := by rw [List.length_append, hpl]
  rw [hln] at hS
  refine wp_seq ?_
  refine wp_cut [90] (fun vs H' => vs = [.bool (decide (n = d.length ∨ w = false))] ∧ H1 = H') ?_ ?_
  · clear hck9 hd9 hr0 hop hpq hln hpl hC
    refine wp_region ?_; refine zw1 ?_; refine zw1 ?_; refine wpO_cons ?_; refine op1_len rfl rfl ?_; refine wpO_cons ?_; refine op1_eqlI rfl rfl rfl ?_; refine zw1 ?_; refine wpO_cons ?_; refine op1_split rfl (fun hc0 => ?_) (fun hc0 => ?_); (focus (refine op1_skip rfl ?_; refine wpO_cons ?_; refine op1_skip rfl ?_; refine wpO_cons ?_; refine op1_pick_t rfl rfl (by (conv => lhs; whnf) <;> rfl) ?_; refine wpO_nil ?_; refine cut1 (by (conv => lhs; whnf) <;> rfl) ?_; (exact ⟨bool_leaf (by simp_all <;> omega), rfl⟩))); (focus (refine op1_mov rfl (by (conv => lhs; whnf) <;> rfl) ?_; refine wpO_cons ?_; refine op1_not rfl rfl ?_; refine wpO_cons ?_; refine op1_pick_f rfl rfl (by (conv => lhs; whnf) <;> rfl) ?_; refine wpO_nil ?_; refine cut1 (by (conv => lhs; whnf) <;> rfl) ?_; (exact ⟨bool_leaf (by simp_all <;> omega), rfl⟩)))
  rintro vs5 T5 H7 ⟨rfl, rfl⟩
  refine wp_dec rfl (fun h12 => ?_) (fun h12 => ?_)
  · rw [if_pos h12]
    refine zsr ?_; refine zw1 ?_; refine zw1 ?_; refine wpO_cons ?_; refine op1_call1 rfl (by (conv => lhs; whnf) <;> rfl) ?_
    refine wpF_mono (L69 (closeQ (s := { s with buf := s.buf ++ d.take n }) hS) hop) ?_
    rintro ve H8 hS
    (iterate 4 refine zw1 ?_); refine zns ?_; refine wp_ret ?_; refine seq_ret ?_; refine ret_of ?_; refine rk_tmp (by (conv => lhs; whnf) <;> rfl) ?_; refine rk_tmp (by (conv => lhs; whnf) <;> rfl) ?_; refine rk_tmp (by (conv => lhs; whnf) <;> rfl) ?_; refine rk_tmp (by (conv => lhs; whnf) <;> rfl) ?_; refine rk_nil ?_
    exact ⟨_, rfl, hS⟩
  rw [if_neg h12]
  obtain ⟨css, hcss, hcl, hS⟩ := S.unarr (S.up3 hS)
  replace hS := S.dn4 (S.dn4 hS)
  refine wp_skip ?_; refine seq_normal ?_; refine wp_seq ?_; refine wp_regionD ?_; refine zd1 ?_; refine zd1 ?_; refine wpD_cons ?_; refine op1_nilchk rfl rfl ?_; refine wpD_cons ?_; refine op1_faddr0 rfl rfl ?_; refine wpD_cons ?_; refine op1_load rfl rfl (by exact S.g0 hS) rfl ?_; refine zd1 ?_; refine wpD_cons ?_; refine op1_bsliceS rfl hS ?_; refine bk_nil ?_; intro p1 H3 hS; refine zd1 ?_; refine zd1 ?_; refine wpD_cons ?_
  replace hS := S.slNew (l := 0) (es := 1) hS rfl
  obtain ⟨_, hr2, _⟩ := hd _ (S.drop (S.drop (S.drop (S.drop (S.drop (S.drop hS))))))
  refine op1_appRS rfl rfl (by (conv => lhs; whnf) <;> rfl) rfl hr2 (by simp) (u8s_one _) hS (by omega) ?_
  rw [List.nil_append, Nat.zero_add]
  intro a5 c5 H4 hS
  refine wpD_cons ?_; refine op1_build rfl ?_; refine bk_one (by (conv => lhs; whnf) <;> rfl) rfl rfl rfl ?_; refine bk_one (by (conv => lhs; whnf) <;> rfl) rfl rfl rfl ?_; refine bk_one (by (conv => lhs; whnf) <;> rfl) rfl rfl rfl ?_; refine bk_nil ?_; refine wpD_cons ?_; refine op1_bsliceS rfl hS ?_; refine bk_agg rfl rfl rfl rfl ?_; refine bk_nil ?_; intro p2 H5 hS; refine wpD_cons ?_; (refine op1_appBS rfl rfl (by (conv => lhs; whnf) <;> rfl) rfl (S.g0 hS) rfl rfl (S.up5 hS) (by omega) ?_; intro a1 c1 H6 hS; replace hS := S.dn5 hS; replace hS := S.drop hS); refine wpD_cons ?_; refine op1_nilchk rfl rfl ?_; refine wpD_cons ?_; refine op1_faddr0 rfl rfl ?_; refine wpD_cons ?_; (refine op1_store1S rfl rfl (by (conv => lhs; whnf) <;> rfl) rfl rfl (S.up1 hS) rfl ?_; intro H7 hS; replace hS := S.dn1 hS); refine wpD_nil ?_; refine dk_of ?_ ?_; (iterate 4 refine chk_skip ?_); refine chk_cons 12 rfl rfl rfl ?_ ?_; refine chkFs_cons 7 rfl rfl ?_ ?_; exact chk_load rfl (by exact S.g1 (by assumption)) rfl rfl; refine chkFs_cons 4 rfl rfl ?_ ?_; exact chk_load rfl (by exact S.g2 (by assumption)) rfl rfl; exact chkFs_nil; (iterate 11 refine chk_skip ?_); exact chk_end; refine seq_normal ?_; refine wp_seq ?_; refine zsr ?_; refine zw1 ?_; refine wpO_cons ?_; refine op1_eqlI rfl rfl rfl ?_; refine zns ?_
  have h13 := S.up4 (S.many_snoc (S.up1 (S.up5 (wrA_of (w := ⟨t, d, n⟩) hS))))
  rw [← flatten_snoc] at h13
  have h14 := S.dn3 (S.arrI h13 (fun c hc => by
    simp only [List.mem_append, List.mem_singleton] at hc
    rcases hc with hc | rfl
    · exact hcss c hc
    · rfl))
  have hS := closeQ (s := ({ s with buf := s.buf ++ d.take n } : PP).queue ⟨t, d, n⟩) h14
  have hwait : w = true := by cases w <;> simp at h12 ⊢
  refine wp_dec rfl (fun h15 => ?_) (fun h15 => ?_)
  · rw [if_pos (by omega)]
    refine zsr ?_; (iterate 4 refine zw1 ?_); refine zns ?_; refine wp_ret ?_; refine seq_ret ?_; refine ret_of ?_; refine rk_tmp (by (conv => lhs; whnf) <;> rfl) ?_; refine rk_tmp (by (conv => lhs; whnf) <;> rfl) ?_; refine rk_tmp (by (conv => lhs; whnf) <;> rfl) ?_; refine rk_tmp (by (conv => lhs; whnf) <;> rfl) ?_; refine rk_nil ?_
    exact ⟨_, rfl, S.arrNil hS⟩
  · rw [if_neg (by omega)]
    refine wp_skip ?_; refine seq_normal ?_; refine zsr ?_; refine zw1 ?_; refine wpO_cons ?_; refine op1_call1 rfl (by (conv => lhs; whnf) <;> rfl) ?_
    refine wpF_mono (L69 hS (okQueue hop (by show s.writers.length < 64; rw [hwait] at h11; simp at h11; omega) ⟨by show n < d.length; omega, by show d.length ≤ 4096; omega⟩)) ?_
    rintro ve H8 hS
    (iterate 4 refine zw1 ?_); refine zns ?_; refine wp_ret ?_; refine ret_of ?_; refine rk_tmp (by (conv => lhs; whnf) <;> rfl) ?_; refine rk_tmp (by (conv => lhs; whnf) <;> rfl) ?_; refine rk_tmp (by (conv => lhs; whnf) <;> rfl) ?_; refine rk_tmp (by (conv => lhs; whnf) <;> rfl) ?_; refine rk_nil ?_
    exact ⟨_, rfl, hS⟩
end Go.E.Pi
