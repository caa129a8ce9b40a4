/- PipeKeeps, as the evaluator runs it: true, for any sizes and acts. -/
import Derived.Test.YtgmmkajjigmjoaaPiActs
import Derived.Test.YtgmmkajjigmjoaaPiW
namespace Go.E.Pi
open Go Go.E Go.Proofs.Ytgmmkajjigmjoaa Go.Proofs
set_option linter.unusedVariables false
set_option linter.unusedSimpArgs false
set_option maxRecDepth 100000

def PP.opn (c : Nat) (a : Int) (i : Nat) : PP := ⟨c, a, [], i, i, [], []⟩
theorem okOpn {c : Nat} {a : Int} (hc : 1 ≤ c ∧ c ≤ 4096) (ha : 1 ≤ a ∧ a ≤ c) {i : Nat} (hi : i ≤ 2) : Ok (PP.opn c a i) :=
  ⟨hc, ha, by simp [PP.opn]; omega, by simp [PP.opn]; omega, by simp [PP.opn], by simp [PP.opn], by simp [PP.opn], by simp [PP.opn], by simp [PP.opn]⟩
theorem L8 {B H : AHeap} {As : List Asn} (hS : S B H As) {c : Nat} {a : Int} (hc : 1 ≤ c ∧ c ≤ 4096) (ha : 1 ≤ a ∧ a ≤ c) :
    wpF C 8 [.int .i64 c, .int .i64 a] H fun v H' => ∃ p, v = .pointer (some ⟨p, 0, none⟩) ∧ S B H' (repP p (PP.opn c a 2) :: As) := by
  refine wpF_ofW o8 rfl rfl ?_
  refine wp_seq ?_; refine wp_region ?_; refine wpO_cons ?_; refine op1_mov rfl (by (conv => lhs; whnf) <;> rfl) ?_; refine wpO_nil ?_; refine seq_normal ?_; refine wp_seq ?_; refine wp_region ?_; refine wpO_cons ?_; refine op1_mov rfl (by (conv => lhs; whnf) <;> rfl) ?_; refine wpO_cons ?_; refine op1_mov rfl (by (conv => lhs; whnf) <;> rfl) ?_; refine wpO_cons ?_; refine op1_call2 rfl (by (conv => lhs; whnf) <;> rfl) (by (conv => lhs; whnf) <;> rfl) ?_
  refine wpF_mono (L25 hS hc ha) ?_
  rintro _ H1 ⟨p, rfl, hS⟩
  refine wpO_cons ?_; refine op1_mov rfl (by (conv => lhs; whnf) <;> rfl) ?_; refine wpO_cons ?_; refine op1_extract rfl rfl rfl ?_; refine wpO_cons ?_; refine op1_extract rfl rfl rfl ?_; refine wpO_cons ?_; refine op1_mov rfl (by (conv => lhs; whnf) <;> rfl) ?_; refine wpO_cons ?_; refine op1_mov rfl (by (conv => lhs; whnf) <;> rfl) ?_; refine wpO_nil ?_; refine seq_normal ?_; refine wp_seq ?_; refine wp_seq ?_; refine wp_region ?_; refine wpO_cons ?_; refine op1_mov rfl (by (conv => lhs; whnf) <;> rfl) ?_; refine wpO_cons ?_; refine op1_neqI_s rfl rfl rfl ?_; refine wpO_nil ?_; refine seq_normal ?_; refine wp_false rfl ?_; refine wp_skip ?_; refine seq_normal ?_; refine wp_seq ?_; refine wp_seq ?_; refine wp_region ?_; refine wpO_cons ?_; refine op1_mov rfl (by (conv => lhs; whnf) <;> rfl) ?_; refine wpO_nil ?_; refine seq_normal ?_; refine wp_block ?_
  refine wp_loop [15] (fun k vs H' => ∃ i : Nat, vs = [.int .i64 i] ∧ i + k = 2 ∧ S B H' (repP p (PP.opn c a i) :: As)) ⟨2, 0, rfl, rfl, hS⟩ ?_
  clear hS
  rintro k vs T' H2 ⟨i, rfl, hk, hS⟩
  refine wp_seq ?_; refine wp_region ?_; refine wpO_cons ?_; refine op1_lss rfl rfl rfl ?_; refine wpO_nil ?_; refine seq_normal ?_; refine wp_seq ?_
  refine wp_dec rfl (fun h => ?_) (fun h => ?_)
  · refine wp_skip ?_; refine seq_normal ?_; refine wp_seq ?_; refine wp_block ?_; refine wp_seq ?_; refine wp_region ?_; refine wpO_cons ?_; refine op1_mov rfl (by (conv => lhs; whnf) <;> rfl) ?_; refine wpO_cons ?_; refine op1_call1 rfl (by (conv => lhs; whnf) <;> rfl) ?_
    refine wpF_mono (L19 hS (okOpn hc ha (by omega))) ?_
    rintro _ H3 ⟨rfl, hS⟩
    have e1 : (PP.opn c a i).openR.2 = { PP.opn c a i with o0 := (i : Int) + 1 } := by unfold PP.openR; rw [if_neg (by show ¬ 64 ≤ (i : Int); omega)]; rfl
    rw [e1] at hS
    refine wpO_nil ?_; refine seq_normal ?_; refine wp_region ?_; refine wpO_cons ?_; refine op1_mov rfl (by (conv => lhs; whnf) <;> rfl) ?_; refine wpO_cons ?_; refine op1_call1 rfl (by (conv => lhs; whnf) <;> rfl) ?_
    have hok2 : Ok { PP.opn c a i with o0 := (i : Int) + 1 } := ⟨hc, ha, by simp only; omega, by simp [PP.opn]; omega, by simp [PP.opn], by simp [PP.opn], by simp [PP.opn], by simp [PP.opn], by simp [PP.opn]⟩
    refine wpF_mono (L20 hS hok2) ?_
    rintro _ H4 ⟨rfl, hS⟩
    have e2 : (PP.openW { PP.opn c a i with o0 := (i : Int) + 1 }).2 = PP.opn c a (i + 1) := by unfold PP.openW; rw [if_neg (by show ¬ 64 ≤ (i : Int); omega)]; rfl
    rw [e2] at hS
    refine wpO_nil ?_; refine block_normal ?_; refine seq_normal ?_; refine wp_region ?_; refine wpO_cons ?_; refine op1_add rfl rfl rfl (by exact wrap_i64 (by omega) (by omega)) ?_; refine wpO_cons ?_; refine op1_mov rfl (by (conv => lhs; whnf) <;> rfl) ?_; refine wpO_nil ?_
    exact ⟨k - 1, by omega, i + 1, rfl, by omega, hS⟩
  · obtain rfl : i = 2 := by omega
    refine wp_exit ?_; refine seq_exit ?_; refine iter_exit ?_; refine block_exit ?_; refine seq_normal ?_; refine wp_seq ?_; refine wp_region ?_; refine wpO_cons ?_; refine op1_mov rfl (by (conv => lhs; whnf) <;> rfl) ?_; refine wpO_cons ?_; refine op1_mov rfl (by (conv => lhs; whnf) <;> rfl) ?_; refine wpO_nil ?_; refine seq_normal ?_; refine wp_ret ?_; refine ret_of ?_; refine rk_tmp (by (conv => lhs; whnf) <;> rfl) ?_; refine rk_nil ?_
    exact ⟨_, rfl, hS⟩

structure KInv (s : PP) : Prop where
  ok : Ok s
  rs : s.readers = []
  ws : s.writers = []
  o0 : s.o0 = 2
  o1 : s.o1 = 2
theorem KInv.prog {s : PP} (h : KInv s) : prog s [] = ([], s) := by
  refine prog_none ?_
  unfold stepI
  rw [h.ws]
  unfold stepR
  rw [h.rs]
theorem KInv.blk {s : PP} (h : KInv s) (t : Int) : s.blocked t = false := by
  unfold PP.blocked
  rw [h.rs, h.ws]
  rfl
theorem KInv.put {s : PP} (h : KInv s) (d : List Int) : KInv (s.put d) := ⟨okPut h.ok d, h.rs, h.ws, h.o0, h.o1⟩
theorem KInv.take {s : PP} (h : KInv s) (n : Int) : KInv (s.rdTake n) := ⟨okTake h.ok n, h.rs, h.ws, h.o0, h.o1⟩
theorem KInv.write {s : PP} (h : KInv s) (d : List Int) : (s.write 1 d false).is = false ∧ (s.write 1 d false).ends = [] ∧ KInv (s.write 1 d false).s ∧
    ∃ k : Nat, (s.write 1 d false).n = k ∧ k ≤ d.length ∧ (s.write 1 d false).s.buf = s.buf ++ d.take k ∧ ((s.write 1 d false).err ≠ 0 → k = 0) := by
  have e1 : ¬ ((1 : Int) < 0 ∨ (256 : Int) ≤ 1) := by omega
  have hw0 : s.writers.length = 0 := by rw [h.ws]; rfl
  unfold PP.write
  rw [if_neg e1]
  by_cases h2 : 4096 < d.length
  · rw [if_pos h2]
    exact ⟨rfl, rfl, h, 0, rfl, by omega, by simp, fun _ => rfl⟩
  rw [if_neg h2, if_neg (by rw [h.o1]; omega), if_neg (by rw [h.blk]; simp), if_neg (by rw [h.o0]; omega)]
  by_cases h3 : d.length = 0
  · rw [if_pos h3]
    exact ⟨rfl, rfl, h, 0, rfl, by omega, by simp, fun _ => rfl⟩
  rw [if_neg h3]
  by_cases hcan : s.can d = false ∧ false = false
  · rw [if_pos hcan]
    exact ⟨rfl, rfl, h, 0, rfl, by omega, by simp, fun _ => rfl⟩
  rw [if_neg hcan]
  have hc : s.can d = true := by simpa using hcan
  rw [if_neg (fun h => by omega), if_neg (by rw [hc]; simp), if_neg (by simp), (h.put d).prog]
  exact ⟨rfl, rfl, h.put d, _, rfl, by omega, rfl, fun h => absurd rfl h⟩
theorem KInv.read {s : PP} (h : KInv s) (n : Int) : (s.read 2 n false).is = false ∧ (s.read 2 n false).ends = [] ∧ KInv (s.read 2 n false).s ∧ s.buf = (s.read 2 n false).data ++ (s.read 2 n false).s.buf ∧
    ((s.read 2 n false).err ≠ 0 → (s.read 2 n false).data = []) ∧ (n = 4096 → 0 < s.buf.length → (s.read 2 n false).err = 0 ∧ 0 < (s.read 2 n false).data.length) := by
  unfold PP.read
  split
  · exact ⟨rfl, rfl, h, by simp, fun _ => rfl, fun h => by subst h; omega⟩
  rw [if_neg (by rw [h.o0]; omega), if_neg (by rw [h.blk]; simp)]
  split
  · exact ⟨rfl, rfl, h, by simp, fun _ => rfl, fun h => by subst h; omega⟩
  split
  · rw [(h.take n).prog]
    refine ⟨rfl, rfl, h.take n, ?_, fun h => absurd rfl h, fun he hb => ⟨rfl, ?_⟩⟩
    · show s.buf = s.buf.take _ ++ s.buf.drop _
      rw [List.take_append_drop]
    · subst he
      simp only [List.length_take]
      omega
  rename_i hz
  rw [if_neg (by rw [h.o1]; omega), if_pos rfl]
  exact ⟨rfl, rfl, h, by simp, fun _ => rfl, fun _ hb => absurd ⟨by rw [h.rs]; rfl, hb⟩ hz⟩

theorem L3 {B : AHeap} {x y : Int} (hx : 0 ≤ x ∧ x ≤ 255) (hy : 0 ≤ y ∧ y ≤ 255) {a : Option Addr} {c : Nat} {xs : List ActM} (hcx : xs.length ≤ c) (hA : Acts B a c xs) : wpF C 3 [.int .u8 x, .int .u8 y, .slice a xs.length c] B fun v _ => v = .bool true := by
  have hS := S.start B
  refine wpF_ofW o3 rfl rfl ?_
  have hm1 : 0 ≤ y.tmod (1 + x) ∧ y.tmod (1 + x) < 1 + x := by
    rw [Int.tmod_eq_emod_of_nonneg hy.1]
    exact ⟨Int.emod_nonneg _ (by omega), Int.emod_lt_of_pos _ (by omega)⟩
  obtain ⟨cp, hcp⟩ : ∃ cp : Nat, 1 + x = cp := ⟨(1 + x).toNat, by omega⟩
  refine wp_seq ?_; refine wp_region ?_; refine wpO_cons ?_; refine op1_mov rfl (by (conv => lhs; whnf) <;> rfl) ?_; refine wpO_nil ?_; refine seq_normal ?_; refine wp_seq ?_; refine wp_region ?_; refine wpO_cons ?_; refine op1_mov rfl (by (conv => lhs; whnf) <;> rfl) ?_; refine wpO_cons ?_; refine op1_convInt rfl rfl (by exact wrap_i64 (by omega) (by omega)) ?_; refine wpO_cons ?_; refine op1_add rfl rfl rfl (by exact wrap_i64 (by omega) (by omega)) ?_; refine wpO_cons ?_; refine op1_mov rfl (by (conv => lhs; whnf) <;> rfl) ?_; refine wpO_cons ?_; refine op1_convInt rfl rfl (by exact wrap_i64 (by omega) (by omega)) ?_; refine wpO_cons ?_; refine op1_mov rfl (by (conv => lhs; whnf) <;> rfl) ?_; refine wpO_cons ?_; refine op1_convInt rfl rfl (by exact wrap_i64 (by omega) (by omega)) ?_; refine wpO_cons ?_; refine op1_add rfl rfl rfl (by exact wrap_i64 (by omega) (by omega)) ?_; refine wpO_cons ?_; refine op1_rem rfl rfl rfl (by omega) ?_; refine wpO_cons ?_; refine op1_add rfl rfl rfl (by exact wrap_i64 (by omega) (by omega)) ?_; refine wpO_cons ?_; refine op1_call2 rfl (by (conv => lhs; whnf) <;> rfl) (by (conv => lhs; whnf) <;> rfl) ?_
  generalize y.tmod (1 + x) = ym at *
  rw [hcp] at hm1 ⊢
  skip
  refine wpF_mono (L8 hS (c := cp) (a := 1 + ym) (by omega) (by omega)) ?_
  rintro _ H1 ⟨p, rfl, hS⟩
  refine wpO_cons ?_; refine op1_mov rfl (by (conv => lhs; whnf) <;> rfl) ?_; refine wpO_nil ?_; refine seq_normal ?_; refine wp_seq ?_; refine wp_seq ?_; refine wp_region ?_; refine wpO_cons ?_; refine op1_mov rfl (by (conv => lhs; whnf) <;> rfl) ?_; refine wpO_cons ?_; refine op1_len rfl rfl ?_; refine wpO_cons ?_; refine op1_gtr rfl rfl rfl ?_; refine wpO_cons ?_; refine op1_mov rfl (by (conv => lhs; whnf) <;> rfl) ?_; refine wpO_cons ?_
  refine op1_dec rfl (fun h60 => ?_) (fun h60 => ?_)
  · refine op1_skip rfl ?_; refine wpO_cons ?_; refine op1_skip rfl ?_; refine wpO_cons ?_; refine op1_skip rfl ?_; refine wpO_cons ?_; refine op1_skip rfl ?_; refine wpO_cons ?_; refine op1_skip rfl ?_; refine wpO_cons ?_; refine op1_skip rfl ?_; refine wpO_cons ?_; refine op1_skip rfl ?_; refine wpO_cons ?_; refine op1_pick_t rfl rfl (by (conv => lhs; whnf) <;> rfl) ?_; refine wpO_cons ?_; refine op1_mov rfl (by (conv => lhs; whnf) <;> rfl) ?_; refine wpO_cons ?_; refine op1_skip rfl ?_; refine wpO_cons ?_; refine op1_skip rfl ?_; refine wpO_cons ?_; refine op1_pick_t rfl rfl (by (conv => lhs; whnf) <;> rfl) ?_; refine wpO_cons ?_; refine op1_mov rfl (by (conv => lhs; whnf) <;> rfl) ?_; refine wpO_cons ?_; refine op1_skip rfl ?_; refine wpO_cons ?_; refine op1_skip rfl ?_; refine wpO_cons ?_; refine op1_pick_t rfl rfl (by (conv => lhs; whnf) <;> rfl) ?_; refine wpO_nil ?_; refine seq_normal ?_; refine wp_true rfl ?_; refine wp_seq ?_; refine wp_region ?_; refine wpO_cons ?_; refine op1_call0 rfl  ?_; refine wpF_known rfl (globAll _) ?_; refine wpO_cons ?_; refine op1_mov rfl (by (conv => lhs; whnf) <;> rfl) ?_; refine wpO_cons ?_; refine op1_mov rfl (by (conv => lhs; whnf) <;> rfl) ?_; refine wpO_cons ?_; refine op1_bin_true rfl (by (conv => lhs; whnf) <;> rfl) (by (conv => lhs; whnf) <;> rfl) rfl ?_; refine wpO_cons ?_; refine op1_pick_t rfl rfl (by (conv => lhs; whnf) <;> rfl) ?_; refine wpO_cons ?_; refine op1_mov rfl (by (conv => lhs; whnf) <;> rfl) ?_; refine wpO_nil ?_; refine seq_normal ?_; refine wp_ret ?_; refine seq_ret ?_; refine ret_of ?_; refine rk_tmp (by (conv => lhs; whnf) <;> rfl) ?_; refine rk_nil ?_
    rfl
  have h60 : xs.length ≤ 60 := by omega
  obtain ⟨m, hm⟩ : ∃ m : Nat, min (xs.length : Int) 50 = m := ⟨(min (xs.length : Int) 50).toNat, by omega⟩
  refine op1_mov rfl (by (conv => lhs; whnf) <;> rfl) ?_; refine wpO_cons ?_; refine op1_mov rfl (by (conv => lhs; whnf) <;> rfl) ?_; refine wpO_cons ?_; refine op1_len rfl rfl ?_; refine wpO_cons ?_; refine op1_min rfl rfl rfl ?_; refine wpO_cons ?_
  rw [hm]
  refine op1_actsCut rfl rfl hA hS (bnds_hi (by omega) (by omega)) (by simp only [Int.toNat_natCast]; omega) ?_
  intro c2 hA2 hl2
  refine wpO_cons ?_; refine op1_call1 rfl (by (conv => lhs; whnf) <;> rfl) ?_
  refine wpF_mono (L9 hS hA2) ?_
  rintro _ H2 ⟨⟨b, rfl, hfew⟩, hS⟩
  refine wpO_cons ?_; refine op1_not rfl rfl ?_; refine wpO_cons ?_; refine op1_pick_f rfl rfl (by (conv => lhs; whnf) <;> rfl) ?_; refine wpO_cons ?_; refine op1_mov rfl (by (conv => lhs; whnf) <;> rfl) ?_; refine wpO_cons ?_
  cases b
  · refine op1_skip rfl ?_; refine wpO_cons ?_; refine op1_skip rfl ?_; refine wpO_cons ?_; refine op1_pick_t rfl rfl (by (conv => lhs; whnf) <;> rfl) ?_; refine wpO_cons ?_; refine op1_mov rfl (by (conv => lhs; whnf) <;> rfl) ?_; refine wpO_cons ?_; refine op1_skip rfl ?_; refine wpO_cons ?_; refine op1_skip rfl ?_; refine wpO_cons ?_; refine op1_pick_t rfl rfl (by (conv => lhs; whnf) <;> rfl) ?_; refine wpO_nil ?_; refine seq_normal ?_; refine wp_true rfl ?_; refine wp_seq ?_; refine wp_region ?_; refine wpO_cons ?_; refine op1_call0 rfl  ?_; refine wpF_known rfl (globAll _) ?_; refine wpO_cons ?_; refine op1_mov rfl (by (conv => lhs; whnf) <;> rfl) ?_; refine wpO_cons ?_; refine op1_mov rfl (by (conv => lhs; whnf) <;> rfl) ?_; refine wpO_cons ?_; refine op1_bin_true rfl (by (conv => lhs; whnf) <;> rfl) (by (conv => lhs; whnf) <;> rfl) rfl ?_; refine wpO_cons ?_; refine op1_pick_t rfl rfl (by (conv => lhs; whnf) <;> rfl) ?_; refine wpO_cons ?_; refine op1_mov rfl (by (conv => lhs; whnf) <;> rfl) ?_; refine wpO_nil ?_; refine seq_normal ?_; refine wp_ret ?_; refine seq_ret ?_; refine ret_of ?_; refine rk_tmp (by (conv => lhs; whnf) <;> rfl) ?_; refine rk_nil ?_
    rfl
  have hfew := hfew.1 rfl
  refine op1_call0 rfl  ?_; refine wpF_known rfl (globAll _) ?_; refine wpO_cons ?_; refine op1_not_t rfl rfl ?_; refine wpO_cons ?_; refine op1_pick_f rfl rfl (by (conv => lhs; whnf) <;> rfl) ?_; refine wpO_cons ?_; refine op1_mov rfl (by (conv => lhs; whnf) <;> rfl) ?_; refine wpO_cons ?_; refine op1_mov rfl (by (conv => lhs; whnf) <;> rfl) ?_; refine wpO_cons ?_; refine op1_bin_false rfl (by (conv => lhs; whnf) <;> rfl) (by (conv => lhs; whnf) <;> rfl) rfl ?_; refine wpO_cons ?_; refine op1_pick_f rfl rfl (by (conv => lhs; whnf) <;> rfl) ?_; refine wpO_nil ?_; refine seq_normal ?_; refine wp_false rfl ?_; refine wp_skip ?_; refine seq_normal ?_; refine wp_seq ?_; refine wp_region ?_; refine wpO_cons ?_; refine op1_mov rfl (by (conv => lhs; whnf) <;> rfl) ?_; refine wpO_cons ?_; refine op1_mov rfl (by (conv => lhs; whnf) <;> rfl) ?_; refine wpO_nil ?_; refine seq_normal ?_; refine wp_seq ?_; refine wp_seq ?_; refine wp_region ?_; refine wpO_cons ?_; refine op1_mov rfl (by (conv => lhs; whnf) <;> rfl) ?_; refine wpO_cons ?_; refine op1_len rfl rfl ?_; refine wpO_cons ?_; refine op1_mov rfl (by (conv => lhs; whnf) <;> rfl) ?_; refine wpO_nil ?_; refine seq_normal ?_; refine wp_block ?_
  refine wp_loop [62, 8, 9] (fun k vs H' => ∃ (i : Nat) (vr vw : Value) (rd wr : List Int) (s : PP), vs = [.int .i64 i, vr, vw] ∧ i + k = xs.length ∧ KInv s ∧ rd ++ s.buf = wr ∧ wr.length ≤ 5000 * i ∧ S B H' (sl 1 vr (u8s rd) :: sl 1 vw (u8s wr) :: repP p s :: []))
    ⟨xs.length, 0, .slice none 0 0, .slice none 0 0, [], [], PP.opn cp (1 + ym) 2, rfl, by omega, ⟨okOpn (by omega) (by omega) (by omega), rfl, rfl, rfl, rfl⟩, rfl, by simp, S.slNil (S.slNil hS)⟩ ?_
  clear hS
  rintro k vs T' H3 ⟨i, vr, vw, rd, wr, s, rfl, hk, hI, hrw, hwl, hS⟩
  have hrl : rd.length ≤ wr.length := by rw [← hrw]; simp
  obtain ⟨ar, cr, rfl⟩ := hS.u1
  obtain ⟨aw, cw, rfl⟩ := (S.up1 hS).u1
  refine wp_seq ?_; refine wp_region ?_; refine wpO_cons ?_; refine op1_lss rfl rfl rfl ?_; refine wpO_nil ?_; refine seq_normal ?_; refine wp_seq ?_
  refine wp_dec rfl (fun hlt => ?_) (fun hlt => ?_)
  · obtain ⟨x, hx⟩ : ∃ x, xs[i]? = some x := ⟨xs[i]'(by omega), by simp⟩
    obtain ⟨b, o, cs, rfl, hg, hb, hle, hat⟩ := hA.at_ i x hx
    have hg1 := (hS.base b hb).trans hg
    have hxo := hA.ok x (List.mem_of_getElem? hx)
    refine wp_skip ?_; refine seq_normal ?_; refine wp_seq ?_; refine wp_block ?_; refine wp_seq ?_; refine wp_region ?_; refine wpO_cons ?_; refine op1_mov rfl (by (conv => lhs; whnf) <;> rfl) ?_; refine wpO_cons ?_; refine op1_iaddr rfl rfl rfl (by omega) (by omega) ?_; refine wpO_cons ?_
    refine op1_loadN rfl rfl hg1 hle hat ?_
    unfold ActM.cells
    refine wpO_cons ?_; refine op1_allocS rfl hS ?_; intro p1 H4 hS; refine wpO_cons ?_; refine op1_mov rfl (by (conv => lhs; whnf) <;> rfl) ?_; refine wpO_cons ?_; (refine op1_storeNS rfl rfl (by (conv => lhs; whnf) <;> rfl) rfl rfl (S.up0 hS) (Nat.le_of_ble_eq_true rfl) ?_; intro H5 hS; replace hS := S.dn0 hS); refine wpO_nil ?_; refine seq_normal ?_; refine wp_seq ?_; refine wp_seq ?_; refine wp_region ?_; refine wpO_cons ?_; refine op1_faddr0 rfl rfl ?_; refine wpO_cons ?_; refine op1_load rfl rfl (by exact S.g0 hS) rfl ?_; refine wpO_cons ?_; refine op1_len rfl rfl ?_; refine wpO_cons ?_; refine op1_gtr rfl rfl rfl ?_; refine wpO_nil ?_; refine seq_normal ?_
    refine wp_dec rfl (fun hbig => ?_) (fun hbig => ?_)
    · refine wp_exit ?_; refine seq_exit ?_; refine block_exit ?_; refine seq_normal ?_; refine wp_region ?_; refine wpO_cons ?_; refine op1_add rfl rfl rfl (by exact wrap_i64 (by omega) (by omega)) ?_; refine wpO_cons ?_; refine op1_mov rfl (by (conv => lhs; whnf) <;> rfl) ?_; refine wpO_nil ?_
      exact ⟨k - 1, by omega, i + 1, _, _, rd, wr, s, rfl, by omega, hI, hrw, by omega, S.drop hS⟩
    refine wp_skip ?_; refine seq_normal ?_; refine wp_seq ?_; refine wp_seq ?_; refine wp_region ?_; refine wpO_cons ?_; refine op1_mov rfl (by (conv => lhs; whnf) <;> rfl) ?_; refine wpO_cons ?_; refine op1_rem rfl rfl rfl (by omega) ?_; refine wpO_cons ?_; refine op1_eqlI rfl rfl rfl ?_; refine wpO_nil ?_; refine seq_normal ?_
    refine wp_dec rfl (fun hev => ?_) (fun hev => ?_)
    · refine wp_seq ?_; refine wp_region ?_; refine wpO_cons ?_; refine op1_mov rfl (by (conv => lhs; whnf) <;> rfl) ?_; refine wpO_cons ?_; refine op1_faddr0 rfl rfl ?_; refine wpO_cons ?_; refine op1_load rfl rfl (by exact S.g0 hS) rfl ?_; refine wpO_cons ?_; refine op1_call4 rfl (by (conv => lhs; whnf) <;> rfl) (by (conv => lhs; whnf) <;> rfl) (by (conv => lhs; whnf) <;> rfl) (by (conv => lhs; whnf) <;> rfl) ?_
      refine wpF_mono (L11 (RD.base hxo.d hxo.lo) (S.up3 hS) hI.ok (by omega)) ?_
      obtain ⟨q1, q2, q3, kk, q4, q5, q6, q7⟩ := hI.write x.l
      rw [q1, q2, q4]
      generalize (s.write 1 x.l false).s = s2 at *
      generalize (s.write 1 x.l false).err = e2 at *
      rintro _ H4 ⟨ve, rfl, hS⟩
      obtain ⟨ae, ce, rfl, _⟩ := S.arrShape hS (by omega)
      replace hS := S.drop hS
      refine wpO_cons ?_; refine op1_mov rfl (by (conv => lhs; whnf) <;> rfl) ?_; refine wpO_cons ?_; refine op1_extract rfl rfl rfl ?_; refine wpO_cons ?_; refine op1_extract rfl rfl rfl ?_; refine wpO_cons ?_; refine op1_extract rfl rfl rfl ?_; refine wpO_cons ?_; refine op1_extract rfl rfl rfl ?_; refine wpO_cons ?_; refine op1_mov rfl (by (conv => lhs; whnf) <;> rfl) ?_; refine wpO_cons ?_; refine op1_mov rfl (by (conv => lhs; whnf) <;> rfl) ?_; refine wpO_cons ?_; refine op1_mov rfl (by (conv => lhs; whnf) <;> rfl) ?_; refine wpO_cons ?_; refine op1_mov rfl (by (conv => lhs; whnf) <;> rfl) ?_; refine wpO_nil ?_; refine seq_normal ?_; refine wp_seq ?_; refine wp_seq ?_; refine wp_region ?_; refine wpO_cons ?_; refine op1_mov rfl (by (conv => lhs; whnf) <;> rfl) ?_; refine wpO_cons ?_; refine op1_mov rfl (by (conv => lhs; whnf) <;> rfl) ?_; refine wpO_cons ?_; refine op1_mov rfl (by (conv => lhs; whnf) <;> rfl) ?_; refine wpO_cons ?_; refine op1_len rfl rfl ?_; refine wpO_cons ?_; refine op1_gtr rfl rfl rfl ?_; refine wpO_cons ?_; refine op1_pick_f rfl rfl (by (conv => lhs; whnf) <;> rfl) ?_; refine wpO_cons ?_; refine op1_mov rfl (by (conv => lhs; whnf) <;> rfl) ?_; refine wpO_cons ?_; refine op1_mov rfl (by (conv => lhs; whnf) <;> rfl) ?_; refine wpO_cons ?_; refine op1_eqlI rfl rfl rfl ?_; refine wpO_cons ?_; refine op1_mov rfl (by (conv => lhs; whnf) <;> rfl) ?_; refine wpO_cons ?_
      refine op1_dec rfl (fun he => ?_) (fun he => ?_)
      · refine op1_mov rfl (by (conv => lhs; whnf) <;> rfl) ?_; refine wpO_cons ?_; refine op1_lss rfl rfl rfl ?_; refine wpO_cons ?_; refine op1_mov rfl (by (conv => lhs; whnf) <;> rfl) ?_; refine wpO_cons ?_; refine op1_mov rfl (by (conv => lhs; whnf) <;> rfl) ?_; refine wpO_cons ?_; refine op1_faddr0 rfl rfl ?_; refine wpO_cons ?_; refine op1_load rfl rfl (by exact S.g1 hS) rfl ?_; refine wpO_cons ?_; refine op1_len rfl rfl ?_; refine wpO_cons ?_; refine op1_gtr rfl rfl rfl ?_; refine wpO_cons ?_; refine op1_pick_f rfl rfl (by (conv => lhs; whnf) <;> rfl) ?_; refine wpO_cons ?_; refine op1_pick_t rfl rfl (by (conv => lhs; whnf) <;> rfl) ?_; refine wpO_cons ?_; refine op1_pick_f rfl rfl (by (conv => lhs; whnf) <;> rfl) ?_; refine wpO_cons ?_; refine op1_mov rfl (by (conv => lhs; whnf) <;> rfl) ?_; refine wpO_cons ?_
        refine op1_dec rfl (fun h0 => ?_) (fun h0 => ?_)
        · omega
        refine op1_mov rfl (by (conv => lhs; whnf) <;> rfl) ?_; refine wpO_cons ?_; refine op1_neqI rfl rfl rfl ?_; refine wpO_cons ?_; refine op1_mov rfl (by (conv => lhs; whnf) <;> rfl) ?_; refine wpO_cons ?_
        refine op1_ndec rfl (fun h1 => ?_) (fun h1 => ?_)
        · exact absurd he h1
        refine op1_skip rfl ?_; refine wpO_cons ?_; refine op1_skip rfl ?_; refine wpO_cons ?_; refine op1_pick_f rfl rfl (by (conv => lhs; whnf) <;> rfl) ?_; refine wpO_cons ?_; refine op1_pick_f rfl rfl (by (conv => lhs; whnf) <;> rfl) ?_; refine wpO_nil ?_; refine seq_normal ?_; refine wp_false rfl ?_; refine wp_skip ?_; refine seq_normal ?_; refine wp_seq ?_; refine wp_region ?_; refine wpO_cons ?_; refine op1_mov rfl (by (conv => lhs; whnf) <;> rfl) ?_; refine wpO_cons ?_; refine op1_faddr0 rfl rfl ?_; refine wpO_cons ?_; refine op1_load rfl rfl (by exact S.g1 hS) rfl ?_; refine wpO_cons ?_; refine op1_mov rfl (by (conv => lhs; whnf) <;> rfl) ?_; refine wpO_cons ?_
        refine op1_sliceR rfl rfl (hS.rdB hxo.d hxo.lo) (bnds_hi (by omega) (by have := RdS.le_cap hxo.d; omega)) (by omega) (by simp only [Int.toNat_natCast]; omega) ?_
        simp only [Int.toNat_natCast, Nat.zero_mul, List.drop_zero, Nat.sub_zero, Nat.mul_one]
        intro a5 c5 hd5
        rw [u8s_take] at hd5
        refine wpO_cons ?_
        refine op1_appRS rfl rfl (by (conv => lhs; whnf) <;> rfl) rfl hd5 (by simp; omega) (u8s_one _) (S.up3 hS) (by omega) ?_
        rw [← u8s_append]
        intro a6 c6 H6 hS
        refine wpO_cons ?_; refine op1_mov rfl (by (conv => lhs; whnf) <;> rfl) ?_; refine wpO_nil ?_; refine seq_normal ?_; refine wp_exit ?_; refine seq_exit ?_; refine block_exit ?_; refine seq_normal ?_; refine wp_region ?_; refine wpO_cons ?_; refine op1_add rfl rfl rfl (by exact wrap_i64 (by omega) (by omega)) ?_; refine wpO_cons ?_; refine op1_mov rfl (by (conv => lhs; whnf) <;> rfl) ?_; refine wpO_nil ?_
        exact ⟨k - 1, by omega, i + 1, _, _, rd, wr ++ x.l.take kk, s2, rfl, by omega, q3, by rw [q6, ← List.append_assoc, hrw], by simp only [List.length_append, List.length_take]; omega, S.up2 (S.drop (S.up2 hS))⟩
      · have hk0 := q7 he
        refine op1_skip rfl ?_; refine wpO_cons ?_; refine op1_skip rfl ?_; refine wpO_cons ?_; refine op1_skip rfl ?_; refine wpO_cons ?_; refine op1_skip rfl ?_; refine wpO_cons ?_; refine op1_skip rfl ?_; refine wpO_cons ?_; refine op1_skip rfl ?_; refine wpO_cons ?_; refine op1_skip rfl ?_; refine wpO_cons ?_; refine op1_skip rfl ?_; refine wpO_cons ?_; refine op1_skip rfl ?_; refine wpO_cons ?_; refine op1_pick_f rfl rfl (by (conv => lhs; whnf) <;> rfl) ?_; refine wpO_cons ?_; refine op1_pick_f rfl rfl (by (conv => lhs; whnf) <;> rfl) ?_; refine wpO_cons ?_; refine op1_mov rfl (by (conv => lhs; whnf) <;> rfl) ?_; refine wpO_cons ?_; refine op1_mov rfl (by (conv => lhs; whnf) <;> rfl) ?_; refine wpO_cons ?_; refine op1_neqI rfl rfl rfl ?_; refine wpO_cons ?_; refine op1_mov rfl (by (conv => lhs; whnf) <;> rfl) ?_; refine wpO_cons ?_
        refine op1_ndec rfl (fun h1 => ?_) (fun h1 => ?_)
        · refine op1_mov rfl (by (conv => lhs; whnf) <;> rfl) ?_; refine wpO_cons ?_; refine op1_neqI rfl rfl rfl ?_; refine wpO_cons ?_; refine op1_pick_t rfl rfl (by (conv => lhs; whnf) <;> rfl) ?_; refine wpO_cons ?_; refine op1_pick_f rfl rfl (by (conv => lhs; whnf) <;> rfl) ?_; refine wpO_nil ?_; refine seq_normal ?_
          refine wp_ndec rfl (fun h2 => ?_) (fun h2 => ?_)
          · exact absurd (by omega) h2
          refine wp_skip ?_; refine seq_normal ?_; refine wp_seq ?_; refine wp_region ?_; refine wpO_cons ?_; refine op1_mov rfl (by (conv => lhs; whnf) <;> rfl) ?_; refine wpO_cons ?_; refine op1_faddr0 rfl rfl ?_; refine wpO_cons ?_; refine op1_load rfl rfl (by exact S.g1 hS) rfl ?_; refine wpO_cons ?_; refine op1_mov rfl (by (conv => lhs; whnf) <;> rfl) ?_; refine wpO_cons ?_
          refine op1_sliceR rfl rfl (hS.rdB hxo.d hxo.lo) (bnds_hi (by omega) (by have := RdS.le_cap hxo.d; omega)) (by omega) (by simp only [Int.toNat_natCast]; omega) ?_
          simp only [Int.toNat_natCast, Nat.zero_mul, List.drop_zero, Nat.sub_zero, Nat.mul_one]
          intro a5 c5 hd5
          rw [u8s_take] at hd5
          refine wpO_cons ?_
          refine op1_appRS rfl rfl (by (conv => lhs; whnf) <;> rfl) rfl hd5 (by simp; omega) (u8s_one _) (S.up3 hS) (by omega) ?_
          rw [← u8s_append]
          intro a6 c6 H6 hS
          refine wpO_cons ?_; refine op1_mov rfl (by (conv => lhs; whnf) <;> rfl) ?_; refine wpO_nil ?_; refine seq_normal ?_; refine wp_exit ?_; refine seq_exit ?_; refine block_exit ?_; refine seq_normal ?_; refine wp_region ?_; refine wpO_cons ?_; refine op1_add rfl rfl rfl (by exact wrap_i64 (by omega) (by omega)) ?_; refine wpO_cons ?_; refine op1_mov rfl (by (conv => lhs; whnf) <;> rfl) ?_; refine wpO_nil ?_
          exact ⟨k - 1, by omega, i + 1, _, _, rd, wr ++ x.l.take kk, s2, rfl, by omega, q3, by rw [q6, ← List.append_assoc, hrw], by simp only [List.length_append, List.length_take]; omega, S.up2 (S.drop (S.up2 hS))⟩
        · exact absurd h1 he
    · refine wp_skip ?_; refine seq_normal ?_; refine wp_seq ?_; refine wp_region ?_; refine wpO_cons ?_; refine op1_mov rfl (by (conv => lhs; whnf) <;> rfl) ?_; refine wpO_cons ?_; refine op1_faddr0 rfl rfl ?_; refine wpO_cons ?_; refine op1_load rfl rfl (by exact S.g0 hS) rfl ?_; refine wpO_cons ?_; refine op1_call4 rfl (by (conv => lhs; whnf) <;> rfl) (by (conv => lhs; whnf) <;> rfl) (by (conv => lhs; whnf) <;> rfl) (by (conv => lhs; whnf) <;> rfl) ?_
      refine wpF_mono (L12 (S.up3 hS) hI.ok) ?_
      obtain ⟨q1, q2, q3, q4, q5, _⟩ := hI.read x.n
      rw [q1, q2]
      generalize (s.read 2 x.n false).s = s2 at *
      generalize (s.read 2 x.n false).err = e2 at *
      generalize (s.read 2 x.n false).data = d2 at *
      rintro _ H4 ⟨vd, ve, rfl, hS⟩
      obtain ⟨ae, ce, rfl, _⟩ := S.arrShape (S.up1 hS) (by omega)
      replace hS := S.drop (S.up1 hS)
      obtain ⟨ad, cd, rfl⟩ := hS.u1
      have hd2 : d2.length ≤ s.buf.length := by rw [q4]; simp
      have hb2 := hI.ok.buf
      have hc2 := hI.ok.cap
      refine wpO_cons ?_; refine op1_mov rfl (by (conv => lhs; whnf) <;> rfl) ?_; refine wpO_cons ?_; refine op1_extract rfl rfl rfl ?_; refine wpO_cons ?_; refine op1_extract rfl rfl rfl ?_; refine wpO_cons ?_; refine op1_extract rfl rfl rfl ?_; refine wpO_cons ?_; refine op1_extract rfl rfl rfl ?_; refine wpO_cons ?_; refine op1_mov rfl (by (conv => lhs; whnf) <;> rfl) ?_; refine wpO_cons ?_; refine op1_mov rfl (by (conv => lhs; whnf) <;> rfl) ?_; refine wpO_cons ?_; refine op1_mov rfl (by (conv => lhs; whnf) <;> rfl) ?_; refine wpO_cons ?_; refine op1_mov rfl (by (conv => lhs; whnf) <;> rfl) ?_; refine wpO_nil ?_; refine seq_normal ?_; refine wp_seq ?_; refine wp_seq ?_; refine wp_region ?_; refine wpO_cons ?_; refine op1_mov rfl (by (conv => lhs; whnf) <;> rfl) ?_; refine wpO_cons ?_; refine op1_mov rfl (by (conv => lhs; whnf) <;> rfl) ?_; refine wpO_cons ?_; refine op1_mov rfl (by (conv => lhs; whnf) <;> rfl) ?_; refine wpO_cons ?_; refine op1_len rfl rfl ?_; refine wpO_cons ?_; refine op1_gtr rfl rfl rfl ?_; refine wpO_cons ?_; refine op1_pick_f rfl rfl (by (conv => lhs; whnf) <;> rfl) ?_; refine wpO_cons ?_; refine op1_mov rfl (by (conv => lhs; whnf) <;> rfl) ?_; refine wpO_cons ?_; refine op1_mov rfl (by (conv => lhs; whnf) <;> rfl) ?_; refine wpO_cons ?_; refine op1_neqI rfl rfl rfl ?_; refine wpO_cons ?_; refine op1_mov rfl (by (conv => lhs; whnf) <;> rfl) ?_; refine wpO_cons ?_
      refine op1_ndec rfl (fun h1 => ?_) (fun h1 => ?_)
      · obtain rfl := q5 h1
        refine op1_mov rfl (by (conv => lhs; whnf) <;> rfl) ?_; refine wpO_cons ?_; refine op1_len rfl rfl ?_; refine wpO_cons ?_; refine op1_gtr rfl rfl rfl ?_; refine wpO_cons ?_; refine op1_pick_t rfl rfl (by (conv => lhs; whnf) <;> rfl) ?_; refine wpO_cons ?_; refine op1_pick_f rfl rfl (by (conv => lhs; whnf) <;> rfl) ?_; refine wpO_nil ?_; refine seq_normal ?_; refine wp_false rfl ?_; refine wp_skip ?_; refine seq_normal ?_; refine wp_region ?_; refine wpO_cons ?_; refine op1_mov rfl (by (conv => lhs; whnf) <;> rfl) ?_; refine wpO_cons ?_; refine op1_mov rfl (by (conv => lhs; whnf) <;> rfl) ?_; refine wpO_cons ?_
        obtain ⟨_, hrd5, _⟩ := hS.rd
        refine op1_appRS rfl rfl (by (conv => lhs; whnf) <;> rfl) rfl hrd5 (by simp) (u8s_one _) (S.up3 hS) (by first | omega | (simp; omega)) ?_
        rw [← u8s_append]
        intro a6 c6 H6 hS
        refine wpO_cons ?_; refine op1_mov rfl (by (conv => lhs; whnf) <;> rfl) ?_; refine wpO_nil ?_; refine block_normal ?_; refine seq_normal ?_; refine wp_region ?_; refine wpO_cons ?_; refine op1_add rfl rfl rfl (by exact wrap_i64 (by omega) (by omega)) ?_; refine wpO_cons ?_; refine op1_mov rfl (by (conv => lhs; whnf) <;> rfl) ?_; refine wpO_nil ?_
        exact ⟨k - 1, by omega, i + 1, _, _, rd ++ _, wr, s2, rfl, by omega, q3, by rw [List.append_assoc, ← q4, hrw], by omega, S.up1 (S.up2 (S.drop (S.up2 (S.drop (S.up1 hS)))))⟩
      · refine op1_skip rfl ?_; refine wpO_cons ?_; refine op1_skip rfl ?_; refine wpO_cons ?_; refine op1_skip rfl ?_; refine wpO_cons ?_; refine op1_pick_f rfl rfl (by (conv => lhs; whnf) <;> rfl) ?_; refine wpO_cons ?_; refine op1_pick_f rfl rfl (by (conv => lhs; whnf) <;> rfl) ?_; refine wpO_nil ?_; refine seq_normal ?_; refine wp_false rfl ?_; refine wp_skip ?_; refine seq_normal ?_; refine wp_region ?_; refine wpO_cons ?_; refine op1_mov rfl (by (conv => lhs; whnf) <;> rfl) ?_; refine wpO_cons ?_; refine op1_mov rfl (by (conv => lhs; whnf) <;> rfl) ?_; refine wpO_cons ?_
        obtain ⟨_, hrd5, _⟩ := hS.rd
        refine op1_appRS rfl rfl (by (conv => lhs; whnf) <;> rfl) rfl hrd5 (by simp) (u8s_one _) (S.up3 hS) (by first | omega | (simp; omega)) ?_
        rw [← u8s_append]
        intro a6 c6 H6 hS
        refine wpO_cons ?_; refine op1_mov rfl (by (conv => lhs; whnf) <;> rfl) ?_; refine wpO_nil ?_; refine block_normal ?_; refine seq_normal ?_; refine wp_region ?_; refine wpO_cons ?_; refine op1_add rfl rfl rfl (by exact wrap_i64 (by omega) (by omega)) ?_; refine wpO_cons ?_; refine op1_mov rfl (by (conv => lhs; whnf) <;> rfl) ?_; refine wpO_nil ?_
        exact ⟨k - 1, by omega, i + 1, _, _, rd ++ _, wr, s2, rfl, by omega, q3, by rw [List.append_assoc, ← q4, hrw], by omega, S.up1 (S.up2 (S.drop (S.up2 (S.drop (S.up1 hS)))))⟩
  · obtain rfl : i = xs.length := by omega
    refine wp_exit ?_; refine seq_exit ?_; refine iter_exit ?_; refine block_exit ?_; refine seq_normal ?_; refine wp_seq ?_; refine wp_block ?_
    refine wp_loop [8] (fun k vs H' => ∃ (vr : Value) (rd : List Int) (s : PP), vs = [vr] ∧ s.buf.length = k ∧ KInv s ∧ rd ++ s.buf = wr ∧ S B H' (sl 1 vr (u8s rd) :: sl 1 (.slice aw wr.length cw) (u8s wr) :: repP p s :: [])) ⟨_, _, rd, s, rfl, rfl, hI, hrw, hS⟩ ?_
    clear hS hI hrw hrl
    rintro k2 vs T2 H4 ⟨vr, rd, s, rfl, hk2, hI, hrw, hS⟩
    have hrl : rd.length ≤ wr.length := by rw [← hrw]; simp
    obtain ⟨ar, cr, rfl⟩ := hS.u1
    refine wp_seq ?_; refine wp_seq ?_; refine wp_region ?_; refine wpO_cons ?_; refine op1_mov rfl (by (conv => lhs; whnf) <;> rfl) ?_; refine wpO_cons ?_; refine op1_call1 rfl (by (conv => lhs; whnf) <;> rfl) ?_
    refine wpF_mono (L13 (S.up2 hS)) ?_
    rintro _ _ ⟨rfl, rfl⟩
    refine wpO_cons ?_; refine op1_gtr rfl rfl rfl ?_; refine wpO_nil ?_; refine seq_normal ?_
    refine wp_dec rfl (fun hlt => ?_) (fun hlt => ?_)
    · refine wp_skip ?_; refine seq_normal ?_; refine wp_block ?_; refine wp_seq ?_; refine wp_region ?_; refine wpO_cons ?_; refine op1_mov rfl (by (conv => lhs; whnf) <;> rfl) ?_; refine wpO_cons ?_; refine op1_call4 rfl (by (conv => lhs; whnf) <;> rfl) (by (conv => lhs; whnf) <;> rfl) (by (conv => lhs; whnf) <;> rfl) (by (conv => lhs; whnf) <;> rfl) ?_
      refine wpF_mono (L12 (S.up2 hS) hI.ok) ?_
      obtain ⟨q1, q2, q3, q4, q5, q6⟩ := hI.read 4096
      obtain ⟨q6, q7⟩ := q6 rfl (by omega)
      rw [q1, q2, q6]
      generalize (s.read 2 4096 false).s = s2 at *
      generalize (s.read 2 4096 false).data = d2 at *
      rintro _ H5 ⟨vd, ve, rfl, hS⟩
      obtain ⟨ae, ce, rfl, _⟩ := S.arrShape (S.up1 hS) (by omega)
      replace hS := S.drop (S.up1 hS)
      obtain ⟨ad, cd, rfl⟩ := hS.u1
      have hd2 : d2.length ≤ s.buf.length := by rw [q4]; simp
      have hb2 := hI.ok.buf
      have hc2 := hI.ok.cap
      refine wpO_cons ?_; refine op1_mov rfl (by (conv => lhs; whnf) <;> rfl) ?_; refine wpO_cons ?_; refine op1_extract rfl rfl rfl ?_; refine wpO_cons ?_; refine op1_extract rfl rfl rfl ?_; refine wpO_cons ?_; refine op1_extract rfl rfl rfl ?_; refine wpO_cons ?_; refine op1_extract rfl rfl rfl ?_; refine wpO_cons ?_; refine op1_mov rfl (by (conv => lhs; whnf) <;> rfl) ?_; refine wpO_cons ?_; refine op1_mov rfl (by (conv => lhs; whnf) <;> rfl) ?_; refine wpO_cons ?_; refine op1_mov rfl (by (conv => lhs; whnf) <;> rfl) ?_; refine wpO_cons ?_; refine op1_mov rfl (by (conv => lhs; whnf) <;> rfl) ?_; refine wpO_nil ?_; refine seq_normal ?_; refine wp_seq ?_; refine wp_seq ?_; refine wp_region ?_; refine wpO_cons ?_; refine op1_mov rfl (by (conv => lhs; whnf) <;> rfl) ?_; refine wpO_cons ?_; refine op1_neqI_s rfl rfl rfl ?_; refine wpO_cons ?_; refine op1_mov rfl (by (conv => lhs; whnf) <;> rfl) ?_; refine wpO_cons ?_; refine op1_mov rfl (by (conv => lhs; whnf) <;> rfl) ?_; refine wpO_cons ?_; refine op1_len rfl rfl ?_; refine wpO_cons ?_; refine op1_eqlI rfl rfl rfl ?_; refine wpO_cons ?_; refine op1_pick_f rfl rfl (by (conv => lhs; whnf) <;> rfl) ?_; refine wpO_nil ?_; refine seq_normal ?_
      refine wp_dec rfl (fun h1 => ?_) (fun h1 => ?_)
      · omega
      refine wp_skip ?_; refine seq_normal ?_; refine wp_region ?_; refine wpO_cons ?_; refine op1_mov rfl (by (conv => lhs; whnf) <;> rfl) ?_; refine wpO_cons ?_; refine op1_mov rfl (by (conv => lhs; whnf) <;> rfl) ?_; refine wpO_cons ?_
      obtain ⟨_, hrd5, _⟩ := hS.rd
      refine op1_appRS rfl rfl (by (conv => lhs; whnf) <;> rfl) rfl hrd5 (by simp) (u8s_one _) (S.up2 hS) (by omega) ?_
      rw [← u8s_append]
      intro a6 c6 H6 hS
      refine wpO_cons ?_; refine op1_mov rfl (by (conv => lhs; whnf) <;> rfl) ?_; refine wpO_nil ?_; refine block_normal ?_
      refine ⟨s2.buf.length, ?_, _, rd ++ d2, s2, rfl, rfl, q3, by rw [List.append_assoc, ← q4, hrw], S.up1 (S.up2 (S.drop (S.up1 hS)))⟩
      rw [← hk2, q4]
      simp
      omega
    · have hz : s.buf = [] := List.eq_nil_of_length_eq_zero (by omega)
      rw [hz, List.append_nil] at hrw
      subst hrw
      obtain ⟨_, h8, _⟩ := hS.rd
      obtain ⟨_, h9, _⟩ := (S.up1 hS).rd
      refine wp_exit ?_; refine seq_exit ?_; refine iter_exit ?_; refine block_exit ?_; refine seq_normal ?_; refine wp_seq ?_; refine wp_region ?_; refine wpO_cons ?_; refine op1_mov rfl (by (conv => lhs; whnf) <;> rfl) ?_; refine wpO_cons ?_; refine op1_mov rfl (by (conv => lhs; whnf) <;> rfl) ?_; refine wpO_cons ?_; refine op1_call2 rfl (by (conv => lhs; whnf) <;> rfl) (by (conv => lhs; whnf) <;> rfl) ?_
      refine wpF_mono (L14 h8 h9) ?_
      rintro _ _ ⟨⟨b, rfl, hbt⟩, rfl⟩
      obtain rfl := hbt rfl
      refine wpO_cons ?_; refine op1_mov rfl (by (conv => lhs; whnf) <;> rfl) ?_; refine wpO_nil ?_; refine seq_normal ?_; refine wp_ret ?_; refine ret_of ?_; refine rk_tmp (by (conv => lhs; whnf) <;> rfl) ?_; refine rk_nil ?_
      rfl
end Go.E.Pi

/- PipeWaits, as the evaluator runs it: true, for any sizes and acts. -/
namespace Go.E.Pi
open Go Go.E Go.Proofs.Ytgmmkajjigmjoaa Go.Proofs
set_option linter.unusedVariables false
set_option linter.unusedSimpArgs false
set_option maxRecDepth 100000

theorem restOpn {c : Nat} {a : Int} (hc : 1 ≤ c ∧ c ≤ 4096) (ha : 1 ≤ a ∧ a ≤ c) : Rest (PP.opn c a 2) :=
  ⟨okOpn hc ha (by omega), fun w hw => by simp [PP.opn] at hw, rfl⟩
theorem kvSet_len (kv : KV) (k : Int) (v : Value) : (kvSet kv k v).length ≤ kv.length + 1 := by
  induction kv with
  | nil => simp [kvSet]
  | cons p l ih =>
    unfold kvSet
    split
    · simp
    · simp only [List.length_cons]; omega
theorem u64_nn (n : Int) : 0 ≤ IntKind.u64.wrap n := by
  unfold IntKind.wrap; simp [IntKind.bits, IntKind.signed]; omega
theorem L4 {B : AHeap} {x y : Int} (hx : 0 ≤ x ∧ x ≤ 255) (hy : 0 ≤ y ∧ y ≤ 255) {a : Option Addr} {c : Nat} {xs : List ActM} (hcx : xs.length ≤ c) (hA : Acts B a c xs) : wpF C 4 [.int .u8 x, .int .u8 y, .slice a xs.length c] B fun v _ => v = .bool true := by
  have hS := S.start B
  refine wpF_ofW o4 rfl rfl ?_
  have hm1 : 0 ≤ y.tmod (1 + x) ∧ y.tmod (1 + x) < 1 + x := by
    rw [Int.tmod_eq_emod_of_nonneg hy.1]
    exact ⟨Int.emod_nonneg _ (by omega), Int.emod_lt_of_pos _ (by omega)⟩
  obtain ⟨cp, hcp⟩ : ∃ cp : Nat, 1 + x = cp := ⟨(1 + x).toNat, by omega⟩
  refine wp_seq ?_; refine wp_region ?_; refine wpO_cons ?_; refine op1_mov rfl (by (conv => lhs; whnf) <;> rfl) ?_; refine wpO_nil ?_; refine seq_normal ?_; refine wp_seq ?_; refine wp_region ?_; refine wpO_cons ?_; refine op1_mov rfl (by (conv => lhs; whnf) <;> rfl) ?_; refine wpO_cons ?_; refine op1_convInt rfl rfl (by exact wrap_i64 (by omega) (by omega)) ?_; refine wpO_cons ?_; refine op1_add rfl rfl rfl (by exact wrap_i64 (by omega) (by omega)) ?_; refine wpO_cons ?_; refine op1_mov rfl (by (conv => lhs; whnf) <;> rfl) ?_; refine wpO_cons ?_; refine op1_convInt rfl rfl (by exact wrap_i64 (by omega) (by omega)) ?_; refine wpO_cons ?_; refine op1_mov rfl (by (conv => lhs; whnf) <;> rfl) ?_; refine wpO_cons ?_; refine op1_convInt rfl rfl (by exact wrap_i64 (by omega) (by omega)) ?_; refine wpO_cons ?_; refine op1_add rfl rfl rfl (by exact wrap_i64 (by omega) (by omega)) ?_; refine wpO_cons ?_; refine op1_rem rfl rfl rfl (by omega) ?_; refine wpO_cons ?_; refine op1_add rfl rfl rfl (by exact wrap_i64 (by omega) (by omega)) ?_; refine wpO_cons ?_; refine op1_call2 rfl (by (conv => lhs; whnf) <;> rfl) (by (conv => lhs; whnf) <;> rfl) ?_
  generalize y.tmod (1 + x) = ym at *
  rw [hcp] at hm1 ⊢
  skip
  refine wpF_mono (L8 hS (c := cp) (a := 1 + ym) (by omega) (by omega)) ?_
  rintro _ H1 ⟨p, rfl, hS⟩
  refine wpO_cons ?_; refine op1_mov rfl (by (conv => lhs; whnf) <;> rfl) ?_; refine wpO_nil ?_; refine seq_normal ?_; refine wp_seq ?_; refine wp_seq ?_; refine wp_region ?_; refine wpO_cons ?_; refine op1_mov rfl (by (conv => lhs; whnf) <;> rfl) ?_; refine wpO_cons ?_; refine op1_len rfl rfl ?_; refine wpO_cons ?_; refine op1_gtr rfl rfl rfl ?_; refine wpO_cons ?_; refine op1_mov rfl (by (conv => lhs; whnf) <;> rfl) ?_; refine wpO_cons ?_
  refine op1_dec rfl (fun h40 => ?_) (fun h40 => ?_)
  · refine op1_skip rfl ?_; refine wpO_cons ?_; refine op1_skip rfl ?_; refine wpO_cons ?_; refine op1_skip rfl ?_; refine wpO_cons ?_; refine op1_pick_t rfl rfl (by (conv => lhs; whnf) <;> rfl) ?_; refine wpO_cons ?_; refine op1_mov rfl (by (conv => lhs; whnf) <;> rfl) ?_; refine wpO_cons ?_; refine op1_skip rfl ?_; refine wpO_cons ?_; refine op1_skip rfl ?_; refine wpO_cons ?_; refine op1_pick_t rfl rfl (by (conv => lhs; whnf) <;> rfl) ?_; refine wpO_cons ?_; refine op1_mov rfl (by (conv => lhs; whnf) <;> rfl) ?_; refine wpO_cons ?_; refine op1_skip rfl ?_; refine wpO_cons ?_; refine op1_skip rfl ?_; refine wpO_cons ?_; refine op1_pick_t rfl rfl (by (conv => lhs; whnf) <;> rfl) ?_; refine wpO_nil ?_; refine seq_normal ?_; refine wp_true rfl ?_; refine wp_seq ?_; refine wp_region ?_; refine wpO_cons ?_; refine op1_call0 rfl  ?_; refine wpF_known rfl (globAll _) ?_; refine wpO_cons ?_; refine op1_mov rfl (by (conv => lhs; whnf) <;> rfl) ?_; refine wpO_cons ?_; refine op1_mov rfl (by (conv => lhs; whnf) <;> rfl) ?_; refine wpO_cons ?_; refine op1_bin_true rfl (by (conv => lhs; whnf) <;> rfl) (by (conv => lhs; whnf) <;> rfl) rfl ?_; refine wpO_cons ?_; refine op1_pick_t rfl rfl (by (conv => lhs; whnf) <;> rfl) ?_; refine wpO_cons ?_; refine op1_mov rfl (by (conv => lhs; whnf) <;> rfl) ?_; refine wpO_nil ?_; refine seq_normal ?_; refine wp_ret ?_; refine seq_ret ?_; refine ret_of ?_; refine rk_tmp (by (conv => lhs; whnf) <;> rfl) ?_; refine rk_nil ?_
    rfl
  have h40 : xs.length ≤ 40 := by omega
  refine op1_mov rfl (by (conv => lhs; whnf) <;> rfl) ?_; refine wpO_cons ?_; refine op1_call1 rfl (by (conv => lhs; whnf) <;> rfl) ?_
  refine wpF_mono (L9 hS hA) ?_
  rintro _ H2 ⟨⟨b, rfl, hfew⟩, hS⟩
  refine wpO_cons ?_; refine op1_not rfl rfl ?_; refine wpO_cons ?_; refine op1_pick_f rfl rfl (by (conv => lhs; whnf) <;> rfl) ?_; refine wpO_cons ?_; refine op1_mov rfl (by (conv => lhs; whnf) <;> rfl) ?_; refine wpO_cons ?_
  cases b
  · refine op1_skip rfl ?_; refine wpO_cons ?_; refine op1_skip rfl ?_; refine wpO_cons ?_; refine op1_pick_t rfl rfl (by (conv => lhs; whnf) <;> rfl) ?_; refine wpO_cons ?_; refine op1_mov rfl (by (conv => lhs; whnf) <;> rfl) ?_; refine wpO_cons ?_; refine op1_skip rfl ?_; refine wpO_cons ?_; refine op1_skip rfl ?_; refine wpO_cons ?_; refine op1_pick_t rfl rfl (by (conv => lhs; whnf) <;> rfl) ?_; refine wpO_nil ?_; refine seq_normal ?_; refine wp_true rfl ?_; refine wp_seq ?_; refine wp_region ?_; refine wpO_cons ?_; refine op1_call0 rfl  ?_; refine wpF_known rfl (globAll _) ?_; refine wpO_cons ?_; refine op1_mov rfl (by (conv => lhs; whnf) <;> rfl) ?_; refine wpO_cons ?_; refine op1_mov rfl (by (conv => lhs; whnf) <;> rfl) ?_; refine wpO_cons ?_; refine op1_bin_true rfl (by (conv => lhs; whnf) <;> rfl) (by (conv => lhs; whnf) <;> rfl) rfl ?_; refine wpO_cons ?_; refine op1_pick_t rfl rfl (by (conv => lhs; whnf) <;> rfl) ?_; refine wpO_cons ?_; refine op1_mov rfl (by (conv => lhs; whnf) <;> rfl) ?_; refine wpO_nil ?_; refine seq_normal ?_; refine wp_ret ?_; refine seq_ret ?_; refine ret_of ?_; refine rk_tmp (by (conv => lhs; whnf) <;> rfl) ?_; refine rk_nil ?_
    rfl
  have hfew := hfew.1 rfl
  refine op1_call0 rfl  ?_; refine wpF_known rfl (globAll _) ?_; refine wpO_cons ?_; refine op1_not_t rfl rfl ?_; refine wpO_cons ?_; refine op1_pick_f rfl rfl (by (conv => lhs; whnf) <;> rfl) ?_; refine wpO_cons ?_; refine op1_mov rfl (by (conv => lhs; whnf) <;> rfl) ?_; refine wpO_cons ?_; refine op1_mov rfl (by (conv => lhs; whnf) <;> rfl) ?_; refine wpO_cons ?_; refine op1_bin_false rfl (by (conv => lhs; whnf) <;> rfl) (by (conv => lhs; whnf) <;> rfl) rfl ?_; refine wpO_cons ?_; refine op1_pick_f rfl rfl (by (conv => lhs; whnf) <;> rfl) ?_; refine wpO_nil ?_; refine seq_normal ?_; refine wp_false rfl ?_; refine wp_skip ?_; refine seq_normal ?_; refine wp_seq ?_; refine wp_region ?_; refine wpO_cons ?_; refine op1_mkmapS rfl hS ?_; intro p1 H3 hS; refine wpO_cons ?_; refine op1_build rfl ?_; refine bk_one (by (conv => lhs; whnf) <;> rfl) rfl rfl rfl ?_; refine bk_nil ?_; refine wpO_cons ?_; refine op1_boxNS rfl rfl rfl hS ?_; intro p2 H4 hS; refine wpO_cons ?_; refine op1_mov rfl (by (conv => lhs; whnf) <;> rfl) ?_; refine wpO_nil ?_; refine seq_normal ?_; refine wp_seq ?_; refine wp_region ?_; refine wpO_cons ?_; refine op1_mov rfl (by (conv => lhs; whnf) <;> rfl) ?_; refine wpO_nil ?_; refine seq_normal ?_; refine wp_seq ?_; refine wp_seq ?_; refine wp_region ?_; refine wpO_cons ?_; refine op1_mov rfl (by (conv => lhs; whnf) <;> rfl) ?_; refine wpO_cons ?_; refine op1_len rfl rfl ?_; refine wpO_cons ?_; refine op1_mov rfl (by (conv => lhs; whnf) <;> rfl) ?_; refine wpO_nil ?_; refine seq_normal ?_; refine wp_block ?_
  have hS := closeF (rd := []) (wr := []) (kv := []) (f := p2) (S.up3 (S.slNil (S.slNil (S.imNew (S.up1 hS)))))
  refine wp_loop [64, 9] (fun k vs H' => ∃ (i : Nat) (vo : Value) (s : PP) (rd wr od : List Int) (kv : KV), vs = [.int .i64 i, vo] ∧ i + k = xs.length ∧ WInv B i s rd od kv ∧ wr.length + 4000 * kv.length ≤ 4000 * ((i + 1) / 2) ∧ S B H' (flw p2 rd wr kv :: sl 1 vo (u8s od) :: repP p s :: []))
    ⟨xs.length, 0, .slice none 0 0, PP.opn cp (1 + ym) 2, [], [], [], [], rfl, by omega, ⟨restOpn (by omega) (by omega), rfl, rfl, rfl, by simp [thr, PP.opn], by simp [PP.opn], by simp [PP.opn], by simp [PP.opn], rfl, by simp, ⟨by simp⟩⟩, by simp, S.dn1 (S.slNil hS)⟩ ?_
  clear hS
  rintro k vs T' H5 ⟨i, vo, s, rd, wr, od, kv, rfl, hk, hI, hwr, hS⟩
  obtain ⟨ao, co, rfl⟩ := (S.up1 hS).u1
  have hodl := hI.odl
  refine wp_seq ?_; refine wp_region ?_; refine wpO_cons ?_; refine op1_lss rfl rfl rfl ?_; refine wpO_nil ?_; refine seq_normal ?_; refine wp_seq ?_
  refine wp_dec rfl (fun hlt => ?_) (fun hlt => ?_)
  · obtain ⟨z, hz⟩ : ∃ z, xs[i]? = some z := ⟨xs[i]'(by omega), by simp⟩
    obtain ⟨b, o, cs, rfl, hg, hb, hle, hat⟩ := hA.at_ i z hz
    have hg1 := (hS.base b hb).trans hg
    have hzo := hA.ok z (List.mem_of_getElem? hz)
    have hz5 := hfew.2 z (List.mem_of_getElem? hz)
    refine wp_skip ?_; refine seq_normal ?_; refine wp_seq ?_; refine wp_block ?_; refine wp_seq ?_; refine wp_region ?_; refine wpO_cons ?_; refine op1_mov rfl (by (conv => lhs; whnf) <;> rfl) ?_; refine wpO_cons ?_; refine op1_iaddr rfl rfl rfl (by omega) (by omega) ?_; refine wpO_cons ?_
    refine op1_loadN rfl rfl hg1 hle hat ?_
    unfold ActM.cells
    refine wpO_cons ?_; refine op1_allocS rfl hS ?_; intro p3 H6 hS; refine wpO_cons ?_; refine op1_mov rfl (by (conv => lhs; whnf) <;> rfl) ?_; refine wpO_cons ?_; (refine op1_storeNS rfl rfl (by (conv => lhs; whnf) <;> rfl) rfl rfl (S.up0 hS) (Nat.le_of_ble_eq_true rfl) ?_; intro H7 hS; replace hS := S.dn0 hS); refine wpO_nil ?_; refine seq_normal ?_; refine wp_seq ?_; refine wp_region ?_; refine wpO_cons ?_; refine op1_faddr0 rfl rfl ?_; refine wpO_cons ?_; refine op1_load rfl rfl (by exact S.g0 hS) rfl ?_; refine wpO_cons ?_; refine op1_faddr0 rfl rfl ?_; refine wpO_cons ?_; refine op1_load rfl rfl (by exact S.g0 hS) rfl ?_; refine wpO_cons ?_; refine op1_len rfl rfl ?_; refine wpO_cons ?_; refine op1_min rfl rfl rfl ?_; refine wpO_cons ?_
    obtain ⟨q, hq⟩ : ∃ q : Nat, min (z.l.length : Int) 4000 = q := ⟨(min (z.l.length : Int) 4000).toNat, by omega⟩
    rw [hq]
    have hlc := hzo.d.le_cap
    refine op1_sliceD rfl rfl (RD.base (As := []) hzo.d hzo.lo) (S.drop (S.drop (S.drop (S.drop hS)))) (bnds_hi (by omega) (by omega)) (by omega) (by simp only [Int.toNat_natCast]; omega) ?_
    simp only [Int.toNat_natCast, Nat.zero_mul, List.drop_zero, Nat.sub_zero, Nat.mul_one]
    intro a5 c5 hd5 _
    rw [u8s_take] at hd5
    obtain ⟨rr, hr5, hrl5⟩ := hd5 B (S.start B)
    obtain ⟨d, hd⟩ : ∃ d, z.l.take q = d := ⟨_, rfl⟩
    have hdl : q = d.length := by rw [← hd, List.length_take]; omega
    rw [hd] at hr5
    clear hd5
    subst hdl
    refine wpO_cons ?_; refine op1_mov rfl (by (conv => lhs; whnf) <;> rfl) ?_; refine wpO_nil ?_; refine seq_normal ?_; refine wp_seq ?_; refine wp_seq ?_; refine wp_region ?_; refine wpO_cons ?_; refine op1_mov rfl (by (conv => lhs; whnf) <;> rfl) ?_; refine wpO_cons ?_; refine op1_rem rfl rfl rfl (by omega) ?_; refine wpO_cons ?_; refine op1_eqlI rfl rfl rfl ?_; refine wpO_nil ?_; refine seq_normal ?_
    refine wp_dec rfl (fun hev => ?_) (fun hev => ?_)
    · refine wp_seq ?_; refine wp_region ?_; refine wpO_cons ?_; refine op1_mov rfl (by (conv => lhs; whnf) <;> rfl) ?_; refine wpO_cons ?_; refine op1_mov rfl (by (conv => lhs; whnf) <;> rfl) ?_; refine wpO_cons ?_
      have hev2 : i % 2 = 0 := by rw [show (i : Int).tmod 2 = ((i % 2 : Nat) : Int) from rfl] at hev; omega
      refine op1_quo rfl rfl rfl (by omega) (by rw [show (i : Int).tdiv 2 = ((i / 2 : Nat) : Int) from rfl]; exact wrap_i64 (by omega) (by omega)) ?_
      rw [show (i : Int).tdiv 2 = ((i / 2 : Nat) : Int) from rfl]
      refine wpO_cons ?_; refine op1_mov rfl (by (conv => lhs; whnf) <;> rfl) ?_; refine wpO_cons ?_; refine op1_call4 rfl (by (conv => lhs; whnf) <;> rfl) (by (conv => lhs; whnf) <;> rfl) (by (conv => lhs; whnf) <;> rfl) (by (conv => lhs; whnf) <;> rfl) ?_
      refine wpF_mono (L11 (RD.base hr5 hrl5) (S.up3 hS) hI.rest.ok (by omega)) ?_
      obtain ⟨w1, w2, w3⟩ := hI.write (d := d) (v := .slice a5 d.length c5) (by omega) hev2 (by omega) ⟨d, rr, hr5, hrl5, by omega⟩
      have w4 := write_le hI.rest.ok ((i / 2 : Nat) : Int) d true
      generalize s.write ((i / 2 : Nat) : Int) d true = R at *
      rw [w1]
      rintro _ H8 ⟨ve, rfl, hS⟩
      refine wpO_cons ?_; refine op1_mov rfl (by (conv => lhs; whnf) <;> rfl) ?_; refine wpO_cons ?_; refine op1_extract rfl rfl rfl ?_; refine wpO_cons ?_; refine op1_extract rfl rfl rfl ?_; refine wpO_cons ?_; refine op1_extract rfl rfl rfl ?_; refine wpO_cons ?_; refine op1_extract rfl rfl rfl ?_; refine wpO_cons ?_; refine op1_mov rfl (by (conv => lhs; whnf) <;> rfl) ?_; refine wpO_cons ?_; refine op1_mov rfl (by (conv => lhs; whnf) <;> rfl) ?_; refine wpO_cons ?_; refine op1_mov rfl (by (conv => lhs; whnf) <;> rfl) ?_; refine wpO_cons ?_; refine op1_mov rfl (by (conv => lhs; whnf) <;> rfl) ?_; refine wpO_nil ?_; refine seq_normal ?_; refine wp_seq ?_; refine wp_seq ?_; refine wp_region ?_; refine wpO_cons ?_; refine op1_mov rfl (by (conv => lhs; whnf) <;> rfl) ?_; refine wpO_cons ?_; refine op1_neqI_s rfl rfl rfl ?_; refine wpO_nil ?_; refine seq_normal ?_; refine wp_false rfl ?_; refine wp_skip ?_; refine seq_normal ?_; refine wp_seq ?_; refine wp_region ?_; refine wpO_cons ?_; refine op1_mov rfl (by (conv => lhs; whnf) <;> rfl) ?_; refine wpO_cons ?_; refine op1_mov rfl (by (conv => lhs; whnf) <;> rfl) ?_; refine wpO_cons ?_
      refine op1_appRS rfl rfl (by (conv => lhs; whnf) <;> rfl) rfl (hS.rdB hr5 hrl5) (by simp) (u8s_one _) (S.up4 hS) (by omega) ?_
      rw [← u8s_append]
      intro a6 c6 H9 hS
      replace hS := S.dn4 hS
      cases hRi : R.is
      · obtain ⟨w5, w6, w7, w8⟩ := w3 kv (by rw [hRi]; rfl)
        rw [w2 hRi]
        have w9 := w5.rdl
        have w10 := w5.odl
        refine wpO_cons ?_; refine op1_mov rfl (by (conv => lhs; whnf) <;> rfl) ?_; refine wpO_nil ?_; refine seq_normal ?_; refine wp_seq ?_; refine wp_seq ?_; refine wp_region ?_; refine wpO_cons ?_; refine op1_mov rfl (by (conv => lhs; whnf) <;> rfl) ?_; refine wpO_nil ?_; refine seq_normal ?_; refine wp_false rfl ?_; refine wp_seq ?_; refine wp_region ?_; refine wpO_cons ?_; refine op1_mov rfl (by (conv => lhs; whnf) <;> rfl) ?_; refine wpO_cons ?_; refine op1_mov rfl (by (conv => lhs; whnf) <;> rfl) ?_; refine wpO_cons ?_; refine op1_len rfl rfl ?_; refine wpO_cons ?_; refine op1_neqI_s rfl rfl rfl ?_; refine wpO_nil ?_; refine seq_normal ?_; refine wp_false rfl ?_; refine wp_skip ?_; refine seq_normal ?_; refine wp_seq ?_; refine wp_region ?_; refine wpO_cons ?_; refine op1_mov rfl (by (conv => lhs; whnf) <;> rfl) ?_; refine wpO_cons ?_; refine op1_mov rfl (by (conv => lhs; whnf) <;> rfl) ?_; refine wpO_cons ?_; refine op1_call2 rfl (by (conv => lhs; whnf) <;> rfl) (by (conv => lhs; whnf) <;> rfl) ?_
        refine wpF_mono (L15 (S.up1 (S.up3 hS)) w7 w4 (by omega) (by omega) w6) ?_
        rintro _ H10 ⟨wr2, hw2, hS⟩
        refine wpO_nil ?_; refine seq_normal ?_; refine wp_exit ?_; refine seq_exit ?_; refine block_exit ?_; refine seq_normal ?_; refine wp_region ?_; refine wpO_cons ?_; refine op1_add rfl rfl rfl (by exact wrap_i64 (by omega) (by omega)) ?_; refine wpO_cons ?_; refine op1_mov rfl (by (conv => lhs; whnf) <;> rfl) ?_; refine wpO_nil ?_
        exact ⟨k - 1, by omega, i + 1, _, R.s, _, wr2, _, _, rfl, by omega, w5, by omega, S.dn1 (S.up2 (S.drop (S.up2 hS)))⟩
      · obtain ⟨w5, w6, w7, w8⟩ := w3 _ rfl
        rw [hRi, if_pos rfl] at w5 w7 w8
        have w9 := w5.rdl
        have w10 := w5.odl
        have w11 := kvSet_len kv ((i / 2 : Nat) : Int) (.slice a5 d.length c5)
        refine wpO_cons ?_; refine op1_mov rfl (by (conv => lhs; whnf) <;> rfl) ?_; refine wpO_nil ?_; refine seq_normal ?_; refine wp_seq ?_; refine wp_seq ?_; refine wp_region ?_; refine wpO_cons ?_; refine op1_mov rfl (by (conv => lhs; whnf) <;> rfl) ?_; refine wpO_nil ?_; refine seq_normal ?_; refine wp_true rfl ?_; refine wp_region ?_; refine wpO_cons ?_; refine op1_mov rfl (by (conv => lhs; whnf) <;> rfl) ?_; refine wpO_cons ?_; refine op1_nilchk rfl rfl ?_; refine wpO_cons ?_; refine op1_faddr0 rfl rfl ?_; refine wpO_cons ?_
        obtain ⟨_, _, _, _, m, hS⟩ := openF (S.up3 hS)
        refine op1_load rfl rfl (by exact S.g0 hS) rfl ?_; refine wpO_cons ?_; refine op1_mov rfl (by (conv => lhs; whnf) <;> rfl) ?_; refine wpO_cons ?_
        refine op1_quo rfl rfl rfl (by omega) (by rw [show (i : Int).tdiv 2 = ((i / 2 : Nat) : Int) from rfl]; exact wrap_i64 (by omega) (by omega)) ?_
        rw [show (i : Int).tdiv 2 = ((i / 2 : Nat) : Int) from rfl]
        refine wpO_cons ?_; refine op1_mov rfl (by (conv => lhs; whnf) <;> rfl) ?_; refine wpO_cons ?_
        refine op1_mapS kI rfl rfl rfl rfl (S.up3 hS) ?_
        intro H10 hS
        have hS := S.up1 (closeF (S.dn3 hS))
        refine wpO_nil ?_; refine seq_normal ?_; refine wp_seq ?_; refine wp_region ?_; refine wpO_cons ?_; refine op1_mov rfl (by (conv => lhs; whnf) <;> rfl) ?_; refine wpO_cons ?_; refine op1_mov rfl (by (conv => lhs; whnf) <;> rfl) ?_; refine wpO_cons ?_; refine op1_call2 rfl (by (conv => lhs; whnf) <;> rfl) (by (conv => lhs; whnf) <;> rfl) ?_
        refine wpF_mono (L15 (kv := kvSet kv ((i / 2 : Nat) : Int) (.slice a5 d.length c5)) hS w7 w4 (by omega) (by omega) w6) ?_
        rintro _ H11 ⟨wr2, hw2, hS⟩
        refine wpO_nil ?_; refine seq_normal ?_; refine wp_exit ?_; refine seq_exit ?_; refine block_exit ?_; refine seq_normal ?_; refine wp_region ?_; refine wpO_cons ?_; refine op1_add rfl rfl rfl (by exact wrap_i64 (by omega) (by omega)) ?_; refine wpO_cons ?_; refine op1_mov rfl (by (conv => lhs; whnf) <;> rfl) ?_; refine wpO_nil ?_
        exact ⟨k - 1, by omega, i + 1, _, R.s, _, wr2, _, _, rfl, by omega, w5, by omega, S.dn1 (S.up2 (S.drop (S.up2 hS)))⟩
    · have hev2 : i % 2 = 1 := by rw [show (i : Int).tmod 2 = ((i % 2 : Nat) : Int) from rfl] at hev; omega
      refine wp_skip ?_; refine seq_normal ?_; refine wp_seq ?_; refine wp_region ?_; refine wpO_cons ?_; refine op1_faddr0 rfl rfl ?_; refine wpO_cons ?_; refine op1_load rfl rfl (by exact S.g0 hS) rfl ?_; refine wpO_cons ?_
      refine op1_convIntW rfl rfl ?_
      have hwn := u64_nn z.n
      generalize IntKind.u64.wrap z.n = wn at *
      have hwm : 0 ≤ wn.tmod 500 ∧ wn.tmod 500 < 500 := by
        rw [Int.tmod_eq_emod_of_nonneg hwn]
        exact ⟨Int.emod_nonneg _ (by omega), Int.emod_lt_of_pos _ (by omega)⟩
      refine wpO_cons ?_; refine op1_rem rfl rfl rfl (by omega) ?_; refine wpO_cons ?_; refine op1_convInt rfl rfl (by exact wrap_i64 (by omega) (by omega)) ?_; refine wpO_cons ?_; refine op1_add rfl rfl rfl (by exact wrap_i64 (by omega) (by omega)) ?_; refine wpO_cons ?_; refine op1_mov rfl (by (conv => lhs; whnf) <;> rfl) ?_; refine wpO_nil ?_; refine seq_normal ?_; refine wp_seq ?_; refine wp_region ?_; refine wpO_cons ?_; refine op1_mov rfl (by (conv => lhs; whnf) <;> rfl) ?_; refine wpO_cons ?_; refine op1_mov rfl (by (conv => lhs; whnf) <;> rfl) ?_; refine wpO_cons ?_
      refine op1_quo rfl rfl rfl (by omega) (by rw [show (i : Int).tdiv 2 = ((i / 2 : Nat) : Int) from rfl]; exact wrap_i64 (by omega) (by omega)) ?_
      rw [show (i : Int).tdiv 2 = ((i / 2 : Nat) : Int) from rfl]
      refine wpO_cons ?_; refine op1_add rfl rfl rfl (by exact wrap_i64 (by omega) (by omega)) ?_; refine wpO_cons ?_; refine op1_mov rfl (by (conv => lhs; whnf) <;> rfl) ?_; refine wpO_cons ?_; refine op1_call4 rfl (by (conv => lhs; whnf) <;> rfl) (by (conv => lhs; whnf) <;> rfl) (by (conv => lhs; whnf) <;> rfl) (by (conv => lhs; whnf) <;> rfl) ?_
      refine wpF_mono (L12 (S.up3 hS) hI.rest.ok) ?_
      obtain ⟨w1, w2, w3, w5, w6⟩ := hI.read (n := 1 + wn.tmod 500) (by omega) hev2 (by omega)
      have w4 := read_le hI.rest.ok (100 + ((i / 2 : Nat) : Int)) (1 + wn.tmod 500) true
      generalize s.read (100 + ((i / 2 : Nat) : Int)) (1 + wn.tmod 500) true = R at *
      rw [w1]
      rintro _ H8 ⟨vd, ve, rfl, hS⟩
      obtain ⟨ad, cd, rfl⟩ := hS.u1
      have w9 := w5.rdl
      have w10 := w5.odl
      refine wpO_cons ?_; refine op1_mov rfl (by (conv => lhs; whnf) <;> rfl) ?_; refine wpO_cons ?_; refine op1_extract rfl rfl rfl ?_; refine wpO_cons ?_; refine op1_extract rfl rfl rfl ?_; refine wpO_cons ?_; refine op1_extract rfl rfl rfl ?_; refine wpO_cons ?_; refine op1_extract rfl rfl rfl ?_; refine wpO_cons ?_; refine op1_mov rfl (by (conv => lhs; whnf) <;> rfl) ?_; refine wpO_cons ?_; refine op1_mov rfl (by (conv => lhs; whnf) <;> rfl) ?_; refine wpO_cons ?_; refine op1_mov rfl (by (conv => lhs; whnf) <;> rfl) ?_; refine wpO_cons ?_; refine op1_mov rfl (by (conv => lhs; whnf) <;> rfl) ?_; refine wpO_nil ?_; refine seq_normal ?_; refine wp_seq ?_; refine wp_seq ?_; refine wp_region ?_; refine wpO_cons ?_; refine op1_mov rfl (by (conv => lhs; whnf) <;> rfl) ?_; refine wpO_cons ?_; refine op1_neqI_s rfl rfl rfl ?_; refine wpO_cons ?_; refine op1_mov rfl (by (conv => lhs; whnf) <;> rfl) ?_; refine wpO_cons ?_; refine op1_mov rfl (by (conv => lhs; whnf) <;> rfl) ?_; refine wpO_cons ?_; refine op1_len rfl rfl ?_; refine wpO_cons ?_; refine op1_mov rfl (by (conv => lhs; whnf) <;> rfl) ?_; refine wpO_cons ?_; refine op1_gtr rfl rfl rfl ?_; refine wpO_cons ?_; refine op1_pick_f rfl rfl (by (conv => lhs; whnf) <;> rfl) ?_; refine wpO_nil ?_; refine seq_normal ?_
      refine wp_dec rfl (fun hq => ?_) (fun hq => ?_)
      · omega
      obtain ⟨_, _, _, _, m, hS⟩ := openF (S.up4 hS)
      refine wp_skip ?_; refine seq_normal ?_; refine wp_seq ?_; refine wp_region ?_; refine wpO_cons ?_; refine op1_mov rfl (by (conv => lhs; whnf) <;> rfl) ?_; refine wpO_cons ?_; refine op1_mov rfl (by (conv => lhs; whnf) <;> rfl) ?_; refine wpO_cons ?_; refine op1_nilchk rfl rfl ?_; refine wpO_cons ?_; refine op1_faddr0 rfl rfl ?_; refine wpO_cons ?_; refine op1_load rfl rfl (by exact S.g0 hS) rfl ?_; refine wpO_cons ?_; refine op1_mov rfl (by (conv => lhs; whnf) <;> rfl) ?_; refine wpO_cons ?_
      obtain ⟨_, hr8, _⟩ := (S.up4 hS).rd
      refine op1_appRS rfl rfl (by (conv => lhs; whnf) <;> rfl) rfl hr8 (by simp) (u8s_one _) (S.up1 hS) (by omega) ?_
      rw [← u8s_append]
      intro a8 c8 H9 hS
      replace hS := S.dn1 hS
      refine wpO_cons ?_; refine op1_nilchk rfl rfl ?_; refine wpO_cons ?_; refine op1_faddr0 rfl rfl ?_; refine wpO_cons ?_; (refine op1_store1S rfl rfl (by (conv => lhs; whnf) <;> rfl) rfl rfl (S.up0 hS) rfl ?_; intro H10 hS; replace hS := S.dn0 hS); refine wpO_nil ?_; refine seq_normal ?_; refine wp_region ?_; refine wpO_cons ?_; refine op1_mov rfl (by (conv => lhs; whnf) <;> rfl) ?_; refine wpO_cons ?_; refine op1_mov rfl (by (conv => lhs; whnf) <;> rfl) ?_; refine wpO_cons ?_; refine op1_call2 rfl (by (conv => lhs; whnf) <;> rfl) (by (conv => lhs; whnf) <;> rfl) ?_
      refine wpF_mono (L15 (rd := rd ++ R.data) (wr := wr) (kv := kv) (S.up2 (closeF hS)) hI.kvok w4 (by omega) (by omega) w6) ?_
      rintro _ H11 ⟨wr2, hw2, hS⟩
      refine wpO_nil ?_; refine block_normal ?_; refine seq_normal ?_; refine wp_region ?_; refine wpO_cons ?_; refine op1_add rfl rfl rfl (by exact wrap_i64 (by omega) (by omega)) ?_; refine wpO_cons ?_; refine op1_mov rfl (by (conv => lhs; whnf) <;> rfl) ?_; refine wpO_nil ?_
      exact ⟨k - 1, by omega, i + 1, _, R.s, _, wr2, _, _, rfl, by omega, w5, by omega, S.dn1 (S.up2 (S.drop (S.up2 (S.drop (S.up1 hS)))))⟩
  · refine wp_exit ?_; refine seq_exit ?_; refine iter_exit ?_; refine block_exit ?_; refine seq_normal ?_; refine wp_seq ?_; refine wp_seq ?_; refine wp_region ?_; refine wpO_cons ?_; refine op1_mov rfl (by (conv => lhs; whnf) <;> rfl) ?_; refine wpO_nil ?_; refine seq_normal ?_; refine wp_block ?_
    obtain ⟨hl0, _⟩ : xs.length = i ∧ True := ⟨by omega, trivial⟩
    refine wp_loop [22] (fun k vs H' => ∃ (n : Nat) (s : PP) (rd wr : List Int) (kv : KV), vs = [.int .i64 n] ∧ rd.length + k = od.length ∧ n ≤ rd.length ∧ WInv B i s rd od kv ∧ wr.length + 4000 * kv.length ≤ 4000 * ((i + 1) / 2) ∧ S B H' (flw p2 rd wr kv :: sl 1 (.slice ao od.length co) (u8s od) :: repP p s :: []))
      ⟨od.length - rd.length, 0, s, rd, wr, kv, rfl, by have := hI.rdl; omega, by omega, hI, hwr, hS⟩ ?_
    clear hS hI hwr
    rintro k2 vs T2 H6 ⟨n, s, rd, wr, kv, rfl, hk2, hn, hI, hwr, hS⟩
    have hn9 : (n : Int) < 100000 := by have := hI.rdl; omega
    refine wp_seq ?_
    refine wp_seq ?_
    refine wp_region ?_
    refine wpO_cons ?_
    refine op1_mov rfl (by (conv => lhs; whnf) <;> rfl) ?_
    refine wpO_cons ?_
    refine op1_bin_true (u := .int .i64 (n : Int)) (w := .int .i64 100000) rfl (by (conv => lhs; whnf) <;> rfl) (by (conv => lhs; whnf) <;> rfl) (by simp only [binN, if_true, binInt, Option.map_some]; rw [decide_eq_true hn9]) ?_
    refine wpO_cons ?_; refine op1_mov rfl (by (conv => lhs; whnf) <;> rfl) ?_; refine wpO_cons ?_; refine op1_mov rfl (by (conv => lhs; whnf) <;> rfl) ?_; refine wpO_cons ?_; refine op1_call1 rfl (by (conv => lhs; whnf) <;> rfl) ?_
    refine wpF_mono (L13 (S.up2 hS)) ?_
    rintro _ _ ⟨rfl, rfl⟩
    refine wpO_cons ?_; refine op1_gtr rfl rfl rfl ?_; refine wpO_cons ?_; refine op1_pick_t rfl rfl (by (conv => lhs; whnf) <;> rfl) ?_; refine wpO_nil ?_; refine seq_normal ?_
    refine wp_dec rfl (fun hb => ?_) (fun hb => ?_)
    · refine wp_skip ?_; refine seq_normal ?_; refine wp_seq ?_; refine wp_block ?_; refine wp_seq ?_; refine wp_region ?_; refine wpO_cons ?_; refine op1_mov rfl (by (conv => lhs; whnf) <;> rfl) ?_; refine wpO_cons ?_; refine op1_call4 rfl (by (conv => lhs; whnf) <;> rfl) (by (conv => lhs; whnf) <;> rfl) (by (conv => lhs; whnf) <;> rfl) (by (conv => lhs; whnf) <;> rfl) ?_
      refine wpF_mono (L12 (S.up2 hS) hI.rest.ok) ?_
      obtain ⟨w1, wi, w2, w3, w5, w6⟩ := hI.last (by omega) (by omega)
      have w4 := read_le hI.rest.ok 200 300 false
      generalize s.read 200 300 false = R at *
      rw [w1, wi]
      rintro _ H8 ⟨vd, ve, rfl, hS⟩
      obtain ⟨ad, cd, rfl⟩ := hS.u1
      have w9 := w5.rdl
      have w10 := w5.odl
      have w11 := tk_len R.ends (rd ++ R.data) kv
      rw [List.length_append] at w11
      refine wpO_cons ?_; refine op1_mov rfl (by (conv => lhs; whnf) <;> rfl) ?_; refine wpO_cons ?_; refine op1_extract rfl rfl rfl ?_; refine wpO_cons ?_; refine op1_extract rfl rfl rfl ?_; refine wpO_cons ?_; refine op1_extract rfl rfl rfl ?_; refine wpO_cons ?_; refine op1_extract rfl rfl rfl ?_; refine wpO_cons ?_; refine op1_mov rfl (by (conv => lhs; whnf) <;> rfl) ?_; refine wpO_cons ?_; refine op1_mov rfl (by (conv => lhs; whnf) <;> rfl) ?_; refine wpO_cons ?_; refine op1_mov rfl (by (conv => lhs; whnf) <;> rfl) ?_; refine wpO_cons ?_; refine op1_mov rfl (by (conv => lhs; whnf) <;> rfl) ?_; refine wpO_nil ?_; refine seq_normal ?_; refine wp_seq ?_; refine wp_seq ?_; refine wp_region ?_; refine wpO_cons ?_; refine op1_mov rfl (by (conv => lhs; whnf) <;> rfl) ?_; refine wpO_cons ?_; refine op1_neqI_s rfl rfl rfl ?_; refine wpO_cons ?_; refine op1_mov rfl (by (conv => lhs; whnf) <;> rfl) ?_; refine wpO_cons ?_; refine op1_mov rfl (by (conv => lhs; whnf) <;> rfl) ?_; refine wpO_cons ?_; refine op1_pick_f rfl rfl (by (conv => lhs; whnf) <;> rfl) ?_; refine wpO_cons ?_; refine op1_mov rfl (by (conv => lhs; whnf) <;> rfl) ?_; refine wpO_cons ?_; refine op1_mov rfl (by (conv => lhs; whnf) <;> rfl) ?_; refine wpO_cons ?_; refine op1_len rfl rfl ?_; refine wpO_cons ?_; refine op1_eqlI rfl rfl rfl ?_; refine wpO_cons ?_; refine op1_pick_f rfl rfl (by (conv => lhs; whnf) <;> rfl) ?_; refine wpO_nil ?_; refine seq_normal ?_
      refine wp_dec rfl (fun hq => ?_) (fun hq => ?_)
      · omega
      obtain ⟨_, _, _, _, m, hS⟩ := openF (S.up3 hS)
      refine wp_skip ?_; refine seq_normal ?_; refine wp_seq ?_; refine wp_region ?_; refine wpO_cons ?_; refine op1_mov rfl (by (conv => lhs; whnf) <;> rfl) ?_; refine wpO_cons ?_; refine op1_mov rfl (by (conv => lhs; whnf) <;> rfl) ?_; refine wpO_cons ?_; refine op1_nilchk rfl rfl ?_; refine wpO_cons ?_; refine op1_faddr0 rfl rfl ?_; refine wpO_cons ?_; refine op1_load rfl rfl (by exact S.g0 hS) rfl ?_; refine wpO_cons ?_; refine op1_mov rfl (by (conv => lhs; whnf) <;> rfl) ?_; refine wpO_cons ?_
      obtain ⟨_, hr8, _⟩ := (S.up4 hS).rd
      refine op1_appRS rfl rfl (by (conv => lhs; whnf) <;> rfl) rfl hr8 (by simp) (u8s_one _) (S.up1 hS) (by omega) ?_
      rw [← u8s_append]
      intro a8 c8 H9 hS
      replace hS := S.dn1 hS
      refine wpO_cons ?_; refine op1_nilchk rfl rfl ?_; refine wpO_cons ?_; refine op1_faddr0 rfl rfl ?_; refine wpO_cons ?_; (refine op1_store1S rfl rfl (by (conv => lhs; whnf) <;> rfl) rfl rfl (S.up0 hS) rfl ?_; intro H7 hS; replace hS := S.dn0 hS); refine wpO_nil ?_; refine seq_normal ?_; refine wp_region ?_; refine wpO_cons ?_; refine op1_mov rfl (by (conv => lhs; whnf) <;> rfl) ?_; refine wpO_cons ?_; refine op1_mov rfl (by (conv => lhs; whnf) <;> rfl) ?_; refine wpO_cons ?_; refine op1_call2 rfl (by (conv => lhs; whnf) <;> rfl) (by (conv => lhs; whnf) <;> rfl) ?_
      refine wpF_mono (L15 (rd := rd ++ R.data) (wr := wr) (kv := kv) (S.up2 (closeF hS)) hI.kvok w4 (by omega) (by omega) w6) ?_
      rintro _ H11 ⟨wr2, hw2, hS⟩
      refine wpO_nil ?_; refine block_normal ?_; refine seq_normal ?_; refine wp_region ?_; refine wpO_cons ?_; refine op1_mov rfl (by (conv => lhs; whnf) <;> rfl) ?_; refine wpO_cons ?_; refine op1_add rfl rfl rfl (by exact wrap_i64 (by omega) (by omega)) ?_; refine wpO_cons ?_; refine op1_mov rfl (by (conv => lhs; whnf) <;> rfl) ?_; refine wpO_nil ?_
      exact ⟨od.length - (tk R.ends (rd ++ R.data) kv).1.length, by omega, n + 1, R.s, _, wr2, _, rfl, by omega, by omega, w5, by omega, S.dn1 (S.up2 (S.drop (S.up1 hS)))⟩
    · obtain ⟨rfl, rfl⟩ := hI.done (by omega)
      obtain ⟨_, _, _, _, m, hS⟩ := openF hS
      obtain ⟨_, hr8, _⟩ := (S.up1 hS).rd
      obtain ⟨_, hr9, _⟩ := (S.up4 hS).rd
      refine wp_exit ?_; refine seq_exit ?_; refine iter_exit ?_; refine block_exit ?_; refine seq_normal ?_; refine wp_seq ?_; refine wp_region ?_; refine wpO_cons ?_; refine op1_mov rfl (by (conv => lhs; whnf) <;> rfl) ?_; refine wpO_cons ?_; refine op1_nilchk rfl rfl ?_; refine wpO_cons ?_; refine op1_faddr0 rfl rfl ?_; refine wpO_cons ?_; refine op1_load rfl rfl (by exact S.g0 hS) rfl ?_; refine wpO_cons ?_; refine op1_mov rfl (by (conv => lhs; whnf) <;> rfl) ?_; refine wpO_cons ?_; refine op1_call2 rfl (by (conv => lhs; whnf) <;> rfl) (by (conv => lhs; whnf) <;> rfl) ?_
      refine wpF_mono (L14 hr8 hr9) ?_
      rintro _ _ ⟨⟨b, rfl, hb⟩, rfl⟩
      obtain rfl := hb rfl
      refine wpO_cons ?_; refine op1_mov rfl (by (conv => lhs; whnf) <;> rfl) ?_; refine wpO_cons ?_; refine op1_mov rfl (by (conv => lhs; whnf) <;> rfl) ?_; refine wpO_cons ?_; refine op1_nilchk rfl rfl ?_; refine wpO_cons ?_; refine op1_faddr0 rfl rfl ?_; refine wpO_cons ?_; refine op1_load rfl rfl (by exact S.g0 hS) rfl ?_; refine wpO_cons ?_
      refine op1_lenMS rfl rfl (S.up3 hS) ?_
      refine wpO_cons ?_; refine op1_eqlI_s rfl rfl rfl ?_; refine wpO_cons ?_; refine op1_pick_t rfl rfl (by (conv => lhs; whnf) <;> rfl) ?_; refine wpO_cons ?_; refine op1_mov rfl (by (conv => lhs; whnf) <;> rfl) ?_; refine wpO_nil ?_; refine seq_normal ?_; refine wp_ret ?_; refine ret_of ?_; refine rk_tmp (by (conv => lhs; whnf) <;> rfl) ?_; refine rk_nil ?_
      rfl
end Go.E.Pi
