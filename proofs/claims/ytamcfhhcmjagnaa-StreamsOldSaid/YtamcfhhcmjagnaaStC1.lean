/- A connection in plain Lean, and how it lies in the heap; reading, writing, closing. -/
import Derived.Test.YtamcfhhcmjagnaaStM
import Derived.Test.YtamcfhhcmjagnaaEhZm
import Derived.Test.YtamcfhhcmjagnaaStCode3
namespace Go.E.St
open Go Go.E Go.Proofs.Ytamcfhhcmjagnaa Go.Proofs
set_option linter.unusedVariables false
set_option linter.unusedSimpArgs false
set_option maxRecDepth 100000
theorem wrap_u32 (n : Int) : IntKind.u32.wrap n = n % 4294967296 := by
  unfold IntKind.wrap; simp [IntKind.bits, IntKind.signed]
structure Cn where
  first : Int
  una : Int
  nxt : Int
  size : Int
  window : Int
  out : List Int
  asked : Bool
  finSent : Bool
  finGone : Bool
  pat : Int
  tmo : Int
  run : Bool
  since : Int
  reps : Int
  rcv : Int
  synced : Bool
  ended : Bool
  inc : List Int
  due : Bool
  st : Int
  clock : Int
  rst : Bool
def cnC (s : Cn) (vo vi : Value) : List Value := [.int .u32 s.first, .int .u32 s.una, .int .u32 s.nxt, .int .i64 s.size, .int .i64 s.window, vo, .bool s.asked, .bool s.finSent, .bool s.finGone, .int .i64 s.pat, .int .i64 s.tmo, .bool s.run, .int .i64 s.since, .int .i64 s.reps,
  .int .u32 s.rcv, .bool s.synced, .bool s.ended, vi, .bool s.due, .int .i64 s.st, .int .i64 s.clock, .bool s.rst]
def rfC (s : Cn) (vo vi : Value) : List Value := [.int .i64 s.st, .int .u32 s.first, .int .i64 s.size, .int .i64 s.pat, .int .i64 s.tmo, .int .i64 s.clock, .int .u32 s.una, .int .u32 s.nxt, vo, .int .i64 s.window, .bool s.asked, .bool s.finSent, .bool s.finGone, .int .u32 s.rcv, .bool s.synced, .bool s.ended,
  vi, .bool s.due, .bool s.run, .int .i64 s.since, .int .i64 s.reps, .bool s.rst]
def repC (p : Nat) (s : Cn) : Asn := exA fun (x : Value × Value) => seps [pto p (.cells (cnC s x.1 x.2) 0 false), sl 1 x.1 (u8s s.out), sl 1 x.2 (u8s s.inc)]
def repD (p : Nat) (s : Cn) : Asn := exA fun (x : Value × Value) => seps [pto p (.cells (rfC s x.1 x.2) 0 false), sl 1 x.1 (u8s s.out), sl 1 x.2 (u8s s.inc)]
section
variable {B H : AHeap} {As : List Asn} {p : Nat} {s : Cn}
theorem openC (h : S B H (repC p s :: As)) : ∃ ao co ai ci, s.out.length ≤ co ∧ s.inc.length ≤ ci ∧ S B H (pto p (.cells (cnC s (.slice ao s.out.length co) (.slice ai s.inc.length ci)) 0 false) :: sl 1 (.slice ao s.out.length co) (u8s s.out) :: sl 1 (.slice ai s.inc.length ci) (u8s s.inc) :: As) := by
  obtain ⟨⟨vo, vi⟩, h⟩ := S.unex h
  have h := S.unseps h
  obtain ⟨ao, co, ho⟩ := S.u1 (S.up1 h)
  obtain ⟨ai, ci, hi⟩ := S.u1 (S.up2 h)
  simp only at ho hi
  subst ho hi
  exact ⟨ao, co, ai, ci, S.len_le (S.up1 h), S.len_le (S.up2 h), h⟩
theorem closeC {vo vi : Value} (h : S B H (pto p (.cells (cnC s vo vi) 0 false) :: sl 1 vo (u8s s.out) :: sl 1 vi (u8s s.inc) :: As)) : S B H (repC p s :: As) := S.exI (X := Value × Value) (vo, vi) (S.seps h)
theorem openD (h : S B H (repD p s :: As)) : ∃ ao co ai ci, s.out.length ≤ co ∧ s.inc.length ≤ ci ∧ S B H (pto p (.cells (rfC s (.slice ao s.out.length co) (.slice ai s.inc.length ci)) 0 false) :: sl 1 (.slice ao s.out.length co) (u8s s.out) :: sl 1 (.slice ai s.inc.length ci) (u8s s.inc) :: As) := by
  obtain ⟨⟨vo, vi⟩, h⟩ := S.unex h
  have h := S.unseps h
  obtain ⟨ao, co, ho⟩ := S.u1 (S.up1 h)
  obtain ⟨ai, ci, hi⟩ := S.u1 (S.up2 h)
  simp only at ho hi
  subst ho hi
  exact ⟨ao, co, ai, ci, S.len_le (S.up1 h), S.len_le (S.up2 h), h⟩
theorem closeD {vo vi : Value} (h : S B H (pto p (.cells (rfC s vo vi) 0 false) :: sl 1 vo (u8s s.out) :: sl 1 vi (u8s s.inc) :: As)) : S B H (repD p s :: As) := S.exI (X := Value × Value) (vo, vi) (S.seps h)
end
def ptC (p : Nat) : Value := .pointer (some ⟨p, 0, none⟩)
structure Ok (s : Cn) : Prop where
  first : 0 ≤ s.first ∧ s.first ≤ 4294967295
  una : 0 ≤ s.una ∧ s.una ≤ 4294967295
  nxt : 0 ≤ s.nxt ∧ s.nxt ≤ 4294967295
  rcv : 0 ≤ s.rcv ∧ s.rcv ≤ 4294967295
  size : 1 ≤ s.size ∧ s.size ≤ 256
  window : 0 ≤ s.window ∧ s.window ≤ 4096
  out : s.out.length ≤ 4096
  inc : s.inc.length ≤ 4096
  pat : 1 ≤ s.pat ∧ s.pat ≤ 65536
  tmo : 1 ≤ s.tmo ∧ s.tmo ≤ 65536
  since : 0 ≤ s.since ∧ s.since ≤ 1099511627776
  clock : 0 ≤ s.clock ∧ s.clock ≤ 1099511627776
  reps : 0 ≤ s.reps ∧ s.reps ≤ 8
  st : 0 ≤ s.st ∧ s.st ≤ 9
  syn : s.st = 2 → s.una = s.first

/-! ### listening, opening, writing, closing, aborting, reading -/
def Cn.start (s : Cn) (n : Int) : Int × Cn := if s.st = 0 then (0, { s with st := n }) else (35, s)
def Cn.wrt (s : Cn) : Int := if s.st = 9 then 4 else if s.asked = true then 35 else if s.st = 4 ∨ s.st = 6 ∨ s.st = 2 ∨ s.st = 3 then 0 else 35
def Cn.write (s : Cn) (d : List Int) : Int × Int × Cn :=
  if s.wrt ≠ 0 then (0, s.wrt, s)
  else if min d.length (4096 - s.out.length) = 0 ∧ 0 < d.length then (0, 2, s)
  else ((min d.length (4096 - s.out.length) : Nat), 0, { s with out := s.out ++ d.take (min d.length (4096 - s.out.length)) })
def Cn.close (s : Cn) : Int × Cn := if s.wrt ≠ 0 then (s.wrt, s) else (0, { s with asked := true, st := if s.st = 4 then 5 else if s.st = 6 then 7 else s.st })
def Cn.abort (s : Cn) : Int × Cn := if s.st = 0 then (35, s) else if s.st = 9 then (4, s) else (0, { s with st := 9, rst := true })
def Cn.readE (s : Cn) (n : Int) : Int := if n < 0 then 34 else if 0 < s.inc.length then 0 else if s.st = 9 then 4 else if s.ended = true then 33 else if 0 < n then 2 else 0
def Cn.readK (s : Cn) (n : Int) : Nat := min n.toNat s.inc.length
def Cn.read (s : Cn) (n : Int) : List Int × Int × Cn :=
  if s.readE n ≠ 0 then ([], s.readE n, s)
  else (s.inc.take (s.readK n), 0, { s with due := s.due || decide (4096 - s.inc.length = 0 ∧ 0 < s.readK n), inc := s.inc.drop (s.readK n) })

section
variable {B H : AHeap} {As : List Asn} {p : Nat} {s : Cn}
theorem L73 {n : Int} (hS : S B H (repC p s :: As)) : wpF C 73 [ptC p, .int .i64 n] H fun v H' => v = .int .i64 (s.start n).1 ∧ S B H' (repC p (s.start n).2 :: As) := by
  obtain ⟨ao, co, ai, ci, ho, hi, hO⟩ := openC hS
  refine wpF_ofW o73 rfl rfl ?_
  clear hS
  have hS := hO
  clear hO
  unfold cnC at hS
  unfold ptC Cn.start
  refine zsr ?_; refine zw1 ?_; refine zns ?_; refine wp_seq ?_; refine zsr ?_; refine zw1 ?_; refine wpO_cons ?_; refine op1_bin_false rfl (by (conv => lhs; whnf) <;> rfl) (by (conv => lhs; whnf) <;> rfl) rfl ?_; refine zw1 ?_; refine zw1 ?_; refine zn ?_; refine zf ?_; refine zh (S.g0 hS) ?_; refine wpO_cons ?_; refine op1_neqI rfl rfl rfl ?_; refine zu ?_; refine zns ?_
  refine wp_ndec rfl (fun h => ?_) (fun h => ?_)
  · rw [if_neg h]
    refine zsr ?_; refine zw1 ?_; refine zns ?_; refine wp_ret ?_; refine seq_ret ?_; refine ret_of ?_; refine zr ?_; refine rk_nil ?_
    exact ⟨rfl, closeC hS⟩
  · rw [if_pos h]
    refine wp_skip ?_; refine seq_normal ?_; refine zsr ?_; refine zw1 ?_; refine zw1 ?_; refine zn ?_; refine zf ?_; refine wpO_cons ?_; (refine op1_store1S rfl rfl (by (conv => lhs; whnf) <;> rfl) rfl rfl (S.up0 hS) rfl ?_; intro H1 hS; replace hS := S.dn0 hS); refine zns ?_; refine zsr ?_; refine zw1 ?_; refine zns ?_; refine wp_ret ?_; refine ret_of ?_; refine zr ?_; refine rk_nil ?_
    exact ⟨rfl, closeC (s := { s with st := n }) hS⟩
theorem L42 (hS : S B H (repC p s :: As)) : wpF C 42 [ptC p] H fun v H' => v = .int .i64 (s.start 1).1 ∧ S B H' (repC p (s.start 1).2 :: As) := by
  refine wpF_ofW o42 rfl rfl ?_
  unfold ptC
  refine zsr ?_; refine zw1 ?_; refine zns ?_; refine zsr ?_; refine zw1 ?_; refine wpO_cons ?_; refine op1_call2 rfl (by (conv => lhs; whnf) <;> rfl) (by (conv => lhs; whnf) <;> rfl) ?_
  refine wpF_mono (L73 hS) ?_
  rintro _ H2 ⟨rfl, hS⟩
  refine zw1 ?_; refine zns ?_; refine wp_ret ?_; refine ret_of ?_; refine zr ?_; refine rk_nil ?_
  exact ⟨rfl, hS⟩
theorem L41 (hS : S B H (repC p s :: As)) : wpF C 41 [ptC p] H fun v H' => v = .int .i64 (s.start 2).1 ∧ S B H' (repC p (s.start 2).2 :: As) := by
  refine wpF_ofW o41 rfl rfl ?_
  unfold ptC
  refine zsr ?_; refine zw1 ?_; refine zns ?_; refine zsr ?_; refine zw1 ?_; refine wpO_cons ?_; refine op1_call2 rfl (by (conv => lhs; whnf) <;> rfl) (by (conv => lhs; whnf) <;> rfl) ?_
  refine wpF_mono (L73 hS) ?_
  rintro _ H2 ⟨rfl, hS⟩
  refine zw1 ?_; refine zns ?_; refine wp_ret ?_; refine ret_of ?_; refine zr ?_; refine rk_nil ?_
  exact ⟨rfl, hS⟩
theorem L47 (hS : S B H (repC p s :: As)) : wpF C 47 [ptC p] H fun v H' => v = .int .i64 s.wrt ∧ S B H' (repC p s :: As) := by
  have hS0 := hS
  obtain ⟨ao, co, ai, ci, ho, hi, hO⟩ := openC hS
  refine wpF_ofW o47 rfl rfl ?_
  clear hS
  have hS := hO
  clear hO
  unfold cnC at hS
  unfold ptC Cn.wrt
  refine zsr ?_; refine zw1 ?_; refine zns ?_; refine wp_seq ?_; refine wp_block ?_; refine zsr ?_; refine zw1 ?_; refine wpO_cons ?_; refine op1_bin_false rfl (by (conv => lhs; whnf) <;> rfl) (by (conv => lhs; whnf) <;> rfl) rfl ?_; refine zw1 ?_; refine zns ?_; refine wp_false rfl ?_; refine zsr ?_; refine zw1 ?_; refine zn ?_; refine zf ?_; refine zh (S.g0 hS) ?_; refine wpO_cons ?_; refine op1_eqlI rfl rfl rfl ?_; refine zw1 ?_; refine zns ?_
  refine wp_dec rfl (fun h => ?_) (fun h => ?_)
  · rw [if_pos h]
    refine zsr ?_; refine zw1 ?_; refine zns ?_; refine wp_ret ?_; refine block_ret ?_; refine seq_ret ?_; refine ret_of ?_; refine zr ?_; refine rk_nil ?_
    exact ⟨rfl, hS0⟩
  rw [if_neg h]
  refine zsr ?_; refine zw1 ?_; refine zn ?_; refine zf ?_; refine zf ?_; refine zh (S.g0 hS) ?_; refine zw1 ?_; refine zns ?_
  obtain ⟨as_, has⟩ : ∃ z, z = s.asked := ⟨_, rfl⟩
  rw [← has]
  cases as_
  · rw [if_neg (by simp)]
    refine wp_false rfl ?_; refine zsr ?_; refine zw1 ?_; refine zn ?_; refine zf ?_; refine zh (S.g0 hS) ?_; refine wpO_cons ?_; refine op1_eqlI rfl rfl rfl ?_; refine zw1 ?_; refine wpO_cons ?_
    refine op1_dec rfl (fun h1 => ?_) (fun h1 => ?_)
    · rw [if_pos (.inl h1)]
      refine op1_skip rfl ?_; (iterate 4 refine zk ?_); refine zt ?_; refine zw1 ?_; (iterate 5 refine zk ?_); refine zt ?_; refine zw1 ?_; (iterate 5 refine zk ?_); refine zt ?_; refine zw1 ?_; refine zns ?_; refine wp_true rfl ?_; refine zsr ?_; refine zw1 ?_; refine zns ?_; refine wp_ret ?_; refine block_ret ?_; refine seq_ret ?_; refine ret_of ?_; refine zr ?_; refine rk_nil ?_
      exact ⟨rfl, hS0⟩
    refine op1_mov rfl (by (conv => lhs; whnf) <;> rfl) ?_; refine zn ?_; refine zf ?_; refine zh (S.g0 hS) ?_; refine wpO_cons ?_; refine op1_eqlI rfl rfl rfl ?_; refine zu ?_; refine zw1 ?_; refine wpO_cons ?_
    refine op1_dec rfl (fun h2 => ?_) (fun h2 => ?_)
    · rw [if_pos (.inr (.inl h2))]
      refine op1_skip rfl ?_; (iterate 4 refine zk ?_); refine zt ?_; refine zw1 ?_; (iterate 5 refine zk ?_); refine zt ?_; refine zw1 ?_; refine zns ?_; refine wp_true rfl ?_; refine zsr ?_; refine zw1 ?_; refine zns ?_; refine wp_ret ?_; refine block_ret ?_; refine seq_ret ?_; refine ret_of ?_; refine zr ?_; refine rk_nil ?_
      exact ⟨rfl, hS0⟩
    refine op1_mov rfl (by (conv => lhs; whnf) <;> rfl) ?_; refine zn ?_; refine zf ?_; refine zh (S.g0 hS) ?_; refine wpO_cons ?_; refine op1_eqlI rfl rfl rfl ?_; refine zu ?_; refine zw1 ?_; refine wpO_cons ?_
    refine op1_dec rfl (fun h3 => ?_) (fun h3 => ?_)
    · rw [if_pos (.inr (.inr (.inl h3)))]
      refine op1_skip rfl ?_; (iterate 4 refine zk ?_); refine zt ?_; refine zw1 ?_; refine zns ?_; refine wp_true rfl ?_; refine zsr ?_; refine zw1 ?_; refine zns ?_; refine wp_ret ?_; refine block_ret ?_; refine seq_ret ?_; refine ret_of ?_; refine zr ?_; refine rk_nil ?_
      exact ⟨rfl, hS0⟩
    refine op1_mov rfl (by (conv => lhs; whnf) <;> rfl) ?_; refine zn ?_; refine zf ?_; refine zh (S.g0 hS) ?_; refine wpO_cons ?_; refine op1_eqlI rfl rfl rfl ?_; refine zu ?_; refine zw1 ?_; refine zns ?_
    refine wp_dec rfl (fun h4 => ?_) (fun h4 => ?_)
    · rw [if_pos (.inr (.inr (.inr h4)))]
      refine zsr ?_; refine zw1 ?_; refine zns ?_; refine wp_ret ?_; refine block_ret ?_; refine seq_ret ?_; refine ret_of ?_; refine zr ?_; refine rk_nil ?_
      exact ⟨rfl, hS0⟩
    · rw [if_neg (by omega)]
      refine wp_skip ?_; refine block_normal ?_; refine seq_normal ?_; refine zsr ?_; refine zw1 ?_; refine zns ?_; refine wp_ret ?_; refine ret_of ?_; refine zr ?_; refine rk_nil ?_
      exact ⟨rfl, hS0⟩
  · rw [if_pos rfl]
    refine wp_true rfl ?_; refine zsr ?_; refine zw1 ?_; refine zns ?_; refine wp_ret ?_; refine block_ret ?_; refine seq_ret ?_; refine ret_of ?_; refine zr ?_; refine rk_nil ?_
    exact ⟨rfl, hS0⟩
theorem L25 {vd : Value} {d : List Int} (hok : Ok s) (hd : RD B As 1 vd (u8s d)) (hl : d.length ≤ 9223372036854775807) (hS : S B H (repC p s :: As)) :
    wpF C 25 [ptC p, vd] H fun v H' => v = .tuple ⟨[.int .i64 (s.write d).1, .int .i64 (s.write d).2.1]⟩ ∧ S B H' (repC p (s.write d).2.2 :: As) := by
  obtain ⟨a, c, rfl⟩ := hd.u1 hS.drop
  have hol := hok.out
  refine wpF_ofW o25 rfl rfl ?_
  unfold ptC Cn.write
  refine zsr ?_; refine zw1 ?_; refine zw1 ?_; refine zns ?_; refine wp_seq ?_; refine zsr ?_; refine zw1 ?_; refine wpO_cons ?_; refine op1_call1 rfl (by (conv => lhs; whnf) <;> rfl) ?_
  refine wpF_mono (L47 hS) ?_
  rintro _ H2 ⟨rfl, hS⟩
  refine zw1 ?_; refine zns ?_; refine zsr ?_; refine zw1 ?_; refine wpO_cons ?_; refine op1_neqI rfl rfl rfl ?_; refine zns ?_
  refine wp_ndec rfl (fun h => ?_) (fun h => ?_)
  · rw [if_pos h]
    refine zsr ?_; refine zw1 ?_; refine zw1 ?_; refine zw1 ?_; refine zns ?_; refine wp_ret ?_; refine seq_ret ?_; refine ret_of ?_; refine zr ?_; refine zr ?_; refine rk_nil ?_
    exact ⟨rfl, hS⟩
  rw [if_neg (by omega)]
  obtain ⟨ao, co, ai, ci, ho, hi, hO⟩ := openC hS
  have hS0 := hS
  clear hS
  have hS := hO
  clear hO
  unfold cnC at hS
  refine wp_skip ?_; refine seq_normal ?_; refine zsr ?_; refine zw1 ?_; refine wpO_cons ?_; refine op1_len rfl rfl ?_; refine zw1 ?_; refine zn ?_; refine zf ?_; refine zf ?_; refine zh (S.g0 hS) ?_; refine wpO_cons ?_; refine op1_len rfl rfl ?_; refine wpO_cons ?_; refine op1_sub rfl rfl rfl (by exact wrap_i64 (by omega) (by omega)) ?_; refine wpO_cons ?_; refine op1_min rfl rfl rfl ?_; refine zw1 ?_; refine zns ?_; refine wp_seq ?_; refine zsr ?_; refine zw1 ?_; refine wpO_cons ?_; refine op1_eqlI rfl rfl rfl ?_; refine zw1 ?_; refine wpO_cons ?_
  obtain ⟨m, hm⟩ : ∃ m : Nat, m = min d.length (4096 - s.out.length) := ⟨_, rfl⟩
  rw [show (min (d.length : Int) (4096 - (s.out.length : Int))) = (m : Int) by omega, ← hm]
  refine op1_dec rfl (fun h1 => ?_) (fun h1 => ?_)
  · refine op1_mov rfl (by (conv => lhs; whnf) <;> rfl) ?_; refine wpO_cons ?_; refine op1_len rfl rfl ?_; refine wpO_cons ?_; refine op1_gtr rfl rfl rfl ?_; refine zt ?_; refine zns ?_
    refine wp_dec rfl (fun h2 => ?_) (fun h2 => ?_)
    · rw [if_pos (by omega)]
      refine zsr ?_; refine zw1 ?_; refine zw1 ?_; refine zns ?_; refine wp_ret ?_; refine seq_ret ?_; refine ret_of ?_; refine zr ?_; refine zr ?_; refine rk_nil ?_
      exact ⟨rfl, hS0⟩
    · rw [if_neg (by omega)]
      refine wp_skip ?_; refine seq_normal ?_; refine wp_seq ?_; refine wp_regionD ?_; refine zd1 ?_; refine zd1 ?_; refine zm ?_; refine zg ?_; refine zg ?_; refine zj (S.g0 hS) ?_; refine zd1 ?_; refine zd1 ?_; refine wpD_cons ?_
      have hmd : m ≤ d.length := by omega
      have hcap : d.length ≤ c := by obtain ⟨_, hz, _⟩ := hd _ (S.drop (S.drop (S.drop hS))); exact hz.le_cap
      have hT := hS
      refine op1_sliceD rfl rfl (RD.cons (RD.cons (RD.cons hd))) hS (bnds_hi (by omega) (by omega)) (by omega) (by simp only [Int.toNat_natCast]; omega) ?_
      simp only [Int.toNat_natCast, Nat.zero_mul, List.drop_zero, Nat.sub_zero, Nat.mul_one]
      intro a1 c1 hd1 hck
      rw [u8s_take] at hd1
      have hml : (d.take m).length = m := by rw [List.length_take]; omega
      obtain ⟨r1, hr1, _⟩ := hd1 _ hS
      refine wpD_cons ?_
      refine op1_appRS rfl rfl (by (conv => lhs; whnf) <;> rfl) rfl hr1 (by simp [hml]) (u8s_one _) (S.up1 hS) (by omega) ?_
      intro a2 c2 H3 hS
      rw [← u8s_append] at hS
      refine zm ?_; refine zg ?_; refine zg ?_; refine wpD_cons ?_; (refine op1_store1S rfl rfl (by (conv => lhs; whnf) <;> rfl) rfl rfl (S.up1 hS) rfl ?_; intro H1 hS; replace hS := S.dn1 hS); refine wpD_nil ?_; refine dk_of ?_ ?_; (iterate 5 refine chk_skip ?_); refine zx 9 ?_ ?_; refine zy 5 ?_ ?_; exact zq (S.g0 hT); exact chkFs_nil; (iterate 2 refine chk_skip ?_); refine zx 6 ?_ ?_; refine zy 5 ?_ ?_
      · exact hck _ _ hT rfl
      exact chkFs_nil; (iterate 5 refine chk_skip ?_); exact chk_end; refine seq_normal ?_; refine zsr ?_; refine zw1 ?_; refine zw1 ?_; refine zw1 ?_; refine zns ?_; refine wp_ret ?_; refine ret_of ?_; refine zr ?_; refine zr ?_; refine rk_nil ?_
      refine ⟨rfl, closeC (s := { s with out := s.out ++ d.take m }) (vo := .slice a2 (s.out.length + m) c2) (S.up1 hS)⟩
  · rw [if_neg (by omega)]
    refine op1_skip rfl ?_; refine zk ?_; refine zk ?_; refine zu ?_; refine zns ?_; refine wp_false rfl ?_; refine wp_skip ?_; refine seq_normal ?_; refine wp_seq ?_; refine wp_regionD ?_; refine zd1 ?_; refine zd1 ?_; refine zm ?_; refine zg ?_; refine zg ?_; refine zj (S.g0 hS) ?_; refine zd1 ?_; refine zd1 ?_; refine wpD_cons ?_
    have hmd : m ≤ d.length := by omega
    have hcap : d.length ≤ c := by obtain ⟨_, hz, _⟩ := hd _ (S.drop (S.drop (S.drop hS))); exact hz.le_cap
    have hT := hS
    refine op1_sliceD rfl rfl (RD.cons (RD.cons (RD.cons hd))) hS (bnds_hi (by omega) (by omega)) (by omega) (by simp only [Int.toNat_natCast]; omega) ?_
    simp only [Int.toNat_natCast, Nat.zero_mul, List.drop_zero, Nat.sub_zero, Nat.mul_one]
    intro a1 c1 hd1 hck
    rw [u8s_take] at hd1
    have hml : (d.take m).length = m := by rw [List.length_take]; omega
    obtain ⟨r1, hr1, _⟩ := hd1 _ hS
    refine wpD_cons ?_
    refine op1_appRS rfl rfl (by (conv => lhs; whnf) <;> rfl) rfl hr1 (by simp [hml]) (u8s_one _) (S.up1 hS) (by omega) ?_
    intro a2 c2 H3 hS
    rw [← u8s_append] at hS
    refine zm ?_; refine zg ?_; refine zg ?_; refine wpD_cons ?_; (refine op1_store1S rfl rfl (by (conv => lhs; whnf) <;> rfl) rfl rfl (S.up1 hS) rfl ?_; intro H1 hS; replace hS := S.dn1 hS); refine wpD_nil ?_; refine dk_of ?_ ?_; (iterate 5 refine chk_skip ?_); refine zx 9 ?_ ?_; refine zy 5 ?_ ?_; exact zq (S.g0 hT); exact chkFs_nil; (iterate 2 refine chk_skip ?_); refine zx 6 ?_ ?_; refine zy 5 ?_ ?_
    · exact hck _ _ hT rfl
    exact chkFs_nil; (iterate 5 refine chk_skip ?_); exact chk_end; refine seq_normal ?_; refine zsr ?_; refine zw1 ?_; refine zw1 ?_; refine zw1 ?_; refine zns ?_; refine wp_ret ?_; refine ret_of ?_; refine zr ?_; refine zr ?_; refine rk_nil ?_
    refine ⟨rfl, closeC (s := { s with out := s.out ++ d.take m }) (vo := .slice a2 (s.out.length + m) c2) (S.up1 hS)⟩
theorem L26 (hS : S B H (repC p s :: As)) : wpF C 26 [ptC p] H fun v H' => v = .int .i64 s.close.1 ∧ S B H' (repC p s.close.2 :: As) := by
  refine wpF_ofW o26 rfl rfl ?_
  unfold ptC Cn.close
  refine zsr ?_; refine zw1 ?_; refine zns ?_; refine wp_seq ?_; refine zsr ?_; refine zw1 ?_; refine wpO_cons ?_; refine op1_call1 rfl (by (conv => lhs; whnf) <;> rfl) ?_
  refine wpF_mono (L47 hS) ?_
  rintro _ H2 ⟨rfl, hS⟩
  refine zw1 ?_; refine zns ?_; refine zsr ?_; refine zw1 ?_; refine wpO_cons ?_; refine op1_neqI rfl rfl rfl ?_; refine zns ?_
  refine wp_ndec rfl (fun h => ?_) (fun h => ?_)
  · rw [if_pos h]
    refine zsr ?_; refine zw1 ?_; refine zw1 ?_; refine zns ?_; refine wp_ret ?_; refine seq_ret ?_; refine ret_of ?_; refine zr ?_; refine rk_nil ?_
    exact ⟨rfl, hS⟩
  rw [if_neg (by omega)]
  obtain ⟨ao, co, ai, ci, ho, hi, hO⟩ := openC hS
  clear hS
  have hS := hO
  clear hO
  unfold cnC at hS
  refine wp_skip ?_; refine seq_normal ?_; refine zsr ?_; refine zw1 ?_; refine zn ?_; refine zf ?_; refine zf ?_; refine wpO_cons ?_; (refine op1_store1S rfl rfl (by (conv => lhs; whnf) <;> rfl) rfl rfl (S.up0 hS) rfl ?_; intro H1 hS; replace hS := S.dn0 hS); refine zns ?_; refine wp_seq ?_; refine zsr ?_; refine zw1 ?_; refine zn ?_; refine zf ?_; refine zh (S.g0 hS) ?_; refine zns ?_; refine wp_block ?_; refine zsr ?_; refine wpO_cons ?_; refine op1_eqlI rfl rfl rfl ?_; refine zw1 ?_; refine zns ?_
  refine wp_dec rfl (fun h1 => ?_) (fun h1 => ?_)
  · rw [if_pos h1]
    refine wp_region ?_; refine zw1 ?_; refine zn ?_; refine zf ?_; refine wpO_cons ?_; (refine op1_store1S rfl rfl (by (conv => lhs; whnf) <;> rfl) rfl rfl (S.up0 hS) rfl ?_; intro H3 hS; replace hS := S.dn0 hS); refine wpO_nil ?_; refine block_normal ?_; refine seq_normal ?_; refine zsr ?_; refine zw1 ?_; refine zns ?_; refine wp_ret ?_; refine ret_of ?_; refine zr ?_; refine rk_nil ?_
    exact ⟨rfl, closeC (s := { s with asked := true, st := 5 }) hS⟩
  refine zsr ?_; refine wpO_cons ?_; refine op1_eqlI rfl rfl rfl ?_; refine zw1 ?_; refine zns ?_
  refine wp_dec rfl (fun h2 => ?_) (fun h2 => ?_)
  · rw [if_neg h1, if_pos h2]
    refine wp_region ?_; refine zw1 ?_; refine zn ?_; refine zf ?_; refine wpO_cons ?_; (refine op1_store1S rfl rfl (by (conv => lhs; whnf) <;> rfl) rfl rfl (S.up0 hS) rfl ?_; intro H3 hS; replace hS := S.dn0 hS); refine wpO_nil ?_; refine block_normal ?_; refine seq_normal ?_; refine zsr ?_; refine zw1 ?_; refine zns ?_; refine wp_ret ?_; refine ret_of ?_; refine zr ?_; refine rk_nil ?_
    exact ⟨rfl, closeC (s := { s with asked := true, st := 7 }) hS⟩
  · rw [if_neg h1, if_neg h2]
    refine wp_skip ?_; refine block_normal ?_; refine seq_normal ?_; refine zsr ?_; refine zw1 ?_; refine zns ?_; refine wp_ret ?_; refine ret_of ?_; refine zr ?_; refine rk_nil ?_
    exact ⟨rfl, closeC (s := { s with asked := true }) hS⟩
theorem L53 (hS : S B H (repC p s :: As)) : wpF C 53 [ptC p] H fun v H' => v = .int .i64 s.abort.1 ∧ S B H' (repC p s.abort.2 :: As) := by
  have hS0 := hS
  obtain ⟨ao, co, ai, ci, ho, hi, hO⟩ := openC hS
  refine wpF_ofW o53 rfl rfl ?_
  clear hS
  have hS := hO
  clear hO
  unfold cnC at hS
  unfold ptC Cn.abort
  refine zsr ?_; refine zw1 ?_; refine zns ?_; refine wp_seq ?_; refine wp_block ?_; refine zsr ?_; refine zw1 ?_; refine wpO_cons ?_; refine op1_bin_false rfl (by (conv => lhs; whnf) <;> rfl) (by (conv => lhs; whnf) <;> rfl) rfl ?_; refine zw1 ?_; refine zw1 ?_; refine zn ?_; refine zf ?_; refine zh (S.g0 hS) ?_; refine wpO_cons ?_; refine op1_eqlI rfl rfl rfl ?_; refine zu ?_; refine zw1 ?_; refine zns ?_
  refine wp_dec rfl (fun h => ?_) (fun h => ?_)
  · rw [if_pos h]
    refine zsr ?_; refine zw1 ?_; refine zns ?_; refine wp_ret ?_; refine block_ret ?_; refine seq_ret ?_; refine ret_of ?_; refine zr ?_; refine rk_nil ?_
    exact ⟨rfl, hS0⟩
  refine zsr ?_; refine zw1 ?_; refine zn ?_; refine zf ?_; refine zh (S.g0 hS) ?_; refine wpO_cons ?_; refine op1_eqlI rfl rfl rfl ?_; refine zw1 ?_; refine zns ?_
  refine wp_dec rfl (fun h1 => ?_) (fun h1 => ?_)
  · rw [if_neg h, if_pos h1]
    refine zsr ?_; refine zw1 ?_; refine zns ?_; refine wp_ret ?_; refine block_ret ?_; refine seq_ret ?_; refine ret_of ?_; refine zr ?_; refine rk_nil ?_
    exact ⟨rfl, hS0⟩
  · rw [if_neg h, if_neg h1]
    refine wp_skip ?_; refine block_normal ?_; refine seq_normal ?_; refine zsr ?_; refine zw1 ?_; refine zw1 ?_; refine zn ?_; refine zf ?_; refine wpO_cons ?_; (refine op1_store1S rfl rfl (by (conv => lhs; whnf) <;> rfl) rfl rfl (S.up0 hS) rfl ?_; intro H1 hS; replace hS := S.dn0 hS); refine zn ?_; refine zf ?_; refine wpO_cons ?_; (refine op1_store1S rfl rfl (by (conv => lhs; whnf) <;> rfl) rfl rfl (S.up0 hS) rfl ?_; intro H2 hS; replace hS := S.dn0 hS); refine zns ?_; refine zsr ?_; refine zw1 ?_; refine zns ?_; refine wp_ret ?_; refine ret_of ?_; refine zr ?_; refine rk_nil ?_
    exact ⟨rfl, closeC (s := { s with st := 9, rst := true }) hS⟩
theorem L66 {vo : Value} {ai : Option Addr} {ci n : Nat} (hn : n ≤ 4096) (hS : S B H (pto p (.cells (cnC s vo (.slice ai n ci)) 0 false) :: As)) : wpF C 66 [.pointer (some ⟨p, 14, none⟩)] H fun v H' => v = .int .i64 (4096 - n) ∧ H = H' := by
  refine wpF_ofW o66 rfl rfl ?_
  unfold cnC at hS
  refine zsr ?_; refine zw1 ?_; refine zns ?_; refine zsr ?_; refine zw1 ?_; refine zn ?_; refine wpO_cons ?_; refine op1_faddr rfl rfl ?_; refine zh (S.g0 hS) ?_; refine wpO_cons ?_; refine op1_len rfl rfl ?_; refine wpO_cons ?_; refine op1_sub rfl rfl rfl (by exact wrap_i64 (by omega) (by omega)) ?_; refine zw1 ?_; refine zns ?_; refine wp_ret ?_; refine ret_of ?_; refine zr ?_; refine rk_nil ?_
  exact ⟨rfl, rfl⟩
theorem L27 (hS : S B H (repC p s :: As)) : wpF C 27 [ptC p] H fun v H' => v = .int .i64 s.st ∧ H = H' := by
  obtain ⟨ao, co, ai, ci, ho, hi, hO⟩ := openC hS
  refine wpF_ofW o27 rfl rfl ?_
  clear hS
  have hS := hO
  clear hO
  unfold cnC at hS
  unfold ptC
  refine zsr ?_; refine zw1 ?_; refine zns ?_; refine wp_seq ?_; refine zsr ?_; refine zw1 ?_; refine wpO_cons ?_; refine op1_bin_false rfl (by (conv => lhs; whnf) <;> rfl) (by (conv => lhs; whnf) <;> rfl) rfl ?_; refine zns ?_; refine wp_false rfl ?_; refine wp_skip ?_; refine seq_normal ?_; refine zsr ?_; refine zw1 ?_; refine zn ?_; refine zf ?_; refine zh (S.g0 hS) ?_; refine zw1 ?_; refine zns ?_; refine wp_ret ?_; refine ret_of ?_; refine zr ?_; refine rk_nil ?_
  exact ⟨rfl, rfl⟩
theorem L35 (hS : S B H (repC p s :: As)) : wpF C 35 [ptC p] H fun v H' => v = .tuple ⟨[.int .u32 s.una, .int .u32 s.nxt, .int .u32 s.rcv]⟩ ∧ H = H' := by
  obtain ⟨ao, co, ai, ci, ho, hi, hO⟩ := openC hS
  refine wpF_ofW o35 rfl rfl ?_
  clear hS
  have hS := hO
  clear hO
  unfold cnC at hS
  unfold ptC
  refine zsr ?_; refine zw1 ?_; refine zw1 ?_; refine zw1 ?_; refine zns ?_; refine wp_seq ?_; refine zsr ?_; refine zw1 ?_; refine wpO_cons ?_; refine op1_bin_false rfl (by (conv => lhs; whnf) <;> rfl) (by (conv => lhs; whnf) <;> rfl) rfl ?_; refine zns ?_; refine wp_false rfl ?_; refine wp_skip ?_; refine seq_normal ?_; refine wp_seq ?_; refine wp_regionD ?_; refine zd1 ?_; refine zm ?_; refine zg ?_; refine zg ?_; refine zj (S.g0 hS) ?_; refine zd1 ?_; refine zm ?_; refine zg ?_; refine zg ?_; refine zj (S.g0 hS) ?_; refine zd1 ?_; refine zm ?_; refine zg ?_; refine wpD_cons ?_; refine op1_faddr rfl rfl ?_; refine zj (S.g0 hS) ?_; refine zd1 ?_; refine zd1 ?_; refine zd1 ?_; refine wpD_nil ?_; refine dk_of ?_ ?_; (iterate 4 refine chk_skip ?_); refine zx 14 ?_ ?_; refine zy 0 ?_ ?_; exact zq (S.g0 hS); exact chkFs_nil; (iterate 4 refine chk_skip ?_); refine zx 9 ?_ ?_; refine zy 0 ?_ ?_; exact zq (S.g0 hS); exact chkFs_nil; (iterate 4 refine chk_skip ?_); refine zx 4 ?_ ?_; refine zy 0 ?_ ?_; exact zq (S.g0 hS); exact chkFs_nil; (iterate 3 refine chk_skip ?_); exact chk_end; refine seq_normal ?_; refine wp_ret ?_; refine ret_of ?_; refine zr ?_; refine zr ?_; refine zr ?_; refine rk_nil ?_
  exact ⟨rfl, rfl⟩
theorem L68 {n : Int} : wpF C 68 [.int .i64 n] H fun v H' => v = .bool (decide (0 ≤ n ∧ n ≤ 1099511627776)) ∧ H = H' := by
  refine wpF_ofW o68 rfl rfl ?_
  refine zsr ?_; refine zw1 ?_; refine zns ?_; refine zsr ?_; refine zw1 ?_; refine wpO_cons ?_; refine op1_geq rfl rfl rfl ?_; refine zw1 ?_; refine wpO_cons ?_
  refine op1_dec rfl (fun h1 => ?_) (fun h1 => ?_)
  · refine op1_mov rfl (by (conv => lhs; whnf) <;> rfl) ?_; refine wpO_cons ?_; refine op1_leq rfl rfl rfl ?_; refine zt ?_; refine zw1 ?_; refine zns ?_; refine wp_ret ?_; refine ret_of ?_; refine zr ?_; refine rk_nil ?_
    refine ⟨?_, rfl⟩
    show Value.bool _ = _
    congr 1
    rw [decide_eq_decide]; omega
  · refine op1_skip rfl ?_; refine zk ?_; refine zu ?_; refine zw1 ?_; refine zns ?_; refine wp_ret ?_; refine ret_of ?_; refine zr ?_; refine rk_nil ?_
    refine ⟨?_, rfl⟩
    rw [decide_eq_false (by omega)]; rfl
end
end Go.E.St
/- A connection: reading, making, copying. -/
namespace Go.E.St
open Go Go.E Go.Proofs.Ytamcfhhcmjagnaa Go.Proofs
set_option linter.unusedVariables false
set_option linter.unusedSimpArgs false
set_option maxRecDepth 100000
def NewOk (size t : Int) : Prop := (1 ≤ size ∧ size ≤ 256) ∧ 1 ≤ t ∧ t ≤ 65536
instance (a b : Int) : Decidable (NewOk a b) := by unfold NewOk; infer_instance
def cn0 (first size t : Int) : Cn := ⟨first, first, first, size, 0, [], false, false, false, t, t, false, 0, 0, 0, false, false, [], false, 0, 0, false⟩
section
variable {B H : AHeap} {As : List Asn} {p : Nat} {s : Cn}
theorem L29 {f n t : Int} (hS : S B H As) : wpF C 29 [.int .u32 f, .int .i64 n, .int .i64 t] H fun v H' => (¬ NewOk n t → v = .tuple ⟨[.pointer none, .int .i64 34]⟩ ∧ S B H' As) ∧
    (NewOk n t → ∃ p, v = .tuple ⟨[ptC p, .int .i64 0]⟩ ∧ S B H' (repC p (cn0 f n t) :: As)) := by
  refine wpF_ofW o29 rfl rfl ?_
  refine zsr ?_; refine zw1 ?_; refine zw1 ?_; refine zns ?_; refine wp_seq ?_; refine zsr ?_; refine zw1 ?_; refine wpO_cons ?_; refine op1_lss rfl rfl rfl ?_; refine zw1 ?_; refine wpO_cons ?_
  refine op1_dec rfl (fun h1 => ?_) (fun h1 => ?_)
  · refine op1_skip rfl ?_; refine zk ?_; refine zt ?_; refine zw1 ?_; refine zk ?_; refine zk ?_; refine zt ?_; refine zw1 ?_; refine zk ?_; refine zk ?_; refine zt ?_; refine zns ?_; refine wp_true rfl ?_; refine zsr ?_; refine zw1 ?_; refine zw1 ?_; refine zns ?_; refine wp_ret ?_; refine seq_ret ?_; refine ret_of ?_; refine zr ?_; refine zr ?_; refine rk_nil ?_
    exact ⟨fun _ => ⟨rfl, hS⟩, fun h => by unfold NewOk at h; omega⟩
  refine op1_mov rfl (by (conv => lhs; whnf) <;> rfl) ?_; refine wpO_cons ?_; refine op1_gtr rfl rfl rfl ?_; refine zu ?_; refine zw1 ?_; refine wpO_cons ?_
  refine op1_dec rfl (fun h2 => ?_) (fun h2 => ?_)
  · refine op1_skip rfl ?_; refine zk ?_; refine zt ?_; refine zw1 ?_; refine zk ?_; refine zk ?_; refine zt ?_; refine zns ?_; refine wp_true rfl ?_; refine zsr ?_; refine zw1 ?_; refine zw1 ?_; refine zns ?_; refine wp_ret ?_; refine seq_ret ?_; refine ret_of ?_; refine zr ?_; refine zr ?_; refine rk_nil ?_
    exact ⟨fun _ => ⟨rfl, hS⟩, fun h => by unfold NewOk at h; omega⟩
  refine op1_mov rfl (by (conv => lhs; whnf) <;> rfl) ?_; refine wpO_cons ?_; refine op1_lss rfl rfl rfl ?_; refine zu ?_; refine zw1 ?_; refine wpO_cons ?_
  refine op1_dec rfl (fun h3 => ?_) (fun h3 => ?_)
  · refine op1_skip rfl ?_; refine zk ?_; refine zt ?_; refine zns ?_; refine wp_true rfl ?_; refine zsr ?_; refine zw1 ?_; refine zw1 ?_; refine zns ?_; refine wp_ret ?_; refine seq_ret ?_; refine ret_of ?_; refine zr ?_; refine zr ?_; refine rk_nil ?_
    exact ⟨fun _ => ⟨rfl, hS⟩, fun h => by unfold NewOk at h; omega⟩
  refine op1_mov rfl (by (conv => lhs; whnf) <;> rfl) ?_; refine wpO_cons ?_; refine op1_gtr rfl rfl rfl ?_; refine zu ?_; refine zns ?_
  refine wp_dec rfl (fun h4 => ?_) (fun h4 => ?_)
  · refine zsr ?_; refine zw1 ?_; refine zw1 ?_; refine zns ?_; refine wp_ret ?_; refine seq_ret ?_; refine ret_of ?_; refine zr ?_; refine zr ?_; refine rk_nil ?_
    exact ⟨fun _ => ⟨rfl, hS⟩, fun h => by unfold NewOk at h; omega⟩
  refine wp_skip ?_; refine seq_normal ?_; refine zsr ?_; (iterate 6 refine zw1 ?_); refine wpO_cons ?_; refine op1_build rfl ?_; refine bk_one (by (conv => lhs; whnf) <;> rfl) rfl rfl rfl ?_; refine bk_one (by (conv => lhs; whnf) <;> rfl) rfl rfl rfl ?_; refine bk_one (by (conv => lhs; whnf) <;> rfl) rfl rfl rfl ?_; refine bk_one (by (conv => lhs; whnf) <;> rfl) rfl rfl rfl ?_; refine bk_one (by (conv => lhs; whnf) <;> rfl) rfl rfl rfl ?_; refine bk_one (by (conv => lhs; whnf) <;> rfl) rfl rfl rfl ?_; refine bk_nil ?_; refine wpO_cons ?_; refine op1_build rfl ?_; refine bk_agg rfl rfl rfl rfl ?_; refine bk_nil ?_; refine wpO_cons ?_; refine op1_boxNS rfl rfl rfl hS ?_; intro p1 H1 hS; refine zw1 ?_; refine zw1 ?_; refine zns ?_; refine wp_ret ?_; refine ret_of ?_; refine zr ?_; refine zr ?_; refine rk_nil ?_
  exact ⟨fun h => absurd ⟨⟨by omega, by omega⟩, by omega, by omega⟩ h, fun _ => ⟨_, rfl, closeC (s := cn0 f n t) (S.up1 (S.slNil (S.up1 (S.slNil hS))))⟩⟩
theorem L30 {f n t : Int} (hS : S B H As) : wpF C 30 [.int .u32 f, .int .i64 n, .int .i64 t] H fun v H' => (¬ NewOk n t → v = .tuple ⟨[.pointer none, .int .i64 34]⟩ ∧ S B H' As) ∧
    (NewOk n t → ∃ p, v = .tuple ⟨[ptC p, .int .i64 0]⟩ ∧ S B H' (repD p (cn0 f n t) :: As)) := by
  refine wpF_ofW o30 rfl rfl ?_
  refine zsr ?_; refine zw1 ?_; refine zw1 ?_; refine zns ?_; refine wp_seq ?_; refine zsr ?_; refine zw1 ?_; refine wpO_cons ?_; refine op1_lss rfl rfl rfl ?_; refine zw1 ?_; refine wpO_cons ?_
  refine op1_dec rfl (fun h1 => ?_) (fun h1 => ?_)
  · refine op1_skip rfl ?_; refine zk ?_; refine zt ?_; refine zw1 ?_; refine zk ?_; refine zk ?_; refine zt ?_; refine zw1 ?_; refine zk ?_; refine zk ?_; refine zt ?_; refine zns ?_; refine wp_true rfl ?_; refine zsr ?_; refine zw1 ?_; refine zw1 ?_; refine zns ?_; refine wp_ret ?_; refine seq_ret ?_; refine ret_of ?_; refine zr ?_; refine zr ?_; refine rk_nil ?_
    exact ⟨fun _ => ⟨rfl, hS⟩, fun h => by unfold NewOk at h; omega⟩
  refine op1_mov rfl (by (conv => lhs; whnf) <;> rfl) ?_; refine wpO_cons ?_; refine op1_gtr rfl rfl rfl ?_; refine zu ?_; refine zw1 ?_; refine wpO_cons ?_
  refine op1_dec rfl (fun h2 => ?_) (fun h2 => ?_)
  · refine op1_skip rfl ?_; refine zk ?_; refine zt ?_; refine zw1 ?_; refine zk ?_; refine zk ?_; refine zt ?_; refine zns ?_; refine wp_true rfl ?_; refine zsr ?_; refine zw1 ?_; refine zw1 ?_; refine zns ?_; refine wp_ret ?_; refine seq_ret ?_; refine ret_of ?_; refine zr ?_; refine zr ?_; refine rk_nil ?_
    exact ⟨fun _ => ⟨rfl, hS⟩, fun h => by unfold NewOk at h; omega⟩
  refine op1_mov rfl (by (conv => lhs; whnf) <;> rfl) ?_; refine wpO_cons ?_; refine op1_lss rfl rfl rfl ?_; refine zu ?_; refine zw1 ?_; refine wpO_cons ?_
  refine op1_dec rfl (fun h3 => ?_) (fun h3 => ?_)
  · refine op1_skip rfl ?_; refine zk ?_; refine zt ?_; refine zns ?_; refine wp_true rfl ?_; refine zsr ?_; refine zw1 ?_; refine zw1 ?_; refine zns ?_; refine wp_ret ?_; refine seq_ret ?_; refine ret_of ?_; refine zr ?_; refine zr ?_; refine rk_nil ?_
    exact ⟨fun _ => ⟨rfl, hS⟩, fun h => by unfold NewOk at h; omega⟩
  refine op1_mov rfl (by (conv => lhs; whnf) <;> rfl) ?_; refine wpO_cons ?_; refine op1_gtr rfl rfl rfl ?_; refine zu ?_; refine zns ?_
  refine wp_dec rfl (fun h4 => ?_) (fun h4 => ?_)
  · refine zsr ?_; refine zw1 ?_; refine zw1 ?_; refine zns ?_; refine wp_ret ?_; refine seq_ret ?_; refine ret_of ?_; refine zr ?_; refine zr ?_; refine rk_nil ?_
    exact ⟨fun _ => ⟨rfl, hS⟩, fun h => by unfold NewOk at h; omega⟩
  refine wp_skip ?_; refine seq_normal ?_; refine zsr ?_; (iterate 6 refine zw1 ?_); refine wpO_cons ?_; refine op1_build rfl ?_; refine bk_one (by (conv => lhs; whnf) <;> rfl) rfl rfl rfl ?_; refine bk_one (by (conv => lhs; whnf) <;> rfl) rfl rfl rfl ?_; refine bk_one (by (conv => lhs; whnf) <;> rfl) rfl rfl rfl ?_; refine bk_one (by (conv => lhs; whnf) <;> rfl) rfl rfl rfl ?_; refine bk_one (by (conv => lhs; whnf) <;> rfl) rfl rfl rfl ?_; refine bk_one (by (conv => lhs; whnf) <;> rfl) rfl rfl rfl ?_; refine bk_nil ?_; refine wpO_cons ?_; refine op1_boxNS rfl rfl rfl hS ?_; intro p1 H1 hS; refine zw1 ?_; refine zw1 ?_; refine zns ?_; refine wp_ret ?_; refine ret_of ?_; refine zr ?_; refine zr ?_; refine rk_nil ?_
  exact ⟨fun h => absurd ⟨⟨by omega, by omega⟩, by omega, by omega⟩ h, fun _ => ⟨_, rfl, closeD (s := cn0 f n t) (S.up1 (S.slNil (S.up1 (S.slNil hS))))⟩⟩
theorem L36 (hok : Ok s) (hS : S B H (repC p s :: As)) : wpF C 36 [ptC p] H fun v H' => ∃ q, v = ptC q ∧ S B H' (repC q s :: repC p s :: As) := by
  obtain ⟨ao, co, ai, ci, ho, hi, hO⟩ := openC hS
  have hol := hok.out
  have hil := hok.inc
  refine wpF_ofW o36 rfl rfl ?_
  clear hS
  have hS := hO
  clear hO
  unfold cnC at hS
  unfold ptC
  refine zsr ?_; refine zw1 ?_; refine zns ?_; refine wp_seq ?_; refine zsr ?_; refine zw1 ?_; refine wpO_cons ?_; refine op1_bin_false rfl (by (conv => lhs; whnf) <;> rfl) (by (conv => lhs; whnf) <;> rfl) rfl ?_; refine zns ?_; refine wp_false rfl ?_; refine wp_skip ?_; refine seq_normal ?_; refine zsr ?_; refine zw1 ?_; refine zn ?_; refine wpO_cons ?_
  refine op1_loadN rfl rfl hS.get (by simp) rfl ?_
  refine wpO_cons ?_; refine op1_allocS rfl hS ?_; intro p1 H1 hS; refine wpO_cons ?_; (refine op1_storeNS rfl rfl (by (conv => lhs; whnf) <;> rfl) rfl rfl (S.up0 hS) (Nat.le_of_ble_eq_true rfl) ?_; intro H2 hS; replace hS := S.dn0 hS); refine zns ?_; refine wp_seq ?_; refine wp_regionD ?_; refine zd1 ?_; refine zm ?_; refine zg ?_; refine zg ?_; refine zj (S.g1 hS) ?_; refine zd1 ?_; refine zm ?_; refine zg ?_; refine wpD_cons ?_; refine op1_faddr rfl rfl ?_; refine zj (S.g1 hS) ?_; refine wpD_cons ?_; refine op1_call1 rfl (by (conv => lhs; whnf) <;> rfl) ?_
  have hT := hS
  refine wpF_mono (L45 (RD.cons (RD.cons RD.head)) hS (by omega)) ?_
  intro v1 H2 hS
  obtain ⟨a1, c1, rfl⟩ := hS.u1
  refine wpD_cons ?_; refine op1_call1 rfl (by (conv => lhs; whnf) <;> rfl) ?_
  refine wpF_mono (L45 (RD.cons (RD.cons (RD.cons (RD.cons RD.head)))) hS (by omega)) ?_
  intro v2 H3 hS
  obtain ⟨a2, c2, rfl⟩ := hS.u1
  refine zg ?_; refine zg ?_; refine wpD_cons ?_; (refine op1_store1S rfl rfl (by (conv => lhs; whnf) <;> rfl) rfl rfl (S.up2 hS) rfl ?_; intro H4 hS; replace hS := S.dn2 hS); refine zg ?_; refine wpD_cons ?_; refine op1_faddr rfl rfl ?_; refine wpD_cons ?_; (refine op1_store1S rfl rfl (by (conv => lhs; whnf) <;> rfl) rfl rfl (S.up2 hS) rfl ?_; intro H5 hS; replace hS := S.dn2 hS); refine wpD_nil ?_; refine dk_of ?_ ?_; (iterate 4 refine chk_skip ?_); refine zx 14 ?_ ?_; refine zy 8 ?_ ?_; exact zq (S.g1 hT); exact chkFs_nil; (iterate 4 refine chk_skip ?_); refine zx 9 ?_ ?_; refine zy 8 ?_ ?_; exact zq (S.g1 hT); refine zy 7 ?_ ?_; exact chk_load rfl (by exact S.g2 (by assumption)) rfl rfl; exact chkFs_nil; (iterate 8 refine chk_skip ?_); exact chk_end; refine seq_normal ?_; refine zsr ?_; refine zw1 ?_; refine zns ?_; refine wp_ret ?_; refine ret_of ?_; refine zr ?_; refine rk_nil ?_
  have h9 := closeC (s := s) (p := p1) (vo := .slice a1 s.out.length c1) (vi := .slice a2 s.inc.length c2) (S.up2 (S.up1 hS))
  exact ⟨p1, rfl, S.up1 (closeC (s := s) (S.up3 (S.up3 (S.up3 h9))))⟩
theorem _root_.Go.E.St.Cn.read_err (s : Cn) {n e : Int} (h : s.readE n = e) (he : e ≠ 0) : s.read n = ([], e, s) := by unfold Cn.read; rw [h, if_pos he]
theorem L37 {n : Int} (hok : Ok s) (hS : S B H (repC p s :: As)) : wpF C 37 [ptC p, .int .i64 n] H fun v H' => ∃ v0, v = .tuple ⟨[v0, .int .i64 (s.read n).2.1]⟩ ∧ S B H' (sl 1 v0 (u8s (s.read n).1) :: repC p (s.read n).2.2 :: As) := by
  have hS0 := hS
  obtain ⟨ao, co, ai, ci, ho, hi, hO⟩ := openC hS
  have hol := hok.out
  have hil := hok.inc
  have hone : (u8s s.inc).all (·.oneCell') = true := u8s_one _
  refine wpF_ofW o37 rfl rfl ?_
  clear hS
  have hS := hO
  clear hO
  unfold cnC at hS
  unfold ptC
  refine zsr ?_; refine zw1 ?_; refine zw1 ?_; refine zns ?_
  refine wp_cutR [] (fun vs H' => vs = [] ∧ H = H' ∧ s.readE n = 0) ?_ ?_
  · refine wp_block ?_; refine zsr ?_; refine zw1 ?_; refine wpO_cons ?_; refine op1_bin_false rfl (by (conv => lhs; whnf) <;> rfl) (by (conv => lhs; whnf) <;> rfl) rfl ?_; refine zw1 ?_; refine zns ?_; refine wp_false rfl ?_; refine zsr ?_; refine zw1 ?_; refine wpO_cons ?_; refine op1_lss rfl rfl rfl ?_; refine zw1 ?_; refine zns ?_
    refine wp_dec rfl (fun h1 => ?_) (fun h1 => ?_)
    · have e : s.read n = ([], 34, s) := s.read_err (by unfold Cn.readE; rw [if_pos h1]) (by decide)
      rw [e]
      refine zsr ?_; refine zw1 ?_; refine zw1 ?_; refine zns ?_; refine wp_ret ?_; refine block_ret ?_
      refine cutR_ret ?_
      refine ret_of ?_; refine zr ?_; refine zr ?_; refine rk_nil ?_
      exact ⟨_, rfl, S.slNil hS0⟩
    refine zsr ?_; refine zw1 ?_; refine zn ?_; refine zf ?_; refine wpO_cons ?_; refine op1_faddr rfl rfl ?_; refine zh (S.g0 hS) ?_; refine wpO_cons ?_; refine op1_len rfl rfl ?_; refine wpO_cons ?_; refine op1_gtr rfl rfl rfl ?_; refine zw1 ?_; refine zns ?_
    refine wp_dec rfl (fun h2 => ?_) (fun h2 => ?_)
    · have e : s.readE n = 0 := by unfold Cn.readE; rw [if_neg h1, if_pos (by omega)]
      refine wp_skip ?_; refine block_normal ?_
      exact cutR0 ⟨rfl, rfl, e⟩
    refine zsr ?_; refine zw1 ?_; refine zn ?_; refine zf ?_; refine zh (S.g0 hS) ?_; refine wpO_cons ?_; refine op1_eqlI rfl rfl rfl ?_; refine zw1 ?_; refine zns ?_
    refine wp_dec rfl (fun h3 => ?_) (fun h3 => ?_)
    · have e : s.read n = ([], 4, s) := s.read_err (by unfold Cn.readE; rw [if_neg h1, if_neg (by omega), if_pos h3]) (by decide)
      rw [e]
      refine zsr ?_; refine zw1 ?_; refine zw1 ?_; refine zns ?_; refine wp_ret ?_; refine block_ret ?_
      refine cutR_ret ?_
      refine ret_of ?_; refine zr ?_; refine zr ?_; refine rk_nil ?_
      exact ⟨_, rfl, S.slNil hS0⟩
    refine zsr ?_; refine zw1 ?_; refine zn ?_; refine zf ?_; refine wpO_cons ?_; refine op1_faddr rfl rfl ?_; refine zh (S.g0 hS) ?_; refine zw1 ?_; refine zns ?_
    obtain ⟨en, hen⟩ : ∃ z, z = s.ended := ⟨_, rfl⟩
    rw [← hen]
    cases en
    · refine wp_false rfl ?_; refine zsr ?_; refine zw1 ?_; refine wpO_cons ?_; refine op1_gtr rfl rfl rfl ?_; refine zw1 ?_; refine zns ?_
      refine wp_dec rfl (fun h4 => ?_) (fun h4 => ?_)
      · have e : s.read n = ([], 2, s) := s.read_err (by unfold Cn.readE; rw [if_neg h1, if_neg (by omega), if_neg h3, ← hen, if_neg (by simp), if_pos h4]) (by decide)
        rw [e]
        refine zsr ?_; refine zw1 ?_; refine zw1 ?_; refine zns ?_; refine wp_ret ?_; refine block_ret ?_
        refine cutR_ret ?_
        refine ret_of ?_; refine zr ?_; refine zr ?_; refine rk_nil ?_
        exact ⟨_, rfl, S.slNil hS0⟩
      · have e : s.readE n = 0 := by unfold Cn.readE; rw [if_neg h1, if_neg (by omega), if_neg h3, ← hen, if_neg (by simp), if_neg h4]
        refine wp_skip ?_; refine block_normal ?_
        exact cutR0 ⟨rfl, rfl, e⟩
    · have e : s.read n = ([], 33, s) := s.read_err (by unfold Cn.readE; rw [if_neg h1, if_neg (by omega), if_neg h3, ← hen, if_pos rfl]) (by decide)
      rw [e]
      refine wp_true rfl ?_; refine zsr ?_; refine zw1 ?_; refine zw1 ?_; refine zns ?_; refine wp_ret ?_; refine block_ret ?_
      refine cutR_ret ?_
      refine ret_of ?_; refine zr ?_; refine zr ?_; refine rk_nil ?_
      exact ⟨_, rfl, S.slNil hS0⟩
  rintro vs T2 H2 ⟨rfl, rfl, he⟩
  have hn0 : 0 ≤ n := by
    unfold Cn.readE at he
    split at he
    · cases he
    · omega
  have er : s.read n = (s.inc.take (s.readK n), 0, { s with due := s.due || decide (4096 - s.inc.length = 0 ∧ 0 < s.readK n), inc := s.inc.drop (s.readK n) }) := by unfold Cn.read; rw [if_neg (by omega)]
  rw [er]
  obtain ⟨k, hk⟩ : ∃ k, k = s.readK n := ⟨_, rfl⟩
  rw [← hk]
  have hkn : (k : Int) = min n s.inc.length := by rw [hk]; unfold Cn.readK; omega
  have hkl : k ≤ s.inc.length := by omega
  obtain ⟨du, hdu⟩ : ∃ z, z = s.due := ⟨_, rfl⟩
  obtain ⟨dn, hdn⟩ : ∃ z, z = (du || decide (4096 - s.inc.length = 0 ∧ 0 < k)) := ⟨_, rfl⟩
  rw [← hdu, ← hdn]
  rw [← hdu] at hS
  refine zsr ?_; refine zw1 ?_; refine zw1 ?_; refine zn ?_; refine zf ?_; refine wpO_cons ?_; refine op1_faddr rfl rfl ?_; refine zh (S.g0 hS) ?_; refine wpO_cons ?_; refine op1_len rfl rfl ?_; refine wpO_cons ?_; refine op1_min rfl rfl rfl ?_; refine zw1 ?_; refine zns ?_
  rw [← hkn]
  refine wp_cut [] (fun vs H' => vs = [] ∧ S B H' (pto p (.cells (cnC { s with due := dn } (.slice ao s.out.length co) (.slice ai s.inc.length ci)) 0 false) :: sl 1 (.slice ao s.out.length co) (u8s s.out) :: sl 1 (.slice ai s.inc.length ci) (u8s s.inc) :: As)) ?_ ?_
  · cases du
    · refine wp_region ?_; refine zw1 ?_; refine zw1 ?_; refine zn ?_; refine zf ?_; refine wpO_cons ?_; refine op1_faddr rfl rfl ?_; refine zh (S.g0 hS) ?_; refine zw1 ?_; refine zw1 ?_; refine zn ?_; refine zf ?_; refine wpO_cons ?_; refine op1_call1 rfl (by (conv => lhs; whnf) <;> rfl) ?_
      refine wpF_mono (L66 (s := s) (by omega) (by unfold cnC; rw [← hdu]; exact hS)) ?_
      rintro _ H4 ⟨rfl, rfl⟩
      refine wpO_cons ?_; refine op1_eqlI rfl rfl rfl ?_; refine zw1 ?_; refine wpO_cons ?_
      refine op1_dec rfl (fun h5 => ?_) (fun h5 => ?_)
      · have ed : dn = decide ((0 : Int) < k) := by
          rw [hdn, Bool.false_or, decide_eq_decide]; omega
        refine op1_mov rfl (by (conv => lhs; whnf) <;> rfl) ?_; refine wpO_cons ?_; refine op1_gtr rfl rfl rfl ?_; refine zt ?_; refine zu ?_; refine zn ?_; refine zf ?_; refine wpO_cons ?_; refine op1_faddr rfl rfl ?_; refine wpO_cons ?_; (refine op1_store1S rfl rfl (by (conv => lhs; whnf) <;> rfl) rfl rfl (S.up0 hS) rfl ?_; intro H1 hS; replace hS := S.dn0 hS); refine wpO_nil ?_; refine cut0  ?_
        rw [ed]
        exact ⟨rfl, hS⟩
      · have ed : dn = false := by
          rw [hdn, Bool.false_or, decide_eq_false]; omega
        refine op1_skip rfl ?_; refine zk ?_; refine zu ?_; refine zu ?_; refine zn ?_; refine zf ?_; refine wpO_cons ?_; refine op1_faddr rfl rfl ?_; refine wpO_cons ?_; (refine op1_store1S rfl rfl (by (conv => lhs; whnf) <;> rfl) rfl rfl (S.up0 hS) rfl ?_; intro H1 hS; replace hS := S.dn0 hS); refine wpO_nil ?_; refine cut0  ?_
        rw [ed]
        exact ⟨rfl, hS⟩
    · have ed : dn = true := by rw [hdn, Bool.true_or]
      refine wp_region ?_; refine zw1 ?_; refine zw1 ?_; refine zn ?_; refine zf ?_; refine wpO_cons ?_; refine op1_faddr rfl rfl ?_; refine zh (S.g0 hS) ?_; refine zw1 ?_; (iterate 9 refine zk ?_); refine zt ?_; refine zn ?_; refine zf ?_; refine wpO_cons ?_; refine op1_faddr rfl rfl ?_; refine wpO_cons ?_; (refine op1_store1S rfl rfl (by (conv => lhs; whnf) <;> rfl) rfl rfl (S.up0 hS) rfl ?_; intro H1 hS; replace hS := S.dn0 hS); refine wpO_nil ?_; refine cut0  ?_
      rw [ed]
      exact ⟨rfl, hS⟩
  clear hS
  rintro vs4 T4 H4 ⟨rfl, hS⟩
  unfold cnC at hS
  refine zsr ?_; refine zw1 ?_; refine zn ?_; refine zf ?_; refine wpO_cons ?_; refine op1_faddr rfl rfl ?_; refine zh (S.g0 hS) ?_; refine zw1 ?_; refine zw1 ?_; refine wpO_cons ?_
  refine op1_slice3D rfl rfl (RD.cons (RD.cons RD.head)) hS (bnds_cap (by omega) (by omega)) (by omega) (by simp only [Int.toNat_natCast]; omega) (Nat.le_refl _) (by simp only [Int.toNat_natCast]; omega) ?_
  simp only [Int.toNat_natCast, Nat.zero_mul, List.drop_zero, Nat.sub_zero, Nat.mul_one]
  intro a1 c1 hd1 hck
  rw [u8s_take] at hd1
  have hml : (s.inc.take k).length = k := by rw [List.length_take]; omega
  refine wpO_cons ?_; refine op1_call1 rfl (by (conv => lhs; whnf) <;> rfl) ?_
  refine wpF_mono (L45 hd1 hS (by omega)) ?_
  clear hS
  intro v1 H5 hS
  refine zw1 ?_; refine zns ?_; refine zsr ?_; refine zw1 ?_; refine zw1 ?_; refine zn ?_; refine zf ?_; refine wpO_cons ?_; refine op1_faddr rfl rfl ?_; refine zh (S.g1 hS) ?_; refine zw1 ?_; refine wpO_cons ?_; refine op1_call3 rfl (by (conv => lhs; whnf) <;> rfl) (by (conv => lhs; whnf) <;> rfl) (by (conv => lhs; whnf) <;> rfl) ?_
  refine wpF_mono (L67 0 k (S.up3 hS) hone (by omega) hkl (by omega)) ?_
  clear hS
  rintro _ H6 ⟨a6, c6, rfl, hS⟩
  rw [Nat.zero_mul, List.take_zero, List.nil_append, Nat.mul_one, u8s_drop, Nat.sub_zero] at hS
  rw [Nat.sub_zero]
  refine zn ?_; refine zf ?_; refine wpO_cons ?_; refine op1_faddr rfl rfl ?_; refine wpO_cons ?_; (refine op1_store1S rfl rfl (by (conv => lhs; whnf) <;> rfl) rfl rfl (S.up2 hS) rfl ?_; intro H1 hS; replace hS := S.dn2 hS); refine zns ?_; refine zsr ?_; refine zw1 ?_; refine zw1 ?_; refine zw1 ?_; refine zns ?_; refine wp_ret ?_; refine ret_of ?_; refine zr ?_; refine zr ?_; refine rk_nil ?_
  exact ⟨v1, rfl, S.up1 (closeC (s := { s with due := dn, inc := s.inc.drop k }) (S.up3 (S.up3 hS)))⟩
end
end Go.E.St
