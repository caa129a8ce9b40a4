/- Combine: results. -/
import Derived.Test.YtnbjnjichhepiaaDoorCbD3
namespace Go.E.Cb
open Go Go.E Go.Proofs.YtnbjnjichhepiaaDoor.base Go.Proofs.YtnbjnjichhepiaaDoor Go.Proofs
set_option linter.unusedVariables false
set_option linter.unusedSimpArgs false
set_option maxRecDepth 100000
structure Rs where
  err : Int
  val : Int
  data : List Int
structure RsN (p : Rs) : Prop where
  err : I64 p.err
  val : I64 p.val
  data : p.data.length ≤ 9223372036854775807
  byte : ∀ b ∈ p.data, 0 ≤ b ∧ b ≤ 255
abbrev RX := Rs × Option Addr × Nat
def RX.sv (x : RX) : Value := .slice x.2.1 x.1.data.length x.2.2
def rowR (x : RX) : List Value := [.int .i64 x.1.err, .int .i64 x.1.val, x.sv]
theorem rowR_len (x : RX) : (rowR x).length = 3 := rfl
structure RS (B : AHeap) (As : List Asn) (v : Value) (xs : List RX) : Prop where
  rd : RD B As 3 v (xs.flatMap rowR)
  dat : ∀ x ∈ xs, RD B As 1 x.sv (u8s x.1.data)
  ok : ∀ x ∈ xs, RsN x.1
  len : xs.length ≤ 9223372036854775807
theorem RS.cons {B : AHeap} {A : Asn} {As : List Asn} {v : Value} {xs : List RX} (h : RS B As v xs) : RS B (A :: As) v xs := ⟨h.rd.cons, fun x hx => (h.dat x hx).cons, h.ok, h.len⟩
def prtR (xs : List RX) : List Rs := xs.map (·.1)
section
variable {B H : AHeap} {As : List Asn}
def datR (xs : List RX) : Asn := seps (xs.map fun x => sl 1 x.sv (u8s x.1.data))
theorem datR_rd {xs : List RX} {x : RX} (hx : x ∈ xs) : RD B (datR xs :: As) 1 x.sv (u8s x.1.data) := by
  intro H hS
  obtain ⟨L', h⟩ := S.mem hS (List.mem_map_of_mem (f := fun x : RX => sl 1 x.sv (u8s x.1.data)) hx)
  exact S.rd h
theorem datR_snoc {xs : List RX} {x : RX} (h : S B H (sl 1 x.sv (u8s x.1.data) :: datR xs :: As)) : S B H (datR (xs ++ [x]) :: As) := by
  unfold datR
  rw [List.map_append]
  refine S.seps ?_
  have h1 := S.unseps (S.up1 h)
  refine h1.perm ?_
  simp only [List.append_assoc, List.map_cons, List.map_nil, List.cons_append, List.nil_append]
  exact List.Perm.refl _
theorem datR_nil (h : S B H As) : S B H (datR [] :: As) := S.seps (L := []) h
theorem RS.own {v : Value} {xs : List RX} (hok : ∀ x ∈ xs, RsN x.1) (hl : xs.length ≤ 9223372036854775807) : RS B (sl 3 v (xs.flatMap rowR) :: datR xs :: As) v xs :=
  ⟨RD.head, fun x hx => (datR_rd hx).cons, hok, hl⟩
def bigR (p : Rs) : Prop := 20000 < (p.data.length : Int)
instance (p : Rs) : Decidable (bigR p) := by unfold bigR; infer_instance
theorem L22 {x : RX} (hx : RsN x.1) (hS : S B H As) : wpF C 22 [.agg ⟨rowR x⟩] H fun w H' => w = .bool (decide (bigR x.1)) ∧ S B H' As := by
  refine wpF_ofW o22 rfl rfl ?_
  have hdl := hx.data
  unfold rowR RX.sv
  refine zsr ?_; refine wpO_cons ?_; refine op1_boxNS rfl rfl rfl hS ?_; intro p1 H1 hS; refine zw1 ?_; refine zns ?_; refine zsr ?_; refine zf ?_; refine zh (S.g0 hS) ?_; refine wpO_cons ?_; refine op1_len rfl rfl ?_; refine wpO_cons ?_; refine op1_gtr rfl rfl rfl ?_; refine zw1 ?_; refine zns ?_; refine wp_ret ?_; refine ret_of ?_; refine zr ?_; refine rk_nil ?_
  exact ⟨rfl, S.drop hS⟩
theorem L29 {x y : RX} (hxy : y.1 = x.1) (hd : RD B As 1 x.sv (u8s x.1.data)) (hd2 : RD B As 1 y.sv (u8s y.1.data)) (hS : S B H As) : wpF C 29 [.agg ⟨rowR x⟩, .agg ⟨rowR y⟩] H fun w H' => w = .bool true ∧ S B H' As := by
  refine wpF_ofW o29 rfl rfl ?_
  unfold rowR RX.sv
  unfold RX.sv at hd hd2
  rw [hxy] at hd2 ⊢
  refine zsr ?_; refine wpO_cons ?_; refine op1_boxNS rfl rfl rfl hS ?_; intro p1 H1 hS; refine wpO_cons ?_; refine op1_boxNS rfl rfl rfl hS ?_; intro p2 H2 hS; refine zw1 ?_; refine zns ?_; refine zsr ?_; refine zf ?_; refine zh (S.g1 hS) ?_; refine zf ?_; refine zh (S.g0 hS) ?_; refine wpO_cons ?_; refine op1_eqlI_s rfl rfl rfl ?_; refine zw1 ?_; refine zf ?_; refine zh (S.g1 hS) ?_; refine zf ?_; refine zh (S.g0 hS) ?_; refine wpO_cons ?_; refine op1_eqlI_s rfl rfl rfl ?_; refine zt ?_; refine zw1 ?_; refine zf ?_; refine zh (S.g1 hS) ?_; refine zf ?_; refine zh (S.g0 hS) ?_; refine wpO_cons ?_; refine op1_call2 rfl (by (conv => lhs; whnf) <;> rfl) (by (conv => lhs; whnf) <;> rfl) ?_
  obtain ⟨r1, hr1, _⟩ := hd _ (S.drop (S.drop hS))
  obtain ⟨r2, hr2, _⟩ := hd2 _ (S.drop (S.drop hS))
  refine wpF_mono (L16 hr1 hr2) ?_
  rintro _ H3 ⟨rfl, rfl⟩
  refine zt ?_; refine zw1 ?_; refine zns ?_; refine wp_ret ?_; refine ret_of ?_; refine zr ?_; refine rk_nil ?_
  exact ⟨rfl, S.drop (S.drop hS)⟩
theorem L28 {v w : Value} {xs ys : List RX} {f : Nat} (hP : RS B As v xs) (hP2 : RS B As w ys) (hxy : prtR ys = prtR xs)
    (hf : ∀ x ∈ xs, ∀ y ∈ ys, y.1 = x.1 → ∀ H1 A1 A2, S B H1 (A1 :: A2 :: As) → wpF C f [.agg ⟨rowR x⟩, .agg ⟨rowR y⟩] H1 fun w H' => w = .bool true ∧ S B H' (A1 :: A2 :: As))
    (hS : S B H As) : wpF C 28 [v, w, .func (.func f) ⟨[]⟩ ⟨[]⟩] H fun u H' => u = .bool true ∧ S B H' As := by
  obtain ⟨r1, hr1, _⟩ := hP.rd _ hS
  obtain ⟨a, n, c, rfl, hn⟩ := hr1.shape
  rw [fm_len rowR_len] at hn
  obtain rfl : n = xs.length := by omega
  obtain ⟨r2, hr2, _⟩ := hP2.rd _ hS
  obtain ⟨a2, n2, c2, rfl, hn2⟩ := hr2.shape
  rw [fm_len rowR_len] at hn2
  obtain rfl : n2 = ys.length := by omega
  have hlen := hP.len
  have hxl : ys.length = xs.length := by have := congrArg List.length hxy; unfold prtR at this; simpa using this
  clear hr1 hr2 hn hn2
  rw [hxl] at hP2 ⊢
  refine wpF_ofW o28 rfl rfl ?_
  refine zsr ?_; refine zw1 ?_; refine zns ?_; refine wp_seq ?_; refine zsr ?_; refine zw1 ?_; refine wpO_cons ?_; refine op1_len rfl rfl ?_; refine zw1 ?_; refine wpO_cons ?_; refine op1_len rfl rfl ?_; refine wpO_cons ?_; refine op1_neqI_s rfl rfl rfl ?_; refine zns ?_; refine wp_false rfl ?_; refine wp_skip ?_; refine seq_normal ?_; refine wp_seq ?_; refine zsr ?_; refine zw1 ?_; refine wpO_cons ?_; refine op1_len rfl rfl ?_; refine zw1 ?_; refine zns ?_; refine wp_block ?_
  refine wp_loop [17] (fun k vs H' => ∃ i : Nat, vs = [.int .i64 i] ∧ k = xs.length - i ∧ i ≤ xs.length ∧ S B H' As) ⟨_, 0, rfl, rfl, by omega, hS⟩ ?_
  clear hS
  rintro k vs T' H1 ⟨i, rfl, rfl, hi, hS⟩
  refine zsr ?_; refine wpO_cons ?_; refine op1_lss rfl rfl rfl ?_; refine zns ?_; refine wp_seq ?_
  refine wp_dec rfl (fun hc => ?_) (fun hc => ?_)
  · obtain ⟨y, hy⟩ : ∃ y, xs[i]? = some y := ⟨_, List.getElem?_eq_getElem (by omega)⟩
    obtain ⟨z, hz⟩ : ∃ z, ys[i]? = some z := ⟨_, List.getElem?_eq_getElem (by omega)⟩
    have hzy : z.1 = y.1 := by
      have := congrArg (·[i]?) hxy
      unfold prtR at this
      simpa [hy, hz] using this
    obtain ⟨r0, hr0, _⟩ := hP.rd _ hS
    obtain ⟨b, off, cs, e1, ro, rfl, hg, hle, hrow⟩ := RdS.row rowR_len hr0 rfl hy
    obtain ⟨r3, hr3, _⟩ := hP2.rd _ hS
    obtain ⟨b2, off2, cs2, e2, ro2, rfl, hg2, hle2, hrow2⟩ := RdS.row rowR_len hr3 hxl.symm hz
    refine wp_skip ?_; refine seq_normal ?_; refine wp_seq ?_; refine wp_block ?_; refine zsr ?_; refine zw1 ?_; refine wpO_cons ?_; refine op1_iaddr rfl rfl rfl (by omega) (by omega) ?_; refine wpO_cons ?_
    refine op1_loadN (vs := rowR y) rfl rfl hg (by simp only [Int.toNat_natCast]; omega) (by simp only [Int.toNat_natCast]; exact hrow) ?_
    refine wpO_cons ?_; refine op1_allocS rfl hS ?_; intro p1 H2 hS; refine zw1 ?_; refine wpO_cons ?_; (refine op1_storeNS rfl rfl (by (conv => lhs; whnf) <;> rfl) rfl rfl (S.up0 hS) (Nat.le_of_ble_eq_true rfl) ?_; intro H3 hS; replace hS := S.dn0 hS); refine zns ?_; refine zsr ?_; refine zw1 ?_; refine zw1 ?_; refine wpO_cons ?_; refine op1_iaddr rfl rfl rfl (by omega) (by omega) ?_; refine wpO_cons ?_
    obtain ⟨r4, hr4, _⟩ := hP2.rd _ (S.drop hS)
    obtain ⟨_, _, cs2, e2, ro2, ee, hg2, hle2, hrow2⟩ := RdS.row rowR_len hr4 hxl.symm hz
    cases ee
    refine op1_loadN (vs := rowR z) rfl rfl hg2 (by simp only [Int.toNat_natCast]; omega) (by simp only [Int.toNat_natCast]; exact hrow2) ?_
    refine wpO_cons ?_; refine op1_allocS rfl hS ?_; intro p2 H4 hS; refine wpO_cons ?_; (refine op1_storeNS rfl rfl (by (conv => lhs; whnf) <;> rfl) rfl rfl (S.up0 hS) (Nat.le_of_ble_eq_true rfl) ?_; intro H5 hS; replace hS := S.dn0 hS); refine zns ?_; refine zsr ?_; refine zw1 ?_; refine wpO_cons ?_; refine op1_load_3 rfl rfl (by exact S.g1 hS) rfl rfl ?_; refine wpO_cons ?_; refine op1_load_3 rfl rfl (by exact S.g0 hS) rfl rfl ?_; refine wpO_cons ?_; refine op1_dyn2 rfl rfl (by (conv => lhs; whnf) <;> rfl) (by (conv => lhs; whnf) <;> rfl) ?_
    refine wpF_mono (hf y (List.mem_of_getElem? hy) z (List.mem_of_getElem? hz) hzy _ _ _ hS) ?_
    rintro _ H6 ⟨rfl, hS6⟩
    refine wpO_cons ?_; refine op1_not_t rfl rfl ?_; refine zns ?_; refine wp_false rfl ?_; refine wp_skip ?_; refine block_normal ?_; refine seq_normal ?_; refine wp_region ?_; refine wpO_cons ?_; refine op1_add rfl rfl rfl (by exact wrap_i64 (by omega) (by omega)) ?_; refine zw1 ?_; refine wpO_nil ?_
    exact iter_normal ⟨xs.length - (i + 1), by omega, i + 1, rfl, rfl, by omega, S.drop (S.drop hS6)⟩
  · refine wp_exit ?_; refine seq_exit ?_; refine iter_exit ?_; refine block_exit ?_; refine seq_normal ?_; refine zsr ?_; refine zw1 ?_; refine zns ?_; refine wp_ret ?_; refine ret_of ?_; refine zr ?_; refine rk_nil ?_
    exact ⟨rfl, hS⟩
theorem L47 {v : Value} {xs : List RX} (hP : RS B As v xs) (hS : S B H As) : wpF C 47 [v, .func (.func 22) ⟨[]⟩ ⟨[]⟩] H fun u H' => (∃ k : Int, u = .int .i64 k ∧ (0 ≤ k ↔ ∃ a ∈ xs, bigR a.1)) ∧ S B H' As := by
  obtain ⟨r1, hr1, _⟩ := hP.rd _ hS
  obtain ⟨a, n, c, rfl, hn⟩ := hr1.shape
  rw [fm_len rowR_len] at hn
  obtain rfl : n = xs.length := by omega
  have hlen := hP.len
  clear hr1 hn
  refine wpF_ofW o47 rfl rfl ?_
  refine zsr ?_; refine zw1 ?_; refine zns ?_; refine wp_seq ?_; refine zsr ?_; refine zw1 ?_; refine wpO_cons ?_; refine op1_len rfl rfl ?_; refine zw1 ?_; refine zns ?_; refine wp_block ?_
  refine wp_loop [8] (fun k vs H' => ∃ i : Nat, vs = [.int .i64 i] ∧ k = xs.length - i ∧ i ≤ xs.length ∧ (∀ a ∈ xs.take i, ¬ bigR a.1) ∧ S B H' As) ⟨_, 0, rfl, rfl, by omega, by simp, hS⟩ ?_
  clear hS
  rintro k vs T' H1 ⟨i, rfl, rfl, hi, hno, hS⟩
  refine zsr ?_; refine wpO_cons ?_; refine op1_lss rfl rfl rfl ?_; refine zns ?_; refine wp_seq ?_
  refine wp_dec rfl (fun hc => ?_) (fun hc => ?_)
  · obtain ⟨y, hy⟩ : ∃ y, xs[i]? = some y := ⟨_, List.getElem?_eq_getElem (by omega)⟩
    obtain ⟨r0, hr0, _⟩ := hP.rd _ hS
    obtain ⟨b, off, cs, e1, ro, rfl, hg, hle, hrow⟩ := RdS.row rowR_len hr0 rfl hy
    refine wp_skip ?_; refine seq_normal ?_; refine wp_seq ?_; refine wp_block ?_; refine zsr ?_; refine zw1 ?_; refine zw1 ?_; refine zns ?_; refine zsr ?_; refine zw1 ?_; refine zw1 ?_; refine zw1 ?_; refine wpO_cons ?_; refine op1_iaddr rfl rfl rfl (by omega) (by omega) ?_; refine wpO_cons ?_
    refine op1_loadN (vs := rowR y) rfl rfl hg (by simp only [Int.toNat_natCast]; omega) (by simp only [Int.toNat_natCast]; exact hrow) ?_
    refine wpO_cons ?_; refine op1_dyn1 rfl rfl (by (conv => lhs; whnf) <;> rfl) ?_
    refine wpF_mono (L22 (hP.ok y (List.mem_of_getElem? hy)) hS) ?_
    rintro _ H4 ⟨rfl, hS4⟩
    clear hS hg
    have hS := hS4
    clear hS4
    refine zns ?_
    refine wp_dec rfl (fun h2 => ?_) (fun h2 => ?_)
    · refine zsr ?_; refine zw1 ?_; refine zw1 ?_; refine zns ?_; refine wp_ret ?_; refine block_ret ?_; refine seq_ret ?_; refine iter_ret ?_; refine block_ret ?_; refine seq_ret ?_; refine ret_of ?_; refine zr ?_; refine rk_nil ?_
      exact ⟨⟨_, rfl, ⟨fun _ => ⟨y, List.mem_of_getElem? hy, h2⟩, fun _ => by omega⟩⟩, hS⟩
    · refine wp_skip ?_; refine block_normal ?_; refine seq_normal ?_; refine wp_region ?_; refine wpO_cons ?_; refine op1_add rfl rfl rfl (by exact wrap_i64 (by omega) (by omega)) ?_; refine zw1 ?_; refine wpO_nil ?_
      refine ⟨xs.length - (i + 1), by omega, i + 1, rfl, rfl, by omega, fun z hz => ?_, hS⟩
      rw [List.take_add_one, hy] at hz
      rcases List.mem_append.1 hz with h | h
      · exact hno z h
      · simp at h
        rw [h]
        exact h2
  · refine wp_exit ?_; refine seq_exit ?_; refine iter_exit ?_; refine block_exit ?_; refine seq_normal ?_; refine zsr ?_; refine zw1 ?_; refine zns ?_; refine wp_ret ?_; refine ret_of ?_; refine zr ?_; refine rk_nil ?_
    rw [List.take_of_length_le (by omega)] at hno
    exact ⟨⟨_, rfl, ⟨fun h => absurd h (by decide), fun ⟨a, h1, h2⟩ => absurd h2 (hno a h1)⟩⟩, hS⟩
theorem L21 {v : Value} {xs : List RX} (hP : RS B As v xs) (hS : S B H As) : wpF C 21 [v, .func (.func 22) ⟨[]⟩ ⟨[]⟩] H fun u H' => u = .bool (decide (∃ a ∈ xs, bigR a.1)) ∧ S B H' As := by
  refine wpF_ofW o21 rfl rfl ?_
  refine zsr ?_; refine zw1 ?_; refine zns ?_; refine zsr ?_; refine zw1 ?_; refine zw1 ?_; refine wpO_cons ?_; refine op1_call2 rfl (by (conv => lhs; whnf) <;> rfl) (by (conv => lhs; whnf) <;> rfl) ?_
  refine wpF_mono (L47 hP hS) ?_
  rintro _ H4 ⟨⟨k, rfl, hk⟩, hS4⟩
  refine wpO_cons ?_; refine op1_geq rfl rfl rfl ?_; refine zw1 ?_; refine zns ?_; refine wp_ret ?_; refine ret_of ?_; refine zr ?_; refine rk_nil ?_
  exact ⟨by simp only [resultV]; congr 1; exact decide_eq_decide.2 hk, hS4⟩
end
end Go.E.Cb
/- Combine: EncodeResults. -/
namespace Go.E.Cb
open Go Go.E Go.Proofs.YtnbjnjichhepiaaDoor.base Go.Proofs.YtnbjnjichhepiaaDoor Go.Proofs
set_option linter.unusedVariables false
set_option linter.unusedSimpArgs false
set_option maxRecDepth 100000
def encR (p : Rs) : List Int := leB (un p.err) 4 ++ leB (un p.data.length) 4 ++ leB (un p.val) 8 ++ p.data
theorem encR_len (p : Rs) : (encR p).length = 16 + p.data.length := by
  unfold encR
  simp only [List.length_append, leB_len]
def errR (p : Rs) : Int := if p.err < 0 ∨ 40 ≤ p.err then 34 else if 16384 < p.data.length then 18 else 0
def erL : List Rs → Int
  | [] => 0
  | p :: l => if errR p ≠ 0 then errR p else erL l
def encRE (l : List Rs) : Int := if 16 < l.length then 18 else erL l
def encRB (l : List Rs) : List Int := if encRE l = 0 then l.flatMap encR else []
theorem encRB_err {l : List Rs} (h : encRE l ≠ 0) : encRB l = [] := by unfold encRB; rw [if_neg h]
theorem erL_take {l : List Rs} {i : Nat} (h : ∀ p ∈ l.take i, errR p = 0) {p : Rs} (hp : l[i]? = some p) (hc : errR p ≠ 0) : erL l = errR p := by
  induction l generalizing i with
  | nil => cases hp
  | cons q l ih =>
    cases i with
    | zero => cases hp; rw [erL, if_pos hc]
    | succ i => rw [erL, if_neg (by rw [h q (by simp)]; simp)]; exact ih (i := i) (fun p hp => h p (by rw [List.take_succ_cons]; exact List.mem_cons_of_mem _ hp)) (by simpa using hp)
theorem erL_zero {l : List Rs} : erL l = 0 ↔ ∀ p ∈ l, errR p = 0 := by
  induction l with
  | nil => simp [erL]
  | cons q l ih =>
    rw [erL]
    by_cases h : errR q = 0
    · rw [if_neg (by simp [h]), ih]
      simp [h]
    · rw [if_pos h]
      simp [h]
theorem errR_small {p : Rs} (h : errR p = 0) : 0 ≤ p.err ∧ p.err < 40 ∧ p.data.length ≤ 16384 := by
  unfold errR at h
  split at h
  · cases h
  split at h
  · cases h
  omega
theorem flR_len {l : List Rs} (h : ∀ p ∈ l, errR p = 0) : (l.flatMap encR).length ≤ l.length * 16400 := by
  induction l with
  | nil => simp
  | cons p l ih =>
    have h1 := ih fun q hq => h q (by simp [hq])
    have h2 := errR_small (h p (by simp))
    rw [List.flatMap_cons, List.length_append, encR_len, List.length_cons]
    omega
theorem rowcell {cs : List Value} {a n : Nat} {row : List Value} (h : (cs.drop a).take n = row) {j : Nat} (hj : j < n) : cs[a + j]? = row[j]? := by rw [← h, List.getElem?_take, if_pos hj, List.getElem?_drop]
section
variable {B H : AHeap} {As : List Asn}
theorem L24 {v : Value} {xs : List RX} (hP : RS B As v xs) (hS : S B H As) : wpF C 24 [v] H fun w H' => ∃ out, w = .tuple ⟨[out, .int .i64 (encRE (prtR xs))]⟩ ∧ S B H' (sl 1 out (u8s (encRB (prtR xs))) :: As) := by
  obtain ⟨r0, hr0, _⟩ := hP.rd _ hS
  obtain ⟨a, n, c, rfl, hn⟩ := hr0.shape
  rw [fm_len rowR_len] at hn
  obtain rfl : n = xs.length := by omega
  clear hr0 hn
  have hlen := hP.len
  have hpl : (prtR xs).length = xs.length := by simp [prtR]
  refine wpF_ofW o24 rfl rfl ?_
  refine zsr ?_; refine zw1 ?_; refine zw1 ?_; refine zns ?_; refine wp_seq ?_; refine zsr ?_; refine zw1 ?_; refine wpO_cons ?_; refine op1_len rfl rfl ?_; refine wpO_cons ?_; refine op1_gtr rfl rfl rfl ?_; refine zns ?_
  refine wp_dec rfl (fun h2 => ?_) (fun h2 => ?_)
  · refine zsr ?_; refine zw1 ?_; refine zw1 ?_; refine zns ?_; refine wp_ret ?_; refine seq_ret ?_; refine ret_of ?_; refine zr ?_; refine zr ?_; refine rk_nil ?_
    have hE : encRE (prtR xs) = 18 := by unfold encRE; rw [if_pos (by omega)]
    exact ⟨.slice none 0 0, by rw [hE]; rfl, by rw [encRB_err (by rw [hE]; decide)]; exact S.slNil (hS)⟩
  have hE0 : encRE (prtR xs) = erL (prtR xs) := by unfold encRE; rw [if_neg (by omega)]
  refine wp_skip ?_; refine seq_normal ?_; refine zsr ?_; refine zw1 ?_; refine zns ?_; refine wp_seq ?_; refine zsr ?_; refine zw1 ?_; refine wpO_cons ?_; refine op1_len rfl rfl ?_; refine zw1 ?_; refine zns ?_; refine wp_block ?_
  obtain ⟨l, hl⟩ : ∃ l, l = prtR xs := ⟨_, rfl⟩
  refine wp_loop [4, 12] (fun k vs H' => ∃ (i : Nat) (a' : Option Addr) (c' : Nat), vs = [.slice a' ((l.take i).flatMap encR).length c', .int .i64 i] ∧ k = xs.length - i ∧ i ≤ xs.length ∧ (∀ p ∈ l.take i, errR p = 0) ∧ S B H' (sl 1 (.slice a' ((l.take i).flatMap encR).length c') (u8s ((l.take i).flatMap encR)) :: As)) ⟨_, 0, none, 0, rfl, rfl, by omega, by simp, S.slNil hS⟩ ?_
  clear hS
  rintro k vs T' H1 ⟨i, a', c', rfl, rfl, hi, hno, hS⟩
  refine zsr ?_; refine wpO_cons ?_; refine op1_lss rfl rfl rfl ?_; refine zns ?_; refine wp_seq ?_
  refine wp_dec rfl (fun hc => ?_) (fun hc => ?_)
  · obtain ⟨y, hy⟩ : ∃ y, xs[i]? = some y := ⟨_, List.getElem?_eq_getElem (by omega)⟩
    have hyp : l[i]? = some y.1 := by rw [hl]; unfold prtR; rw [List.getElem?_map, hy]; rfl
    have hsz := flR_len hno
    rw [List.length_take] at hsz
    have hdat := hP.dat y (List.mem_of_getElem? hy)
    have hyN := hP.ok y (List.mem_of_getElem? hy)
    obtain ⟨n1, n2, n3, n4⟩ := hyN
    have etk : (l.take (i + 1)).flatMap encR = (l.take i).flatMap encR ++ encR y.1 := by rw [List.take_add_one, hyp, List.flatMap_append]; simp
    have htk : ∀ p ∈ l.take (i + 1), errR y.1 = 0 → errR p = 0 := fun z hz h0 => by
      rw [List.take_add_one, hyp] at hz
      rcases List.mem_append.1 hz with h | h
      · exact hno z h
      · simp at h
        rw [h]
        exact h0
    obtain ⟨r0, hr0, _⟩ := hP.rd _ (S.drop hS)
    obtain ⟨b, off, cs, e1, ro, rfl, hg, hle, hrow⟩ := RdS.row rowR_len hr0 rfl hy
    refine wp_skip ?_; refine seq_normal ?_; refine wp_seq ?_; refine wp_block ?_; refine zsr ?_; refine wpO_cons ?_; refine op1_iaddr rfl rfl rfl (by omega) (by omega) ?_; refine wpO_cons ?_
    refine op1_loadN rfl rfl hg (by simp only [Int.toNat_natCast]; omega) (by simp only [Int.toNat_natCast]; exact hrow) ?_
    unfold rowR RX.sv
    refine wpO_cons ?_; refine op1_allocS rfl hS ?_; intro p1 H2 hS; refine wpO_cons ?_; (refine op1_storeNS rfl rfl (by (conv => lhs; whnf) <;> rfl) rfl rfl (S.up0 hS) (Nat.le_of_ble_eq_true rfl) ?_; intro H3 hS; replace hS := S.dn0 hS); refine zns ?_; refine wp_seq ?_; refine wp_block ?_; refine zsr ?_; refine zf ?_; refine zh (S.g0 hS) ?_; refine wpO_cons ?_; refine op1_lss rfl rfl rfl ?_; refine zw1 ?_; refine wpO_cons ?_
    have hErr : errR y.1 ≠ 0 → encRE (prtR xs) = errR y.1 := fun h => by rw [hE0, ← hl]; exact erL_take hno hyp h
    have hS : S B H3 (pto p1 (.cells [.int .i64 y.1.err, .int .i64 y.1.val, .slice y.2.1 y.1.data.length y.2.2] 0 false) :: sl 1 (.slice a' ((l.take i).flatMap encR).length c') (u8s ((l.take i).flatMap encR)) :: As) := hS
    refine op1_dec rfl (fun h3 => ?_) (fun h3 => ?_)
    · refine op1_skip rfl ?_; refine zk ?_; refine zk ?_; refine zt ?_; refine zw1 ?_; refine zns ?_; refine wp_true rfl ?_; refine zsr ?_; refine zw1 ?_; refine zw1 ?_; refine zns ?_; refine wp_ret ?_; refine block_ret ?_; refine seq_ret ?_; refine block_ret ?_; refine seq_ret ?_; refine iter_ret ?_; refine block_ret ?_; refine seq_ret ?_; refine ret_of ?_; refine zr ?_; refine zr ?_; refine rk_nil ?_
      have e34 : errR y.1 = 34 := by unfold errR; rw [if_pos (by omega)]
      have hE : encRE (prtR xs) = 34 := (hErr (by rw [e34]; decide)).trans e34
      exact ⟨.slice none 0 0, by rw [hE]; rfl, by rw [encRB_err (by rw [hE]; decide)]; exact S.slNil (S.drop (S.drop hS))⟩
    refine op1_faddr0 rfl rfl ?_; refine zh (S.g0 hS) ?_; refine wpO_cons ?_; refine op1_geq rfl rfl rfl ?_; refine zu ?_; refine zw1 ?_; refine zns ?_
    refine wp_dec rfl (fun h4 => ?_) (fun h4 => ?_)
    · refine zsr ?_; refine zw1 ?_; refine zw1 ?_; refine zns ?_; refine wp_ret ?_; refine block_ret ?_; refine seq_ret ?_; refine block_ret ?_; refine seq_ret ?_; refine iter_ret ?_; refine block_ret ?_; refine seq_ret ?_; refine ret_of ?_; refine zr ?_; refine zr ?_; refine rk_nil ?_
      have e34 : errR y.1 = 34 := by unfold errR; rw [if_pos (by omega)]
      have hE : encRE (prtR xs) = 34 := (hErr (by rw [e34]; decide)).trans e34
      exact ⟨.slice none 0 0, by rw [hE]; rfl, by rw [encRB_err (by rw [hE]; decide)]; exact S.slNil (S.drop (S.drop hS))⟩
    refine zsr ?_; refine zf ?_; refine zh (S.g0 hS) ?_; refine wpO_cons ?_; refine op1_len rfl rfl ?_; refine wpO_cons ?_; refine op1_gtr rfl rfl rfl ?_; refine zw1 ?_; refine zns ?_
    refine wp_dec rfl (fun h5 => ?_) (fun h5 => ?_)
    · refine zsr ?_; refine zw1 ?_; refine zw1 ?_; refine zns ?_; refine wp_ret ?_; refine block_ret ?_; refine seq_ret ?_; refine block_ret ?_; refine seq_ret ?_; refine iter_ret ?_; refine block_ret ?_; refine seq_ret ?_; refine ret_of ?_; refine zr ?_; refine zr ?_; refine rk_nil ?_
      have e34 : errR y.1 = 18 := by unfold errR; rw [if_neg (by omega), if_pos (by omega)]
      have hE : encRE (prtR xs) = 18 := (hErr (by rw [e34]; decide)).trans e34
      exact ⟨.slice none 0 0, by rw [hE]; rfl, by rw [encRB_err (by rw [hE]; decide)]; exact S.slNil (S.drop (S.drop hS))⟩
    have h0 : errR y.1 = 0 := by unfold errR; rw [if_neg (by omega), if_neg (by omega)]
    unfold I64 at n1 n2
    refine wp_skip ?_; refine block_normal ?_; refine seq_normal ?_; refine wp_seq ?_; refine wp_regionD ?_; refine zd1 ?_; refine zg ?_; refine zj (S.g0 hS) ?_; refine zg ?_; refine zj (S.g0 hS) ?_; refine wpD_cons ?_; refine op1_len rfl rfl ?_; refine zg ?_; refine zj (S.g0 hS) ?_; refine wpD_cons ?_; refine op1_call3 rfl (by (conv => lhs; whnf) <;> rfl) (by (conv => lhs; whnf) <;> rfl) (by (conv => lhs; whnf) <;> rfl) ?_
    refine wpF_mono (L44 (n := y.1.err) (k := 4) (by unfold I64; omega) (by decide) (by (try simp only [List.length_append, leB_len]); omega) (S.up1 hS)) ?_
    have hT := hS
    clear hS
    rintro w H4 hS
    obtain ⟨aw, cw, rfl⟩ := S.u1 hS
    refine wpD_cons ?_; refine op1_call3 rfl (by (conv => lhs; whnf) <;> rfl) (by (conv => lhs; whnf) <;> rfl) (by (conv => lhs; whnf) <;> rfl) ?_
    refine wpF_mono (L44 (n := (y.1.data.length : Int)) (k := 4) (by unfold I64; omega) (by decide) (by (try simp only [List.length_append, leB_len]); omega) (S.up0 hS)) ?_
    have hT := hS
    clear hS
    rintro w H4 hS
    obtain ⟨aw, cw, rfl⟩ := S.u1 hS
    refine wpD_cons ?_; refine op1_call3 rfl (by (conv => lhs; whnf) <;> rfl) (by (conv => lhs; whnf) <;> rfl) (by (conv => lhs; whnf) <;> rfl) ?_
    refine wpF_mono (L44 (n := y.1.val) (k := 8) (by unfold I64; omega) (by decide) (by (try simp only [List.length_append, leB_len]); omega) (S.up0 hS)) ?_
    have hT := hS
    clear hS
    rintro w H4 hS
    obtain ⟨aw, cw, rfl⟩ := S.u1 hS
    refine zd1 ?_; refine wpD_nil ?_; refine dk_of ?_ ?_; (iterate 2 refine chk_skip ?_); refine zx 10 ?_ ?_; refine zy 4 ?_ ?_; exact chk_load rfl (by exact S.g0 (by assumption)) rfl rfl; exact chkFs_nil; refine chk_skip ?_; refine zx 8 ?_ ?_; refine zy 4 ?_ ?_; exact chk_load rfl (by exact S.g0 (by assumption)) rfl rfl; refine zy 3 ?_ ?_; exact chk_load rfl (by exact S.g1 (by assumption)) rfl rfl; exact chkFs_nil; refine zx 7 ?_ ?_; refine zy 4 ?_ ?_; exact chk_len rfl rfl; refine zy 3 ?_ ?_; exact chk_len rfl rfl; exact chkFs_nil; refine chk_skip ?_; refine zx 5 ?_ ?_; refine zy 4 ?_ ?_; exact chk_load rfl (by exact S.g0 (by assumption)) rfl rfl; refine zy 3 ?_ ?_; exact chk_load rfl (by exact S.g1 (by assumption)) rfl rfl; refine zy 2 ?_ ?_; exact zq (S.g1 hT); exact chkFs_nil; (iterate 4 refine chk_skip ?_); exact chk_end; refine seq_normal ?_; refine wp_region ?_; refine zw1 ?_; refine zf ?_; refine zh (S.g1 hS) ?_; refine wpO_cons ?_
    obtain ⟨rd, hrd, _⟩ := hdat _ (S.drop (S.drop hS))
    unfold RX.sv at hrd
    refine op1_appRS rfl rfl (by (conv => lhs; whnf) <;> rfl) rfl hrd (by simp [u8s]) (u8s_one _) hS (by simp only [List.length_append, leB_len]; omega) ?_
    have hT := hS
    clear hS
    intro a10 c10 H10 hS
    rw [← u8s_app] at hS
    refine zw1 ?_; refine wpO_nil ?_; refine block_normal ?_; refine seq_normal ?_; refine wp_region ?_; refine wpO_cons ?_; refine op1_add rfl rfl rfl (by exact wrap_i64 (by omega) (by omega)) ?_; refine zw1 ?_; refine wpO_nil ?_
    refine iter_normal ⟨xs.length - (i + 1), by omega, i + 1, a10, c10, ?_, rfl, by omega, fun z hz => htk z hz h0, ?_⟩
    · rw [etk, encR]
      simp only [List.length_append, leB_len, Nat.add_assoc]
      rfl
    · rw [etk, encR]
      simp only [List.length_append, leB_len, Nat.add_assoc, List.append_assoc] at hS ⊢
      exact S.k1 hS
  · obtain rfl : i = xs.length := by omega
    have hll : l.length = xs.length := by rw [hl]; exact hpl
    rw [List.take_of_length_le (by omega)] at hno hS ⊢
    refine wp_exit ?_; refine seq_exit ?_; refine iter_exit ?_; refine block_exit ?_; refine seq_normal ?_; refine zsr ?_; refine zw1 ?_; refine zw1 ?_; refine zw1 ?_; refine zns ?_; refine wp_ret ?_; refine ret_of ?_; refine zr ?_; refine zr ?_; refine rk_nil ?_
    have hE : encRE (prtR xs) = 0 := by rw [hE0, ← hl]; exact erL_zero.2 hno
    exact ⟨_, by rw [hE]; rfl, by unfold encRB; rw [if_pos hE, ← hl]; exact hS⟩
end
end Go.E.Cb
/- Combine: the reference's EncodeResults. -/
namespace Go.E.Cb
open Go Go.E Go.Proofs.YtnbjnjichhepiaaDoor.base Go.Proofs.YtnbjnjichhepiaaDoor Go.Proofs
set_option linter.unusedVariables false
set_option linter.unusedSimpArgs false
set_option maxRecDepth 100000
section
variable {B H : AHeap} {As : List Asn}
theorem L25 {v : Value} {xs : List RX} (hP : RS B As v xs) (hS : S B H As) : wpF C 25 [v] H fun w H' => ∃ out, w = .tuple ⟨[out, .int .i64 (encRE (prtR xs))]⟩ ∧ S B H' (sl 1 out (u8s (encRB (prtR xs))) :: As) := by
  obtain ⟨r0, hr0, _⟩ := hP.rd _ hS
  obtain ⟨a, n, c, rfl, hn⟩ := hr0.shape
  rw [fm_len rowR_len] at hn
  obtain rfl : n = xs.length := by omega
  clear hr0 hn
  have hlen := hP.len
  have hpl : (prtR xs).length = xs.length := by simp [prtR]
  refine wpF_ofW o25 rfl rfl ?_
  refine zsr ?_; refine zw1 ?_; refine zw1 ?_; refine zns ?_; refine wp_seq ?_; refine zsr ?_; refine zw1 ?_; refine wpO_cons ?_; refine op1_len rfl rfl ?_; refine wpO_cons ?_; refine op1_gtr rfl rfl rfl ?_; refine zns ?_
  refine wp_dec rfl (fun h2 => ?_) (fun h2 => ?_)
  · refine zsr ?_; refine zw1 ?_; refine zw1 ?_; refine zns ?_; refine wp_ret ?_; refine seq_ret ?_; refine ret_of ?_; refine zr ?_; refine zr ?_; refine rk_nil ?_
    have hE : encRE (prtR xs) = 18 := by unfold encRE; rw [if_pos (by omega)]
    exact ⟨.slice none 0 0, by rw [hE]; rfl, by rw [encRB_err (by rw [hE]; decide)]; exact S.slNil (hS)⟩
  have hE0 : encRE (prtR xs) = erL (prtR xs) := by unfold encRE; rw [if_neg (by omega)]
  refine wp_skip ?_; refine seq_normal ?_; refine wp_seq ?_; refine zsr ?_; refine zw1 ?_; refine zns ?_; refine wp_block ?_
  obtain ⟨l, hl⟩ : ∃ l, l = prtR xs := ⟨_, rfl⟩
  have hll : l.length = xs.length := by rw [hl]; exact hpl
  refine wp_loop [4] (fun k vs H' => ∃ (i : Nat), vs = [.int .i64 i] ∧ k = xs.length - i ∧ i ≤ xs.length ∧ (∀ p ∈ l.take i, errR p = 0) ∧ S B H' As) ⟨_, 0, rfl, rfl, by omega, by simp, hS⟩ ?_
  clear hS
  rintro k vs T' H1 ⟨i, rfl, rfl, hi, hno, hS⟩
  refine wp_seq ?_; refine zsr ?_; refine zw1 ?_; refine zw1 ?_; refine wpO_cons ?_; refine op1_len rfl rfl ?_; refine wpO_cons ?_; refine op1_lss rfl rfl rfl ?_; refine zns ?_
  refine wp_dec rfl (fun hc => ?_) (fun hc => ?_)
  · obtain ⟨y, hy⟩ : ∃ y, xs[i]? = some y := ⟨_, List.getElem?_eq_getElem (by omega)⟩
    have hyp : l[i]? = some y.1 := by rw [hl]; unfold prtR; rw [List.getElem?_map, hy]; rfl
    have hyN := hP.ok y (List.mem_of_getElem? hy)
    obtain ⟨n1, n2, n3, n4⟩ := hyN
    have htk : ∀ p ∈ l.take (i + 1), errR y.1 = 0 → errR p = 0 := fun z hz h0 => by
      rw [List.take_add_one, hyp] at hz
      rcases List.mem_append.1 hz with h | h
      · exact hno z h
      · simp at h
        rw [h]
        exact h0
    have hErr : errR y.1 ≠ 0 → encRE (prtR xs) = errR y.1 := fun h => by rw [hE0, ← hl]; exact erL_take hno hyp h
    obtain ⟨r0, hr0, _⟩ := hP.rd _ hS
    obtain ⟨b, off, cs, e1, ro, rfl, hg, hle, hrow⟩ := RdS.row rowR_len hr0 rfl hy
    refine wp_skip ?_; refine seq_normal ?_; refine wp_seq ?_; refine wp_block ?_; refine wp_seq ?_; refine zsr ?_; refine zw1 ?_; refine zw1 ?_; refine wpO_cons ?_; refine op1_iaddr rfl rfl rfl (by omega) (by omega) ?_; refine wpO_cons ?_; refine op1_faddr rfl rfl ?_; refine wpO_cons ?_
    refine op1_load rfl (by rw [Int.toNat_natCast]; rfl) hg (rowcell hrow (j := 0) (by decide)) ?_
    refine wpO_cons ?_; refine op1_lss rfl rfl rfl ?_; refine zw1 ?_; refine wpO_cons ?_
    refine op1_dec rfl (fun h3 => ?_) (fun h3 => ?_)
    · refine op1_skip rfl ?_; (iterate 5 refine zk ?_); refine zt ?_; refine zns ?_; refine wp_true rfl ?_; refine zsr ?_; refine zw1 ?_; refine zw1 ?_; refine zns ?_; refine wp_ret ?_; refine seq_ret ?_; refine block_ret ?_; refine seq_ret ?_; refine iter_ret ?_; refine block_ret ?_; refine seq_ret ?_; refine ret_of ?_; refine zr ?_; refine zr ?_; refine rk_nil ?_
      have e34 : errR y.1 = 34 := by unfold errR; rw [if_pos (by omega)]
      have hE : encRE (prtR xs) = 34 := (hErr (by rw [e34]; decide)).trans e34
      exact ⟨.slice none 0 0, by rw [hE]; rfl, by rw [encRB_err (by rw [hE]; decide)]; exact S.slNil (hS)⟩
    refine op1_mov rfl (by (conv => lhs; whnf) <;> rfl) ?_; refine zw1 ?_; refine wpO_cons ?_; refine op1_iaddr rfl rfl rfl (by omega) (by omega) ?_; refine wpO_cons ?_; refine op1_faddr rfl rfl ?_; refine wpO_cons ?_
    refine op1_load rfl (by rw [Int.toNat_natCast]; rfl) hg (rowcell hrow (j := 0) (by decide)) ?_
    refine wpO_cons ?_; refine op1_geq rfl rfl rfl ?_; refine zu ?_; refine zns ?_
    refine wp_dec rfl (fun h4 => ?_) (fun h4 => ?_)
    · refine zsr ?_; refine zw1 ?_; refine zw1 ?_; refine zns ?_; refine wp_ret ?_; refine seq_ret ?_; refine block_ret ?_; refine seq_ret ?_; refine iter_ret ?_; refine block_ret ?_; refine seq_ret ?_; refine ret_of ?_; refine zr ?_; refine zr ?_; refine rk_nil ?_
      have e34 : errR y.1 = 34 := by unfold errR; rw [if_pos (by omega)]
      have hE : encRE (prtR xs) = 34 := (hErr (by rw [e34]; decide)).trans e34
      exact ⟨.slice none 0 0, by rw [hE]; rfl, by rw [encRB_err (by rw [hE]; decide)]; exact S.slNil (hS)⟩
    refine wp_skip ?_; refine seq_normal ?_; refine zsr ?_; refine zw1 ?_; refine zw1 ?_; refine wpO_cons ?_; refine op1_iaddr rfl rfl rfl (by omega) (by omega) ?_; refine wpO_cons ?_; refine op1_faddr rfl rfl ?_; refine wpO_cons ?_
    refine op1_load rfl (by rw [Int.toNat_natCast]; rfl) hg (rowcell hrow (j := 2) (by decide)) ?_
    refine wpO_cons ?_; refine op1_len rfl rfl ?_; refine wpO_cons ?_; refine op1_gtr rfl rfl rfl ?_; refine zns ?_
    unfold RX.sv
    skip
    refine wp_dec rfl (fun h5 => ?_) (fun h5 => ?_)
    · refine zsr ?_; refine zw1 ?_; refine zw1 ?_; refine zns ?_; refine wp_ret ?_; refine block_ret ?_; refine seq_ret ?_; refine iter_ret ?_; refine block_ret ?_; refine seq_ret ?_; refine ret_of ?_; refine zr ?_; refine zr ?_; refine rk_nil ?_
      have e34 : errR y.1 = 18 := by unfold errR; rw [if_neg (by omega), if_pos (by omega)]
      have hE : encRE (prtR xs) = 18 := (hErr (by rw [e34]; decide)).trans e34
      exact ⟨.slice none 0 0, by rw [hE]; rfl, by rw [encRB_err (by rw [hE]; decide)]; exact S.slNil (hS)⟩
    have h0 : errR y.1 = 0 := by unfold errR; rw [if_neg (by omega), if_neg (by omega)]
    refine wp_skip ?_; refine block_normal ?_; refine seq_normal ?_; refine wp_region ?_; refine zw1 ?_; refine wpO_cons ?_; refine op1_add rfl rfl rfl (by exact wrap_i64 (by omega) (by omega)) ?_; refine zw1 ?_; refine wpO_nil ?_
    exact iter_normal ⟨xs.length - (i + 1), by omega, i + 1, rfl, rfl, by omega, fun z hz => htk z hz h0, hS⟩
  rw [List.take_of_length_le (by omega)] at hno
  have hE : encRE (prtR xs) = 0 := by rw [hE0, ← hl]; exact erL_zero.2 hno
  have hB : encRB (prtR xs) = l.flatMap encR := by unfold encRB; rw [if_pos hE, ← hl]
  rw [hE, hB]
  clear hE hB hE0
  refine wp_exit ?_; refine seq_exit ?_; refine iter_exit ?_; refine block_exit ?_; refine seq_normal ?_; refine zsr ?_; refine wpO_cons ?_; refine op1_bsliceS rfl hS ?_; refine bk_nil ?_; intro p1 H2 hS; refine zw1 ?_; refine zns ?_; refine wp_seq ?_; refine zsr ?_; refine zw1 ?_; refine zns ?_; refine wp_block ?_
  replace hS := S.slNew (l := 0) (es := 1) hS rfl
  refine wp_loop [5, 6] (fun k vs H' => ∃ (i : Nat) (a' : Option Addr) (c' : Nat), vs = [.slice a' ((l.take i).flatMap encR).length c', .int .i64 i] ∧ k = xs.length - i ∧ i ≤ xs.length ∧ S B H' (sl 1 (.slice a' ((l.take i).flatMap encR).length c') (u8s ((l.take i).flatMap encR)) :: As)) ⟨_, 0, _, 0, rfl, rfl, by omega, hS⟩ ?_
  clear hS
  rintro k vs T' H1 ⟨i, a', c', rfl, rfl, hi, hS⟩
  refine wp_seq ?_; refine zsr ?_; refine zw1 ?_; refine zw1 ?_; refine wpO_cons ?_; refine op1_len rfl rfl ?_; refine wpO_cons ?_; refine op1_lss rfl rfl rfl ?_; refine zns ?_
  refine wp_dec rfl (fun hc => ?_) (fun hc => ?_)
  · obtain ⟨y, hy⟩ : ∃ y, xs[i]? = some y := ⟨_, List.getElem?_eq_getElem (by omega)⟩
    have hyp : l[i]? = some y.1 := by rw [hl]; unfold prtR; rw [List.getElem?_map, hy]; rfl
    have hsz := flR_len (l := l.take i) (fun p hp => hno p (List.mem_of_mem_take hp))
    rw [List.length_take] at hsz
    have hdat := hP.dat y (List.mem_of_getElem? hy)
    have hyN := hP.ok y (List.mem_of_getElem? hy)
    have hsm := errR_small (hno _ (List.mem_of_getElem? hyp))
    obtain ⟨n1, n2, n3, n4⟩ := hyN
    have u1 : un y.1.err = y.1.err := by unfold un; omega
    have u2 : un (y.1.data.length : Int) = (y.1.data.length : Int) := by unfold un; omega
    have etk : (l.take (i + 1)).flatMap encR = (l.take i).flatMap encR ++ encR y.1 := by rw [List.take_add_one, hyp, List.flatMap_append]; simp
    obtain ⟨r0, hr0, _⟩ := hP.rd _ (S.drop hS)
    obtain ⟨b, off, cs, e1, ro, rfl, hg, hle, hrow⟩ := RdS.row rowR_len hr0 rfl hy
    refine wp_skip ?_; refine seq_normal ?_; refine wp_seq ?_; refine wp_block ?_; refine zsr ?_; refine zw1 ?_; refine zw1 ?_; refine zw1 ?_; refine wpO_cons ?_; refine op1_iaddr rfl rfl rfl (by omega) (by omega) ?_; refine wpO_cons ?_; refine op1_faddr rfl rfl ?_; refine wpO_cons ?_
    refine op1_load rfl (by rw [Int.toNat_natCast]; rfl) hg (rowcell hrow (j := 0) (by decide)) ?_
    refine wpO_cons ?_; refine op1_convInt rfl rfl (by exact wrap_u64 (by omega) (by omega)) ?_; refine wpO_cons ?_; refine op1_call3 rfl (by (conv => lhs; whnf) <;> rfl) (by (conv => lhs; whnf) <;> rfl) (by (conv => lhs; whnf) <;> rfl) ?_
    refine wpF_mono (L45 (n := y.1.err) (k := 4) (by unfold U64; omega) (by decide) (by (try simp only [List.length_append, leB_len]); omega) (S.up0 hS)) ?_
    have hT := hS
    clear hS
    rintro w H4 hS
    obtain ⟨aw, cw, rfl⟩ := S.u1 hS
    obtain ⟨r0, hr0, _⟩ := hP.rd _ (S.drop hS)
    obtain ⟨_, _, cs, e1, ro, ee, hg, hle, hrow⟩ := RdS.row rowR_len hr0 rfl hy
    cases ee
    refine zw1 ?_; refine zns ?_; refine zsr ?_; refine zw1 ?_; refine zw1 ?_; refine zw1 ?_; refine wpO_cons ?_; refine op1_iaddr rfl rfl rfl (by omega) (by omega) ?_; refine wpO_cons ?_; refine op1_faddr rfl rfl ?_; refine wpO_cons ?_
    refine op1_load rfl (by rw [Int.toNat_natCast]; rfl) hg (rowcell hrow (j := 2) (by decide)) ?_
    refine wpO_cons ?_; refine op1_len rfl rfl ?_; refine wpO_cons ?_; refine op1_convInt rfl rfl (by exact wrap_u64 (by omega) (by omega)) ?_; refine wpO_cons ?_; refine op1_call3 rfl (by (conv => lhs; whnf) <;> rfl) (by (conv => lhs; whnf) <;> rfl) (by (conv => lhs; whnf) <;> rfl) ?_
    unfold RX.sv
    skip
    refine wpF_mono (L45 (n := (y.1.data.length : Int)) (k := 4) (by unfold U64; omega) (by decide) (by (try simp only [List.length_append, leB_len]); omega) (S.up0 hS)) ?_
    have hT := hS
    clear hS
    rintro w H4 hS
    obtain ⟨aw, cw, rfl⟩ := S.u1 hS
    obtain ⟨r0, hr0, _⟩ := hP.rd _ (S.drop hS)
    obtain ⟨_, _, cs, e1, ro, ee, hg, hle, hrow⟩ := RdS.row rowR_len hr0 rfl hy
    cases ee
    refine zw1 ?_; refine zns ?_; refine zsr ?_; refine zw1 ?_; refine zw1 ?_; refine zw1 ?_; refine wpO_cons ?_; refine op1_iaddr rfl rfl rfl (by omega) (by omega) ?_; refine wpO_cons ?_; refine op1_faddr rfl rfl ?_; refine wpO_cons ?_
    refine op1_load rfl (by rw [Int.toNat_natCast]; rfl) hg (rowcell hrow (j := 1) (by decide)) ?_
    refine wpO_cons ?_
    refine op1_convIntW rfl rfl ?_
    rw [wu64]
    refine wpO_cons ?_; refine op1_call3 rfl (by (conv => lhs; whnf) <;> rfl) (by (conv => lhs; whnf) <;> rfl) (by (conv => lhs; whnf) <;> rfl) ?_
    refine wpF_mono (L45 (n := un y.1.val) (k := 8) (by exact un_b _) (by decide) (by (try simp only [List.length_append, leB_len]); omega) (S.up0 hS)) ?_
    have hT := hS
    clear hS
    rintro w H4 hS
    obtain ⟨aw, cw, rfl⟩ := S.u1 hS
    obtain ⟨r0, hr0, _⟩ := hP.rd _ (S.drop hS)
    obtain ⟨_, _, cs, e1, ro, ee, hg, hle, hrow⟩ := RdS.row rowR_len hr0 rfl hy
    cases ee
    refine zw1 ?_; refine zns ?_; refine wp_region ?_; refine zw1 ?_; refine zw1 ?_; refine zw1 ?_; refine wpO_cons ?_; refine op1_iaddr rfl rfl rfl (by omega) (by omega) ?_; refine wpO_cons ?_; refine op1_faddr rfl rfl ?_; refine wpO_cons ?_
    refine op1_load rfl (by rw [Int.toNat_natCast]; rfl) hg (rowcell hrow (j := 2) (by decide)) ?_
    refine wpO_cons ?_
    unfold RX.sv
    obtain ⟨rd, hrd, _⟩ := hdat _ (S.drop hS)
    unfold RX.sv at hrd
    skip
    refine op1_appRS rfl rfl (by (conv => lhs; whnf) <;> rfl) rfl hrd (by simp [u8s]) (u8s_one _) hS (by simp only [List.length_append, leB_len]; omega) ?_
    have hT := hS
    clear hS
    intro a10 c10 H10 hS
    rw [← u8s_app] at hS
    refine zw1 ?_; refine wpO_nil ?_; refine block_normal ?_; refine seq_normal ?_; refine wp_region ?_; refine zw1 ?_; refine wpO_cons ?_; refine op1_add rfl rfl rfl (by exact wrap_i64 (by omega) (by omega)) ?_; refine zw1 ?_; refine wpO_nil ?_
    refine iter_normal ⟨xs.length - (i + 1), by omega, i + 1, a10, c10, ?_, rfl, by omega, ?_⟩
    · rw [etk, encR, u1, u2]
      simp only [List.length_append, leB_len, Nat.add_assoc]
      rfl
    · rw [etk, encR, u1, u2]
      simp only [List.length_append, leB_len, Nat.add_assoc, List.append_assoc] at hS ⊢
      exact hS
  · obtain rfl : i = xs.length := by omega
    rw [List.take_of_length_le (by omega)] at hS ⊢
    refine wp_exit ?_; refine seq_exit ?_; refine iter_exit ?_; refine block_exit ?_; refine seq_normal ?_; refine zsr ?_; refine zw1 ?_; refine zw1 ?_; refine zw1 ?_; refine zns ?_; refine wp_ret ?_; refine ret_of ?_; refine zr ?_; refine zr ?_; refine rk_nil ?_
    exact ⟨_, rfl, hS⟩
end
end Go.E.Cb
