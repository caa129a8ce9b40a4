/- Combine: Encode. -/
import Derived.Test.YtnbjnjichhepiaaDoorCbF3
import Derived.Test.YtnbjnjichhepiaaDoorCbCode2
namespace Go.E.Cb
open Go Go.E Go.Proofs.YtnbjnjichhepiaaDoor.base Go.Proofs.YtnbjnjichhepiaaDoor Go.Proofs
set_option linter.unusedVariables false
set_option linter.unusedSimpArgs false
set_option maxRecDepth 100000
section
variable {Y : Type} {r : Y → List Value} {n : Nat}
theorem fm_len (hr : ∀ y, (r y).length = n) (l : List Y) : (l.flatMap r).length = l.length * n := by
  induction l with
  | nil => simp
  | cons y l ih => rw [List.flatMap_cons, List.length_append, hr, ih, List.length_cons, Nat.add_mul]; omega
end
def nameB (s : ByteArray) : List Int := s.data.toList.map fun b => (b.toNat : Int)
theorem nameB_len (s : ByteArray) : (nameB s).length = s.size := by simp [nameB]
theorem byteVals_eq (s : ByteArray) : byteVals s = u8s (nameB s) := by unfold byteVals nameB u8s; rw [List.map_map]; rfl
def encP (more : Int) (p : Pt) : List Int :=
  leB (un p.kind) 2 ++ leB (un more) 2 ++ leB (un (28 + p.name.size + p.data.length)) 4 ++ leB (un p.hnd) 4 ++ leB (un p.off) 8 ++ leB (un p.cnt) 4 ++ leB (un p.name.size) 2 ++ leB (un p.data.length) 2 ++ nameB p.name ++ p.data
theorem encP_len (more : Int) (p : Pt) : (encP more p).length = 28 + p.name.size + p.data.length := by
  unfold encP
  simp only [List.length_append, leB_len, nameB_len]
def more (l : List Pt) (i : Nat) : Int := if i + 1 < l.length then 1 else 0
def encTo (l : List Pt) : Nat → List Int
  | 0 => []
  | i + 1 => encTo l i ++ (match l[i]? with | some p => encP (more l i) p | none => [])
def ckL : List Pt → Int
  | [] => 0
  | p :: l => if ck p ≠ 0 then ck p else ckL l
def encE (l : List Pt) : Int := if l.length = 0 then 9 else if 16 < l.length then 18 else if ckL l ≠ 0 then ckL l else if 4096 < (encTo l l.length).length then 20 else 0
def encB (l : List Pt) : List Int := if encE l = 0 then encTo l l.length else []
abbrev PX := Pt × Option Addr × Nat
def PX.sv (x : PX) : Value := .slice x.2.1 x.1.data.length x.2.2
def rowP (x : PX) : List Value := x.1.cells x.sv
theorem rowP_len (x : PX) : (rowP x).length = 6 := rfl
structure PS (B : AHeap) (As : List Asn) (v : Value) (xs : List PX) : Prop where
  rd : RD B As 6 v (xs.flatMap rowP)
  dat : ∀ x ∈ xs, RD B As 1 x.sv (u8s x.1.data)
  ok : ∀ x ∈ xs, PtN x.1
  len : xs.length ≤ 9223372036854775807
theorem PS.cons {B : AHeap} {A : Asn} {As : List Asn} {v : Value} {xs : List PX} (h : PS B As v xs) : PS B (A :: As) v xs := ⟨h.rd.cons, fun x hx => (h.dat x hx).cons, h.ok, h.len⟩
def prt (xs : List PX) : List Pt := xs.map (·.1)
theorem ckL_take {l : List Pt} {i : Nat} (h : ∀ p ∈ l.take i, ck p = 0) {p : Pt} (hp : l[i]? = some p) (hc : ck p ≠ 0) : ckL l = ck p := by
  induction l generalizing i with
  | nil => cases hp
  | cons q l ih =>
    cases i with
    | zero => cases hp; rw [ckL, if_pos hc]
    | succ i => rw [ckL, if_neg (by rw [h q (by simp)]; simp)]; exact ih (i := i) (fun p hp => h p (by rw [List.take_succ_cons]; exact List.mem_cons_of_mem _ hp)) (by simpa using hp)
theorem ckL_zero {l : List Pt} : ckL l = 0 ↔ ∀ p ∈ l, ck p = 0 := by
  induction l with
  | nil => simp [ckL]
  | cons q l ih =>
    rw [ckL]
    by_cases h : ck q = 0
    · rw [if_neg (by simp [h]), ih]
      simp [h]
    · rw [if_pos h]
      simp [h]
theorem ck_small {p : Pt} (h : ck p = 0) : p.name.size ≤ 64 ∧ p.data.length ≤ 4096 ∧ 0 ≤ p.kind ∧ p.kind ≤ 7 ∧ -1 ≤ p.hnd ∧ p.hnd ≤ 2147483647 ∧ 0 ≤ p.cnt ∧ p.cnt ≤ 16384 ∧ 0 ≤ p.off ∧ p.off ≤ 16384 := by
  unfold ck at h
  split at h
  · cases h
  rename_i h1
  split at h
  · cases h
  rename_i h2
  split at h
  · rename_i h3; exact absurd h h3.2
  rename_i h3
  split at h
  · cases h
  rename_i h4
  split at h
  · cases h
  have hm : mostC p.kind ≤ 16384 := by unfold mostC; split <;> decide
  unfold badR at h4
  refine ⟨?_, by omega, by omega, by omega, by omega, by omega, by omega, by omega, by omega, by omega⟩
  by_cases hn : uN p.kind = true
  · have : nmE p.name = 0 := Classical.byContradiction fun h => h3 ⟨hn, h⟩
    unfold nmE at this
    split at this
    · cases this
    split at this
    · cases this
    omega
  · have : p.name.size = 0 := Classical.byContradiction fun h => h2 (.inl ⟨by simpa using hn, h⟩)
    omega
theorem encTo_small {l : List Pt} (h : ∀ p ∈ l, ck p = 0) (n : Nat) : (encTo l n).length ≤ n * 4188 := by
  induction n with
  | zero => simp [encTo]
  | succ n ih =>
    rw [encTo, List.length_append]
    have : (match l[n]? with | some p => encP (more l n) p | none => []).length ≤ 4188 := by
      cases hp : l[n]? with
      | none => simp
      | some p =>
        have := ck_small (h p (List.mem_of_getElem? hp))
        simp only [encP_len]
        omega
    omega
section
variable {C : Callees} {T : FEnv} {B H : AHeap} {As : List Asn} {K : KO} {d : Nat} {g : Option (Nat × Bool)}
theorem op1_appStr {by_ : Nat} {s x : NOpd} {a : Option Addr} {l c : Nat} {xs : List Value} {w : ByteArray} (hw : wantedF g T = true) (hs : s.evF T = .slice a l c) (hx : x.evF T = .string w) (hS : S B H (sl 1 (.slice a l c) xs :: As)) (hlim : l + w.size ≤ 2147483648)
    (kk : ∀ a' c' H', S B H' (sl 1 (.slice a' (l + w.size) c') (xs ++ u8s (nameB w)) :: As) → K (upd T d (.slice a' (l + w.size) c')) H') : op1 C ⟨some d, .append 1 by_ s x, g⟩ T H K := by
  refine op1_appS hw hs hx rfl hS rfl ?_ ?_ ?_ hlim kk
  · unfold AHeap.src
    by_cases h0 : w.size = 0
    · rw [if_pos h0]
      have : nameB w = [] := List.eq_nil_of_length_eq_zero (by rw [nameB_len]; exact h0)
      rw [this]; rfl
    · rw [if_neg h0]; simp only [if_true, byteVals_eq]; rw [ List.take_of_length_le (by simp [u8s, nameB_len])]
  · simp [u8s, nameB_len]
  · exact u8s_one _
end
theorem S.k1 {B H : AHeap} {a b : Asn} {As : List Asn} (h : S B H (a :: b :: As)) : S B H (a :: As) := S.drop (S.up1 h)
theorem S.k2 {B H : AHeap} {a b c : Asn} {As : List Asn} (h : S B H (a :: b :: c :: As)) : S B H (a :: As) := S.k1 (S.k1 h)
theorem S.k3 {B H : AHeap} {a b c d : Asn} {As : List Asn} (h : S B H (a :: b :: c :: d :: As)) : S B H (a :: As) := S.k2 (S.k1 h)
theorem encB_err {l : List Pt} (h : encE l ≠ 0) : encB l = [] := by unfold encB; rw [if_neg h]
section
variable {B H : AHeap} {As : List Asn}
theorem L13 {v : Value} {xs : List PX} (hB : Glob objs B) (hP : PS B As v xs) (hS : S B H As) : wpF C 13 [v] H fun w H' => ∃ out, w = .tuple ⟨[out, .int .i64 (encE (prt xs))]⟩ ∧ S B H' (sl 1 out (u8s (encB (prt xs))) :: As) := by
  obtain ⟨r0, hr0, _⟩ := hP.rd _ hS
  obtain ⟨a, n, c, rfl, hn⟩ := hr0.shape
  rw [fm_len rowP_len] at hn
  obtain rfl : n = xs.length := by omega
  clear hr0 hn
  have hlen := hP.len
  have hpl : (prt xs).length = xs.length := by simp [prt]
  refine wpF_ofW o13 rfl rfl ?_
  refine zsr ?_; refine zw1 ?_; refine zw1 ?_; refine zns ?_; refine wp_seq ?_; refine wp_block ?_; refine zsr ?_; refine zw1 ?_; refine wpO_cons ?_; refine op1_len rfl rfl ?_; refine wpO_cons ?_; refine op1_eqlI rfl rfl rfl ?_; refine zw1 ?_; refine zns ?_
  refine wp_dec rfl (fun h1 => ?_) (fun h1 => ?_)
  · refine zsr ?_; refine zw1 ?_; refine zw1 ?_; refine zns ?_; refine wp_ret ?_; refine block_ret ?_; refine seq_ret ?_; refine ret_of ?_; refine zr ?_; refine zr ?_; refine rk_nil ?_
    have hE : encE (prt xs) = 9 := by unfold encE; rw [if_pos (by omega)]
    exact ⟨.slice none 0 0, by rw [hE]; rfl, by rw [encB_err (by rw [hE]; decide)]; exact S.slNil hS⟩
  refine zsr ?_; refine zw1 ?_; refine wpO_cons ?_; refine op1_len rfl rfl ?_; refine wpO_cons ?_; refine op1_gtr rfl rfl rfl ?_; refine zw1 ?_; refine zns ?_
  refine wp_dec rfl (fun h2 => ?_) (fun h2 => ?_)
  · refine zsr ?_; refine zw1 ?_; refine zw1 ?_; refine zns ?_; refine wp_ret ?_; refine block_ret ?_; refine seq_ret ?_; refine ret_of ?_; refine zr ?_; refine zr ?_; refine rk_nil ?_
    have hE : encE (prt xs) = 18 := by unfold encE; rw [if_neg (by omega), if_pos (by omega)]
    exact ⟨.slice none 0 0, by rw [hE]; rfl, by rw [encB_err (by rw [hE]; decide)]; exact S.slNil hS⟩
  refine wp_skip ?_; refine block_normal ?_; refine seq_normal ?_; refine wp_seq ?_; refine zsr ?_; refine zw1 ?_; refine wpO_cons ?_; refine op1_len rfl rfl ?_; refine zw1 ?_; refine zns ?_; refine wp_block ?_
  refine wp_loop [21] (fun k vs H' => ∃ i : Nat, vs = [.int .i64 i] ∧ k = xs.length - i ∧ i ≤ xs.length ∧ (∀ p ∈ (prt xs).take i, ck p = 0) ∧ S B H' As) ⟨_, 0, rfl, rfl, by omega, by simp, hS⟩ ?_
  clear hS
  rintro k vs T' H1 ⟨i, rfl, rfl, hi, hno, hS⟩
  refine zsr ?_; refine wpO_cons ?_; refine op1_lss rfl rfl rfl ?_; refine zns ?_; refine wp_seq ?_
  refine wp_dec rfl (fun hc => ?_) (fun hc => ?_)
  · obtain ⟨y, hy⟩ : ∃ y, xs[i]? = some y := ⟨_, List.getElem?_eq_getElem (by omega)⟩
    have hyp : (prt xs)[i]? = some y.1 := by unfold prt; rw [List.getElem?_map, hy]; rfl
    obtain ⟨r0, hr0, _⟩ := hP.rd _ hS
    obtain ⟨b, off, cs, e1, ro, rfl, hg, hle, hrow⟩ := RdS.row rowP_len hr0 rfl hy
    refine wp_skip ?_; refine seq_normal ?_; refine wp_seq ?_; refine wp_block ?_; refine zsr ?_; refine wpO_cons ?_; refine op1_iaddr rfl rfl rfl (by omega) (by omega) ?_; refine wpO_cons ?_
    refine op1_loadN rfl rfl hg (by simp only [Int.toNat_natCast]; omega) (by simp only [Int.toNat_natCast]; exact hrow) ?_
    unfold rowP Pt.cells PX.sv
    refine wpO_cons ?_; refine op1_allocS rfl hS ?_; intro p1 H2 hS; refine wpO_cons ?_; (refine op1_storeNS rfl rfl (by (conv => lhs; whnf) <;> rfl) rfl rfl (S.up0 hS) (Nat.le_of_ble_eq_true rfl) ?_; intro H3 hS; replace hS := S.dn0 hS); refine zns ?_; refine zsr ?_; refine wpO_cons ?_; refine op1_load_6 rfl rfl (by exact S.g0 hS) rfl rfl ?_; refine wpO_cons ?_; refine op1_call1 rfl (by (conv => lhs; whnf) <;> rfl) ?_
    refine wpF_mono (L10 hB (hP.ok y (List.mem_of_getElem? hy)) hS) ?_
    rintro _ H4 ⟨rfl, hS4⟩
    clear hS hg hr0
    have hS := hS4
    clear hS4
    refine zw1 ?_; refine zns ?_; refine zsr ?_; refine zw1 ?_; refine wpO_cons ?_; refine op1_neqI rfl rfl rfl ?_; refine zns ?_
    refine wp_ndec rfl (fun h3 => ?_) (fun h3 => ?_)
    · refine zsr ?_; refine zw1 ?_; refine zw1 ?_; refine zw1 ?_; refine zns ?_; refine wp_ret ?_; refine block_ret ?_; refine seq_ret ?_; refine iter_ret ?_; refine block_ret ?_; refine seq_ret ?_; refine ret_of ?_; refine zr ?_; refine zr ?_; refine rk_nil ?_
      have hE : encE (prt xs) = ck y.1 := by unfold encE; rw [if_neg (by omega), if_neg (by omega), ckL_take hno hyp h3, if_pos h3]
      exact ⟨.slice none 0 0, by rw [hE]; rfl, by rw [encB_err (by rw [hE]; exact h3)]; exact S.slNil (S.drop hS)⟩
    · refine wp_skip ?_; refine block_normal ?_; refine seq_normal ?_; refine wp_region ?_; refine wpO_cons ?_; refine op1_add rfl rfl rfl (by exact wrap_i64 (by omega) (by omega)) ?_; refine zw1 ?_; refine wpO_nil ?_
      refine iter_normal ⟨xs.length - (i + 1), by omega, i + 1, rfl, rfl, by omega, fun z hz => ?_, S.drop hS⟩
      rw [List.take_add_one, hyp] at hz
      rcases List.mem_append.1 hz with h | h
      · exact hno z h
      · simp at h
        rw [h]
        exact h3
  rw [List.take_of_length_le (by omega)] at hno
  have hS := S.slNil (es := 1) hS
  refine wp_exit ?_; refine seq_exit ?_; refine iter_exit ?_; refine block_exit ?_; refine seq_normal ?_; refine zsr ?_; refine zw1 ?_; refine zns ?_; refine wp_seq ?_; refine zsr ?_; refine zw1 ?_; refine wpO_cons ?_; refine op1_len rfl rfl ?_; refine zw1 ?_; refine zns ?_; refine wp_block ?_
  obtain ⟨l, hl⟩ : ∃ l, l = prt xs := ⟨_, rfl⟩
  rw [← hl] at hno hpl ⊢
  refine wp_loop [7, 33] (fun k vs H' => ∃ (i : Nat) (a' : Option Addr) (c' : Nat), vs = [.slice a' (encTo l i).length c', .int .i64 i] ∧ k = xs.length - i ∧ i ≤ xs.length ∧ S B H' (sl 1 (.slice a' (encTo l i).length c') (u8s (encTo l i)) :: As)) ⟨_, 0, none, 0, rfl, rfl, by omega, hS⟩ ?_
  clear hS
  rintro k vs T' H1 ⟨i, a', c', rfl, rfl, hi, hS⟩
  refine zsr ?_; refine wpO_cons ?_; refine op1_lss rfl rfl rfl ?_; refine zns ?_; refine wp_seq ?_
  refine wp_dec rfl (fun hc => ?_) (fun hc => ?_)
  · obtain ⟨y, hy⟩ : ∃ y, xs[i]? = some y := ⟨_, List.getElem?_eq_getElem (by omega)⟩
    have hyp : l[i]? = some y.1 := by rw [hl]; unfold prt; rw [List.getElem?_map, hy]; rfl
    have hck := hno y.1 (List.mem_of_getElem? hyp)
    have hsm := ck_small hck
    have hsz := encTo_small hno i
    have hdat := hP.dat y (List.mem_of_getElem? hy)
    have hyN := hP.ok y (List.mem_of_getElem? hy)
    obtain ⟨r0, hr0, _⟩ := hP.rd _ (S.drop hS)
    obtain ⟨b, off, cs, e1, ro, rfl, hg, hle, hrow⟩ := RdS.row rowP_len hr0 rfl hy
    refine wp_skip ?_; refine seq_normal ?_; refine wp_seq ?_; refine wp_block ?_; refine zsr ?_; refine zw1 ?_; refine wpO_cons ?_; refine op1_iaddr rfl rfl rfl (by omega) (by omega) ?_; refine wpO_cons ?_
    refine op1_loadN rfl rfl hg (by simp only [Int.toNat_natCast]; omega) (by simp only [Int.toNat_natCast]; exact hrow) ?_
    unfold rowP Pt.cells PX.sv
    refine wpO_cons ?_; refine op1_allocS rfl hS ?_; intro p1 H2 hS; refine zw1 ?_; refine wpO_cons ?_; (refine op1_storeNS rfl rfl (by (conv => lhs; whnf) <;> rfl) rfl rfl (S.up0 hS) (Nat.le_of_ble_eq_true rfl) ?_; intro H3 hS; replace hS := S.dn0 hS); refine zns ?_; refine zsr ?_; refine zw1 ?_; refine zns ?_
    refine wp_cut [10] (fun vs H' => vs = [.int .i64 (more l i)] ∧ H3 = H') ?_ ?_
    · refine zsr ?_; refine zw1 ?_; refine wpO_cons ?_; refine op1_add rfl rfl rfl (by exact wrap_i64 (by omega) (by omega)) ?_; refine zw1 ?_; refine wpO_cons ?_; refine op1_len rfl rfl ?_; refine wpO_cons ?_; refine op1_lss rfl rfl rfl ?_; refine zns ?_
      refine wp_dec rfl (fun h5 => ?_) (fun h5 => ?_)
      · refine wp_region ?_; refine zw1 ?_; refine wpO_nil ?_; refine cut1 (by (conv => lhs; whnf) <;> rfl) ?_
        exact ⟨by unfold more; rw [if_pos (by omega)], rfl⟩
      · refine wp_skip ?_; refine cut1 (by (conv => lhs; whnf) <;> rfl) ?_
        exact ⟨by unfold more; rw [if_neg (by omega)], rfl⟩
    rintro vs T5 H5 ⟨rfl, rfl⟩
    have hS : S B H3 (pto p1 (.cells [.int .i64 y.1.kind, .int .i64 y.1.hnd, .int .i64 y.1.off, .int .i64 y.1.cnt, .string y.1.name, .slice y.2.1 y.1.data.length y.2.2] 0 false) :: sl 1 (.slice a' (encTo l i).length c') (u8s (encTo l i)) :: As) := hS
    have hmr : 0 ≤ more l i ∧ more l i ≤ 1 := by unfold more; split <;> omega
    refine zsr ?_; refine zw1 ?_; refine zf ?_; refine zh (S.g0 hS) ?_; refine wpO_cons ?_; refine op1_call3 rfl (by (conv => lhs; whnf) <;> rfl) (by (conv => lhs; whnf) <;> rfl) (by (conv => lhs; whnf) <;> rfl) ?_
    refine wpF_mono (L44 (n := y.1.kind) (k := 2) (by unfold I64; omega) (by decide) (by (try simp only [List.length_append, leB_len]); omega) (S.up1 hS)) ?_
    have hT := hS
    clear hS
    rintro w H4 hS
    obtain ⟨aw, cw, rfl⟩ := S.u1 hS
    refine zw1 ?_; refine wpO_cons ?_; refine op1_call3 rfl (by (conv => lhs; whnf) <;> rfl) (by (conv => lhs; whnf) <;> rfl) (by (conv => lhs; whnf) <;> rfl) ?_
    refine wpF_mono (L44 (n := more l i) (k := 2) (by unfold I64; omega) (by decide) (by (try simp only [List.length_append, leB_len]); omega) (S.up0 hS)) ?_
    have hT := hS
    clear hS
    rintro w H4 hS
    obtain ⟨aw, cw, rfl⟩ := S.u1 hS
    refine zw1 ?_; refine zns ?_; refine wp_seq ?_; refine wp_regionD ?_; refine zd1 ?_; refine zg ?_; refine zj (S.g1 hS) ?_; refine wpD_cons ?_; refine op1_lenS rfl rfl ?_; refine wpD_cons ?_; refine op1_add rfl rfl rfl (by exact wrap_i64 (by omega) (by omega)) ?_; refine zg ?_; refine zj (S.g1 hS) ?_; refine wpD_cons ?_; refine op1_len rfl rfl ?_; refine wpD_cons ?_; refine op1_add rfl rfl rfl (by exact wrap_i64 (by omega) (by omega)) ?_; refine zg ?_; refine zj (S.g1 hS) ?_; refine wpD_cons ?_; refine op1_call3 rfl (by (conv => lhs; whnf) <;> rfl) (by (conv => lhs; whnf) <;> rfl) (by (conv => lhs; whnf) <;> rfl) ?_
    refine wpF_mono (L44 (n := 28 + (y.1.name.size : Int) + y.1.data.length) (k := 4) (by unfold I64; omega) (by decide) (by (try simp only [List.length_append, leB_len]); omega) (S.up0 hS)) ?_
    have hT := hS
    clear hS
    rintro w H4 hS
    obtain ⟨aw, cw, rfl⟩ := S.u1 hS
    refine wpD_cons ?_; refine op1_call3 rfl (by (conv => lhs; whnf) <;> rfl) (by (conv => lhs; whnf) <;> rfl) (by (conv => lhs; whnf) <;> rfl) ?_
    refine wpF_mono (L44 (n := y.1.hnd) (k := 4) (by unfold I64; omega) (by decide) (by (try simp only [List.length_append, leB_len]); omega) (S.up0 hS)) ?_
    have hT := hS
    clear hS
    rintro w H4 hS
    obtain ⟨aw, cw, rfl⟩ := S.u1 hS
    refine zd1 ?_; refine wpD_nil ?_; refine dk_of ?_ ?_; (iterate 2 refine chk_skip ?_); refine zx 12 ?_ ?_; refine zy 3 ?_ ?_; exact chk_load rfl (by exact S.g1 (by assumption)) rfl rfl; exact chkFs_nil; refine zx 11 ?_ ?_; refine zy 3 ?_ ?_; exact chk_lenS rfl rfl; exact chkFs_nil; (iterate 2 refine chk_skip ?_); refine zx 8 ?_ ?_; refine zy 3 ?_ ?_; exact chk_load rfl (by exact S.g1 (by assumption)) rfl rfl; exact chkFs_nil; refine zx 7 ?_ ?_; refine zy 3 ?_ ?_; exact chk_len rfl rfl; exact chkFs_nil; (iterate 2 refine chk_skip ?_); refine zx 4 ?_ ?_; refine zy 3 ?_ ?_; exact chk_load rfl (by exact S.g1 (by assumption)) rfl rfl; refine zy 2 ?_ ?_; exact zq (S.g1 hT); exact chkFs_nil; (iterate 3 refine chk_skip ?_); exact chk_end; refine seq_normal ?_; refine wp_seq ?_; refine wp_regionD ?_; refine zd1 ?_; refine zg ?_; refine zj (S.g1 hS) ?_; refine zg ?_; refine zj (S.g1 hS) ?_; refine wpD_cons ?_; refine op1_call3 rfl (by (conv => lhs; whnf) <;> rfl) (by (conv => lhs; whnf) <;> rfl) (by (conv => lhs; whnf) <;> rfl) ?_
    refine wpF_mono (L44 (n := y.1.off) (k := 8) (by unfold I64; omega) (by decide) (by (try simp only [List.length_append, leB_len]); omega) (S.up0 hS)) ?_
    have hT := hS
    clear hS
    rintro w H4 hS
    obtain ⟨aw, cw, rfl⟩ := S.u1 hS
    refine wpD_cons ?_; refine op1_call3 rfl (by (conv => lhs; whnf) <;> rfl) (by (conv => lhs; whnf) <;> rfl) (by (conv => lhs; whnf) <;> rfl) ?_
    refine wpF_mono (L44 (n := y.1.cnt) (k := 4) (by unfold I64; omega) (by decide) (by (try simp only [List.length_append, leB_len]); omega) (S.up0 hS)) ?_
    have hT := hS
    clear hS
    rintro w H4 hS
    obtain ⟨aw, cw, rfl⟩ := S.u1 hS
    refine zd1 ?_; refine wpD_nil ?_; refine dk_of ?_ ?_; (iterate 2 refine chk_skip ?_); refine zx 6 ?_ ?_; refine zy 3 ?_ ?_; exact chk_load rfl (by exact S.g1 (by assumption)) rfl rfl; exact chkFs_nil; refine chk_skip ?_; refine zx 4 ?_ ?_; refine zy 3 ?_ ?_; exact chk_load rfl (by exact S.g1 (by assumption)) rfl rfl; refine zy 2 ?_ ?_; exact zq (S.g1 hT); exact chkFs_nil; (iterate 3 refine chk_skip ?_); exact chk_end; refine seq_normal ?_; refine wp_seq ?_; refine wp_regionD ?_; refine zd1 ?_; refine zg ?_; refine zj (S.g1 hS) ?_; refine wpD_cons ?_; refine op1_lenS rfl rfl ?_; refine zg ?_; refine zj (S.g1 hS) ?_; refine wpD_cons ?_; refine op1_len rfl rfl ?_; refine wpD_cons ?_; refine op1_call3 rfl (by (conv => lhs; whnf) <;> rfl) (by (conv => lhs; whnf) <;> rfl) (by (conv => lhs; whnf) <;> rfl) ?_
    refine wpF_mono (L44 (n := (y.1.name.size : Int)) (k := 2) (by unfold I64; omega) (by decide) (by (try simp only [List.length_append, leB_len]); omega) (S.up0 hS)) ?_
    have hT := hS
    clear hS
    rintro w H4 hS
    obtain ⟨aw, cw, rfl⟩ := S.u1 hS
    refine wpD_cons ?_; refine op1_call3 rfl (by (conv => lhs; whnf) <;> rfl) (by (conv => lhs; whnf) <;> rfl) (by (conv => lhs; whnf) <;> rfl) ?_
    refine wpF_mono (L44 (n := (y.1.data.length : Int)) (k := 2) (by unfold I64; omega) (by decide) (by (try simp only [List.length_append, leB_len]); omega) (S.up0 hS)) ?_
    have hT := hS
    clear hS
    rintro w H4 hS
    obtain ⟨aw, cw, rfl⟩ := S.u1 hS
    refine zd1 ?_; refine wpD_nil ?_; refine dk_of ?_ ?_; (iterate 2 refine chk_skip ?_); refine zx 8 ?_ ?_; refine zy 3 ?_ ?_; exact chk_load rfl (by exact S.g1 (by assumption)) rfl rfl; exact chkFs_nil; refine zx 7 ?_ ?_; refine zy 3 ?_ ?_; exact chk_lenS rfl rfl; exact chkFs_nil; refine chk_skip ?_; refine zx 5 ?_ ?_; refine zy 3 ?_ ?_; exact chk_load rfl (by exact S.g1 (by assumption)) rfl rfl; refine zy 2 ?_ ?_; exact zq (S.g1 hT); exact chkFs_nil; refine zx 4 ?_ ?_; refine zy 3 ?_ ?_; exact chk_len rfl rfl; refine zy 2 ?_ ?_; exact chk_len rfl rfl; exact chkFs_nil; (iterate 3 refine chk_skip ?_); exact chk_end; refine seq_normal ?_; refine wp_regionD ?_; refine zd1 ?_; refine zg ?_; refine zj (S.g1 hS) ?_; refine zg ?_; refine zj (S.g1 hS) ?_; refine wpD_cons ?_
    refine op1_appStr rfl rfl rfl hS (by simp only [List.length_append, leB_len]; omega) ?_
    have hT := hS
    clear hS
    intro a9 c9 H9 hS
    rw [← u8s_app] at hS
    obtain ⟨rd, hrd, _⟩ := hdat _ (S.drop (S.drop hS))
    unfold PX.sv at hrd
    refine wpD_cons ?_
    refine op1_appRS rfl rfl (by (conv => lhs; whnf) <;> rfl) rfl hrd (by simp [u8s]) (u8s_one _) hS (by simp only [List.length_append, leB_len]; omega) ?_
    have hT := hS
    clear hS
    intro a10 c10 H10 hS
    rw [← u8s_app] at hS
    refine zd1 ?_; refine wpD_nil ?_; refine dk_of ?_ ?_; (iterate 2 refine chk_skip ?_); refine zx 6 ?_ ?_; refine zy 3 ?_ ?_; exact chk_load rfl (by exact S.g1 (by assumption)) rfl rfl; exact chkFs_nil; refine chk_skip ?_; refine zx 4 ?_ ?_; refine zy 3 ?_ ?_; exact chk_load rfl (by exact S.g1 (by assumption)) rfl rfl; refine zy 2 ?_ ?_; exact zq (S.g1 hT); exact chkFs_nil; (iterate 3 refine chk_skip ?_); exact chk_end; refine block_normal ?_; refine seq_normal ?_; refine wp_region ?_; refine wpO_cons ?_; refine op1_add rfl rfl rfl (by exact wrap_i64 (by omega) (by omega)) ?_; refine zw1 ?_; refine wpO_nil ?_
    have e9 : encTo l (i + 1) = encTo l i ++ encP (more l i) y.1 := by rw [encTo, hyp]
    refine iter_normal ⟨xs.length - (i + 1), by omega, i + 1, a10, c10, ?_, rfl, by omega, ?_⟩
    · rw [e9, encP]
      simp only [List.length_append, leB_len, nameB_len, Nat.add_assoc]
      rfl
    · rw [e9, encP]
      simp only [List.length_append, leB_len, nameB_len, Nat.add_assoc, List.append_assoc] at hS ⊢
      exact S.k1 hS
  · obtain rfl : i = l.length := by omega
    refine wp_exit ?_; refine seq_exit ?_; refine iter_exit ?_; refine block_exit ?_; refine seq_normal ?_; refine wp_seq ?_; refine zsr ?_; refine zw1 ?_; refine wpO_cons ?_; refine op1_len rfl rfl ?_; refine wpO_cons ?_; refine op1_gtr rfl rfl rfl ?_; refine zns ?_
    refine wp_dec rfl (fun h5 => ?_) (fun h5 => ?_)
    · refine zsr ?_; refine zw1 ?_; refine zw1 ?_; refine zns ?_; refine wp_ret ?_; refine seq_ret ?_; refine ret_of ?_; refine zr ?_; refine zr ?_; refine rk_nil ?_
      have hE : encE l = 20 := by unfold encE; rw [if_neg (by omega), if_neg (by omega), if_neg (by rw [ckL_zero.2 hno]; simp), if_pos (by omega)]
      exact ⟨.slice none 0 0, by rw [hE]; rfl, by rw [encB_err (by rw [hE]; decide)]; exact S.slNil (S.drop hS)⟩
    · refine wp_skip ?_; refine seq_normal ?_; refine zsr ?_; refine zw1 ?_; refine zw1 ?_; refine zw1 ?_; refine zns ?_; refine wp_ret ?_; refine ret_of ?_; refine zr ?_; refine zr ?_; refine rk_nil ?_
      have hE : encE l = 0 := by unfold encE; rw [if_neg (by omega), if_neg (by omega), if_neg (by rw [ckL_zero.2 hno]; simp), if_neg (by omega)]
      exact ⟨_, by rw [hE]; rfl, by unfold encB; rw [if_pos hE]; exact hS⟩
end
end Go.E.Cb
/- Combine: lists of parts are copied, compared. -/
namespace Go.E.Cb
open Go Go.E Go.Proofs.YtnbjnjichhepiaaDoor.base Go.Proofs.YtnbjnjichhepiaaDoor Go.Proofs
set_option linter.unusedVariables false
set_option linter.unusedSimpArgs false
set_option maxRecDepth 100000
section
variable {B H : AHeap} {As : List Asn}
theorem S.mem {A : Asn} {L : List Asn} (h : S B H (seps L :: As)) (hA : A ∈ L) : ∃ L', S B H (A :: L') := by
  obtain ⟨l1, l2, rfl⟩ := List.append_of_mem hA
  have h1 := S.unseps h
  refine ⟨l1 ++ l2 ++ As, h1.perm ?_⟩
  simp only [List.append_assoc, List.cons_append]
  exact List.perm_middle
def dats (xs : List PX) : Asn := seps (xs.map fun x => sl 1 x.sv (u8s x.1.data))
theorem dats_rd {xs : List PX} {x : PX} (hx : x ∈ xs) : RD B (dats xs :: As) 1 x.sv (u8s x.1.data) := by
  intro H hS
  obtain ⟨L', h⟩ := S.mem hS (List.mem_map_of_mem (f := fun x : PX => sl 1 x.sv (u8s x.1.data)) hx)
  exact S.rd h
theorem dats_snoc {xs : List PX} {x : PX} (h : S B H (sl 1 x.sv (u8s x.1.data) :: dats xs :: As)) : S B H (dats (xs ++ [x]) :: As) := by
  unfold dats
  rw [List.map_append]
  refine S.seps ?_
  have h1 := S.unseps (S.up1 h)
  refine h1.perm ?_
  simp only [List.append_assoc, List.map_cons, List.map_nil, List.cons_append, List.nil_append]
  exact List.Perm.refl _
theorem dats_nil (h : S B H As) : S B H (dats [] :: As) := S.seps (L := []) h
theorem PS.own {v : Value} {xs : List PX} (hok : ∀ x ∈ xs, PtN x.1) (hl : xs.length ≤ 9223372036854775807) : PS B (sl 6 v (xs.flatMap rowP) :: dats xs :: As) v xs :=
  ⟨RD.head, fun x hx => (dats_rd hx).cons, hok, hl⟩
theorem L16 {v w : Value} {l : List Int} {r1 r2 : List Nat} (h1 : RdS H 1 v (u8s l) r1) (h2 : RdS H 1 w (u8s l) r2) : wpF C 16 [v, w] H fun u H' => u = .bool true ∧ H = H' := by
  refine wpF_ofW o16 rfl rfl ?_
  refine zsr ?_; refine zw1 ?_; refine zns ?_; refine zsr ?_; refine zw1 ?_; refine wpO_cons ?_
  refine op1_b2s rfl (by (conv => lhs; whnf) <;> rfl) (h1.b2sU) ?_
  refine zw1 ?_; refine wpO_cons ?_
  refine op1_b2s rfl (by (conv => lhs; whnf) <;> rfl) (h2.b2sU) ?_
  refine wpO_cons ?_; refine op1_eqlS rfl rfl rfl ?_; refine zw1 ?_; refine zns ?_; refine wp_ret ?_; refine ret_of ?_; refine zr ?_; refine rk_nil ?_
  exact ⟨by simp [resultV], rfl⟩
theorem L23 {v : Value} {l : List Int} (hd : RD B As 1 v (u8s l)) (hl : l.length ≤ 1000000000) (hS : S B H As) : wpF C 23 [v] H fun w H' => S B H' (sl 1 w (u8s l) :: As) := by
  obtain ⟨r, hr, _⟩ := hd _ hS
  obtain ⟨a, c, rfl⟩ := hr.u1
  refine wpF_ofW o23 rfl rfl ?_
  cases a with
  | none =>
    have hl0 : l = [] := by
      cases l with
      | nil => rfl
      | cons y l => obtain ⟨b, off, cs, e, ro, v, e2, _⟩ := hr.at1 (i := 0) (by simp); cases e2
    subst hl0
    refine zsr ?_; refine zw1 ?_; refine zns ?_; refine wp_seq ?_; refine zsr ?_; refine zw1 ?_; refine wpO_cons ?_; refine op1_bin_true rfl (by (conv => lhs; whnf) <;> rfl) (by (conv => lhs; whnf) <;> rfl) rfl ?_; refine zns ?_; refine wp_true rfl ?_; refine zsr ?_; refine zw1 ?_; refine zns ?_; refine wp_ret ?_; refine seq_ret ?_; refine ret_of ?_; refine zr ?_; refine rk_nil ?_
    exact S.slNil hS
  | some a =>
    clear hr
    refine zsr ?_; refine zw1 ?_; refine zns ?_; refine wp_seq ?_; refine zsr ?_; refine zw1 ?_; refine wpO_cons ?_; refine op1_bin_false rfl (by (conv => lhs; whnf) <;> rfl) (by (conv => lhs; whnf) <;> rfl) rfl ?_; refine zns ?_; refine wp_false rfl ?_; refine wp_skip ?_; refine seq_normal ?_; refine zsr ?_; refine wpO_cons ?_; refine op1_bsliceS rfl hS ?_; refine bk_nil ?_; intro p1 H1 hS; refine zw1 ?_; refine wpO_cons ?_
    replace hS := S.slNew (l := 0) (es := 1) hS rfl
    obtain ⟨r2, hr2, _⟩ := hd _ (S.drop hS)
    refine op1_appRS rfl rfl rfl rfl hr2 (by simp [u8s]) (u8s_one _) hS (by omega) ?_
    clear hS
    intro a9 c9 H9 hS
    refine zw1 ?_; refine zns ?_; refine wp_ret ?_; refine ret_of ?_; refine zr ?_; refine rk_nil ?_
    exact hS
theorem L12 {x : PX} (hd : RD B As 1 x.sv (u8s x.1.data)) (hl : x.1.data.length ≤ 1000000000) (hS : S B H As) : wpF C 12 [.agg ⟨rowP x⟩] H fun w H' => ∃ y : PX, y.1 = x.1 ∧ w = .agg ⟨rowP y⟩ ∧ S B H' (sl 1 y.sv (u8s y.1.data) :: As) := by
  refine wpF_ofW o12 rfl rfl ?_
  unfold rowP Pt.cells PX.sv
  refine zsr ?_; refine wpO_cons ?_; refine op1_boxNS rfl rfl rfl hS ?_; intro p1 H1 hS; refine wpO_cons ?_; refine op1_allocS rfl hS ?_; intro p2 H2 hS; refine zns ?_; refine wp_seq ?_; refine wp_regionD ?_; refine zg ?_; refine zj (S.g1 hS) ?_; refine zg ?_; refine zj (S.g1 hS) ?_; refine zg ?_; refine zj (S.g1 hS) ?_; refine zg ?_; refine zj (S.g1 hS) ?_; refine zg ?_; refine zj (S.g1 hS) ?_; refine zg ?_; refine zj (S.g1 hS) ?_; refine wpD_cons ?_; refine op1_call1 rfl (by (conv => lhs; whnf) <;> rfl) ?_
  refine wpF_mono (L23 hd.cons.cons hl hS) ?_
  rintro w H3 hS3
  have hT := hS
  clear hS
  have hS := hS3
  clear hS3
  obtain ⟨aw, cw, rfl⟩ := S.u1 hS
  refine wpD_cons ?_; refine op1_build rfl ?_; refine bk_one (by (conv => lhs; whnf) <;> rfl) rfl rfl rfl ?_; refine bk_one (by (conv => lhs; whnf) <;> rfl) rfl rfl rfl ?_; refine bk_one (by (conv => lhs; whnf) <;> rfl) rfl rfl rfl ?_; refine bk_one (by (conv => lhs; whnf) <;> rfl) rfl rfl rfl ?_; refine bk_one (by (conv => lhs; whnf) <;> rfl) rfl rfl rfl ?_; refine bk_one (by (conv => lhs; whnf) <;> rfl) rfl rfl rfl ?_; refine bk_nil ?_; refine wpD_cons ?_; (refine op1_storeNS rfl rfl (by (conv => lhs; whnf) <;> rfl) rfl rfl (S.up1 hS) (Nat.le_of_ble_eq_true rfl) ?_; intro H4 hS; replace hS := S.dn1 hS); refine wpD_nil ?_; refine dk_of ?_ ?_; refine chk_skip ?_; refine zx 14 ?_ ?_; refine zy 3 ?_ ?_; exact zq (S.g1 hT); refine zy 1 ?_ ?_; exact chk_load rfl (by exact S.g2 (by assumption)) rfl rfl; exact chkFs_nil; refine chk_skip ?_; refine zx 12 ?_ ?_; refine zy 3 ?_ ?_; exact zq (S.g1 hT); refine zy 1 ?_ ?_; exact chk_load rfl (by exact S.g2 (by assumption)) rfl rfl; exact chkFs_nil; refine chk_skip ?_; refine zx 10 ?_ ?_; refine zy 3 ?_ ?_; exact zq (S.g1 hT); refine zy 1 ?_ ?_; exact chk_load rfl (by exact S.g2 (by assumption)) rfl rfl; exact chkFs_nil; refine chk_skip ?_; refine zx 8 ?_ ?_; refine zy 3 ?_ ?_; exact zq (S.g1 hT); refine zy 1 ?_ ?_; exact chk_load rfl (by exact S.g2 (by assumption)) rfl rfl; exact chkFs_nil; refine chk_skip ?_; refine zx 6 ?_ ?_; refine zy 3 ?_ ?_; exact zq (S.g1 hT); refine zy 1 ?_ ?_; exact chk_load rfl (by exact S.g2 (by assumption)) rfl rfl; exact chkFs_nil; refine chk_skip ?_; refine zx 4 ?_ ?_; refine zy 3 ?_ ?_; exact zq (S.g1 hT); exact chkFs_nil; (iterate 3 refine chk_skip ?_); exact chk_end; refine seq_normal ?_; refine wp_ret ?_; refine ret_of ?_; refine rk_cellN rfl (by exact S.g1 hS) rfl rfl ?_; refine rk_nil ?_
  exact ⟨(x.1, aw, cw), rfl, rfl, S.k2 hS⟩
theorem L20 {x y : PX} (hxy : y.1 = x.1) (hd : RD B As 1 x.sv (u8s x.1.data)) (hd2 : RD B As 1 y.sv (u8s y.1.data)) (hS : S B H As) : wpF C 20 [.agg ⟨rowP x⟩, .agg ⟨rowP y⟩] H fun w H' => w = .bool true ∧ S B H' As := by
  refine wpF_ofW o20 rfl rfl ?_
  unfold rowP Pt.cells PX.sv
  unfold PX.sv at hd hd2
  rw [hxy] at hd2 ⊢
  refine zsr ?_; refine wpO_cons ?_; refine op1_boxNS rfl rfl rfl hS ?_; intro p1 H1 hS; refine wpO_cons ?_; refine op1_boxNS rfl rfl rfl hS ?_; intro p2 H2 hS; refine zw1 ?_; refine zns ?_; refine zsr ?_; refine zf ?_; refine zh (S.g1 hS) ?_; refine zf ?_; refine zh (S.g0 hS) ?_; refine wpO_cons ?_; refine op1_eqlI_s rfl rfl rfl ?_; refine zw1 ?_; refine zf ?_; refine zh (S.g1 hS) ?_; refine zf ?_; refine zh (S.g0 hS) ?_; refine wpO_cons ?_; refine op1_eqlI_s rfl rfl rfl ?_; refine zt ?_; refine zw1 ?_; refine zf ?_; refine zh (S.g1 hS) ?_; refine zf ?_; refine zh (S.g0 hS) ?_; refine wpO_cons ?_; refine op1_eqlI_s rfl rfl rfl ?_; refine zt ?_; refine zw1 ?_; refine zf ?_; refine zh (S.g1 hS) ?_; refine zf ?_; refine zh (S.g0 hS) ?_; refine wpO_cons ?_; refine op1_eqlI_s rfl rfl rfl ?_; refine zt ?_; refine zw1 ?_; refine zf ?_; refine zh (S.g1 hS) ?_; refine zf ?_; refine zh (S.g0 hS) ?_; refine wpO_cons ?_; refine op1_eqlS rfl rfl rfl ?_; refine zt ?_; refine zw1 ?_; refine wpO_cons ?_
  refine op1_split rfl (fun h => ?_) (fun h => ?_)
  rotate_left
  · simp at h
  refine op1_faddr0 rfl rfl ?_; refine zh (S.g1 hS) ?_; refine zf ?_; refine zh (S.g0 hS) ?_; refine wpO_cons ?_; refine op1_call2 rfl (by (conv => lhs; whnf) <;> rfl) (by (conv => lhs; whnf) <;> rfl) ?_
  obtain ⟨r1, hr1, _⟩ := hd _ (S.drop (S.drop hS))
  obtain ⟨r2, hr2, _⟩ := hd2 _ (S.drop (S.drop hS))
  refine wpF_mono (L16 hr1 hr2) ?_
  rintro _ H3 ⟨rfl, rfl⟩
  refine zt ?_; refine zw1 ?_; refine zns ?_; refine wp_ret ?_; refine ret_of ?_; refine zr ?_; refine rk_nil ?_
  exact ⟨rfl, S.drop (S.drop hS)⟩
theorem L18 {v w : Value} {xs ys : List PX} {f : Nat} (hP : PS B As v xs) (hP2 : PS B As w ys) (hxy : prt ys = prt xs)
    (hf : ∀ x ∈ xs, ∀ y ∈ ys, y.1 = x.1 → ∀ H1 A1 A2, S B H1 (A1 :: A2 :: As) → wpF C f [.agg ⟨rowP x⟩, .agg ⟨rowP y⟩] H1 fun w H' => w = .bool true ∧ S B H' (A1 :: A2 :: As))
    (hS : S B H As) : wpF C 18 [v, w, .func (.func f) ⟨[]⟩ ⟨[]⟩] H fun u H' => u = .bool true ∧ S B H' As := by
  obtain ⟨r1, hr1, _⟩ := hP.rd _ hS
  obtain ⟨a, n, c, rfl, hn⟩ := hr1.shape
  rw [fm_len rowP_len] at hn
  obtain rfl : n = xs.length := by omega
  obtain ⟨r2, hr2, _⟩ := hP2.rd _ hS
  obtain ⟨a2, n2, c2, rfl, hn2⟩ := hr2.shape
  rw [fm_len rowP_len] at hn2
  obtain rfl : n2 = ys.length := by omega
  have hlen := hP.len
  have hxl : ys.length = xs.length := by have := congrArg List.length hxy; unfold prt at this; simpa using this
  clear hr1 hr2 hn hn2
  rw [hxl] at hP2 ⊢
  refine wpF_ofW o18 rfl rfl ?_
  refine zsr ?_; refine zw1 ?_; refine zns ?_; refine wp_seq ?_; refine zsr ?_; refine zw1 ?_; refine wpO_cons ?_; refine op1_len rfl rfl ?_; refine zw1 ?_; refine wpO_cons ?_; refine op1_len rfl rfl ?_; refine wpO_cons ?_; refine op1_neqI_s rfl rfl rfl ?_; refine zns ?_; refine wp_false rfl ?_; refine wp_skip ?_; refine seq_normal ?_; refine wp_seq ?_; refine zsr ?_; refine zw1 ?_; refine wpO_cons ?_; refine op1_len rfl rfl ?_; refine zw1 ?_; refine zns ?_; refine wp_block ?_
  refine wp_loop [17] (fun k vs H' => ∃ i : Nat, vs = [.int .i64 i] ∧ k = xs.length - i ∧ i ≤ xs.length ∧ S B H' As) ⟨_, 0, rfl, rfl, by omega, hS⟩ ?_
  clear hS
  rintro k vs T' H1 ⟨i, rfl, rfl, hi, hS⟩
  refine zsr ?_; refine wpO_cons ?_; refine op1_lss rfl rfl rfl ?_; refine zns ?_; refine wp_seq ?_
  refine wp_dec rfl (fun hc => ?_) (fun hc => ?_)
  · obtain ⟨y, hy⟩ : ∃ y, xs[i]? = some y := ⟨_, List.getElem?_eq_getElem (by omega)⟩
    obtain ⟨z, hz⟩ : ∃ z, ys[i]? = some z := ⟨_, List.getElem?_eq_getElem (by omega)⟩
    have hzy : z.1 = y.1 := by
      have := congrArg (·[i]?) hxy
      unfold prt at this
      simpa [hy, hz] using this
    obtain ⟨r0, hr0, _⟩ := hP.rd _ hS
    obtain ⟨b, off, cs, e1, ro, rfl, hg, hle, hrow⟩ := RdS.row rowP_len hr0 rfl hy
    obtain ⟨r3, hr3, _⟩ := hP2.rd _ hS
    obtain ⟨b2, off2, cs2, e2, ro2, rfl, hg2, hle2, hrow2⟩ := RdS.row rowP_len hr3 hxl.symm hz
    refine wp_skip ?_; refine seq_normal ?_; refine wp_seq ?_; refine wp_block ?_; refine zsr ?_; refine zw1 ?_; refine wpO_cons ?_; refine op1_iaddr rfl rfl rfl (by omega) (by omega) ?_; refine wpO_cons ?_
    refine op1_loadN (vs := rowP y) rfl rfl hg (by simp only [Int.toNat_natCast]; omega) (by simp only [Int.toNat_natCast]; exact hrow) ?_
    refine wpO_cons ?_; refine op1_allocS rfl hS ?_; intro p1 H2 hS; refine zw1 ?_; refine wpO_cons ?_; (refine op1_storeNS rfl rfl (by (conv => lhs; whnf) <;> rfl) rfl rfl (S.up0 hS) (Nat.le_of_ble_eq_true rfl) ?_; intro H3 hS; replace hS := S.dn0 hS); refine zns ?_; refine zsr ?_; refine zw1 ?_; refine zw1 ?_; refine wpO_cons ?_; refine op1_iaddr rfl rfl rfl (by omega) (by omega) ?_; refine wpO_cons ?_
    obtain ⟨r4, hr4, _⟩ := hP2.rd _ (S.drop hS)
    obtain ⟨_, _, cs2, e2, ro2, ee, hg2, hle2, hrow2⟩ := RdS.row rowP_len hr4 hxl.symm hz
    cases ee
    refine op1_loadN (vs := rowP z) rfl rfl hg2 (by simp only [Int.toNat_natCast]; omega) (by simp only [Int.toNat_natCast]; exact hrow2) ?_
    refine wpO_cons ?_; refine op1_allocS rfl hS ?_; intro p2 H4 hS; refine wpO_cons ?_; (refine op1_storeNS rfl rfl (by (conv => lhs; whnf) <;> rfl) rfl rfl (S.up0 hS) (Nat.le_of_ble_eq_true rfl) ?_; intro H5 hS; replace hS := S.dn0 hS); refine zns ?_; refine zsr ?_; refine zw1 ?_; refine wpO_cons ?_; refine op1_load_6 rfl rfl (by exact S.g1 hS) rfl rfl ?_; refine wpO_cons ?_; refine op1_load_6 rfl rfl (by exact S.g0 hS) rfl rfl ?_; refine wpO_cons ?_; refine op1_dyn2 rfl rfl (by (conv => lhs; whnf) <;> rfl) (by (conv => lhs; whnf) <;> rfl) ?_
    refine wpF_mono (hf y (List.mem_of_getElem? hy) z (List.mem_of_getElem? hz) hzy _ _ _ hS) ?_
    rintro _ H6 ⟨rfl, hS6⟩
    refine wpO_cons ?_; refine op1_not_t rfl rfl ?_; refine zns ?_; refine wp_false rfl ?_; refine wp_skip ?_; refine block_normal ?_; refine seq_normal ?_; refine wp_region ?_; refine wpO_cons ?_; refine op1_add rfl rfl rfl (by exact wrap_i64 (by omega) (by omega)) ?_; refine zw1 ?_; refine wpO_nil ?_
    exact iter_normal ⟨xs.length - (i + 1), by omega, i + 1, rfl, rfl, by omega, S.drop (S.drop hS6)⟩
  · refine wp_exit ?_; refine seq_exit ?_; refine iter_exit ?_; refine block_exit ?_; refine seq_normal ?_; refine zsr ?_; refine zw1 ?_; refine zns ?_; refine wp_ret ?_; refine ret_of ?_; refine zr ?_; refine rk_nil ?_
    exact ⟨rfl, hS⟩
theorem L19 {x y : PX} (hxy : y.1 = x.1) (hd : RD B As 1 x.sv (u8s x.1.data)) (hd2 : RD B As 1 y.sv (u8s y.1.data)) (hl : y.1.data.length ≤ 1000000000) (hS : S B H As) : wpF C 19 [.agg ⟨rowP x⟩, .agg ⟨rowP y⟩] H fun w H' => w = .bool true ∧ S B H' As := by
  refine wpF_ofW o19 rfl rfl ?_
  refine zsr ?_; refine wpO_cons ?_; refine op1_boxNS rfl rfl rfl hS ?_; intro p1 H1 hS; refine wpO_cons ?_; refine op1_boxNS rfl rfl rfl hS ?_; intro p2 H2 hS; refine zw1 ?_; refine zns ?_; refine wp_seq ?_; refine wp_regionD ?_; refine wpD_cons ?_; refine op1_load_6 rfl rfl (by exact S.g1 hS) rfl rfl ?_; refine wpD_cons ?_; refine op1_load_6 rfl rfl (by exact S.g0 hS) rfl rfl ?_; refine wpD_cons ?_; refine op1_call1 rfl (by (conv => lhs; whnf) <;> rfl) ?_
  refine wpF_mono (L12 (x := y) hd2.cons.cons hl hS) ?_
  rintro _ H3 ⟨z, hz, rfl, hS3⟩
  refine wpD_cons ?_; refine op1_call2 rfl (by (conv => lhs; whnf) <;> rfl) (by (conv => lhs; whnf) <;> rfl) ?_
  refine wpF_mono (L20 (x := x) (y := z) (hz.trans hxy) hd.cons.cons.cons RD.head hS3) ?_
  rintro _ H4 ⟨rfl, hS4⟩
  refine zd1 ?_; refine wpD_nil ?_; refine dk_of ?_ ?_; refine zx 5 ?_ ?_; refine zy 3 ?_ ?_; exact chk_loadN rfl (by exact S.g1 hS) rfl rfl rfl; refine zy 2 ?_ ?_; exact chk_loadN rfl (by exact S.g2 hS3) rfl rfl rfl; exact chkFs_nil; refine zx 4 ?_ ?_; refine zy 3 ?_ ?_; exact chk_loadN rfl (by exact S.g0 hS) rfl rfl rfl; exact chkFs_nil; (iterate 3 refine chk_skip ?_); exact chk_end; refine seq_normal ?_; refine wp_ret ?_; refine ret_of ?_; refine zr ?_; refine rk_nil ?_
  exact ⟨rfl, S.drop (S.drop (S.drop hS4))⟩
def bigP (p : Pt) : Prop := 200 < (p.name.size : Int) ∨ 5000 < (p.data.length : Int)
instance (p : Pt) : Decidable (bigP p) := by unfold bigP; infer_instance
theorem L39 {x : PX} (hx : PtN x.1) (hS : S B H As) : wpF C 39 [.agg ⟨rowP x⟩] H fun w H' => w = .bool (decide (bigP x.1)) ∧ S B H' As := by
  refine wpF_ofW o39 rfl rfl ?_
  have hdl := hx.data
  have hnl := hx.name
  unfold rowP Pt.cells PX.sv
  refine zsr ?_; refine wpO_cons ?_; refine op1_boxNS rfl rfl rfl hS ?_; intro p1 H1 hS; refine zw1 ?_; refine zns ?_; refine zsr ?_; refine zf ?_; refine zh (S.g0 hS) ?_; refine wpO_cons ?_; refine op1_lenS rfl rfl ?_; refine wpO_cons ?_; refine op1_gtr rfl rfl rfl ?_; refine zw1 ?_; refine wpO_cons ?_
  refine op1_dec rfl (fun h => ?_) (fun h => ?_)
  · refine op1_skip rfl ?_; (iterate 3 refine zk ?_); refine zt ?_; refine zw1 ?_; refine zns ?_; refine wp_ret ?_; refine ret_of ?_; refine zr ?_; refine rk_nil ?_
    exact ⟨by rw [decide_eq_true (.inl h)]; rfl, S.drop hS⟩
  · refine op1_faddr0 rfl rfl ?_; refine zh (S.g0 hS) ?_; refine wpO_cons ?_; refine op1_len rfl rfl ?_; refine wpO_cons ?_; refine op1_gtr rfl rfl rfl ?_; refine zu ?_; refine zw1 ?_; refine zns ?_; refine wp_ret ?_; refine ret_of ?_; refine zr ?_; refine rk_nil ?_
    refine ⟨?_, S.drop hS⟩
    exact congrArg Value.bool (decide_eq_decide.2 ⟨fun h2 => .inr h2, fun h2 => h2.resolve_left h⟩)
theorem L53 {v : Value} {xs : List PX} (hP : PS B As v xs) (hS : S B H As) : wpF C 53 [v, .func (.func 39) ⟨[]⟩ ⟨[]⟩] H fun u H' => (∃ k : Int, u = .int .i64 k ∧ (0 ≤ k ↔ ∃ a ∈ xs, bigP a.1)) ∧ S B H' As := by
  obtain ⟨r1, hr1, _⟩ := hP.rd _ hS
  obtain ⟨a, n, c, rfl, hn⟩ := hr1.shape
  rw [fm_len rowP_len] at hn
  obtain rfl : n = xs.length := by omega
  have hlen := hP.len
  clear hr1 hn
  refine wpF_ofW o53 rfl rfl ?_
  refine zsr ?_; refine zw1 ?_; refine zns ?_; refine wp_seq ?_; refine zsr ?_; refine zw1 ?_; refine wpO_cons ?_; refine op1_len rfl rfl ?_; refine zw1 ?_; refine zns ?_; refine wp_block ?_
  refine wp_loop [8] (fun k vs H' => ∃ i : Nat, vs = [.int .i64 i] ∧ k = xs.length - i ∧ i ≤ xs.length ∧ (∀ a ∈ xs.take i, ¬ bigP a.1) ∧ S B H' As) ⟨_, 0, rfl, rfl, by omega, by simp, hS⟩ ?_
  clear hS
  rintro k vs T' H1 ⟨i, rfl, rfl, hi, hno, hS⟩
  refine zsr ?_; refine wpO_cons ?_; refine op1_lss rfl rfl rfl ?_; refine zns ?_; refine wp_seq ?_
  refine wp_dec rfl (fun hc => ?_) (fun hc => ?_)
  · obtain ⟨y, hy⟩ : ∃ y, xs[i]? = some y := ⟨_, List.getElem?_eq_getElem (by omega)⟩
    obtain ⟨r0, hr0, _⟩ := hP.rd _ hS
    obtain ⟨b, off, cs, e1, ro, rfl, hg, hle, hrow⟩ := RdS.row rowP_len hr0 rfl hy
    refine wp_skip ?_; refine seq_normal ?_; refine wp_seq ?_; refine wp_block ?_; refine zsr ?_; refine zw1 ?_; refine zw1 ?_; refine zns ?_; refine zsr ?_; refine zw1 ?_; refine zw1 ?_; refine zw1 ?_; refine wpO_cons ?_; refine op1_iaddr rfl rfl rfl (by omega) (by omega) ?_; refine wpO_cons ?_
    refine op1_loadN (vs := rowP y) rfl rfl hg (by simp only [Int.toNat_natCast]; omega) (by simp only [Int.toNat_natCast]; exact hrow) ?_
    refine wpO_cons ?_; refine op1_dyn1 rfl rfl (by (conv => lhs; whnf) <;> rfl) ?_
    refine wpF_mono (L39 (hP.ok y (List.mem_of_getElem? hy)) hS) ?_
    rintro _ H4 ⟨rfl, hS4⟩
    clear hS hg
    have hS := hS4
    clear hS4
    refine zns ?_
    refine wp_dec rfl (fun h2 => ?_) (fun h2 => ?_)
    · refine zsr ?_; refine zw1 ?_; refine zw1 ?_; refine zns ?_; refine wp_ret ?_; refine block_ret ?_; refine seq_ret ?_; refine iter_ret ?_; refine block_ret ?_; refine seq_ret ?_; refine ret_of ?_; refine zr ?_; refine rk_nil ?_
      exact ⟨⟨_, rfl, ⟨fun _ => ⟨y, List.mem_of_getElem? hy, h2⟩, fun _ => by omega⟩⟩, hS⟩
    · refine wp_skip ?_; refine block_normal ?_; refine seq_normal ?_; refine wp_region ?_; refine wpO_cons ?_; refine op1_add rfl rfl rfl (by exact wrap_i64 (by omega) (by omega)) ?_; refine zw1 ?_; refine wpO_nil ?_
      refine ⟨xs.length - (i + 1), by omega, i + 1, rfl, rfl, by omega, fun z hz => ?_, hS⟩
      rw [List.take_add_one, hy] at hz
      rcases List.mem_append.1 hz with h | h
      · exact hno z h
      · simp at h
        rw [h]
        exact h2
  · refine wp_exit ?_; refine seq_exit ?_; refine iter_exit ?_; refine block_exit ?_; refine seq_normal ?_; refine zsr ?_; refine zw1 ?_; refine zns ?_; refine wp_ret ?_; refine ret_of ?_; refine zr ?_; refine rk_nil ?_
    rw [List.take_of_length_le (by omega)] at hno
    exact ⟨⟨_, rfl, ⟨fun h => absurd h (by decide), fun ⟨a, h1, h2⟩ => absurd h2 (hno a h1)⟩⟩, hS⟩
theorem L38 {v : Value} {xs : List PX} (hP : PS B As v xs) (hS : S B H As) : wpF C 38 [v, .func (.func 39) ⟨[]⟩ ⟨[]⟩] H fun u H' => u = .bool (decide (∃ a ∈ xs, bigP a.1)) ∧ S B H' As := by
  refine wpF_ofW o38 rfl rfl ?_
  refine zsr ?_; refine zw1 ?_; refine zns ?_; refine zsr ?_; refine zw1 ?_; refine zw1 ?_; refine wpO_cons ?_; refine op1_call2 rfl (by (conv => lhs; whnf) <;> rfl) (by (conv => lhs; whnf) <;> rfl) ?_
  refine wpF_mono (L53 hP hS) ?_
  rintro _ H4 ⟨⟨k, rfl, hk⟩, hS4⟩
  refine wpO_cons ?_; refine op1_geq rfl rfl rfl ?_; refine zw1 ?_; refine zns ?_; refine wp_ret ?_; refine ret_of ?_; refine zr ?_; refine rk_nil ?_
  exact ⟨by simp only [resultV]; congr 1; exact decide_eq_decide.2 hk, hS4⟩
def smallP (xs : List PX) : Prop := (xs.length : Int) ≤ 20 ∧ ¬ ∃ a ∈ xs, bigP a.1
instance (xs : List PX) : Decidable (smallP xs) := by unfold smallP; infer_instance
theorem L8 {v : Value} {xs : List PX} (hP : PS B As v xs) (hS : S B H As) : wpF C 8 [v] H fun u H' => u = .bool (decide (smallP xs)) ∧ S B H' As := by
  obtain ⟨r1, hr1, _⟩ := hP.rd _ hS
  obtain ⟨a, n, c, rfl, hn⟩ := hr1.shape
  rw [fm_len rowP_len] at hn
  obtain rfl : n = xs.length := by omega
  have hlen := hP.len
  clear hr1 hn
  refine wpF_ofW o8 rfl rfl ?_
  refine zsr ?_; refine zw1 ?_; refine zns ?_; refine zsr ?_; refine zw1 ?_; refine wpO_cons ?_; refine op1_len rfl rfl ?_; refine wpO_cons ?_; refine op1_leq rfl rfl rfl ?_; refine zw1 ?_; refine wpO_cons ?_
  refine op1_dec rfl (fun h1 => ?_) (fun h1 => ?_)
  · refine op1_mov rfl (by (conv => lhs; whnf) <;> rfl) ?_; refine wpO_cons ?_; refine op1_call2 rfl (by (conv => lhs; whnf) <;> rfl) (by (conv => lhs; whnf) <;> rfl) ?_
    refine wpF_mono (L38 hP hS) ?_
    rintro _ H4 ⟨rfl, hS4⟩
    refine wpO_cons ?_; refine op1_not rfl rfl ?_; refine zt ?_; refine zw1 ?_; refine zns ?_; refine wp_ret ?_; refine ret_of ?_; refine zr ?_; refine rk_nil ?_
    refine ⟨?_, hS4⟩
    simp only [resultV]
    rw [← decide_not]
    exact congrArg Value.bool (decide_eq_decide.2 ⟨fun h => ⟨h1, h⟩, fun h => h.2⟩)
  · refine op1_skip rfl ?_; refine zk ?_; refine zk ?_; refine zu ?_; refine zw1 ?_; refine zns ?_; refine wp_ret ?_; refine ret_of ?_; refine zr ?_; refine rk_nil ?_
    exact ⟨by rw [decide_eq_false (fun h => h1 h.1)]; rfl, hS⟩
end
end Go.E.Cb
/- Combine: the laws' arguments; CombineEncodes. -/
namespace Go.E.Cb
open Go Go.E Go.ChangeShapes Go.WideShapes Go.ChangeAt Go.RowKit Go.Proofs.YtnbjnjichhepiaaDoor.base Go.Proofs.YtnbjnjichhepiaaDoor Go.Proofs
set_option linter.unusedVariables false
set_option linter.unusedSimpArgs false
set_option maxRecDepth 100000
theorem ut2 : Tryd.prog.underlying 2 = some (.int .i64) := by kernel_rfl
theorem ut3 : Tryd.prog.underlying 3 = some (.int .i64) := by kernel_rfl
theorem ut5 : Tryd.prog.underlying 5 = some (.int .u8) := by kernel_rfl
theorem ut9 : Tryd.prog.underlying 9 = some .string := by kernel_rfl
theorem ut22 : Tryd.prog.underlying 22 = some (.slice 27) := by kernel_rfl
theorem ut25 : Tryd.prog.underlying 25 = some (.slice 5) := by kernel_rfl
theorem ut27 : fieldsOf Tryd.prog 27 = some [(3,0),(3,1),(2,2),(3,3),(9,4),(25,5)] := by kernel_rfl
theorem co2 : Tryd.prog.cellsOf 2 = 1 := by kernel_rfl
theorem co3 : Tryd.prog.cellsOf 3 = 1 := by kernel_rfl
theorem co5 : Tryd.prog.cellsOf 5 = 1 := by kernel_rfl
theorem co9 : Tryd.prog.cellsOf 9 = 1 := by kernel_rfl
theorem co25 : Tryd.prog.cellsOf 25 = 1 := by kernel_rfl
theorem co27 : Tryd.prog.cellsOf 27 = 6 := by kernel_rfl
theorem ga22 : aggT Tryd.prog 22 = false := by kernel_rfl
theorem ga25 : aggT Tryd.prog 25 = false := by kernel_rfl
theorem globS (gs' : List AObj) : Glob objs (startH (objs ++ gs')) := ⟨fun b hb => by
  rw [get_startH]
  simp only [List.getD_eq_getElem?_getD, List.getElem?_append_left hb], by rw [next_startH]; simp⟩
theorem glob_of {B H : AHeap} {As : List Asn} (hB : Glob objs B) (hS : S B H As) : Glob objs H :=
  ⟨fun b hb => (hS.base b (Nat.lt_of_lt_of_le hb hB.le)).trans (hB.get b hb), Nat.le_trans hB.le hS.le⟩
theorem px_of {gs : List AObj} {us : List Value} {n : Nat} (h : OkA Tryd.prog gs (n + 3) 27 us) : ∃ x : PX, us = rowP x ∧ PtN x.1 ∧ ∃ r, RdS (startH gs) 1 x.sv (u8s x.1.data) r ∧ ∀ b ∈ r, b < (startH gs).next := by
  obtain ⟨hl, hf⟩ := h.struct ut27 co27
  match us, hl with
  | [v0, v1, v2, v3, v4, v5], _ =>
    obtain ⟨a0, e0, h0⟩ := (hf (3, 0) (by simp)).i64 ut3
    obtain ⟨a1, e1, h1⟩ := (hf (3, 1) (by simp)).i64 ut3
    obtain ⟨a2, e2, h2⟩ := (hf (2, 2) (by simp)).i64 ut2
    obtain ⟨a3, e3, h3⟩ := (hf (3, 3) (by simp)).i64 ut3
    obtain ⟨a4, e4, h4⟩ := (hf (9, 4) (by simp)).string ut9
    obtain ⟨d, l, c, r, e5, h5, h6, h7, h8⟩ := (hf (25, 5) (by simp)).byteS ut25 co5 ut5
    simp only [co2, co3, co9, co25, List.drop_zero, List.take_succ_cons, List.take_zero, List.drop_succ_cons] at e0 e1 e2 e3 e4 e5
    cases e0; cases e1; cases e2; cases e3; cases e4; cases e5
    exact ⟨(⟨a0, a1, a2, a3, a4, l⟩, d, c), rfl, ⟨h0, h1, h2, h3, h4, h5, h8⟩, r, h6, h7⟩
theorem pts_of {gs : List AObj} {n : Nat} {a : Value} (h : ∃ cells, a = argV Tryd.prog 22 cells ∧ OkA Tryd.prog gs (n + 4) 22 cells) : ∃ xs, ∀ As, PS (startH gs) As a xs := by
  obtain ⟨cells, rfl, h⟩ := h
  obtain ⟨d, l, c, r, rfl, h1, h2, h3, h4⟩ := h.slice (X := PX) (f := rowP) (Q := fun x => PtN x.1 ∧ ∃ r, RdS (startH gs) 1 x.sv (u8s x.1.data) r ∧ ∀ b ∈ r, b < (startH gs).next) ut22 co27 rowP_len (fun us h => px_of h)
  refine ⟨l, fun As => ⟨?_, fun x hx => ?_, fun x hx => (h4 x hx).1, h1⟩⟩
  · unfold argV
    rw [ga22]
    exact RD.base h2 h3
  · obtain ⟨_, r, h5, h6⟩ := h4 x hx
    exact RD.base h5 h6
theorem bytes_of {gs : List AObj} {n : Nat} {a : Value} (h : ∃ cells, a = argV Tryd.prog 25 cells ∧ OkA Tryd.prog gs (n + 2) 25 cells) : ∃ l : List Int, l.length ≤ 9223372036854775807 ∧ (∀ As, RD (startH gs) As 1 a (u8s l)) ∧ ∀ x ∈ l, 0 ≤ x ∧ x ≤ 255 := by
  obtain ⟨cells, rfl, h⟩ := h
  obtain ⟨d, l, c, r, rfl, h1, h2, h3, h4⟩ := h.byteS ut25 co5 ut5
  refine ⟨l, h1, fun As => ?_, h4⟩
  unfold argV
  rw [ga25]
  exact RD.base h2 h3
section
variable {B : AHeap}
end
end Go.E.Cb
