/- Combine: Encode. -/
import Derived.Test.YtnbjnjichhepiaaDoorCbF3
namespace Go.E.Cb
open Go Go.E Go.Proofs.YtnbjnjichhepiaaDoor.base Go.Proofs.YtnbjnjichhepiaaDoor Go.Proofs
set_option linter.unusedVariables false
set_option linter.unusedSimpArgs false
set_option maxRecDepth 100000
section
variable {Y : Type} {r : Y → List Value} {n : Nat}
theorem fm_len (hr : ∀ y, (r y).length = n) (l : List Y) : (l.flatMap r).length = l.length * n := by
  induction l with
  | nil => simp
  | cons y l ih => rw [List.flatMap_cons, List.length_append, hr, ih, List.length_cons, Nat.add_mul]; omega
end
def nameB (s : ByteArray) : List Int := s.data.toList.map fun b => (b.toNat : Int)
theorem nameB_len (s : ByteArray) : (nameB s).length = s.size := by simp [nameB]
theorem byteVals_eq (s : ByteArray) : byteVals s = u8s (nameB s) := by unfold byteVals nameB u8s; rw [List.map_map]; rfl
def encP (more : Int) (p : Pt) : List Int :=
  leB (un p.kind) 2 ++ leB (un more) 2 ++ leB (un (28 + p.name.size + p.data.length)) 4 ++ leB (un p.hnd) 4 ++ leB (un p.off) 8 ++ leB (un p.cnt) 4 ++ leB (un p.name.size) 2 ++ leB (un p.data.length) 2 ++ nameB p.name ++ p.data
theorem encP_len (more : Int) (p : Pt) : (encP more p).length = 28 + p.name.size + p.data.length := by
  unfold encP
  simp only [List.length_append, leB_len, nameB_len]
def more (l : List Pt) (i : Nat) : Int := if i + 1 < l.length then 1 else 0
def encTo (l : List Pt) : Nat → List Int
  | 0 => []
  | i + 1 => encTo l i ++ (match l[i]? with | some p => encP (more l i) p | none => [])
def ckL : List Pt → Int
  | [] => 0
  | p :: l => if ck p ≠ 0 then ck p else ckL l
def encE (l : List Pt) : Int := if l.length = 0 then 9 else if 16 < l.length then 18 else if ckL l ≠ 0 then ckL l else if 4096 < (encTo l l.length).length then 20 else 0
def encB (l : List Pt) : List Int := if encE l = 0 then encTo l l.length else []
abbrev PX := Pt × Option Addr × Nat
def PX.sv (x : PX) : Value := .slice x.2.1 x.1.data.length x.2.2
def rowP (x : PX) : List Value := x.1.cells x.sv
theorem rowP_len (x : PX) : (rowP x).length = 6 := rfl
structure PS (B : AHeap) (As : List Asn) (v : Value) (xs : List PX) : Prop where
  rd : RD B As 6 v (xs.flatMap rowP)
  dat : ∀ x ∈ xs, RD B As 1 x.sv (u8s x.1.data)
  ok : ∀ x ∈ xs, PtN x.1
  len : xs.length ≤ 9223372036854775807
theorem PS.cons {B : AHeap} {A : Asn} {As : List Asn} {v : Value} {xs : List PX} (h : PS B As v xs) : PS B (A :: As) v xs := ⟨h.rd.cons, fun x hx => (h.dat x hx).cons, h.ok, h.len⟩
def prt (xs : List PX) : List Pt := xs.map (·.1)
theorem ckL_take {l : List Pt} {i : Nat} (h : ∀ p ∈ l.take i, ck p = 0) {p : Pt} (hp : l[i]? = some p) (hc : ck p ≠ 0) : ckL l = ck p := by
  induction l generalizing i with
  | nil => cases hp
  | cons q l ih =>
    cases i with
    | zero => cases hp; rw [ckL, if_pos hc]
    | succ i => rw [ckL, if_neg (by rw [h q (by simp)]; simp)]; exact ih (i := i) (fun p hp => h p (by rw [List.take_succ_cons]; exact List.mem_cons_of_mem _ hp)) (by simpa using hp)
theorem ckL_zero {l : List Pt} : ckL l = 0 ↔ ∀ p ∈ l, ck p = 0 := by
  induction l with
  | nil => simp [ckL]
  | cons q l ih =>
    rw [ckL]
    by_cases h : ck q = 0
    · rw [if_neg (by simp [h]), ih]
      simp [h]
    · rw [if_pos h]
      simp [h]
theorem ck_small {p : Pt} (h : ck p = 0) : p.name.size ≤ 64 ∧ p.data.length ≤ 4096 ∧ 0 ≤ p.kind ∧ p.kind ≤ 7 ∧ -1 ≤ p.hnd ∧ p.hnd ≤ 2147483647 ∧ 0 ≤ p.cnt ∧ p.cnt ≤ 16384 ∧ 0 ≤ p.off ∧ p.off ≤ 16384 := by
  unfold ck at h
  split at h
  · cases h
  rename_i h1
  split at h
  · cases h
  rename_i h2
  split at h
  · rename_i h3; exact absurd h h3.2
  rename_i h3
  split at h
  · cases h
  rename_i h4
  split at h
  · cases h
  have hm : mostC p.kind ≤ 16384 := by unfold mostC; split <;> decide
  unfold badR at h4
  refine ⟨?_, by omega, by omega, by omega, by omega, by omega, by omega, by omega, by omega, by omega⟩
  by_cases hn : uN p.kind = true
  · have : nmE p.name = 0 := Classical.byContradiction fun h => h3 ⟨hn, h⟩
    unfold nmE at this
    split at this
    · cases this
    split at this
    · cases this
    omega
  · have : p.name.size = 0 := Classical.byContradiction fun h => h2 (.inl ⟨by simpa using hn, h⟩)
    omega
theorem encTo_small {l : List Pt} (h : ∀ p ∈ l, ck p = 0) (n : Nat) : (encTo l n).length ≤ n * 4188 := by
  induction n with
  | zero => simp [encTo]
  | succ n ih =>
    rw [encTo, List.length_append]
    have : (match l[n]? with | some p => encP (more l n) p | none => []).length ≤ 4188 := by
      cases hp : l[n]? with
      | none => simp
      | some p =>
        have := ck_small (h p (List.mem_of_getElem? hp))
        simp only [encP_len]
        omega
    omega
section
variable {C : Callees} {T : FEnv} {B H : AHeap} {As : List Asn} {K : KO} {d : Nat} {g : Option (Nat × Bool)}
theorem op1_appStr {by_ : Nat} {s x : NOpd} {a : Option Addr} {l c : Nat} {xs : List Value} {w : ByteArray} (hw : wantedF g T = true) (hs : s.evF T = .slice a l c) (hx : x.evF T = .string w) (hS : S B H (sl 1 (.slice a l c) xs :: As)) (hlim : l + w.size ≤ 2147483648)
    (kk : ∀ a' c' H', S B H' (sl 1 (.slice a' (l + w.size) c') (xs ++ u8s (nameB w)) :: As) → K (upd T d (.slice a' (l + w.size) c')) H') : op1 C ⟨some d, .append 1 by_ s x, g⟩ T H K := by
  refine op1_appS hw hs hx rfl hS rfl ?_ ?_ ?_ hlim kk
  · unfold AHeap.src
    by_cases h0 : w.size = 0
    · rw [if_pos h0]
      have : nameB w = [] := List.eq_nil_of_length_eq_zero (by rw [nameB_len]; exact h0)
      rw [this]; rfl
    · rw [if_neg h0]; simp only [if_true, byteVals_eq]; rw [ List.take_of_length_le (by simp [u8s, nameB_len])]
  · simp [u8s, nameB_len]
  · exact u8s_one _
end
theorem S.k1 {B H : AHeap} {a b : Asn} {As : List Asn} (h : S B H (a :: b :: As)) : S B H (a :: As) := S.drop (S.up1 h)
theorem S.k2 {B H : AHeap} {a b c : Asn} {As : List Asn} (h : S B H (a :: b :: c :: As)) : S B H (a :: As) := S.k1 (S.k1 h)
theorem S.k3 {B H : AHeap} {a b c d : Asn} {As : List Asn} (h : S B H (a :: b :: c :: d :: As)) : S B H (a :: As) := S.k2 (S.k1 h)
theorem encB_err {l : List Pt} (h : encE l ≠ 0) : encB l = [] := by unfold encB; rw [if_neg h]
section
variable {B H : AHeap} {As : List Asn}
theorem L13 {v : Value} {xs : List PX} (hB : Glob objs B) (hP : PS B As v xs) (hS : S B H As) : wpF C 13 [v] H fun w H' => ∃ out, w = .tuple ⟨[out, .int .i64 (encE (prt xs))]⟩ ∧ S B H' (sl 1 out (u8s (encB (prt xs))) :: As) := by
  obtain ⟨r0, hr0, _⟩ := hP.rd _ hS
  obtain ⟨a, n, c, rfl, hn⟩ := hr0.shape
  rw [fm_len rowP_len] at hn
  obtain rfl : n = xs.length := by omega
  clear hr0 hn
  have hlen := hP.len
  have hpl : (prt xs).length = xs.length := by simp [prt]
  refine wpF_ofW o13 rfl rfl ?_
  refine zsr ?_; refine zw1 ?_; refine zw1 ?_; refine zns ?_; refine wp_seq ?_; refine wp_block ?_; refine zsr ?_; refine zw1 ?_; refine wpO_cons ?_; refine op1_len rfl rfl ?_; refine wpO_cons ?_; refine op1_eqlI rfl rfl rfl ?_; refine zw1 ?_; refine zns ?_
  refine wp_dec rfl (fun h1 => ?_) (fun h1 => ?_)
  · refine zsr ?_; refine zw1 ?_; refine zw1 ?_; refine zns ?_; refine wp_ret ?_; refine block_ret ?_; refine seq_ret ?_; refine ret_of ?_; refine zr ?_; refine zr ?_; refine rk_nil ?_
    have hE : encE (prt xs) = 9 := by unfold encE; rw [if_pos (by omega)]
    exact ⟨.slice none 0 0, by rw [hE]; rfl, by rw [encB_err (by rw [hE]; decide)]; exact S.slNil hS⟩
  refine zsr ?_; refine zw1 ?_; refine wpO_cons ?_; refine op1_len rfl rfl ?_; refine wpO_cons ?_; refine op1_gtr rfl rfl rfl ?_; refine zw1 ?_; refine zns ?_
  refine wp_dec rfl (fun h2 => ?_) (fun h2 => ?_)
  · refine zsr ?_; refine zw1 ?_; refine zw1 ?_; refine zns ?_; refine wp_ret ?_; refine block_ret ?_; refine seq_ret ?_; refine ret_of ?_; refine zr ?_; refine zr ?_; refine rk_nil ?_
    have hE : encE (prt xs) = 18 := by unfold encE; rw [if_neg (by omega), if_pos (by omega)]
    exact ⟨.slice none 0 0, by rw [hE]; rfl, by rw [encB_err (by rw [hE]; decide)]; exact S.slNil hS⟩
  refine wp_skip ?_; refine block_normal ?_; refine seq_normal ?_; refine wp_seq ?_; refine zsr ?_; refine zw1 ?_; refine wpO_cons ?_; refine op1_len rfl rfl ?_; refine zw1 ?_; refine zns ?_; refine wp_block ?_
  refine wp_loop [21] (fun k vs H' => ∃ i : Nat, vs = [.int .i64 i] ∧ k = xs.length - i ∧ i ≤ xs.length ∧ (∀ p ∈ (prt xs).take i, ck p = 0) ∧ S B H' As) ⟨_, 0, rfl, rfl, by omega, by simp, hS⟩ ?_
  clear hS
  rintro k vs T' H1 ⟨i, rfl, rfl, hi, hno, hS⟩
  refine zsr ?_; refine wpO_cons ?_; refine op1_lss rfl rfl rfl ?_; refine zns ?_; refine wp_seq ?_
  refine wp_dec rfl (fun hc => ?_) (fun hc => ?_)
  · obtain ⟨y, hy⟩ : ∃ y, xs[i]? = some y := ⟨_, List.getElem?_eq_getElem (by omega)⟩
    have hyp : (prt xs)[i]? = some y.1 := by unfold prt; rw [List.getElem?_map, hy]; rfl
    obtain ⟨r0, hr0, _⟩ := hP.rd _ hS
    obtain ⟨b, off, cs, e1, ro, rfl, hg, hle, hrow⟩ := RdS.row rowP_len hr0 rfl hy
    refine wp_skip ?_; refine seq_normal ?_; refine wp_seq ?_; refine wp_block ?_; refine zsr ?_; refine wpO_cons ?_; refine op1_iaddr rfl rfl rfl (by omega) (by omega) ?_; refine wpO_cons ?_
    refine op1_loadN rfl rfl hg (by simp only [Int.toNat_natCast]; omega) (by simp only [Int.toNat_natCast]; exact hrow) ?_
    unfold rowP Pt.cells PX.sv
    refine wpO_cons ?_; refine op1_allocS rfl hS ?_; intro p1 H2 hS; refine wpO_cons ?_; (refine op1_storeNS rfl rfl (by (conv => lhs; whnf) <;> rfl) rfl rfl (S.up0 hS) (Nat.le_of_ble_eq_true rfl) ?_; intro H3 hS; replace hS := S.dn0 hS); refine zns ?_; refine zsr ?_; refine wpO_cons ?_; refine op1_load_6 rfl rfl (by exact S.g0 hS) rfl rfl ?_; refine wpO_cons ?_; refine op1_call1 rfl (by (conv => lhs; whnf) <;> rfl) ?_
    refine wpF_mono (L10 hB (hP.ok y (List.mem_of_getElem? hy)) hS) ?_
    rintro _ H4 ⟨rfl, hS4⟩
    clear hS hg hr0
    have hS := hS4
    clear hS4
    refine zw1 ?_; refine zns ?_; refine zsr ?_; refine zw1 ?_; refine wpO_cons ?_; refine op1_neqI rfl rfl rfl ?_; refine zns ?_
    refine wp_ndec rfl (fun h3 => ?_) (fun h3 => ?_)
    · refine zsr ?_; refine zw1 ?_; refine zw1 ?_; refine zw1 ?_; refine zns ?_; refine wp_ret ?_; refine block_ret ?_; refine seq_ret ?_; refine iter_ret ?_; refine block_ret ?_; refine seq_ret ?_; refine ret_of ?_; refine zr ?_; refine zr ?_; refine rk_nil ?_
      have hE : encE (prt xs) = ck y.1 := by unfold encE; rw [if_neg (by omega), if_neg (by omega), ckL_take hno hyp h3, if_pos h3]
      exact ⟨.slice none 0 0, by rw [hE]; rfl, by rw [encB_err (by rw [hE]; exact h3)]; exact S.slNil (S.drop hS)⟩
    · refine wp_skip ?_; refine block_normal ?_; refine seq_normal ?_; refine wp_region ?_; refine wpO_cons ?_; refine op1_add rfl rfl rfl (by exact wrap_i64 (by omega) (by omega)) ?_; refine zw1 ?_; refine wpO_nil ?_
      refine iter_normal ⟨xs.length - (i + 1), by omega, i + 1, rfl, rfl, by omega, fun z hz => ?_, S.drop hS⟩
      rw [List.take_add_one, hyp] at hz
      rcases List.mem_append.1 hz with h | h
      · exact hno z h
      · simp at h
        rw [h]
        exact h3
  rw [List.take_of_length_le (by omega)] at hno
  have hS := S.slNil (es := 1) hS
  refine wp_exit ?_; refine seq_exit ?_; refine iter_exit ?_; refine block_exit ?_; refine seq_normal ?_; refine zsr ?_; refine zw1 ?_; refine zns ?_; refine wp_seq ?_; refine zsr ?_; refine zw1 ?_; refine wpO_cons ?_; refine op1_len rfl rfl ?_; refine zw1 ?_; refine zns ?_; refine wp_block ?_
  obtain ⟨l, hl⟩ : ∃ l, l = prt xs := ⟨_, rfl⟩
  rw [← hl] at hno hpl ⊢
  refine wp_loop [7, 33] (fun k vs H' => ∃ (i : Nat) (a' : Option Addr) (c' : Nat), vs = [.slice a' (encTo l i).length c', .int .i64 i] ∧ k = xs.length - i ∧ i ≤ xs.length ∧ S B H' (sl 1 (.slice a' (encTo l i).length c') (u8s (encTo l i)) :: As)) ⟨_, 0, none, 0, rfl, rfl, by omega, hS⟩ ?_
  clear hS
  rintro k vs T' H1 ⟨i, a', c', rfl, rfl, hi, hS⟩
  refine zsr ?_; refine wpO_cons ?_; refine op1_lss rfl rfl rfl ?_; refine zns ?_; refine wp_seq ?_
  refine wp_dec rfl (fun hc => ?_) (fun hc => ?_)
  · obtain ⟨y, hy⟩ : ∃ y, xs[i]? = some y := ⟨_, List.getElem?_eq_getElem (by omega)⟩
    have hyp : l[i]? = some y.1 := by rw [hl]; unfold prt; rw [List.getElem?_map, hy]; rfl
    have hck := hno y.1 (List.mem_of_getElem? hyp)
    have hsm := ck_small hck
    have hsz := encTo_small hno i
    have hdat := hP.dat y (List.mem_of_getElem? hy)
    have hyN := hP.ok y (List.mem_of_getElem? hy)
    obtain ⟨r0, hr0, _⟩ := hP.rd _ (S.drop hS)
    obtain ⟨b, off, cs, e1, ro, rfl, hg, hle, hrow⟩ := RdS.row rowP_len hr0 rfl hy
    refine wp_skip ?_; refine seq_normal ?_; refine wp_seq ?_; refine wp_block ?_; refine zsr ?_; refine zw1 ?_; refine wpO_cons ?_; refine op1_iaddr rfl rfl rfl (by omega) (by omega) ?_; refine wpO_cons ?_
    refine op1_loadN rfl rfl hg (by simp only [Int.toNat_natCast]; omega) (by simp only [Int.toNat_natCast]; exact hrow) ?_
    unfold rowP Pt.cells PX.sv
    refine wpO_cons ?_; refine op1_allocS rfl hS ?_; intro p1 H2 hS; refine zw1 ?_; refine wpO_cons ?_; (refine op1_storeNS rfl rfl (by (conv => lhs; whnf) <;> rfl) rfl rfl (S.up0 hS) (Nat.le_of_ble_eq_true rfl) ?_; intro H3 hS; replace hS := S.dn0 hS); refine zns ?_; refine zsr ?_; refine zw1 ?_; refine zns ?_
    refine wp_cut [10] (fun vs H' => vs = [.int .i64 (more l i)] ∧ H3 = H') ?_ ?_
    · refine zsr ?_; refine zw1 ?_; refine wpO_cons ?_; refine op1_add rfl rfl rfl (by exact wrap_i64 (by omega) (by omega)) ?_; refine zw1 ?_; refine wpO_cons ?_; refine op1_len rfl rfl ?_; refine wpO_cons ?_; refine op1_lss rfl rfl rfl ?_; refine zns ?_
      refine wp_dec rfl (fun h5 => ?_) (fun h5 => ?_)
      · refine wp_region ?_; refine zw1 ?_; refine wpO_nil ?_; refine cut1 (by (conv => lhs; whnf) <;> rfl) ?_
        exact ⟨by unfold more; rw [if_pos (by omega)], rfl⟩
      · refine wp_skip ?_; refine cut1 (by (conv => lhs; whnf) <;> rfl) ?_
        exact ⟨by unfold more; rw [if_neg (by omega)], rfl⟩
    rintro vs T5 H5 ⟨rfl, rfl⟩
    have hS : S B H3 (pto p1 (.cells [.int .i64 y.1.kind, .int .i64 y.1.hnd, .int .i64 y.1.off, .int .i64 y.1.cnt, .string y.1.name, .slice y.2.1 y.1.data.length y.2.2] 0 false) :: sl 1 (.slice a' (encTo l i).length c') (u8s (encTo l i)) :: As) := hS
    have hmr : 0 ≤ more l i ∧ more l i ≤ 1 := by unfold more; split <;> omega
    refine zsr ?_; refine zw1 ?_; refine zf ?_; refine zh (S.g0 hS) ?_; refine wpO_cons ?_; refine op1_call3 rfl (by (conv => lhs; whnf) <;> rfl) (by (conv => lhs; whnf) <;> rfl) (by (conv => lhs; whnf) <;> rfl) ?_
    refine wpF_mono (L44 (n := y.1.kind) (k := 2) (by unfold I64; omega) (by decide) (by (try simp only [List.length_append, leB_len]); omega) (S.up1 hS)) ?_
    have hT := hS
    clear hS
    rintro w H4 hS
    obtain ⟨aw, cw, rfl⟩ := S.u1 hS
    refine zw1 ?_; refine wpO_cons ?_; refine op1_call3 rfl (by (conv => lhs; whnf) <;> rfl) (by (conv => lhs; whnf) <;> rfl) (by (conv => lhs; whnf) <;> rfl) ?_
    refine wpF_mono (L44 (n := more l i) (k := 2) (by unfold I64; omega) (by decide) (by (try simp only [List.length_append, leB_len]); omega) (S.up0 hS)) ?_
    have hT := hS
    clear hS
    rintro w H4 hS
    obtain ⟨aw, cw, rfl⟩ := S.u1 hS
    refine zw1 ?_; refine zns ?_; refine wp_seq ?_; refine wp_regionD ?_; refine zd1 ?_; refine zg ?_; refine zj (S.g1 hS) ?_; refine wpD_cons ?_; refine op1_lenS rfl rfl ?_; refine wpD_cons ?_; refine op1_add rfl rfl rfl (by exact wrap_i64 (by omega) (by omega)) ?_; refine zg ?_; refine zj (S.g1 hS) ?_; refine wpD_cons ?_; refine op1_len rfl rfl ?_; refine wpD_cons ?_; refine op1_add rfl rfl rfl (by exact wrap_i64 (by omega) (by omega)) ?_; refine zg ?_; refine zj (S.g1 hS) ?_; refine wpD_cons ?_; refine op1_call3 rfl (by (conv => lhs; whnf) <;> rfl) (by (conv => lhs; whnf) <;> rfl) (by (conv => lhs; whnf) <;> rfl) ?_
    refine wpF_mono (L44 (n := 28 + (y.1.name.size : Int) + y.1.data.length) (k := 4) (by unfold I64; omega) (by decide) (by (try simp only [List.length_append, leB_len]); omega) (S.up0 hS)) ?_
    have hT := hS
    clear hS
    rintro w H4 hS
    obtain ⟨aw, cw, rfl⟩ := S.u1 hS
    refine wpD_cons ?_; refine op1_call3 rfl (by (conv => lhs; whnf) <;> rfl) (by (conv => lhs; whnf) <;> rfl) (by (conv => lhs; whnf) <;> rfl) ?_
    refine wpF_mono (L44 (n := y.1.hnd) (k := 4) (by unfold I64; omega) (by decide) (by (try simp only [List.length_append, leB_len]); omega) (S.up0 hS)) ?_
    have hT := hS
    clear hS
    rintro w H4 hS
    obtain ⟨aw, cw, rfl⟩ := S.u1 hS
    refine zd1 ?_; refine wpD_nil ?_; refine dk_of ?_ ?_; (iterate 2 refine chk_skip ?_); refine zx 12 ?_ ?_; refine zy 3 ?_ ?_; exact chk_load rfl (by exact S.g1 (by assumption)) rfl rfl; exact chkFs_nil; refine zx 11 ?_ ?_; refine zy 3 ?_ ?_; exact chk_lenS rfl rfl; exact chkFs_nil; (iterate 2 refine chk_skip ?_); refine zx 8 ?_ ?_; refine zy 3 ?_ ?_; exact chk_load rfl (by exact S.g1 (by assumption)) rfl rfl; exact chkFs_nil; refine zx 7 ?_ ?_; refine zy 3 ?_ ?_; exact chk_len rfl rfl; exact chkFs_nil; (iterate 2 refine chk_skip ?_); refine zx 4 ?_ ?_; refine zy 3 ?_ ?_; exact chk_load rfl (by exact S.g1 (by assumption)) rfl rfl; refine zy 2 ?_ ?_; exact zq (S.g1 hT); exact chkFs_nil; (iterate 3 refine chk_skip ?_); exact chk_end; refine seq_normal ?_; refine wp_seq ?_; refine wp_regionD ?_; refine zd1 ?_; refine zg ?_; refine zj (S.g1 hS) ?_; refine zg ?_; refine zj (S.g1 hS) ?_; refine wpD_cons ?_; refine op1_call3 rfl (by (conv => lhs; whnf) <;> rfl) (by (conv => lhs; whnf) <;> rfl) (by (conv => lhs; whnf) <;> rfl) ?_
    refine wpF_mono (L44 (n := y.1.off) (k := 8) (by unfold I64; omega) (by decide) (by (try simp only [List.length_append, leB_len]); omega) (S.up0 hS)) ?_
    have hT := hS
    clear hS
    rintro w H4 hS
    obtain ⟨aw, cw, rfl⟩ := S.u1 hS
    refine wpD_cons ?_; refine op1_call3 rfl (by (conv => lhs; whnf) <;> rfl) (by (conv => lhs; whnf) <;> rfl) (by (conv => lhs; whnf) <;> rfl) ?_
    refine wpF_mono (L44 (n := y.1.cnt) (k := 4) (by unfold I64; omega) (by decide) (by (try simp only [List.length_append, leB_len]); omega) (S.up0 hS)) ?_
    have hT := hS
    clear hS
    rintro w H4 hS
    obtain ⟨aw, cw, rfl⟩ := S.u1 hS
    refine zd1 ?_; refine wpD_nil ?_; refine dk_of ?_ ?_; (iterate 2 refine chk_skip ?_); refine zx 6 ?_ ?_; refine zy 3 ?_ ?_; exact chk_load rfl (by exact S.g1 (by assumption)) rfl rfl; exact chkFs_nil; refine chk_skip ?_; refine zx 4 ?_ ?_; refine zy 3 ?_ ?_; exact chk_load rfl (by exact S.g1 (by assumption)) rfl rfl; refine zy 2 ?_ ?_; exact zq (S.g1 hT); exact chkFs_nil; (iterate 3 refine chk_skip ?_); exact chk_end; refine seq_normal ?_; refine wp_seq ?_; refine wp_regionD ?_; refine zd1 ?_; refine zg ?_; refine zj (S.g1 hS) ?_; refine wpD_cons ?_; refine op1_lenS rfl rfl ?_; refine zg ?_; refine zj (S.g1 hS) ?_; refine wpD_cons ?_; refine op1_len rfl rfl ?_; refine wpD_cons ?_; refine op1_call3 rfl (by (conv => lhs; whnf) <;> rfl) (by (conv => lhs; whnf) <;> rfl) (by (conv => lhs; whnf) <;> rfl) ?_
    refine wpF_mono (L44 (n := (y.1.name.size : Int)) (k := 2) (by unfold I64; omega) (by decide) (by (try simp only [List.length_append, leB_len]); omega) (S.up0 hS)) ?_
    have hT := hS
    clear hS
    rintro w H4 hS
    obtain ⟨aw, cw, rfl⟩ := S.u1 hS
    refine wpD_cons ?_; refine op1_call3 rfl (by (conv => lhs; whnf) <;> rfl) (by (conv => lhs; whnf) <;> rfl) (by (conv => lhs; whnf) <;> rfl) ?_
    refine wpF_mono (L44 (n := (y.1.data.length : Int)) (k := 2) (by unfold I64; omega) (by decide) (by (try simp only [List.length_append, leB_len]); omega) (S.up0 hS)) ?_
    have hT := hS
    clear hS
    rintro w H4 hS
    obtain ⟨aw, cw, rfl⟩ := S.u1 hS
    refine zd1 ?_; refine wpD_nil ?_; refine dk_of ?_ ?_; (iterate 2 refine chk_skip ?_); refine zx 8 ?_ ?_; refine zy 3 ?_ ?_; exact chk_load rfl (by exact S.g1 (by assumption)) rfl rfl; exact chkFs_nil; refine zx 7 ?_ ?_; refine zy 3 ?_ ?_; exact chk_lenS rfl rfl; exact chkFs_nil; refine chk_skip ?_; refine zx 5 ?_ ?_; refine zy 3 ?_ ?_; exact chk_load rfl (by exact S.g1 (by assumption)) rfl rfl; refine zy 2 ?_ ?_; exact zq (S.g1 hT); exact chkFs_nil; refine zx 4 ?_ ?_; refine zy 3 ?_ ?_; exact chk_len rfl rfl; refine zy 2 ?_ ?_; exact chk_len rfl rfl; exact chkFs_nil; (iterate 3 refine chk_skip ?_); exact chk_end; refine seq_normal ?_; refine wp_regionD ?_; refine zd1 ?_; refine zg ?_; refine zj (S.g1 hS) ?_; refine zg ?_; refine zj (S.g1 hS) ?_; refine wpD_cons ?_
    refine op1_appStr rfl rfl rfl hS (by simp only [List.length_append, leB_len]; omega) ?_
    have hT := hS
    clear hS
    intro a9 c9 H9 hS
    rw [← u8s_app] at hS
    obtain ⟨rd, hrd, _⟩ := hdat _ (S.drop (S.drop hS))
    unfold PX.sv at hrd
    refine wpD_cons ?_
    refine op1_appRS rfl rfl (by (conv => lhs; whnf) <;> rfl) rfl hrd (by simp [u8s]) (u8s_one _) hS (by simp only [List.length_append, leB_len]; omega) ?_
    have hT := hS
    clear hS
    intro a10 c10 H10 hS
    rw [← u8s_app] at hS
    refine zd1 ?_; refine wpD_nil ?_; refine dk_of ?_ ?_; (iterate 2 refine chk_skip ?_); refine zx 6 ?_ ?_; refine zy 3 ?_ ?_; exact chk_load rfl (by exact S.g1 (by assumption)) rfl rfl; exact chkFs_nil; refine chk_skip ?_; refine zx 4 ?_ ?_; refine zy 3 ?_ ?_; exact chk_load rfl (by exact S.g1 (by assumption)) rfl rfl; refine zy 2 ?_ ?_; exact zq (S.g1 hT); exact chkFs_nil; (iterate 3 refine chk_skip ?_); exact chk_end; refine block_normal ?_; refine seq_normal ?_; refine wp_region ?_; refine wpO_cons ?_; refine op1_add rfl rfl rfl (by exact wrap_i64 (by omega) (by omega)) ?_; refine zw1 ?_; refine wpO_nil ?_
    have e9 : encTo l (i + 1) = encTo l i ++ encP (more l i) y.1 := by rw [encTo, hyp]
    refine iter_normal ⟨xs.length - (i + 1), by omega, i + 1, a10, c10, ?_, rfl, by omega, ?_⟩
    · rw [e9, encP]
      simp only [List.length_append, leB_len, nameB_len, Nat.add_assoc]
      rfl
    · rw [e9, encP]
      simp only [List.length_append, leB_len, nameB_len, Nat.add_assoc, List.append_assoc] at hS ⊢
      exact S.k1 hS
  · obtain rfl : i = l.length := by omega
    refine wp_exit ?_; refine seq_exit ?_; refine iter_exit ?_; refine block_exit ?_; refine seq_normal ?_; refine wp_seq ?_; refine zsr ?_; refine zw1 ?_; refine wpO_cons ?_; refine op1_len rfl rfl ?_; refine wpO_cons ?_; refine op1_gtr rfl rfl rfl ?_; refine zns ?_
    refine wp_dec rfl (fun h5 => ?_) (fun h5 => ?_)
    · refine zsr ?_; refine zw1 ?_; refine zw1 ?_; refine zns ?_; refine wp_ret ?_; refine seq_ret ?_; refine ret_of ?_; refine zr ?_; refine zr ?_; refine rk_nil ?_
      have hE : encE l = 20 := by unfold encE; rw [if_neg (by omega), if_neg (by omega), if_neg (by rw [ckL_zero.2 hno]; simp), if_pos (by omega)]
      exact ⟨.slice none 0 0, by rw [hE]; rfl, by rw [encB_err (by rw [hE]; decide)]; exact S.slNil (S.drop hS)⟩
    · refine wp_skip ?_; refine seq_normal ?_; refine zsr ?_; refine zw1 ?_; refine zw1 ?_; refine zw1 ?_; refine zns ?_; refine wp_ret ?_; refine ret_of ?_; refine zr ?_; refine zr ?_; refine rk_nil ?_
      have hE : encE l = 0 := by unfold encE; rw [if_neg (by omega), if_neg (by omega), if_neg (by rw [ckL_zero.2 hno]; simp), if_neg (by omega)]
      exact ⟨_, by rw [hE]; rfl, by unfold encB; rw [if_pos hE]; exact hS⟩
theorem more_two {m : Int} (h : m = 0 ∨ m = 1) : leB m 1 ++ leB 0 1 = leB (un m) 2 := by rcases h with rfl | rfl <;> rfl
theorem L14 {v : Value} {xs : List PX} (hP : PS B As v xs) (hS : S B H As) : wpF C 14 [v] H fun w H' => ∃ out, w = .tuple ⟨[out, .int .i64 (encE (prt xs))]⟩ ∧ S B H' (sl 1 out (u8s (encB (prt xs))) :: As) := by
  obtain ⟨r0, hr0, _⟩ := hP.rd _ hS
  obtain ⟨a, n, c, rfl, hn⟩ := hr0.shape
  rw [fm_len rowP_len] at hn
  obtain rfl : n = xs.length := by omega
  clear hr0 hn
  have hlen := hP.len
  have hpl : (prt xs).length = xs.length := by simp [prt]
  refine wpF_ofW o14 rfl rfl ?_
  refine zsr ?_; refine zw1 ?_; refine zw1 ?_; refine zns ?_; refine wp_seq ?_; refine zsr ?_; refine zw1 ?_; refine wpO_cons ?_; refine op1_len rfl rfl ?_; refine wpO_cons ?_; refine op1_eqlI rfl rfl rfl ?_; refine zns ?_
  refine wp_dec rfl (fun h1 => ?_) (fun h1 => ?_)
  · refine zsr ?_; refine zw1 ?_; refine zw1 ?_; refine zns ?_; refine wp_ret ?_; refine seq_ret ?_; refine ret_of ?_; refine zr ?_; refine zr ?_; refine rk_nil ?_
    have hE : encE (prt xs) = 9 := by unfold encE; rw [if_pos (by omega)]
    exact ⟨.slice none 0 0, by rw [hE]; rfl, by rw [encB_err (by rw [hE]; decide)]; exact S.slNil hS⟩
  refine wp_skip ?_; refine seq_normal ?_; refine wp_seq ?_; refine zsr ?_; refine zw1 ?_; refine wpO_cons ?_; refine op1_len rfl rfl ?_; refine wpO_cons ?_; refine op1_gtr rfl rfl rfl ?_; refine zns ?_
  refine wp_dec rfl (fun h2 => ?_) (fun h2 => ?_)
  · refine zsr ?_; refine zw1 ?_; refine zw1 ?_; refine zns ?_; refine wp_ret ?_; refine seq_ret ?_; refine ret_of ?_; refine zr ?_; refine zr ?_; refine rk_nil ?_
    have hE : encE (prt xs) = 18 := by unfold encE; rw [if_neg (by omega), if_pos (by omega)]
    exact ⟨.slice none 0 0, by rw [hE]; rfl, by rw [encB_err (by rw [hE]; decide)]; exact S.slNil hS⟩
  refine wp_skip ?_; refine seq_normal ?_; refine wp_seq ?_; refine zsr ?_; refine zw1 ?_; refine zns ?_; refine wp_block ?_
  refine wp_loop [4] (fun k vs H' => ∃ i : Nat, vs = [.int .i64 i] ∧ k = xs.length - i ∧ i ≤ xs.length ∧ (∀ p ∈ (prt xs).take i, ck p = 0) ∧ S B H' As) ⟨_, 0, rfl, rfl, by omega, by simp, hS⟩ ?_
  clear hS
  rintro k vs T' H1 ⟨i, rfl, rfl, hi, hno, hS⟩
  refine wp_seq ?_; refine zsr ?_; refine zw1 ?_; refine zw1 ?_; refine wpO_cons ?_; refine op1_len rfl rfl ?_; refine wpO_cons ?_; refine op1_lss rfl rfl rfl ?_; refine zns ?_
  refine wp_dec rfl (fun hc => ?_) (fun hc => ?_)
  · obtain ⟨y, hy⟩ : ∃ y, xs[i]? = some y := ⟨_, List.getElem?_eq_getElem (by omega)⟩
    have hyp : (prt xs)[i]? = some y.1 := by unfold prt; rw [List.getElem?_map, hy]; rfl
    obtain ⟨r0, hr0, _⟩ := hP.rd _ hS
    obtain ⟨b, off, cs, e1, ro, rfl, hg, hle, hrow⟩ := RdS.row rowP_len hr0 rfl hy
    refine wp_skip ?_; refine seq_normal ?_; refine wp_seq ?_; refine wp_block ?_; refine zsr ?_; refine zw1 ?_; refine zw1 ?_; refine wpO_cons ?_; refine op1_iaddr rfl rfl rfl (by omega) (by omega) ?_; refine wpO_cons ?_
    refine op1_loadN rfl rfl hg (by simp only [Int.toNat_natCast]; omega) (by simp only [Int.toNat_natCast]; exact hrow) ?_
    unfold rowP PX.sv
    refine wpO_cons ?_; refine op1_call1 rfl (by (conv => lhs; whnf) <;> rfl) ?_
    refine wpF_mono (L11 (hP.ok y (List.mem_of_getElem? hy)) hS) ?_
    rintro _ H4 ⟨rfl, hS4⟩
    clear hS hg hr0
    have hS := hS4
    clear hS4
    refine zw1 ?_; refine zns ?_; refine zsr ?_; refine zw1 ?_; refine wpO_cons ?_; refine op1_neqI rfl rfl rfl ?_; refine zns ?_
    refine wp_ndec rfl (fun h3 => ?_) (fun h3 => ?_)
    · refine zsr ?_; refine zw1 ?_; refine zw1 ?_; refine zw1 ?_; refine zns ?_; refine wp_ret ?_; refine block_ret ?_; refine seq_ret ?_; refine iter_ret ?_; refine block_ret ?_; refine seq_ret ?_; refine ret_of ?_; refine zr ?_; refine zr ?_; refine rk_nil ?_
      have hE : encE (prt xs) = ck y.1 := by unfold encE; rw [if_neg (by omega), if_neg (by omega), ckL_take hno hyp h3, if_pos h3]
      exact ⟨.slice none 0 0, by rw [hE]; rfl, by rw [encB_err (by rw [hE]; exact h3)]; exact S.slNil hS⟩
    · refine wp_skip ?_; refine block_normal ?_; refine seq_normal ?_; refine wp_region ?_; refine zw1 ?_; refine wpO_cons ?_; refine op1_add rfl rfl rfl (by exact wrap_i64 (by omega) (by omega)) ?_; refine zw1 ?_; refine wpO_nil ?_
      refine iter_normal ⟨xs.length - (i + 1), by omega, i + 1, rfl, rfl, by omega, fun z hz => ?_, hS⟩
      rw [List.take_add_one, hyp] at hz
      rcases List.mem_append.1 hz with h | h
      · exact hno z h
      · simp at h
        rw [h]
        exact h3
  rw [List.take_of_length_le (by omega)] at hno
  have hS := S.slNil (es := 1) hS
  refine wp_exit ?_; refine seq_exit ?_; refine iter_exit ?_; refine block_exit ?_; refine seq_normal ?_; refine zsr ?_; refine zw1 ?_; refine zns ?_; refine wp_seq ?_; refine zsr ?_; refine zw1 ?_; refine zns ?_; refine wp_block ?_
  obtain ⟨l, hl⟩ : ∃ l, l = prt xs := ⟨_, rfl⟩
  rw [← hl] at hno hpl ⊢
  refine wp_loop [6, 7] (fun k vs H' => ∃ (i : Nat) (a' : Option Addr) (c' : Nat), vs = [.slice a' (encTo l i).length c', .int .i64 i] ∧ k = xs.length - i ∧ i ≤ xs.length ∧ S B H' (sl 1 (.slice a' (encTo l i).length c') (u8s (encTo l i)) :: As)) ⟨_, 0, none, 0, rfl, rfl, by omega, hS⟩ ?_
  clear hS
  rintro k vs T' H1 ⟨i, a', c', rfl, rfl, hi, hS⟩
  refine wp_seq ?_; refine zsr ?_; refine zw1 ?_; refine zw1 ?_; refine wpO_cons ?_; refine op1_len rfl rfl ?_; refine wpO_cons ?_; refine op1_lss rfl rfl rfl ?_; refine zns ?_
  refine wp_dec rfl (fun hc => ?_) (fun hc => ?_)
  · obtain ⟨y, hy⟩ : ∃ y, xs[i]? = some y := ⟨_, List.getElem?_eq_getElem (by omega)⟩
    have hyp : l[i]? = some y.1 := by rw [hl]; unfold prt; rw [List.getElem?_map, hy]; rfl
    have hck := hno y.1 (List.mem_of_getElem? hyp)
    have hsm := ck_small hck
    have hsz := encTo_small hno i
    have hdat := hP.dat y (List.mem_of_getElem? hy)
    have hyN := hP.ok y (List.mem_of_getElem? hy)
    obtain ⟨r0, hr0, _⟩ := hP.rd _ (S.drop hS)
    obtain ⟨b, off, cs, e1, ro, rfl, hg, hle, hrow⟩ := RdS.row rowP_len hr0 rfl hy
    refine wp_skip ?_; refine seq_normal ?_; refine wp_seq ?_; refine wp_block ?_; refine zsr ?_; refine zw1 ?_; refine zw1 ?_; refine wpO_cons ?_; refine op1_iaddr rfl rfl rfl (by omega) (by omega) ?_; refine wpO_cons ?_
    refine op1_loadN rfl rfl hg (by simp only [Int.toNat_natCast]; omega) (by simp only [Int.toNat_natCast]; exact hrow) ?_
    unfold rowP Pt.cells PX.sv
    refine wpO_cons ?_; refine op1_allocS rfl hS ?_; intro p1 H2 hS; refine wpO_cons ?_; (refine op1_storeNS rfl rfl (by (conv => lhs; whnf) <;> rfl) rfl rfl (S.up0 hS) (Nat.le_of_ble_eq_true rfl) ?_; intro H3 hS; replace hS := S.dn0 hS); refine zns ?_; refine zsr ?_; refine zw1 ?_; refine zns ?_
    refine wp_cut [9] (fun vs H' => vs = [.int .u64 (more l i)] ∧ H3 = H') ?_ ?_
    · refine zsr ?_; refine zw1 ?_; refine zw1 ?_; refine wpO_cons ?_; refine op1_len rfl rfl ?_; refine wpO_cons ?_; refine op1_sub rfl rfl rfl (by exact wrap_i64 (by omega) (by omega)) ?_; refine wpO_cons ?_; refine op1_eqlI rfl rfl rfl ?_; refine zns ?_
      refine wp_dec rfl (fun h5 => ?_) (fun h5 => ?_)
      · refine wp_region ?_; refine zw1 ?_; refine wpO_nil ?_; refine cut1 (by (conv => lhs; whnf) <;> rfl) ?_
        exact ⟨by unfold more; rw [if_neg (by omega)], rfl⟩
      · refine wp_skip ?_; refine cut1 (by (conv => lhs; whnf) <;> rfl) ?_
        exact ⟨by unfold more; rw [if_pos (by omega)], rfl⟩
    rintro vs T5 H5 ⟨rfl, rfl⟩
    have hS : S B H3 (pto p1 (.cells [.int .i64 y.1.kind, .int .i64 y.1.hnd, .int .i64 y.1.off, .int .i64 y.1.cnt, .string y.1.name, .slice y.2.1 y.1.data.length y.2.2] 0 false) :: sl 1 (.slice a' (encTo l i).length c') (u8s (encTo l i)) :: As) := hS
    have hmr : more l i = 0 ∨ more l i = 1 := by unfold more; split <;> omega
    have u1 : un y.1.kind = y.1.kind := by unfold un; omega
    have u2 : un (28 + (y.1.name.size : Int) + y.1.data.length) = 28 + (y.1.name.size : Int) + y.1.data.length := by unfold un; omega
    have u3 : un y.1.off = y.1.off := by unfold un; omega
    have u4 : un y.1.cnt = y.1.cnt := by unfold un; omega
    have u5 : un (y.1.name.size : Int) = (y.1.name.size : Int) := by unfold un; omega
    have u6 : un (y.1.data.length : Int) = (y.1.data.length : Int) := by unfold un; omega
    refine zsr ?_; refine zw1 ?_; refine zf ?_; refine zh (S.g0 hS) ?_; refine wpO_cons ?_; refine op1_convInt rfl rfl (by exact wrap_u64 (by omega) (by omega)) ?_; refine wpO_cons ?_; refine op1_call3 rfl (by (conv => lhs; whnf) <;> rfl) (by (conv => lhs; whnf) <;> rfl) (by (conv => lhs; whnf) <;> rfl) ?_
    refine wpF_mono (L45 (n := y.1.kind) (k := 2) (by unfold U64; omega) (by decide) (by (try simp only [List.length_append, leB_len]); omega) (S.up1 hS)) ?_
    have hT := hS
    clear hS
    rintro w H4 hS
    obtain ⟨aw, cw, rfl⟩ := S.u1 hS
    refine zw1 ?_; refine zns ?_; refine zsr ?_; refine zw1 ?_; refine zw1 ?_; refine wpO_cons ?_; refine op1_call3 rfl (by (conv => lhs; whnf) <;> rfl) (by (conv => lhs; whnf) <;> rfl) (by (conv => lhs; whnf) <;> rfl) ?_
    refine wpF_mono (L45 (n := more l i) (k := 1) (by unfold U64; omega) (by decide) (by (try simp only [List.length_append, leB_len]); omega) (S.up0 hS)) ?_
    have hT := hS
    clear hS
    rintro w H4 hS
    obtain ⟨aw, cw, rfl⟩ := S.u1 hS
    refine zw1 ?_; refine zns ?_; refine zsr ?_; refine zw1 ?_; refine wpO_cons ?_; refine op1_call3 rfl (by (conv => lhs; whnf) <;> rfl) (by (conv => lhs; whnf) <;> rfl) (by (conv => lhs; whnf) <;> rfl) ?_
    refine wpF_mono (L45 (n := 0) (k := 1) (by unfold U64; omega) (by decide) (by (try simp only [List.length_append, leB_len]); omega) (S.up0 hS)) ?_
    have hT := hS
    clear hS
    rintro w H4 hS
    obtain ⟨aw, cw, rfl⟩ := S.u1 hS
    refine zw1 ?_; refine zns ?_; refine zsr ?_; refine zw1 ?_; refine zf ?_; refine zh (S.g1 hS) ?_; refine wpO_cons ?_; refine op1_lenS rfl rfl ?_; refine wpO_cons ?_; refine op1_add rfl rfl rfl (by exact wrap_i64 (by omega) (by omega)) ?_; refine zf ?_; refine zh (S.g1 hS) ?_; refine wpO_cons ?_; refine op1_len rfl rfl ?_; refine wpO_cons ?_; refine op1_add rfl rfl rfl (by exact wrap_i64 (by omega) (by omega)) ?_; refine wpO_cons ?_; refine op1_convInt rfl rfl (by exact wrap_u64 (by omega) (by omega)) ?_; refine wpO_cons ?_; refine op1_call3 rfl (by (conv => lhs; whnf) <;> rfl) (by (conv => lhs; whnf) <;> rfl) (by (conv => lhs; whnf) <;> rfl) ?_
    refine wpF_mono (L45 (n := 28 + (y.1.name.size : Int) + y.1.data.length) (k := 4) (by unfold U64; omega) (by decide) (by (try simp only [List.length_append, leB_len]); omega) (S.up0 hS)) ?_
    have hT := hS
    clear hS
    rintro w H4 hS
    obtain ⟨aw, cw, rfl⟩ := S.u1 hS
    refine zw1 ?_; refine zns ?_; refine zsr ?_; refine zw1 ?_; refine zf ?_; refine zh (S.g1 hS) ?_; refine wpO_cons ?_
    refine op1_convIntW rfl rfl ?_
    rw [wu64]
    refine wpO_cons ?_; refine op1_call3 rfl (by (conv => lhs; whnf) <;> rfl) (by (conv => lhs; whnf) <;> rfl) (by (conv => lhs; whnf) <;> rfl) ?_
    refine wpF_mono (L45 (n := un y.1.hnd) (k := 4) (by exact un_b _) (by decide) (by (try simp only [List.length_append, leB_len]); omega) (S.up0 hS)) ?_
    have hT := hS
    clear hS
    rintro w H4 hS
    obtain ⟨aw, cw, rfl⟩ := S.u1 hS
    refine zw1 ?_; refine zns ?_; refine zsr ?_; refine zw1 ?_; refine zf ?_; refine zh (S.g1 hS) ?_; refine wpO_cons ?_; refine op1_convInt rfl rfl (by exact wrap_u64 (by omega) (by omega)) ?_; refine wpO_cons ?_; refine op1_call3 rfl (by (conv => lhs; whnf) <;> rfl) (by (conv => lhs; whnf) <;> rfl) (by (conv => lhs; whnf) <;> rfl) ?_
    refine wpF_mono (L45 (n := y.1.off) (k := 8) (by unfold U64; omega) (by decide) (by (try simp only [List.length_append, leB_len]); omega) (S.up0 hS)) ?_
    have hT := hS
    clear hS
    rintro w H4 hS
    obtain ⟨aw, cw, rfl⟩ := S.u1 hS
    refine zw1 ?_; refine zns ?_; refine zsr ?_; refine zw1 ?_; refine zf ?_; refine zh (S.g1 hS) ?_; refine wpO_cons ?_; refine op1_convInt rfl rfl (by exact wrap_u64 (by omega) (by omega)) ?_; refine wpO_cons ?_; refine op1_call3 rfl (by (conv => lhs; whnf) <;> rfl) (by (conv => lhs; whnf) <;> rfl) (by (conv => lhs; whnf) <;> rfl) ?_
    refine wpF_mono (L45 (n := y.1.cnt) (k := 4) (by unfold U64; omega) (by decide) (by (try simp only [List.length_append, leB_len]); omega) (S.up0 hS)) ?_
    have hT := hS
    clear hS
    rintro w H4 hS
    obtain ⟨aw, cw, rfl⟩ := S.u1 hS
    refine zw1 ?_; refine zns ?_; refine zsr ?_; refine zw1 ?_; refine zf ?_; refine zh (S.g1 hS) ?_; refine wpO_cons ?_; refine op1_lenS rfl rfl ?_; refine wpO_cons ?_; refine op1_convInt rfl rfl (by exact wrap_u64 (by omega) (by omega)) ?_; refine wpO_cons ?_; refine op1_call3 rfl (by (conv => lhs; whnf) <;> rfl) (by (conv => lhs; whnf) <;> rfl) (by (conv => lhs; whnf) <;> rfl) ?_
    refine wpF_mono (L45 (n := (y.1.name.size : Int)) (k := 2) (by unfold U64; omega) (by decide) (by (try simp only [List.length_append, leB_len]); omega) (S.up0 hS)) ?_
    have hT := hS
    clear hS
    rintro w H4 hS
    obtain ⟨aw, cw, rfl⟩ := S.u1 hS
    refine zw1 ?_; refine zns ?_; refine zsr ?_; refine zw1 ?_; refine zf ?_; refine zh (S.g1 hS) ?_; refine wpO_cons ?_; refine op1_len rfl rfl ?_; refine wpO_cons ?_; refine op1_convInt rfl rfl (by exact wrap_u64 (by omega) (by omega)) ?_; refine wpO_cons ?_; refine op1_call3 rfl (by (conv => lhs; whnf) <;> rfl) (by (conv => lhs; whnf) <;> rfl) (by (conv => lhs; whnf) <;> rfl) ?_
    refine wpF_mono (L45 (n := (y.1.data.length : Int)) (k := 2) (by unfold U64; omega) (by decide) (by (try simp only [List.length_append, leB_len]); omega) (S.up0 hS)) ?_
    have hT := hS
    clear hS
    rintro w H4 hS
    obtain ⟨aw, cw, rfl⟩ := S.u1 hS
    refine zw1 ?_; refine zns ?_; refine wp_regionD ?_; refine zd1 ?_; refine zg ?_; refine zj (S.g1 hS) ?_; refine zg ?_; refine zj (S.g1 hS) ?_; refine wpD_cons ?_
    refine op1_appStr rfl rfl rfl hS (by simp only [List.length_append, leB_len]; omega) ?_
    have hT := hS
    clear hS
    intro a9 c9 H9 hS
    rw [← u8s_app] at hS
    obtain ⟨rd, hrd, _⟩ := hdat _ (S.drop (S.drop hS))
    unfold PX.sv at hrd
    refine wpD_cons ?_
    refine op1_appRS rfl rfl (by (conv => lhs; whnf) <;> rfl) rfl hrd (by simp [u8s]) (u8s_one _) hS (by simp only [List.length_append, leB_len]; omega) ?_
    have hT := hS
    clear hS
    intro a10 c10 H10 hS
    rw [← u8s_app] at hS
    refine zd1 ?_; refine wpD_nil ?_; refine dk_of ?_ ?_; (iterate 2 refine chk_skip ?_); refine zx 6 ?_ ?_; refine zy 3 ?_ ?_; exact chk_load rfl (by exact S.g1 (by assumption)) rfl rfl; exact chkFs_nil; refine chk_skip ?_; refine zx 4 ?_ ?_; refine zy 3 ?_ ?_; exact chk_load rfl (by exact S.g1 (by assumption)) rfl rfl; refine zy 2 ?_ ?_; exact zq (S.g1 hT); exact chkFs_nil; (iterate 3 refine chk_skip ?_); exact chk_end; refine block_normal ?_; refine seq_normal ?_; refine wp_region ?_; refine zw1 ?_; refine wpO_cons ?_; refine op1_add rfl rfl rfl (by exact wrap_i64 (by omega) (by omega)) ?_; refine zw1 ?_; refine wpO_nil ?_
    have e9 : encTo l (i + 1) = encTo l i ++ encP (more l i) y.1 := by rw [encTo, hyp]
    have e8 : encP (more l i) y.1 = leB y.1.kind 2 ++ leB (more l i) 1 ++ leB 0 1 ++ leB (28 + (y.1.name.size : Int) + y.1.data.length) 4 ++ leB (un y.1.hnd) 4 ++ leB y.1.off 8 ++ leB y.1.cnt 4 ++ leB (y.1.name.size : Int) 2 ++ leB (y.1.data.length : Int) 2 ++ nameB y.1.name ++ y.1.data := by
      unfold encP
      rw [u1, u2, u3, u4, u5, u6, ← more_two hmr]
      simp only [List.append_assoc]
    refine iter_normal ⟨xs.length - (i + 1), by omega, i + 1, a10, c10, ?_, rfl, by omega, ?_⟩
    · rw [e9, e8]
      simp only [List.length_append, leB_len, nameB_len, Nat.add_assoc]
      rfl
    · rw [e9, e8]
      simp only [List.length_append, leB_len, nameB_len, Nat.add_assoc, List.append_assoc] at hS ⊢
      exact S.k1 hS
  · obtain rfl : i = l.length := by omega
    refine wp_exit ?_; refine seq_exit ?_; refine iter_exit ?_; refine block_exit ?_; refine seq_normal ?_; refine wp_seq ?_; refine zsr ?_; refine zw1 ?_; refine wpO_cons ?_; refine op1_len rfl rfl ?_; refine wpO_cons ?_; refine op1_gtr rfl rfl rfl ?_; refine zns ?_
    refine wp_dec rfl (fun h5 => ?_) (fun h5 => ?_)
    · refine zsr ?_; refine zw1 ?_; refine zw1 ?_; refine zns ?_; refine wp_ret ?_; refine seq_ret ?_; refine ret_of ?_; refine zr ?_; refine zr ?_; refine rk_nil ?_
      have hE : encE l = 20 := by unfold encE; rw [if_neg (by omega), if_neg (by omega), if_neg (by rw [ckL_zero.2 hno]; simp), if_pos (by omega)]
      exact ⟨.slice none 0 0, by rw [hE]; rfl, by rw [encB_err (by rw [hE]; decide)]; exact S.slNil (S.drop hS)⟩
    · refine wp_skip ?_; refine seq_normal ?_; refine zsr ?_; refine zw1 ?_; refine zw1 ?_; refine zw1 ?_; refine zns ?_; refine wp_ret ?_; refine ret_of ?_; refine zr ?_; refine zr ?_; refine rk_nil ?_
      have hE : encE l = 0 := by unfold encE; rw [if_neg (by omega), if_neg (by omega), if_neg (by rw [ckL_zero.2 hno]; simp), if_neg (by omega)]
      exact ⟨_, by rw [hE]; rfl, by unfold encB; rw [if_pos hE]; exact hS⟩
end
end Go.E.Cb
