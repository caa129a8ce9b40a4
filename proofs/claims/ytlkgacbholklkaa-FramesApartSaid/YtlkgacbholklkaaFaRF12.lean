/- The table of frames as an assertion. -/
import Derived.Test.YtlkgacbholklkaaFaCode
namespace Go.E.Fa
open Go Go.E Go.Proofs.Ytlkgacbholklkaa Go.Proofs
set_option linter.unusedVariables false
set_option linter.unusedSimpArgs false
set_option maxRecDepth 100000
theorem ba_beq (a b : ByteArray) : (a == b) = decide (a = b) := by
  cases a with | mk a => cases b with | mk b =>
  show (a == b) = _
  by_cases h : a = b
  · subst h; simp
  · have : ¬ (ByteArray.mk a = ByteArray.mk b) := fun e => h (by cases e; rfl)
    simp [h]
theorem keyStr : KeyEnc .string (fun s : ByteArray => Value.string s) := ⟨fun a => rfl, fun a b => by
  simp only [Instr.sameNow, Option.some.injEq]
  exact ba_beq a b⟩

structure Pl where
  name : ByteArray
  first : Int
  count : Int
  gen : Bool
  keep : Bool
def plC (p : Pl) : List Value := [.string p.name, .int .i64 p.first, .int .i64 p.count, .bool p.gen, .bool p.keep]
theorem plC_len (p : Pl) : (plC p).length = 5 := rfl
theorem plC_one (l : List Pl) : (l.flatMap plC).all (·.oneCell') = true := by
  rw [List.all_flatMap, List.all_eq_true]; intro p _; rfl

structure Fm where
  dom : List Int
  blk : Int → Nat
  refs : Int → Int
  pool : Int → Int
  dat : Int → Option (Nat × List Int)
def Fm.setRefs (M : Fm) (n v : Int) : Fm := { M with refs := fun k => if k = n then v else M.refs k }
def Fm.setDat (M : Fm) (n : Int) (d : Option (Nat × List Int)) : Fm := { M with dat := fun k => if k = n then d else M.dat k }
def ptrV (b : Nat) : Value := .pointer (some ⟨b, 0, none⟩)
def datV : Option (Nat × List Int) → Value
  | none => .pointer none
  | some d => ptrV d.1
def datA : Option (Nat × List Int) → Asn
  | none => pur True
  | some d => pto d.1 (.cells (u8s d.2) 0 false)
def frC (r p : Int) (d : Option (Nat × List Int)) : List Value := [.int .i64 r, .int .i64 p, datV d]
def frA (M : Fm) (n : Int) : Asn := seps [pto (M.blk n) (.cells (frC (M.refs n) (M.pool n) (M.dat n)) 0 false), datA (M.dat n)]

def enI (n : Int) : Value := .int .i64 n
def enS (s : ByteArray) : Value := .string s
def fkv (M : Fm) : List (Int × Value) := M.dom.map fun n => (n, ptrV (M.blk n))

theorem fkv_get (M : Fm) (k : Int) : kvGet (fkv M) k = if k ∈ M.dom then some (ptrV (M.blk k)) else none := by
  unfold fkv
  generalize M.dom = l
  induction l with
  | nil => rfl
  | cons a l ih =>
    simp only [List.map_cons, kvGet, List.mem_cons, ih]
    by_cases h : k = a
    · subst h; simp
    · simp [h]

theorem S.frAt {B H : AHeap} {As : List Asn} {M : Fm} {n : Int} (h : S B H (seps (M.dom.map (frA M)) :: As)) (hn : n ∈ M.dom) :
    S B H (pto (M.blk n) (.cells (frC (M.refs n) (M.pool n) (M.dat n)) 0 false) :: datA (M.dat n) :: seps ((M.dom.erase n).map (frA M)) :: As) := by
  have h1 := S.unseps h
  have h2 : S B H (frA M n :: ((M.dom.erase n).map (frA M) ++ As)) := h1.perm (by
    have := (List.perm_cons_erase hn).map (frA M)
    exact this.append_right As)
  have h3 := S.unseps h2
  have h4 : S B H (((M.dom.erase n).map (frA M)) ++ ([pto (M.blk n) (.cells (frC (M.refs n) (M.pool n) (M.dat n)) 0 false), datA (M.dat n)] ++ As)) := h3.perm (by
    rw [← List.append_assoc, ← List.append_assoc]
    exact List.perm_append_comm.append_right As)
  have h5 := S.seps h4
  exact h5.up1.perm (by exact List.Perm.cons _ (List.Perm.swap _ _ _))

theorem S.frPut {B H : AHeap} {As : List Asn} {M M' : Fm} {n : Int} (hn : n ∈ M.dom) (hd : M'.dom = M.dom) (hnd : M.dom.Nodup) (hk : ∀ k, k ≠ n → frA M' k = frA M k)
    (h : S B H (pto (M'.blk n) (.cells (frC (M'.refs n) (M'.pool n) (M'.dat n)) 0 false) :: datA (M'.dat n) :: seps ((M.dom.erase n).map (frA M)) :: As)) : S B H (seps (M'.dom.map (frA M')) :: As) := by
  have h5 := S.unseps (S.up2 h)
  have e : (M.dom.erase n).map (frA M) = (M.dom.erase n).map (frA M') := by
    apply List.map_congr_left
    intro k hk'
    exact (hk k (by rintro rfl; exact absurd hk' (by rw [List.Nodup.mem_erase_iff hnd]; simp))).symm
  rw [e] at h5
  have h6 : S B H ([pto (M'.blk n) (.cells (frC (M'.refs n) (M'.pool n) (M'.dat n)) 0 false), datA (M'.dat n)] ++ ((M.dom.erase n).map (frA M') ++ As)) := h5.perm (by
    rw [← List.append_assoc]
    have := List.perm_append_comm (l₁ := (M.dom.erase n).map (frA M')) (l₂ := [pto (M'.blk n) (.cells (frC (M'.refs n) (M'.pool n) (M'.dat n)) 0 false), datA (M'.dat n)])
    have := this.append_right As
    simpa using this)
  have h7 := S.seps h6
  refine S.seps (h7.perm ?_)
  rw [hd]
  have := ((List.perm_cons_erase hn).map (frA M')).symm
  exact this.append_right As

def tabC (pv : Value) (m1 m2 : Nat) : List Value := [pv, .map (some m1), .map (some m2)]
structure Tb where
  pls : List Pl
  ix : List (ByteArray × Value)
  m : Fm
def tbL (t : Nat) (T : Tb) (pv : Value) (m1 m2 : Nat) : List Asn :=
  [pto t (.cells (tabC pv m1 m2) 0 false), sl 5 pv (T.pls.flatMap plC), im enS m1 T.ix, im enI m2 (fkv T.m), seps (T.m.dom.map (frA T.m))]
def repT (t : Nat) (T : Tb) : Asn := exA fun (x : Value × Nat × Nat) => seps (tbL t T x.1 x.2.1 x.2.2)

theorem openT {B H : AHeap} {As : List Asn} {t : Nat} {T : Tb} (h : S B H (repT t T :: As)) : ∃ pv m1 m2, S B H (pto t (.cells (tabC pv m1 m2) 0 false) :: sl 5 pv (T.pls.flatMap plC) :: im enS m1 T.ix :: im enI m2 (fkv T.m) :: seps (T.m.dom.map (frA T.m)) :: As) := by
  obtain ⟨⟨pv, m1, m2⟩, h⟩ := S.unex h
  exact ⟨pv, m1, m2, S.unseps h⟩
theorem closeT {B H : AHeap} {As : List Asn} {t : Nat} {T : Tb} {pv : Value} {m1 m2 : Nat} (h : S B H (pto t (.cells (tabC pv m1 m2) 0 false) :: sl 5 pv (T.pls.flatMap plC) :: im enS m1 T.ix :: im enI m2 (fkv T.m) :: seps (T.m.dom.map (frA T.m)) :: As)) : S B H (repT t T :: As) :=
  S.exI (X := Value × Nat × Nat) (pv, m1, m2) (S.seps h)

end Go.E.Fa
/- The table of frames, its frames: find, Unref, runs. -/
namespace Go.E.Fa
open Go Go.E Go.Proofs.Ytlkgacbholklkaa Go.Proofs
set_option linter.unusedVariables false
set_option linter.unusedSimpArgs false
set_option maxRecDepth 100000
theorem keyI : KeyEnc (.int .i64) enI := keyI64
theorem keyS : KeyEnc .string enS := keyStr
def findV (M : Fm) (n : Int) (free : Bool) : Value :=
  if n ∈ M.dom then (if M.refs n = 0 ∧ free = false then .tuple ⟨[.pointer none, .int .i64 35]⟩ else .tuple ⟨[ptrV (M.blk n), .int .i64 0]⟩) else .tuple ⟨[.pointer none, .int .i64 34]⟩
theorem L33 {B H : AHeap} {As : List Asn} {t : Nat} {T : Tb} {n : Int} {free : Bool} (hS : S B H (repT t T :: As)) :
    wpF C 33 [ptrV t, .int .i64 n, .bool free] H fun v H' => v = findV T.m n free ∧ H = H' := by
  obtain ⟨pv, m1, m2, hS⟩ := openT hS
  refine wpF_ofW o33 rfl rfl ?_
  unfold ptrV
  refine zsr ?_; refine zw1 ?_; refine zw1 ?_; refine zns ?_; refine wp_seq ?_; refine zsr ?_; refine zw1 ?_; refine wpO_cons ?_; refine op1_bin_false rfl (by (conv => lhs; whnf) <;> rfl) (by (conv => lhs; whnf) <;> rfl) rfl ?_; refine zns ?_; refine wp_false rfl ?_; refine wp_skip ?_; refine seq_normal ?_; refine zsr ?_; refine zw1 ?_; refine zn ?_; refine zf ?_; refine zh (S.g0 hS) ?_; refine zw1 ?_; refine wpO_cons ?_
  refine op1_lookS1 keyI rfl rfl rfl (S.up3 hS) ?_
  rw [fkv_get]
  unfold findV
  by_cases hn : n ∈ T.m.dom
  · rw [if_pos hn, if_pos hn, Option.getD_some]
    have hF := S.frAt (S.up4 hS) hn
    unfold ptrV frC at *
    refine zw1 ?_; refine zns ?_; refine wp_seq ?_; refine zsr ?_; refine zw1 ?_; refine wpO_cons ?_; refine op1_bin_false rfl (by (conv => lhs; whnf) <;> rfl) (by (conv => lhs; whnf) <;> rfl) rfl ?_; refine zns ?_; refine wp_false rfl ?_; refine wp_skip ?_; refine seq_normal ?_; refine wp_seq ?_; refine zsr ?_; refine zw1 ?_; refine zn ?_; refine zf ?_; refine zh (S.g0 hF) ?_; refine wpO_cons ?_; refine op1_eqlI rfl rfl rfl ?_; refine zw1 ?_; refine wpO_cons ?_
    refine op1_dec rfl (fun h0 => ?_) (fun h0 => ?_)
    · refine op1_mov rfl (by (conv => lhs; whnf) <;> rfl) ?_; refine wpO_cons ?_; refine op1_not rfl rfl ?_; refine zt ?_; refine zns ?_
      cases free
      · rw [if_pos ⟨h0, rfl⟩]
        refine wp_true rfl ?_; refine zsr ?_; refine zw1 ?_; refine zw1 ?_; refine zns ?_; refine wp_ret ?_; refine seq_ret ?_; refine ret_of ?_; refine zr ?_; refine zr ?_; refine rk_nil ?_
        exact ⟨rfl, rfl⟩
      · rw [if_neg (by simp)]
        refine wp_false rfl ?_; refine wp_skip ?_; refine seq_normal ?_; refine zsr ?_; refine zw1 ?_; refine zw1 ?_; refine zw1 ?_; refine zns ?_; refine wp_ret ?_; refine ret_of ?_; refine zr ?_; refine zr ?_; refine rk_nil ?_
        exact ⟨rfl, rfl⟩
    · rw [if_neg (fun h => h0 h.1)]
      refine op1_skip rfl ?_; refine zk ?_; refine zu ?_; refine zns ?_; refine wp_false rfl ?_; refine wp_skip ?_; refine seq_normal ?_; refine zsr ?_; refine zw1 ?_; refine zw1 ?_; refine zw1 ?_; refine zns ?_; refine wp_ret ?_; refine ret_of ?_; refine zr ?_; refine zr ?_; refine rk_nil ?_
      exact ⟨rfl, rfl⟩
  · rw [if_neg hn, if_neg hn, Option.getD_none]
    refine zw1 ?_; refine zns ?_; refine wp_seq ?_; refine zsr ?_; refine zw1 ?_; refine wpO_cons ?_; refine op1_bin_true rfl (by (conv => lhs; whnf) <;> rfl) (by (conv => lhs; whnf) <;> rfl) rfl ?_; refine zns ?_; refine wp_true rfl ?_; refine zsr ?_; refine zw1 ?_; refine zw1 ?_; refine zns ?_; refine wp_ret ?_; refine seq_ret ?_; refine ret_of ?_; refine zr ?_; refine zr ?_; refine rk_nil ?_
    exact ⟨rfl, rfl⟩

def Tb.wm (T : Tb) (m : Fm) : Tb := { T with m := m }
def unref (M : Fm) (n : Int) : Int × Fm := if n ∈ M.dom then (if M.refs n = 0 then (35, M) else (0, M.setRefs n (M.refs n - 1))) else (34, M)
theorem frA_setRefs {M : Fm} {n v k : Int} (h : k ≠ n) : frA (M.setRefs n v) k = frA M k := by unfold frA Fm.setRefs; simp only [if_neg h]
structure MOk (M : Fm) : Prop where
  nd : M.dom.Nodup
  refs : ∀ n, 0 ≤ M.refs n ∧ M.refs n ≤ 60000
theorem L12 {B H : AHeap} {As : List Asn} {t : Nat} {T : Tb} {n : Int} (hM : MOk T.m) (hS : S B H (repT t T :: As)) :
    wpF C 12 [ptrV t, .int .i64 n] H fun v H' => v = .int .i64 (unref T.m n).1 ∧ S B H' (repT t (T.wm (unref T.m n).2) :: As) := by
  refine wpF_ofW o12 rfl rfl ?_
  refine zsr ?_; refine zw1 ?_; refine zns ?_; refine zsr ?_; refine zw1 ?_; refine zw1 ?_; refine wpO_cons ?_; refine op1_call3 rfl (by (conv => lhs; whnf) <;> rfl) (by (conv => lhs; whnf) <;> rfl) (by (conv => lhs; whnf) <;> rfl) ?_
  refine wpF_mono (L33 hS) ?_
  rintro _ _ ⟨rfl, rfl⟩
  unfold findV unref
  by_cases hn : n ∈ T.m.dom
  · rw [if_pos hn, if_pos hn]
    by_cases h0 : T.m.refs n = 0
    · rw [if_pos ⟨h0, rfl⟩, if_pos h0]
      refine zw1 ?_; refine wpO_cons ?_; refine op1_extract rfl rfl rfl ?_; refine wpO_cons ?_; refine op1_extract rfl rfl rfl ?_; refine zw1 ?_; refine zw1 ?_; refine zns ?_; refine wp_seq ?_; refine zsr ?_; refine zw1 ?_; refine wpO_cons ?_; refine op1_neqI rfl rfl rfl ?_; refine zns ?_; refine wp_true rfl ?_; refine zsr ?_; refine zw1 ?_; refine zw1 ?_; refine zns ?_; refine wp_ret ?_; refine seq_ret ?_; refine ret_of ?_; refine zr ?_; refine rk_nil ?_
      exact ⟨rfl, hS⟩
    · rw [if_neg (fun h => h0 h.1), if_neg h0]
      obtain ⟨pv, m1, m2, hS⟩ := openT hS
      replace hS := S.frAt (S.up4 hS) hn
      have hr := hM.refs n
      unfold frC ptrV at *
      refine zw1 ?_; refine wpO_cons ?_; refine op1_extract rfl rfl rfl ?_; refine wpO_cons ?_; refine op1_extract rfl rfl rfl ?_; refine zw1 ?_; refine zw1 ?_; refine zns ?_; refine wp_seq ?_; refine zsr ?_; refine zw1 ?_; refine wpO_cons ?_; refine op1_neqI_s rfl rfl rfl ?_; refine zns ?_; refine wp_false rfl ?_; refine wp_skip ?_; refine seq_normal ?_; refine zsr ?_; refine zw1 ?_; refine zn ?_; refine zf ?_; refine zh (S.g0 hS) ?_; refine wpO_cons ?_; refine op1_sub rfl rfl rfl (by exact wrap_i64 (by omega) (by omega)) ?_; refine zn ?_; refine zf ?_; refine wpO_cons ?_; (refine op1_store1S rfl rfl (by (conv => lhs; whnf) <;> rfl) rfl rfl (S.up0 hS) rfl ?_; intro H1 hS; replace hS := S.dn0 hS); refine zns ?_; refine zsr ?_; refine zw1 ?_; refine zns ?_; refine wp_ret ?_; refine ret_of ?_; refine zr ?_; refine rk_nil ?_
      refine ⟨rfl, closeT (pv := pv) (m1 := m1) (m2 := m2) (S.dn4 (S.frPut (M := T.m) (M' := T.m.setRefs n (T.m.refs n - 1)) hn rfl hM.nd (fun k hk => frA_setRefs hk) ?_))⟩
      have e : (T.m.setRefs n (T.m.refs n - 1)).refs n = T.m.refs n - 1 := by simp [Fm.setRefs]
      rw [e]
      exact hS
  · rw [if_neg hn, if_neg hn]
    refine zw1 ?_; refine wpO_cons ?_; refine op1_extract rfl rfl rfl ?_; refine wpO_cons ?_; refine op1_extract rfl rfl rfl ?_; refine zw1 ?_; refine zw1 ?_; refine zns ?_; refine wp_seq ?_; refine zsr ?_; refine zw1 ?_; refine wpO_cons ?_; refine op1_neqI rfl rfl rfl ?_; refine zns ?_; refine wp_true rfl ?_; refine zsr ?_; refine zw1 ?_; refine zw1 ?_; refine zns ?_; refine wp_ret ?_; refine seq_ret ?_; refine ret_of ?_; refine zr ?_; refine rk_nil ?_
    exact ⟨rfl, hS⟩

/-! ### runs of free frames -/
def skip (fr : Nat → Bool) (E n : Nat) : Nat := if h : n < E ∧ fr n = true then skip fr E (n + 1) else n
termination_by E - n
theorem skip_ge (fr : Nat → Bool) (E n : Nat) : n ≤ skip fr E n := by
  unfold skip
  split
  · rename_i h
    have := skip_ge fr E (n + 1)
    omega
  · exact Nat.le_refl _
termination_by E - n
theorem skip_le (fr : Nat → Bool) (E n : Nat) (hn : n ≤ E) : skip fr E n ≤ E := by
  unfold skip
  split
  · rename_i h
    exact skip_le fr E (n + 1) (by omega)
  · exact hn
termination_by E - n
def runsAt (fr : Nat → Bool) (E n : Nat) : List (Nat × Nat) := if h : n < E then (if n < skip fr E n then [(n, skip fr E n)] else []) ++ runsAt fr E (skip fr E n + 1) else []
termination_by E - n
decreasing_by have := skip_ge fr E n; omega
def frB (M : Fm) (n : Nat) : Bool := decide (M.refs n = 0)
def runsP (M : Fm) (F E : Nat) : List (Nat × Nat) := runsAt (frB M) E F

theorem L49 {B H : AHeap} {b pb tb t F E : Nat} {T : Tb} {p : Pl} (hF : p.first = F) (hE : p.first + p.count = E) (hFE : F ≤ E) (hdom : ∀ n : Nat, F ≤ n → n < E → (n : Int) ∈ T.m.dom) (hb : E ≤ 100000) (J : List (Nat × Nat) → List Asn) (Q : List (Nat × Nat) → AHeap → Prop)
    (hY : ∀ pre x post H, runsP T.m F E = pre ++ x :: post → S B H (pto pb (.cells (plC p) 0 false) :: pto tb (.cells [ptrV t] 0 false) :: repT t T :: J pre) → wpC C (.yield b) [.int .i64 x.1, .int .i64 x.2] H fun v H' =>
      (v = .bool true ∧ S B H' (pto pb (.cells (plC p) 0 false) :: pto tb (.cells [ptrV t] 0 false) :: repT t T :: J (pre ++ [x]))) ∨ (v = .bool false ∧ Q (pre ++ [x]) H'))
    (hS : S B H (pto pb (.cells (plC p) 0 false) :: pto tb (.cells [ptrV t] 0 false) :: repT t T :: J [])) :
    wpF C 49 [.func (.yield b) ⟨[]⟩ ⟨[]⟩, ptrV pb, ptrV tb] H fun _ H' => S B H' (pto pb (.cells (plC p) 0 false) :: pto tb (.cells [ptrV t] 0 false) :: repT t T :: J (runsP T.m F E)) ∨ ∃ pre x post, runsP T.m F E = pre ++ x :: post ∧ Q (pre ++ [x]) H' := by
  refine wpF_ofW o49 rfl rfl ?_
  obtain ⟨nm, fi, ct, ge, ke⟩ := p
  simp only at hF hE
  subst hF
  obtain rfl : ct = (E : Int) - F := by omega
  clear hE
  simp only [plC, ptrV] at hS hY ⊢
  refine zsr ?_; refine zf ?_; refine zh (S.g0 hS) ?_; refine zf ?_; refine zh (S.g0 hS) ?_; refine wpO_cons ?_; refine op1_add rfl rfl rfl (by exact wrap_i64 (by omega) (by omega)) ?_; refine zw1 ?_; refine zns ?_; refine zsr ?_; refine zf ?_; refine zh (S.g0 hS) ?_; refine zw1 ?_; refine zns ?_; refine wp_block ?_
  rw [show (F : Int) + ((E : Int) - F) = E by omega]
  refine wp_loop [5] (fun k vs H' => ∃ (n : Nat) (pre : List (Nat × Nat)), vs = [.int .i64 n] ∧ k = E + 1 - n ∧ F ≤ n ∧ n ≤ E + 1 ∧ runsP T.m F E = pre ++ runsAt (frB T.m) E n ∧
      S B H' (pto pb (.cells [.string nm, .int .i64 F, .int .i64 ((E : Int) - F), .bool ge, .bool ke] 0 false) :: pto tb (.cells [.pointer (some ⟨t, 0, none⟩)] 0 false) :: repT t T :: J pre)) ⟨_, F, [], rfl, rfl, Nat.le_refl _, by omega, rfl, hS⟩ ?_
  clear hS
  rintro k vs T' H0 ⟨n, pre, rfl, rfl, hn1, hn2, hpre, hS⟩
  refine wp_seq ?_; refine zsr ?_; refine zw1 ?_; refine zw1 ?_; refine wpO_cons ?_; refine op1_lss rfl rfl rfl ?_; refine zns ?_
  refine wp_dec rfl (fun hlt => ?_) (fun hlt => ?_)
  · have hnE : n < E := by omega
    refine wp_skip ?_; refine seq_normal ?_; refine wp_seq ?_; refine wp_block ?_; refine zsr ?_; refine zw1 ?_; refine zw1 ?_; refine zns ?_
    have hge := skip_ge (frB T.m) E n
    have hle := skip_le (frB T.m) E n (by omega)
    rw [runsAt, dif_pos hnE] at hpre
    obtain ⟨sk, hskd⟩ : ∃ z, z = skip (frB T.m) E n := ⟨_, rfl⟩
    rw [← hskd] at hpre hge hle
    refine wp_cut [5] (fun vs H' => vs = [.int .i64 (sk : Nat)] ∧ H0 = H') ?_ ?_
    · refine wp_block ?_
      refine wp_loop [5] (fun k vs H' => ∃ (m : Nat), vs = [.int .i64 m] ∧ k = E - m ∧ n ≤ m ∧ m ≤ E ∧ skip (frB T.m) E m = sk ∧ H0 = H') ⟨_, n, rfl, rfl, Nat.le_refl _, by omega, hskd.symm, rfl⟩ ?_
      rintro k vs T' H1 ⟨m, rfl, rfl, hm1, hm2, hsk, rfl⟩
      refine wp_seq ?_; refine zsr ?_; refine zw1 ?_; refine zw1 ?_; refine wpO_cons ?_; refine op1_lss rfl rfl rfl ?_; refine zw1 ?_; refine wpO_cons ?_
      refine op1_dec rfl (fun hmE => ?_) (fun hmE => ?_)
      · obtain ⟨pv, m1, m2, hO⟩ := openT (S.up2 hS)
        refine op1_load rfl rfl (by exact S.g6 hO) rfl ?_; refine zn ?_; refine zf ?_; refine zh (S.g0 hO) ?_; refine zw1 ?_; refine wpO_cons ?_
        refine op1_lookS1 keyI rfl rfl rfl (S.up3 hO) ?_
        have hmd := hdom m (by omega) (by omega)
        rw [fkv_get, if_pos hmd, Option.getD_some]
        have hFr := S.frAt (S.up4 hO) hmd
        unfold ptrV frC at *
        refine zn ?_; refine zf ?_; refine zh (S.g0 hFr) ?_; refine wpO_cons ?_; refine op1_eqlI rfl rfl rfl ?_; refine zt ?_; refine zns ?_
        refine wp_dec rfl (fun h0 => ?_) (fun h0 => ?_)
        · refine wp_skip ?_; refine seq_normal ?_; refine wp_block ?_; refine wp_region ?_; refine zw1 ?_; refine wpO_cons ?_; refine op1_add rfl rfl rfl (by exact wrap_i64 (by omega) (by omega)) ?_; refine zw1 ?_; refine wpO_nil ?_; refine block_normal ?_
          refine ⟨E - (m + 1), by omega, m + 1, rfl, rfl, by omega, by omega, ?_, rfl⟩
          rw [← hsk, skip.eq_def _ _ m, dif_pos ⟨by omega, decide_eq_true h0⟩]
        · refine wp_exit ?_; refine seq_exit ?_; refine iter_exit ?_; refine block_exit ?_; refine cut1 (by (conv => lhs; whnf) <;> rfl) ?_
          refine ⟨?_, rfl⟩
          rw [← hsk, skip.eq_def, dif_neg (fun h => h0 (of_decide_eq_true h.2))]
      · refine op1_skip rfl ?_; (iterate 9 refine zk ?_); refine zu ?_; refine zns ?_; refine wp_false rfl ?_; refine wp_exit ?_; refine seq_exit ?_; refine iter_exit ?_; refine block_exit ?_; refine cut1 (by (conv => lhs; whnf) <;> rfl) ?_
        refine ⟨?_, rfl⟩
        rw [← hsk, skip.eq_def, dif_neg (fun h => hmE (by omega))]
    rintro vs2 T2 H2 ⟨rfl, rfl⟩
    refine zsr ?_; refine zw1 ?_; refine zw1 ?_; refine wpO_cons ?_; refine op1_gtr rfl rfl rfl ?_; refine zw1 ?_; refine wpO_cons ?_
    refine op1_dec rfl (fun hgt => ?_) (fun hgt => ?_)
    · rw [if_pos (by omega)] at hpre
      refine op1_mov rfl (by (conv => lhs; whnf) <;> rfl) ?_; refine zw1 ?_; refine zw1 ?_; refine wpO_cons ?_
      refine op1_yield2 rfl rfl (by (conv => lhs; whnf) <;> rfl) (by (conv => lhs; whnf) <;> rfl) ?_
      refine wpC_mono (hY pre (n, sk) _ _ hpre hS) ?_
      rintro v H1 (⟨rfl, hS⟩ | ⟨rfl, hQ⟩)
      · refine wpO_cons ?_; refine op1_not_t rfl rfl ?_; refine zt ?_; refine zns ?_; refine wp_false rfl ?_; refine wp_skip ?_; refine block_normal ?_; refine seq_normal ?_; refine wp_region ?_; refine zw1 ?_; refine wpO_cons ?_; refine op1_add rfl rfl rfl (by exact wrap_i64 (by omega) (by omega)) ?_; refine zw1 ?_; refine wpO_nil ?_
        refine ⟨E + 1 - (sk + 1), by omega, sk + 1, pre ++ [(n, sk)], rfl, rfl, by omega, by omega, ?_, hS⟩
        rw [hpre, List.append_assoc]
      · refine wpO_cons ?_; refine op1_not_f rfl rfl ?_; refine zt ?_; refine zns ?_; refine wp_true rfl ?_; refine wp_ret ?_; refine block_ret ?_; refine seq_ret ?_; refine iter_ret ?_; refine block_ret ?_; refine ret_of ?_; refine rk_nil ?_
        exact .inr ⟨pre, (n, sk), _, hpre, hQ⟩
    · rw [if_neg (by omega), List.nil_append] at hpre
      refine op1_skip rfl ?_; (iterate 4 refine zk ?_); refine zu ?_; refine zns ?_; refine wp_false rfl ?_; refine wp_skip ?_; refine block_normal ?_; refine seq_normal ?_; refine wp_region ?_; refine zw1 ?_; refine wpO_cons ?_; refine op1_add rfl rfl rfl (by exact wrap_i64 (by omega) (by omega)) ?_; refine zw1 ?_; refine wpO_nil ?_
      exact ⟨E + 1 - (sk + 1), by omega, sk + 1, pre, rfl, rfl, by omega, by omega, hpre, hS⟩
  · refine wp_exit ?_; refine seq_exit ?_; refine iter_exit ?_; refine block_exit ?_; refine nrm_of ?_; refine rk_nil ?_
    rw [runsAt, dif_neg (by omega), List.append_nil] at hpre
    rw [hpre]
    exact .inl hS
end Go.E.Fa
/- The table of frames: runs, Reverse, singles. -/
namespace Go.E.Fa
open Go Go.E Go.Proofs.Ytlkgacbholklkaa Go.Proofs
set_option linter.unusedVariables false
set_option linter.unusedSimpArgs false
set_option maxRecDepth 100000
theorem i64s_at {l : List Int} {i : Nat} {x : Int} (h : l[i]? = some x) : (i64s l)[i * 1]? = some (.int .i64 x) := by
  rw [Nat.mul_one]; simp [i64s, h]
theorem i64s_set (l : List Int) (i : Nat) (x : Int) : (i64s l).set (i * 1) (.int .i64 x) = i64s (l.set i x) := by
  rw [Nat.mul_one]; simp [i64s, List.map_set]

theorem L35 {B H : AHeap} {As : List Asn} {t : Nat} {p : Pl} (hS : S B H As) : wpF C 35 [ptrV t, .agg ⟨plC p⟩] H fun v H' => ∃ pb tb, v = .func (.func 49) ⟨[]⟩ ⟨[ptrV pb, ptrV tb]⟩ ∧
    S B H' (pto pb (.cells (plC p) 0 false) :: pto tb (.cells [ptrV t] 0 false) :: As) := by
  refine wpF_ofW o35 rfl rfl ?_
  unfold ptrV plC
  refine zsr ?_; refine wpO_cons ?_; refine op1_box1S rfl (by (conv => lhs; whnf) <;> rfl) rfl rfl hS ?_; intro p1 H1 hS; refine wpO_cons ?_; refine op1_boxNS rfl rfl rfl hS ?_; intro p2 H2 hS; refine zw1 ?_; refine zns ?_; refine zsr ?_; refine wpO_cons ?_; refine op1_mkfunc2 rfl (by (conv => lhs; whnf) <;> rfl) (by (conv => lhs; whnf) <;> rfl) ?_; refine zw1 ?_; refine zns ?_; refine wp_ret ?_; refine ret_of ?_; refine zr ?_; refine rk_nil ?_
  exact ⟨_, _, rfl, hS⟩

theorem L48 {B H : AHeap} {As : List Asn} {v : Value} {l : List Int} (hS : S B H (sl 1 v (i64s l) :: As)) (hl : l.length ≤ 1000000) :
    wpF C 48 [v] H fun _ H' => S B H' (sl 1 v (i64s l.reverse) :: As) := by
  obtain ⟨a, c, rfl⟩ := hS.i1
  refine wpF_ofW o48 rfl rfl ?_
  refine zsr ?_; refine zw1 ?_; refine wpO_cons ?_; refine op1_len rfl rfl ?_; refine wpO_cons ?_; refine op1_sub rfl rfl rfl (by exact wrap_i64 (by omega) (by omega)) ?_; refine zw1 ?_; refine zw1 ?_; refine zns ?_; refine wp_block ?_
  refine wp_loop [2, 3] (fun k vs H' => ∃ (i : Nat) (m : List Int), vs = [.int .i64 i, .int .i64 ((l.length : Int) - 1 - i)] ∧ k = l.length - i ∧ i ≤ l.length ∧ m.length = l.length ∧
      (∀ k, k < l.length → m[k]? = if k < i ∨ l.length ≤ k + i then l[l.length - 1 - k]? else l[k]?) ∧ S B H' (sl 1 (.slice a l.length c) (i64s m) :: As)) ⟨_, 0, l, ?_, rfl, by omega, rfl, ?_, hS⟩ ?_
  · show [Value.int .i64 0, Value.int .i64 ((l.length : Int) - 1)] = _
    simp
  · intro k hk
    rw [if_neg (by omega)]
  clear hS
  rintro k vs T' H1 ⟨i, m, rfl, rfl, hi, hml, hm, hS⟩
  refine wp_seq ?_; refine zsr ?_; refine zw1 ?_; refine zw1 ?_; refine wpO_cons ?_; refine op1_lss rfl rfl rfl ?_; refine zns ?_
  refine wp_dec rfl (fun hlt => ?_) (fun hlt => ?_)
  · obtain ⟨b, off, cs, rfl, _⟩ := S.slBlk hS (by omega)
    have ej : (l.length : Int) - 1 - i = ((l.length - 1 - i : Nat) : Int) := by omega
    rw [ej]
    obtain ⟨j, hj⟩ : ∃ j, j = l.length - 1 - i := ⟨_, rfl⟩
    rw [← hj]
    obtain ⟨x, hx⟩ : ∃ x, m[i]? = some x := ⟨m[i]'(by omega), by simp⟩
    obtain ⟨y, hy⟩ : ∃ y, m[j]? = some y := ⟨m[j]'(by omega), by simp⟩
    have hS0 := hS
    refine wp_skip ?_; refine seq_normal ?_; refine wp_seq ?_; refine wp_block ?_; refine wp_regionD ?_; (iterate 6 refine zd1 ?_); refine wpD_cons ?_; refine op1_iaddr rfl rfl rfl (by omega) (by omega) ?_; refine wpD_cons ?_
    refine op1_loadL rfl rfl hS rfl (by omega) (i64s_at hy) ?_
    refine zd1 ?_; refine zd1 ?_; refine wpD_cons ?_; refine op1_iaddr rfl rfl rfl (by omega) (by omega) ?_; refine wpD_cons ?_
    refine op1_loadL rfl rfl hS rfl (by omega) (i64s_at hx) ?_
    refine wpD_cons ?_; refine op1_iaddr rfl rfl rfl (by omega) (by omega) ?_; refine wpD_cons ?_; (refine op1_store1L rfl rfl (by (conv => lhs; whnf) <;> rfl) rfl rfl (S.up0 hS) (by omega) ?_; intro H2 hS; replace hS := S.dn0 hS); refine wpD_cons ?_; refine op1_iaddr rfl rfl rfl (by omega) (by omega) ?_; refine wpD_cons ?_; (refine op1_store1L rfl rfl (by (conv => lhs; whnf) <;> rfl) rfl rfl (S.up0 hS) (by omega) ?_; intro H3 hS; replace hS := S.dn0 hS); refine wpD_nil ?_; refine dk_of ?_ ?_; (iterate 7 refine chk_skip ?_); refine zx 9 ?_ ?_; refine zy 3 ?_ ?_
    · exact chk_loadL rfl hS0 rfl (by omega) (i64s_at hy) rfl
    exact chkFs_nil; (iterate 3 refine chk_skip ?_); refine zx 5 ?_ ?_; refine zy 3 ?_ ?_
    · exact chk_loadL rfl hS0 rfl (by omega) (i64s_at hx) rfl
    exact chkFs_nil; (iterate 4 refine chk_skip ?_); exact chk_end; refine block_normal ?_; refine seq_normal ?_; refine wp_region ?_; refine zw1 ?_; refine wpO_cons ?_; refine op1_add rfl rfl rfl (by exact wrap_i64 (by omega) (by omega)) ?_; refine zw1 ?_; refine wpO_cons ?_; refine op1_sub rfl rfl rfl (by exact wrap_i64 (by omega) (by omega)) ?_; refine zw1 ?_; refine zw1 ?_; refine wpO_nil ?_
    rw [show (j : Int).toNat = j from rfl, show (i : Int).toNat = i from rfl, i64s_set, i64s_set] at hS
    refine ⟨l.length - (i + 1), by omega, i + 1, _, ?_, rfl, by omega, ?_, ?_, hS⟩
    · have e1 : (j : Int) - 1 = (l.length : Int) - 1 - ((i + 1 : Nat) : Int) := by omega
      rw [e1]
      rfl
    · simp [hml]
    · intro k hk
      have hmk := hm k hk
      have hmi := hm i (by omega)
      have hmj := hm j (by omega)
      rw [if_neg (by omega)] at hmi hmj
      by_cases h1 : k = j
      · subst h1
        rw [List.getElem?_set_self (by simp; omega), if_pos (by omega), ← hx, hmi]
        congr 1
        omega
      · rw [List.getElem?_set_ne (by omega)]
        by_cases h2 : k = i
        · subst h2
          rw [List.getElem?_set_self (by omega), if_pos (by omega), ← hy, hmj]
          congr 1
        · rw [List.getElem?_set_ne (by omega), hmk]
          by_cases h3 : k < i ∨ l.length ≤ k + i
          · rw [if_pos h3, if_pos (by omega)]
          · rw [if_neg h3, if_neg (by omega)]
  · refine wp_exit ?_; refine seq_exit ?_; refine iter_exit ?_; refine block_exit ?_; refine nrm_of ?_; refine rk_nil ?_
    have : m = l.reverse := by
      apply List.ext_getElem?
      intro k
      by_cases hk : k < l.length
      · rw [hm k hk, List.getElem?_reverse hk]
        split
        · rfl
        · congr 1
          omega
      · rw [List.getElem?_eq_none (by omega), List.getElem?_eq_none (by simp; omega)]
    rw [← this]
    exact hS

/-! ### what runs tell -/
instance : Inhabited Pl := ⟨⟨.empty, 0, 0, false, false⟩⟩
def poolOf (T : Tb) (i : Int) : Pl := T.pls.getD i.toNat default
def freeP (M : Fm) (p : Pl) : List Int := ((List.range' p.first.toNat p.count.toNat).filter (frB M)).map fun n : Nat => (n : Int)
def span (x : Nat × Nat) : List Nat := List.range' x.1 (x.2 - x.1)
theorem skip_span (fr : Nat → Bool) (E n : Nat) (hn : n ≤ E) : (List.range' n (E - n)).filter fr = List.range' n (skip fr E n - n) ++ (List.range' (skip fr E n + 1) (E - (skip fr E n + 1))).filter fr := by
  rw [skip.eq_def]
  split
  · rename_i h
    have ih := skip_span fr E (n + 1) (by omega)
    have hge := skip_ge fr E (n + 1)
    obtain ⟨d, hd⟩ : ∃ d, E - n = d + 1 := ⟨E - n - 1, by omega⟩
    rw [hd, List.range'_succ, List.filter_cons_of_pos h.2, show d = E - (n + 1) by omega, ih]
    obtain ⟨e, he⟩ : ∃ e, skip fr E (n + 1) - n = e + 1 := ⟨skip fr E (n + 1) - n - 1, by omega⟩
    rw [he, List.range'_succ, show e = skip fr E (n + 1) - (n + 1) by omega]
    rfl
  · rename_i h
    rw [Nat.sub_self]
    by_cases hE : n < E
    · have hf : ¬ fr n = true := fun hf => h ⟨hE, hf⟩
      obtain ⟨d, hd⟩ : ∃ d, E - n = d + 1 := ⟨E - n - 1, by omega⟩
      rw [hd, List.range'_succ, List.filter_cons_of_neg hf, show d = E - (n + 1) by omega]
      rfl
    · rw [show E - n = 0 by omega, show E - (n + 1) = 0 by omega]
      rfl
termination_by E - n
theorem runs_free (fr : Nat → Bool) (E n : Nat) (hn : n ≤ E + 1) : (runsAt fr E n).flatMap span = (List.range' n (E - n)).filter fr := by
  rw [runsAt.eq_def]
  split
  · rename_i h
    have hge := skip_ge fr E n
    have hle := skip_le fr E n (by omega)
    rw [skip_span fr E n (by omega), List.flatMap_append, runs_free fr E (skip fr E n + 1) (by omega)]
    congr 1
    split
    · simp [span]
    · rw [show skip fr E n - n = 0 by omega]; rfl
  · rw [show E - n = 0 by omega]; rfl
termination_by E - n
decreasing_by have := skip_ge fr E n; omega
end Go.E.Fa
