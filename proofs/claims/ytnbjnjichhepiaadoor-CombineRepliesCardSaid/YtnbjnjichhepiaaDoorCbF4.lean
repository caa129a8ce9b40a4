/- Combine: Encode. -/
import Derived.Test.YtnbjnjichhepiaaDoorCbF1
import Derived.Test.YtnbjnjichhepiaaDoorCbCode2
namespace Go.E.Cb
open Go Go.E Go.Proofs.YtnbjnjichhepiaaDoor.base Go.Proofs.YtnbjnjichhepiaaDoor Go.Proofs
set_option linter.unusedVariables false
set_option linter.unusedSimpArgs false
set_option maxRecDepth 100000
section
variable {Y : Type} {r : Y → List Value} {n : Nat}
theorem fm_len (hr : ∀ y, (r y).length = n) (l : List Y) : (l.flatMap r).length = l.length * n := by
  induction l with
  | nil => simp
  | cons y l ih => rw [List.flatMap_cons, List.length_append, hr, ih, List.length_cons, Nat.add_mul]; omega
end
abbrev PX := Pt × Option Addr × Nat
def PX.sv (x : PX) : Value := .slice x.2.1 x.1.data.length x.2.2
def rowP (x : PX) : List Value := x.1.cells x.sv
structure PS (B : AHeap) (As : List Asn) (v : Value) (xs : List PX) : Prop where
  rd : RD B As 6 v (xs.flatMap rowP)
  dat : ∀ x ∈ xs, RD B As 1 x.sv (u8s x.1.data)
  ok : ∀ x ∈ xs, PtN x.1
  len : xs.length ≤ 9223372036854775807
theorem PS.cons {B : AHeap} {A : Asn} {As : List Asn} {v : Value} {xs : List PX} (h : PS B As v xs) : PS B (A :: As) v xs := ⟨h.rd.cons, fun x hx => (h.dat x hx).cons, h.ok, h.len⟩
section
variable {C : Callees} {T : FEnv} {B H : AHeap} {As : List Asn} {K : KO} {d : Nat} {g : Option (Nat × Bool)}
end
theorem S.k1 {B H : AHeap} {a b : Asn} {As : List Asn} (h : S B H (a :: b :: As)) : S B H (a :: As) := S.drop (S.up1 h)
theorem S.k2 {B H : AHeap} {a b c : Asn} {As : List Asn} (h : S B H (a :: b :: c :: As)) : S B H (a :: As) := S.k1 (S.k1 h)
theorem S.k3 {B H : AHeap} {a b c d : Asn} {As : List Asn} (h : S B H (a :: b :: c :: d :: As)) : S B H (a :: As) := S.k2 (S.k1 h)
section
variable {B H : AHeap} {As : List Asn}
end
end Go.E.Cb
/- Combine: lists of parts are copied, compared. -/
namespace Go.E.Cb
open Go Go.E Go.Proofs.YtnbjnjichhepiaaDoor.base Go.Proofs.YtnbjnjichhepiaaDoor Go.Proofs
set_option linter.unusedVariables false
set_option linter.unusedSimpArgs false
set_option maxRecDepth 100000
section
variable {B H : AHeap} {As : List Asn}
theorem S.mem {A : Asn} {L : List Asn} (h : S B H (seps L :: As)) (hA : A ∈ L) : ∃ L', S B H (A :: L') := by
  obtain ⟨l1, l2, rfl⟩ := List.append_of_mem hA
  have h1 := S.unseps h
  refine ⟨l1 ++ l2 ++ As, h1.perm ?_⟩
  simp only [List.append_assoc, List.cons_append]
  exact List.perm_middle
def dats (xs : List PX) : Asn := seps (xs.map fun x => sl 1 x.sv (u8s x.1.data))
theorem dats_rd {xs : List PX} {x : PX} (hx : x ∈ xs) : RD B (dats xs :: As) 1 x.sv (u8s x.1.data) := by
  intro H hS
  obtain ⟨L', h⟩ := S.mem hS (List.mem_map_of_mem (f := fun x : PX => sl 1 x.sv (u8s x.1.data)) hx)
  exact S.rd h
theorem PS.own {v : Value} {xs : List PX} (hok : ∀ x ∈ xs, PtN x.1) (hl : xs.length ≤ 9223372036854775807) : PS B (sl 6 v (xs.flatMap rowP) :: dats xs :: As) v xs :=
  ⟨RD.head, fun x hx => (dats_rd hx).cons, hok, hl⟩
theorem L16 {v w : Value} {l : List Int} {r1 r2 : List Nat} (h1 : RdS H 1 v (u8s l) r1) (h2 : RdS H 1 w (u8s l) r2) : wpF C 16 [v, w] H fun u H' => u = .bool true ∧ H = H' := by
  refine wpF_ofW o16 rfl rfl ?_
  refine zsr ?_; refine zw1 ?_; refine zns ?_; refine zsr ?_; refine zw1 ?_; refine wpO_cons ?_
  refine op1_b2s rfl (by (conv => lhs; whnf) <;> rfl) (h1.b2sU) ?_
  refine zw1 ?_; refine wpO_cons ?_
  refine op1_b2s rfl (by (conv => lhs; whnf) <;> rfl) (h2.b2sU) ?_
  refine wpO_cons ?_; refine op1_eqlS rfl rfl rfl ?_; refine zw1 ?_; refine zns ?_; refine wp_ret ?_; refine ret_of ?_; refine zr ?_; refine rk_nil ?_
  exact ⟨by simp [resultV], rfl⟩
theorem L23 {v : Value} {l : List Int} (hd : RD B As 1 v (u8s l)) (hl : l.length ≤ 1000000000) (hS : S B H As) : wpF C 23 [v] H fun w H' => S B H' (sl 1 w (u8s l) :: As) := by
  obtain ⟨r, hr, _⟩ := hd _ hS
  obtain ⟨a, c, rfl⟩ := hr.u1
  refine wpF_ofW o23 rfl rfl ?_
  cases a with
  | none =>
    have hl0 : l = [] := by
      cases l with
      | nil => rfl
      | cons y l => obtain ⟨b, off, cs, e, ro, v, e2, _⟩ := hr.at1 (i := 0) (by simp); cases e2
    subst hl0
    refine zsr ?_; refine zw1 ?_; refine zns ?_; refine wp_seq ?_; refine zsr ?_; refine zw1 ?_; refine wpO_cons ?_; refine op1_bin_true rfl (by (conv => lhs; whnf) <;> rfl) (by (conv => lhs; whnf) <;> rfl) rfl ?_; refine zns ?_; refine wp_true rfl ?_; refine zsr ?_; refine zw1 ?_; refine zns ?_; refine wp_ret ?_; refine seq_ret ?_; refine ret_of ?_; refine zr ?_; refine rk_nil ?_
    exact S.slNil hS
  | some a =>
    clear hr
    refine zsr ?_; refine zw1 ?_; refine zns ?_; refine wp_seq ?_; refine zsr ?_; refine zw1 ?_; refine wpO_cons ?_; refine op1_bin_false rfl (by (conv => lhs; whnf) <;> rfl) (by (conv => lhs; whnf) <;> rfl) rfl ?_; refine zns ?_; refine wp_false rfl ?_; refine wp_skip ?_; refine seq_normal ?_; refine zsr ?_; refine wpO_cons ?_; refine op1_bsliceS rfl hS ?_; refine bk_nil ?_; intro p1 H1 hS; refine zw1 ?_; refine wpO_cons ?_
    replace hS := S.slNew (l := 0) (es := 1) hS rfl
    obtain ⟨r2, hr2, _⟩ := hd _ (S.drop hS)
    refine op1_appRS rfl rfl rfl rfl hr2 (by simp [u8s]) (u8s_one _) hS (by omega) ?_
    clear hS
    intro a9 c9 H9 hS
    refine zw1 ?_; refine zns ?_; refine wp_ret ?_; refine ret_of ?_; refine zr ?_; refine rk_nil ?_
    exact hS
def bigP (p : Pt) : Prop := 200 < (p.name.size : Int) ∨ 5000 < (p.data.length : Int)
instance (p : Pt) : Decidable (bigP p) := by unfold bigP; infer_instance
def smallP (xs : List PX) : Prop := (xs.length : Int) ≤ 20 ∧ ¬ ∃ a ∈ xs, bigP a.1
instance (xs : List PX) : Decidable (smallP xs) := by unfold smallP; infer_instance
end
end Go.E.Cb
/- Combine: the laws' arguments; CombineEncodes. -/
namespace Go.E.Cb
open Go Go.E Go.ChangeShapes Go.WideShapes Go.ChangeAt Go.RowKit Go.Proofs.YtnbjnjichhepiaaDoor.base Go.Proofs.YtnbjnjichhepiaaDoor Go.Proofs
set_option linter.unusedVariables false
set_option linter.unusedSimpArgs false
set_option maxRecDepth 100000
theorem ut2 : Tryd.prog.underlying 2 = some (.int .i64) := by kernel_rfl
theorem ut5 : Tryd.prog.underlying 5 = some (.int .u8) := by kernel_rfl
theorem ut25 : Tryd.prog.underlying 25 = some (.slice 5) := by kernel_rfl
theorem co2 : Tryd.prog.cellsOf 2 = 1 := by kernel_rfl
theorem co5 : Tryd.prog.cellsOf 5 = 1 := by kernel_rfl
theorem co25 : Tryd.prog.cellsOf 25 = 1 := by kernel_rfl
theorem ga25 : aggT Tryd.prog 25 = false := by kernel_rfl
theorem globS (gs' : List AObj) : Glob objs (startH (objs ++ gs')) := ⟨fun b hb => by
  rw [get_startH]
  simp only [List.getD_eq_getElem?_getD, List.getElem?_append_left hb], by rw [next_startH]; simp⟩
theorem glob_of {B H : AHeap} {As : List Asn} (hB : Glob objs B) (hS : S B H As) : Glob objs H :=
  ⟨fun b hb => (hS.base b (Nat.lt_of_lt_of_le hb hB.le)).trans (hB.get b hb), Nat.le_trans hB.le hS.le⟩
theorem bytes_of {gs : List AObj} {n : Nat} {a : Value} (h : ∃ cells, a = argV Tryd.prog 25 cells ∧ OkA Tryd.prog gs (n + 2) 25 cells) : ∃ l : List Int, l.length ≤ 9223372036854775807 ∧ (∀ As, RD (startH gs) As 1 a (u8s l)) ∧ ∀ x ∈ l, 0 ≤ x ∧ x ≤ 255 := by
  obtain ⟨cells, rfl, h⟩ := h
  obtain ⟨d, l, c, r, rfl, h1, h2, h3, h4⟩ := h.byteS ut25 co5 ut5
  refine ⟨l, h1, fun As => ?_, h4⟩
  unfold argV
  rw [ga25]
  exact RD.base h2 h3
section
variable {B : AHeap}
end
end Go.E.Cb
