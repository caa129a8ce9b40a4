/- Combine: lists of parts are copied, compared. -/
import Derived.Test.YtnbjnjichhepiaaDoorCbF4
import Derived.Test.YtnbjnjichhepiaaDoorCbCode2
namespace Go.E.Cb
open Go Go.E Go.Proofs.YtnbjnjichhepiaaDoor.base Go.Proofs.YtnbjnjichhepiaaDoor Go.Proofs
set_option linter.unusedVariables false
set_option linter.unusedSimpArgs false
set_option maxRecDepth 100000
section
variable {B H : AHeap} {As : List Asn}
theorem S.mem {A : Asn} {L : List Asn} (h : S B H (seps L :: As)) (hA : A ∈ L) : ∃ L', S B H (A :: L') := by
  obtain ⟨l1, l2, rfl⟩ := List.append_of_mem hA
  have h1 := S.unseps h
  refine ⟨l1 ++ l2 ++ As, h1.perm ?_⟩
  simp only [List.append_assoc, List.cons_append]
  exact List.perm_middle
def dats (xs : List PX) : Asn := seps (xs.map fun x => sl 1 x.sv (u8s x.1.data))
theorem dats_rd {xs : List PX} {x : PX} (hx : x ∈ xs) : RD B (dats xs :: As) 1 x.sv (u8s x.1.data) := by
  intro H hS
  obtain ⟨L', h⟩ := S.mem hS (List.mem_map_of_mem (f := fun x : PX => sl 1 x.sv (u8s x.1.data)) hx)
  exact S.rd h
theorem dats_snoc {xs : List PX} {x : PX} (h : S B H (sl 1 x.sv (u8s x.1.data) :: dats xs :: As)) : S B H (dats (xs ++ [x]) :: As) := by
  unfold dats
  rw [List.map_append]
  refine S.seps ?_
  have h1 := S.unseps (S.up1 h)
  refine h1.perm ?_
  simp only [List.append_assoc, List.map_cons, List.map_nil, List.cons_append, List.nil_append]
  exact List.Perm.refl _
theorem dats_nil (h : S B H As) : S B H (dats [] :: As) := S.seps (L := []) h
theorem PS.own {v : Value} {xs : List PX} (hok : ∀ x ∈ xs, PtN x.1) (hl : xs.length ≤ 9223372036854775807) : PS B (sl 6 v (xs.flatMap rowP) :: dats xs :: As) v xs :=
  ⟨RD.head, fun x hx => (dats_rd hx).cons, hok, hl⟩
theorem L16 {v w : Value} {l : List Int} {r1 r2 : List Nat} (h1 : RdS H 1 v (u8s l) r1) (h2 : RdS H 1 w (u8s l) r2) : wpF C 16 [v, w] H fun u H' => u = .bool true ∧ H = H' := by
  refine wpF_ofW o16 rfl rfl ?_
  refine zsr ?_; refine zw1 ?_; refine zns ?_; refine zsr ?_; refine zw1 ?_; refine wpO_cons ?_
  refine op1_b2s rfl (by (conv => lhs; whnf) <;> rfl) (h1.b2sU) ?_
  refine zw1 ?_; refine wpO_cons ?_
  refine op1_b2s rfl (by (conv => lhs; whnf) <;> rfl) (h2.b2sU) ?_
  refine wpO_cons ?_; refine op1_eqlS rfl rfl rfl ?_; refine zw1 ?_; refine zns ?_; refine wp_ret ?_; refine ret_of ?_; refine zr ?_; refine rk_nil ?_
  exact ⟨by simp [resultV], rfl⟩
theorem L23 {v : Value} {l : List Int} (hd : RD B As 1 v (u8s l)) (hl : l.length ≤ 1000000000) (hS : S B H As) : wpF C 23 [v] H fun w H' => S B H' (sl 1 w (u8s l) :: As) := by
  obtain ⟨r, hr, _⟩ := hd _ hS
  obtain ⟨a, c, rfl⟩ := hr.u1
  refine wpF_ofW o23 rfl rfl ?_
  cases a with
  | none =>
    have hl0 : l = [] := by
      cases l with
      | nil => rfl
      | cons y l => obtain ⟨b, off, cs, e, ro, v, e2, _⟩ := hr.at1 (i := 0) (by simp); cases e2
    subst hl0
    refine zsr ?_; refine zw1 ?_; refine zns ?_; refine wp_seq ?_; refine zsr ?_; refine zw1 ?_; refine wpO_cons ?_; refine op1_bin_true rfl (by (conv => lhs; whnf) <;> rfl) (by (conv => lhs; whnf) <;> rfl) rfl ?_; refine zns ?_; refine wp_true rfl ?_; refine zsr ?_; refine zw1 ?_; refine zns ?_; refine wp_ret ?_; refine seq_ret ?_; refine ret_of ?_; refine zr ?_; refine rk_nil ?_
    exact S.slNil hS
  | some a =>
    clear hr
    refine zsr ?_; refine zw1 ?_; refine zns ?_; refine wp_seq ?_; refine zsr ?_; refine zw1 ?_; refine wpO_cons ?_; refine op1_bin_false rfl (by (conv => lhs; whnf) <;> rfl) (by (conv => lhs; whnf) <;> rfl) rfl ?_; refine zns ?_; refine wp_false rfl ?_; refine wp_skip ?_; refine seq_normal ?_; refine zsr ?_; refine wpO_cons ?_; refine op1_bsliceS rfl hS ?_; refine bk_nil ?_; intro p1 H1 hS; refine zw1 ?_; refine wpO_cons ?_
    replace hS := S.slNew (l := 0) (es := 1) hS rfl
    obtain ⟨r2, hr2, _⟩ := hd _ (S.drop hS)
    refine op1_appRS rfl rfl rfl rfl hr2 (by simp [u8s]) (u8s_one _) hS (by omega) ?_
    clear hS
    intro a9 c9 H9 hS
    refine zw1 ?_; refine zns ?_; refine wp_ret ?_; refine ret_of ?_; refine zr ?_; refine rk_nil ?_
    exact hS
theorem L12 {x : PX} (hd : RD B As 1 x.sv (u8s x.1.data)) (hl : x.1.data.length ≤ 1000000000) (hS : S B H As) : wpF C 12 [.agg ⟨rowP x⟩] H fun w H' => ∃ y : PX, y.1 = x.1 ∧ w = .agg ⟨rowP y⟩ ∧ S B H' (sl 1 y.sv (u8s y.1.data) :: As) := by
  refine wpF_ofW o12 rfl rfl ?_
  unfold rowP Pt.cells PX.sv
  refine zsr ?_; refine wpO_cons ?_; refine op1_boxNS rfl rfl rfl hS ?_; intro p1 H1 hS; refine wpO_cons ?_; refine op1_allocS rfl hS ?_; intro p2 H2 hS; refine zns ?_; refine wp_seq ?_; refine wp_regionD ?_; refine zg ?_; refine zj (S.g1 hS) ?_; refine zg ?_; refine zj (S.g1 hS) ?_; refine zg ?_; refine zj (S.g1 hS) ?_; refine zg ?_; refine zj (S.g1 hS) ?_; refine zg ?_; refine zj (S.g1 hS) ?_; refine zg ?_; refine zj (S.g1 hS) ?_; refine wpD_cons ?_; refine op1_call1 rfl (by (conv => lhs; whnf) <;> rfl) ?_
  refine wpF_mono (L23 hd.cons.cons hl hS) ?_
  rintro w H3 hS3
  have hT := hS
  clear hS
  have hS := hS3
  clear hS3
  obtain ⟨aw, cw, rfl⟩ := S.u1 hS
  refine wpD_cons ?_; refine op1_build rfl ?_; refine bk_one (by (conv => lhs; whnf) <;> rfl) rfl rfl rfl ?_; refine bk_one (by (conv => lhs; whnf) <;> rfl) rfl rfl rfl ?_; refine bk_one (by (conv => lhs; whnf) <;> rfl) rfl rfl rfl ?_; refine bk_one (by (conv => lhs; whnf) <;> rfl) rfl rfl rfl ?_; refine bk_one (by (conv => lhs; whnf) <;> rfl) rfl rfl rfl ?_; refine bk_one (by (conv => lhs; whnf) <;> rfl) rfl rfl rfl ?_; refine bk_nil ?_; refine wpD_cons ?_; (refine op1_storeNS rfl rfl (by (conv => lhs; whnf) <;> rfl) rfl rfl (S.up1 hS) (Nat.le_of_ble_eq_true rfl) ?_; intro H4 hS; replace hS := S.dn1 hS); refine wpD_nil ?_; refine dk_of ?_ ?_; refine chk_skip ?_; refine zx 14 ?_ ?_; refine zy 3 ?_ ?_; exact zq (S.g1 hT); refine zy 1 ?_ ?_; exact chk_load rfl (by exact S.g2 (by assumption)) rfl rfl; exact chkFs_nil; refine chk_skip ?_; refine zx 12 ?_ ?_; refine zy 3 ?_ ?_; exact zq (S.g1 hT); refine zy 1 ?_ ?_; exact chk_load rfl (by exact S.g2 (by assumption)) rfl rfl; exact chkFs_nil; refine chk_skip ?_; refine zx 10 ?_ ?_; refine zy 3 ?_ ?_; exact zq (S.g1 hT); refine zy 1 ?_ ?_; exact chk_load rfl (by exact S.g2 (by assumption)) rfl rfl; exact chkFs_nil; refine chk_skip ?_; refine zx 8 ?_ ?_; refine zy 3 ?_ ?_; exact zq (S.g1 hT); refine zy 1 ?_ ?_; exact chk_load rfl (by exact S.g2 (by assumption)) rfl rfl; exact chkFs_nil; refine chk_skip ?_; refine zx 6 ?_ ?_; refine zy 3 ?_ ?_; exact zq (S.g1 hT); refine zy 1 ?_ ?_; exact chk_load rfl (by exact S.g2 (by assumption)) rfl rfl; exact chkFs_nil; refine chk_skip ?_; refine zx 4 ?_ ?_; refine zy 3 ?_ ?_; exact zq (S.g1 hT); exact chkFs_nil; (iterate 3 refine chk_skip ?_); exact chk_end; refine seq_normal ?_; refine wp_ret ?_; refine ret_of ?_; refine rk_cellN rfl (by exact S.g1 hS) rfl rfl ?_; refine rk_nil ?_
  exact ⟨(x.1, aw, cw), rfl, rfl, S.k2 hS⟩
theorem L15 {v : Value} {xs : List PX} (hP : PS B As v xs) (hx : ∀ x ∈ xs, x.1.data.length ≤ 1000000) (hn : xs.length ≤ 1000) (hS : S B H As) : wpF C 15 [v] H fun w H' => ∃ ys, prt ys = prt xs ∧ S B H' (sl 6 w (ys.flatMap rowP) :: dats ys :: As) := by
  obtain ⟨r0, hr0, _⟩ := hP.rd _ hS
  obtain ⟨a, n, c, rfl, hn2⟩ := hr0.shape
  rw [fm_len rowP_len] at hn2
  obtain rfl : n = xs.length := by omega
  clear hr0 hn2
  refine wpF_ofW o15 rfl rfl ?_
  refine zsr ?_; refine zw1 ?_; refine zns ?_; refine zsr ?_; refine zw1 ?_; refine zns ?_; refine wp_seq ?_; refine zsr ?_; refine zw1 ?_; refine wpO_cons ?_; refine op1_len rfl rfl ?_; refine zw1 ?_; refine zns ?_; refine wp_block ?_
  refine wp_loop [3, 8] (fun k vs H' => ∃ (i : Nat) (a' : Option Addr) (c' : Nat) (ys : List PX), vs = [.slice a' ys.length c', .int .i64 i] ∧ k = xs.length - i ∧ i ≤ xs.length ∧ ys.length = i ∧ prt ys = (prt xs).take i ∧ S B H' (sl 6 (.slice a' ys.length c') (ys.flatMap rowP) :: dats ys :: As)) ⟨_, 0, none, 0, [], rfl, rfl, by omega, rfl, rfl, S.slNil (dats_nil hS)⟩ ?_
  clear hS
  rintro k vs T' H1 ⟨i, a', c', ys, rfl, rfl, hi, hyl, hyp, hS⟩
  refine zsr ?_; refine wpO_cons ?_; refine op1_lss rfl rfl rfl ?_; refine zns ?_; refine wp_seq ?_
  refine wp_dec rfl (fun hc => ?_) (fun hc => ?_)
  · obtain ⟨y, hy⟩ : ∃ y, xs[i]? = some y := ⟨_, List.getElem?_eq_getElem (by omega)⟩
    have hym := List.mem_of_getElem? hy
    obtain ⟨r0, hr0, _⟩ := hP.rd _ (S.drop (S.drop hS))
    obtain ⟨b, off, cs, e1, ro, rfl, hg, hle, hrow⟩ := RdS.row rowP_len hr0 rfl hy
    refine wp_skip ?_; refine seq_normal ?_; refine wp_seq ?_; refine wp_block ?_; refine zsr ?_; refine wpO_cons ?_; refine op1_iaddr rfl rfl rfl (by omega) (by omega) ?_; refine wpO_cons ?_
    refine op1_loadN rfl rfl hg (by simp only [Int.toNat_natCast]; omega) (by simp only [Int.toNat_natCast]; exact hrow) ?_
    unfold rowP Pt.cells PX.sv
    refine wpO_cons ?_; refine op1_allocS rfl hS ?_; intro p1 H2 hS; refine wpO_cons ?_; (refine op1_storeNS rfl rfl (by (conv => lhs; whnf) <;> rfl) rfl rfl (S.up0 hS) (Nat.le_of_ble_eq_true rfl) ?_; intro H3 hS; replace hS := S.dn0 hS); refine zns ?_; refine wp_region ?_; refine zw1 ?_; refine wpO_cons ?_; refine op1_load_6 rfl rfl (by exact S.g0 hS) rfl rfl ?_; refine wpO_cons ?_; refine op1_call1 rfl (by (conv => lhs; whnf) <;> rfl) ?_
    refine wpF_mono (L12 (x := y) (hP.dat y hym).cons.cons.cons (by have := hx y hym; omega) hS) ?_
    rintro _ H4 ⟨z, hz, rfl, hS4⟩
    have hT := hS
    clear hS
    have hS := hS4
    clear hS4
    unfold rowP Pt.cells PX.sv
    refine wpO_cons ?_; refine op1_bsliceS rfl hS ?_; refine bk_agg rfl rfl rfl rfl ?_; refine bk_nil ?_; intro p2 H5 hS; refine wpO_cons ?_; (refine op1_appBS rfl rfl (by (conv => lhs; whnf) <;> rfl) rfl (S.g0 hS) rfl rfl (S.up3 hS) (by omega) ?_; intro a1 c1 H6 hS; replace hS := S.dn3 hS; replace hS := S.drop hS); refine zw1 ?_; refine wpO_nil ?_; refine block_normal ?_; refine seq_normal ?_; refine wp_region ?_; refine wpO_cons ?_; refine op1_add rfl rfl rfl (by exact wrap_i64 (by omega) (by omega)) ?_; refine zw1 ?_; refine wpO_nil ?_
    have hfin : S B H6 (sl 6 (.slice a1 (ys ++ [z]).length c1) ((ys ++ [z]).flatMap rowP) :: dats (ys ++ [z]) :: As) := by
      rw [show (ys ++ [z]).flatMap rowP = ys.flatMap rowP ++ rowP z by simp [List.flatMap_append], List.length_append]
      exact S.up1 (dats_snoc (S.up1 (S.up2 (S.drop (S.up1 hS)))))
    have hzp : (prt xs)[i]? = some z.1 := by unfold prt; rw [List.getElem?_map, hy, hz]; rfl
    refine iter_normal ⟨xs.length - (i + 1), by omega, i + 1, a1, c1, ys ++ [z], by rw [List.length_append]; rfl, rfl, by omega, by rw [List.length_append, hyl]; rfl, ?_, ?_⟩
    · unfold prt at hyp hzp ⊢
      rw [List.map_append, hyp, List.take_add_one, hzp]
      rfl
    · exact hfin
  · refine wp_exit ?_; refine seq_exit ?_; refine iter_exit ?_; refine block_exit ?_; refine seq_normal ?_; refine zsr ?_; refine zw1 ?_; refine zw1 ?_; refine zns ?_; refine wp_ret ?_; refine ret_of ?_; refine zr ?_; refine rk_nil ?_
    rw [List.take_of_length_le (by unfold prt; rw [List.length_map]; omega)] at hyp
    exact ⟨ys, hyp, hS⟩
def bigP (p : Pt) : Prop := 200 < (p.name.size : Int) ∨ 5000 < (p.data.length : Int)
instance (p : Pt) : Decidable (bigP p) := by unfold bigP; infer_instance
theorem L39 {x : PX} (hx : PtN x.1) (hS : S B H As) : wpF C 39 [.agg ⟨rowP x⟩] H fun w H' => w = .bool (decide (bigP x.1)) ∧ S B H' As := by
  refine wpF_ofW o39 rfl rfl ?_
  have hdl := hx.data
  have hnl := hx.name
  unfold rowP Pt.cells PX.sv
  refine zsr ?_; refine wpO_cons ?_; refine op1_boxNS rfl rfl rfl hS ?_; intro p1 H1 hS; refine zw1 ?_; refine zns ?_; refine zsr ?_; refine zf ?_; refine zh (S.g0 hS) ?_; refine wpO_cons ?_; refine op1_lenS rfl rfl ?_; refine wpO_cons ?_; refine op1_gtr rfl rfl rfl ?_; refine zw1 ?_; refine wpO_cons ?_
  refine op1_dec rfl (fun h => ?_) (fun h => ?_)
  · refine op1_skip rfl ?_; (iterate 3 refine zk ?_); refine zt ?_; refine zw1 ?_; refine zns ?_; refine wp_ret ?_; refine ret_of ?_; refine zr ?_; refine rk_nil ?_
    exact ⟨by rw [decide_eq_true (.inl h)]; rfl, S.drop hS⟩
  · refine op1_faddr0 rfl rfl ?_; refine zh (S.g0 hS) ?_; refine wpO_cons ?_; refine op1_len rfl rfl ?_; refine wpO_cons ?_; refine op1_gtr rfl rfl rfl ?_; refine zu ?_; refine zw1 ?_; refine zns ?_; refine wp_ret ?_; refine ret_of ?_; refine zr ?_; refine rk_nil ?_
    refine ⟨?_, S.drop hS⟩
    exact congrArg Value.bool (decide_eq_decide.2 ⟨fun h2 => .inr h2, fun h2 => h2.resolve_left h⟩)
theorem L53 {v : Value} {xs : List PX} (hP : PS B As v xs) (hS : S B H As) : wpF C 53 [v, .func (.func 39) ⟨[]⟩ ⟨[]⟩] H fun u H' => (∃ k : Int, u = .int .i64 k ∧ (0 ≤ k ↔ ∃ a ∈ xs, bigP a.1)) ∧ S B H' As := by
  obtain ⟨r1, hr1, _⟩ := hP.rd _ hS
  obtain ⟨a, n, c, rfl, hn⟩ := hr1.shape
  rw [fm_len rowP_len] at hn
  obtain rfl : n = xs.length := by omega
  have hlen := hP.len
  clear hr1 hn
  refine wpF_ofW o53 rfl rfl ?_
  refine zsr ?_; refine zw1 ?_; refine zns ?_; refine wp_seq ?_; refine zsr ?_; refine zw1 ?_; refine wpO_cons ?_; refine op1_len rfl rfl ?_; refine zw1 ?_; refine zns ?_; refine wp_block ?_
  refine wp_loop [8] (fun k vs H' => ∃ i : Nat, vs = [.int .i64 i] ∧ k = xs.length - i ∧ i ≤ xs.length ∧ (∀ a ∈ xs.take i, ¬ bigP a.1) ∧ S B H' As) ⟨_, 0, rfl, rfl, by omega, by simp, hS⟩ ?_
  clear hS
  rintro k vs T' H1 ⟨i, rfl, rfl, hi, hno, hS⟩
  refine zsr ?_; refine wpO_cons ?_; refine op1_lss rfl rfl rfl ?_; refine zns ?_; refine wp_seq ?_
  refine wp_dec rfl (fun hc => ?_) (fun hc => ?_)
  · obtain ⟨y, hy⟩ : ∃ y, xs[i]? = some y := ⟨_, List.getElem?_eq_getElem (by omega)⟩
    obtain ⟨r0, hr0, _⟩ := hP.rd _ hS
    obtain ⟨b, off, cs, e1, ro, rfl, hg, hle, hrow⟩ := RdS.row rowP_len hr0 rfl hy
    refine wp_skip ?_; refine seq_normal ?_; refine wp_seq ?_; refine wp_block ?_; refine zsr ?_; refine zw1 ?_; refine zw1 ?_; refine zns ?_; refine zsr ?_; refine zw1 ?_; refine zw1 ?_; refine zw1 ?_; refine wpO_cons ?_; refine op1_iaddr rfl rfl rfl (by omega) (by omega) ?_; refine wpO_cons ?_
    refine op1_loadN (vs := rowP y) rfl rfl hg (by simp only [Int.toNat_natCast]; omega) (by simp only [Int.toNat_natCast]; exact hrow) ?_
    refine wpO_cons ?_; refine op1_dyn1 rfl rfl (by (conv => lhs; whnf) <;> rfl) ?_
    refine wpF_mono (L39 (hP.ok y (List.mem_of_getElem? hy)) hS) ?_
    rintro _ H4 ⟨rfl, hS4⟩
    clear hS hg
    have hS := hS4
    clear hS4
    refine zns ?_
    refine wp_dec rfl (fun h2 => ?_) (fun h2 => ?_)
    · refine zsr ?_; refine zw1 ?_; refine zw1 ?_; refine zns ?_; refine wp_ret ?_; refine block_ret ?_; refine seq_ret ?_; refine iter_ret ?_; refine block_ret ?_; refine seq_ret ?_; refine ret_of ?_; refine zr ?_; refine rk_nil ?_
      exact ⟨⟨_, rfl, ⟨fun _ => ⟨y, List.mem_of_getElem? hy, h2⟩, fun _ => by omega⟩⟩, hS⟩
    · refine wp_skip ?_; refine block_normal ?_; refine seq_normal ?_; refine wp_region ?_; refine wpO_cons ?_; refine op1_add rfl rfl rfl (by exact wrap_i64 (by omega) (by omega)) ?_; refine zw1 ?_; refine wpO_nil ?_
      refine ⟨xs.length - (i + 1), by omega, i + 1, rfl, rfl, by omega, fun z hz => ?_, hS⟩
      rw [List.take_add_one, hy] at hz
      rcases List.mem_append.1 hz with h | h
      · exact hno z h
      · simp at h
        rw [h]
        exact h2
  · refine wp_exit ?_; refine seq_exit ?_; refine iter_exit ?_; refine block_exit ?_; refine seq_normal ?_; refine zsr ?_; refine zw1 ?_; refine zns ?_; refine wp_ret ?_; refine ret_of ?_; refine zr ?_; refine rk_nil ?_
    rw [List.take_of_length_le (by omega)] at hno
    exact ⟨⟨_, rfl, ⟨fun h => absurd h (by decide), fun ⟨a, h1, h2⟩ => absurd h2 (hno a h1)⟩⟩, hS⟩
theorem L38 {v : Value} {xs : List PX} (hP : PS B As v xs) (hS : S B H As) : wpF C 38 [v, .func (.func 39) ⟨[]⟩ ⟨[]⟩] H fun u H' => u = .bool (decide (∃ a ∈ xs, bigP a.1)) ∧ S B H' As := by
  refine wpF_ofW o38 rfl rfl ?_
  refine zsr ?_; refine zw1 ?_; refine zns ?_; refine zsr ?_; refine zw1 ?_; refine zw1 ?_; refine wpO_cons ?_; refine op1_call2 rfl (by (conv => lhs; whnf) <;> rfl) (by (conv => lhs; whnf) <;> rfl) ?_
  refine wpF_mono (L53 hP hS) ?_
  rintro _ H4 ⟨⟨k, rfl, hk⟩, hS4⟩
  refine wpO_cons ?_; refine op1_geq rfl rfl rfl ?_; refine zw1 ?_; refine zns ?_; refine wp_ret ?_; refine ret_of ?_; refine zr ?_; refine rk_nil ?_
  exact ⟨by simp only [resultV]; congr 1; exact decide_eq_decide.2 hk, hS4⟩
def smallP (xs : List PX) : Prop := (xs.length : Int) ≤ 20 ∧ ¬ ∃ a ∈ xs, bigP a.1
instance (xs : List PX) : Decidable (smallP xs) := by unfold smallP; infer_instance
theorem L8 {v : Value} {xs : List PX} (hP : PS B As v xs) (hS : S B H As) : wpF C 8 [v] H fun u H' => u = .bool (decide (smallP xs)) ∧ S B H' As := by
  obtain ⟨r1, hr1, _⟩ := hP.rd _ hS
  obtain ⟨a, n, c, rfl, hn⟩ := hr1.shape
  rw [fm_len rowP_len] at hn
  obtain rfl : n = xs.length := by omega
  have hlen := hP.len
  clear hr1 hn
  refine wpF_ofW o8 rfl rfl ?_
  refine zsr ?_; refine zw1 ?_; refine zns ?_; refine zsr ?_; refine zw1 ?_; refine wpO_cons ?_; refine op1_len rfl rfl ?_; refine wpO_cons ?_; refine op1_leq rfl rfl rfl ?_; refine zw1 ?_; refine wpO_cons ?_
  refine op1_dec rfl (fun h1 => ?_) (fun h1 => ?_)
  · refine op1_mov rfl (by (conv => lhs; whnf) <;> rfl) ?_; refine wpO_cons ?_; refine op1_call2 rfl (by (conv => lhs; whnf) <;> rfl) (by (conv => lhs; whnf) <;> rfl) ?_
    refine wpF_mono (L38 hP hS) ?_
    rintro _ H4 ⟨rfl, hS4⟩
    refine wpO_cons ?_; refine op1_not rfl rfl ?_; refine zt ?_; refine zw1 ?_; refine zns ?_; refine wp_ret ?_; refine ret_of ?_; refine zr ?_; refine rk_nil ?_
    refine ⟨?_, hS4⟩
    simp only [resultV]
    rw [← decide_not]
    exact congrArg Value.bool (decide_eq_decide.2 ⟨fun h => ⟨h1, h⟩, fun h => h.2⟩)
  · refine op1_skip rfl ?_; refine zk ?_; refine zk ?_; refine zu ?_; refine zw1 ?_; refine zns ?_; refine wp_ret ?_; refine ret_of ?_; refine zr ?_; refine rk_nil ?_
    exact ⟨by rw [decide_eq_false (fun h => h1 h.1)]; rfl, hS⟩
end
end Go.E.Cb
/- Combine: the laws' arguments; CombineEncodes. -/
namespace Go.E.Cb
open Go Go.E Go.ChangeShapes Go.WideShapes Go.ChangeAt Go.RowKit Go.Proofs.YtnbjnjichhepiaaDoor.base Go.Proofs.YtnbjnjichhepiaaDoor Go.Proofs
set_option linter.unusedVariables false
set_option linter.unusedSimpArgs false
set_option maxRecDepth 100000
theorem ut2 : Tryd.prog.underlying 2 = some (.int .i64) := by kernel_rfl
theorem ut3 : Tryd.prog.underlying 3 = some (.int .i64) := by kernel_rfl
theorem ut5 : Tryd.prog.underlying 5 = some (.int .u8) := by kernel_rfl
theorem ut9 : Tryd.prog.underlying 9 = some .string := by kernel_rfl
theorem ut22 : Tryd.prog.underlying 22 = some (.slice 27) := by kernel_rfl
theorem ut25 : Tryd.prog.underlying 25 = some (.slice 5) := by kernel_rfl
theorem ut27 : fieldsOf Tryd.prog 27 = some [(3,0),(3,1),(2,2),(3,3),(9,4),(25,5)] := by kernel_rfl
theorem co2 : Tryd.prog.cellsOf 2 = 1 := by kernel_rfl
theorem co3 : Tryd.prog.cellsOf 3 = 1 := by kernel_rfl
theorem co5 : Tryd.prog.cellsOf 5 = 1 := by kernel_rfl
theorem co9 : Tryd.prog.cellsOf 9 = 1 := by kernel_rfl
theorem co25 : Tryd.prog.cellsOf 25 = 1 := by kernel_rfl
theorem co27 : Tryd.prog.cellsOf 27 = 6 := by kernel_rfl
theorem ga22 : aggT Tryd.prog 22 = false := by kernel_rfl
theorem globS (gs' : List AObj) : Glob objs (startH (objs ++ gs')) := ⟨fun b hb => by
  rw [get_startH]
  simp only [List.getD_eq_getElem?_getD, List.getElem?_append_left hb], by rw [next_startH]; simp⟩
theorem glob_of {B H : AHeap} {As : List Asn} (hB : Glob objs B) (hS : S B H As) : Glob objs H :=
  ⟨fun b hb => (hS.base b (Nat.lt_of_lt_of_le hb hB.le)).trans (hB.get b hb), Nat.le_trans hB.le hS.le⟩
theorem px_of {gs : List AObj} {us : List Value} {n : Nat} (h : OkA Tryd.prog gs (n + 3) 27 us) : ∃ x : PX, us = rowP x ∧ PtN x.1 ∧ ∃ r, RdS (startH gs) 1 x.sv (u8s x.1.data) r ∧ ∀ b ∈ r, b < (startH gs).next := by
  obtain ⟨hl, hf⟩ := h.struct ut27 co27
  match us, hl with
  | [v0, v1, v2, v3, v4, v5], _ =>
    obtain ⟨a0, e0, h0⟩ := (hf (3, 0) (by simp)).i64 ut3
    obtain ⟨a1, e1, h1⟩ := (hf (3, 1) (by simp)).i64 ut3
    obtain ⟨a2, e2, h2⟩ := (hf (2, 2) (by simp)).i64 ut2
    obtain ⟨a3, e3, h3⟩ := (hf (3, 3) (by simp)).i64 ut3
    obtain ⟨a4, e4, h4⟩ := (hf (9, 4) (by simp)).string ut9
    obtain ⟨d, l, c, r, e5, h5, h6, h7, h8⟩ := (hf (25, 5) (by simp)).byteS ut25 co5 ut5
    simp only [co2, co3, co9, co25, List.drop_zero, List.take_succ_cons, List.take_zero, List.drop_succ_cons] at e0 e1 e2 e3 e4 e5
    cases e0; cases e1; cases e2; cases e3; cases e4; cases e5
    exact ⟨(⟨a0, a1, a2, a3, a4, l⟩, d, c), rfl, ⟨h0, h1, h2, h3, h4, h5, h8⟩, r, h6, h7⟩
theorem pts_of {gs : List AObj} {n : Nat} {a : Value} (h : ∃ cells, a = argV Tryd.prog 22 cells ∧ OkA Tryd.prog gs (n + 4) 22 cells) : ∃ xs, ∀ As, PS (startH gs) As a xs := by
  obtain ⟨cells, rfl, h⟩ := h
  obtain ⟨d, l, c, r, rfl, h1, h2, h3, h4⟩ := h.slice (X := PX) (f := rowP) (Q := fun x => PtN x.1 ∧ ∃ r, RdS (startH gs) 1 x.sv (u8s x.1.data) r ∧ ∀ b ∈ r, b < (startH gs).next) ut22 co27 rowP_len (fun us h => px_of h)
  refine ⟨l, fun As => ⟨?_, fun x hx => ?_, fun x hx => (h4 x hx).1, h1⟩⟩
  · unfold argV
    rw [ga22]
    exact RD.base h2 h3
  · obtain ⟨_, r, h5, h6⟩ := h4 x hx
    exact RD.base h5 h6
section
variable {B : AHeap}
theorem L3 {v : Value} {xs : List PX} (hB : Glob objs B) (hP0 : ∀ As, PS B As v xs) : wpF C 3 [v] B fun v _ => v = .bool true := by
  have hS := S.start B
  obtain ⟨r1, hr1, _⟩ := (hP0 []).rd _ hS
  obtain ⟨a, n, c, rfl, hn⟩ := hr1.shape
  rw [fm_len rowP_len] at hn
  obtain rfl : n = xs.length := by omega
  have hlen := (hP0 []).len
  clear hr1 hn
  refine wpF_ofW o3 rfl rfl ?_
  refine zsr ?_; refine zw1 ?_; refine zns ?_; refine wp_seq ?_; refine zsr ?_; refine zw1 ?_; refine wpO_cons ?_; refine op1_call1 rfl (by (conv => lhs; whnf) <;> rfl) ?_
  refine wpF_mono (L8 (hP0 []) hS) ?_
  rintro _ H1 ⟨rfl, hS1⟩
  clear hS
  have hS := hS1
  clear hS1
  by_cases hf : smallP xs
  case neg =>
    rw [decide_eq_false hf]
    refine wpO_cons ?_; refine op1_not_f rfl rfl ?_; refine zw1 ?_; refine zk ?_; refine zk ?_; refine zt ?_; refine zns ?_; refine wp_true rfl ?_; refine zsr ?_; refine wpO_cons ?_; refine op1_call0 rfl  ?_; refine wpF_known rfl (glob_of hB hS) ?_; refine zw1 ?_; refine zns ?_; refine wp_ret ?_; refine seq_ret ?_; refine ret_of ?_; refine zr ?_; refine rk_nil ?_
    rfl
  rw [decide_eq_true hf]
  have hxl := hf.1
  have hxd : ∀ x ∈ xs, x.1.data.length ≤ 5000 := fun x hx => by
    have : ¬ bigP x.1 := fun h => hf.2 ⟨x, hx, h⟩
    unfold bigP at this
    omega
  refine wpO_cons ?_; refine op1_not_t rfl rfl ?_; refine zw1 ?_; refine wpO_cons ?_; refine op1_call0 rfl  ?_; refine wpF_known rfl (glob_of hB hS) ?_; refine wpO_cons ?_; refine op1_not_t rfl rfl ?_; refine zu ?_; refine zns ?_; refine wp_false rfl ?_; refine wp_skip ?_; refine seq_normal ?_; refine wp_seq ?_; refine zsr ?_; refine zw1 ?_; refine wpO_cons ?_; refine op1_len rfl rfl ?_; refine zw1 ?_; refine zns ?_; refine wp_block ?_
  refine wp_loop [19] (fun k vs H' => ∃ i : Nat, vs = [.int .i64 i] ∧ k = xs.length - i ∧ i ≤ xs.length ∧ S B H' []) ⟨_, 0, rfl, rfl, by omega, hS⟩ ?_
  clear hS
  rintro k vs T' H1 ⟨i, rfl, rfl, hi, hS⟩
  refine zsr ?_; refine wpO_cons ?_; refine op1_lss rfl rfl rfl ?_; refine zns ?_; refine wp_seq ?_
  refine wp_dec rfl (fun hc => ?_) (fun hc => ?_)
  · obtain ⟨y, hy⟩ : ∃ y, xs[i]? = some y := ⟨_, List.getElem?_eq_getElem (by omega)⟩
    have hym := List.mem_of_getElem? hy
    have hyl := hxd y hym
    have hyN := (hP0 []).ok y hym
    obtain ⟨r0, hr0, _⟩ := (hP0 []).rd _ hS
    obtain ⟨b, off, cs, e1, ro, rfl, hg, hle, hrow⟩ := RdS.row rowP_len hr0 rfl hy
    refine wp_skip ?_; refine seq_normal ?_; refine wp_seq ?_; refine wp_block ?_; refine zsr ?_; refine wpO_cons ?_; refine op1_iaddr rfl rfl rfl (by omega) (by omega) ?_; refine wpO_cons ?_
    refine op1_loadN (vs := rowP y) rfl rfl hg (by simp only [Int.toNat_natCast]; omega) (by simp only [Int.toNat_natCast]; exact hrow) ?_
    refine wpO_cons ?_; refine op1_allocS rfl hS ?_; intro p1 H2 hS; refine wpO_cons ?_; (refine op1_storeNS rfl rfl (by (conv => lhs; whnf) <;> rfl) rfl rfl (S.up0 hS) (Nat.le_of_ble_eq_true rfl) ?_; intro H3 hS; replace hS := S.dn0 hS); refine zns ?_; refine wp_seq ?_; refine wp_regionD ?_; refine wpD_cons ?_; refine op1_load_6 rfl rfl (by exact S.g0 hS) rfl rfl ?_; refine wpD_cons ?_; refine op1_load_6 rfl rfl (by exact S.g0 hS) rfl rfl ?_; refine wpD_cons ?_; refine op1_call1 rfl (by (conv => lhs; whnf) <;> rfl) ?_
    have hT1 := hS
    clear hS
    refine wpF_mono (L10 (p := y.1) hB hyN hT1) ?_
    rintro _ H4 ⟨rfl, hS⟩
    refine wpD_cons ?_; refine op1_call1 rfl (by (conv => lhs; whnf) <;> rfl) ?_
    have hT2 := hS
    clear hS
    refine wpF_mono (L12 (x := y) ((hP0 _).dat y hym) (by omega) hT2) ?_
    rintro _ H5 ⟨z, hz, rfl, hS⟩
    refine wpD_cons ?_; refine op1_call1 rfl (by (conv => lhs; whnf) <;> rfl) ?_
    have hT3 := hS
    clear hS
    refine wpF_mono (L11 (p := z.1) (a := z.2.1) (c := z.2.2) (hz ▸ hyN) hT3) ?_
    rintro _ H6 ⟨rfl, hS⟩
    rw [hz]
    refine wpD_cons ?_; refine op1_neqI_s rfl rfl rfl ?_; refine wpD_nil ?_; refine dk_of ?_ ?_; refine zx 6 ?_ ?_; refine zy 4 ?_ ?_; exact chk_loadN rfl (by exact S.g0 hT1) rfl rfl rfl; exact chkFs_nil; refine zx 5 ?_ ?_; refine zy 4 ?_ ?_; exact chk_loadN rfl (by exact S.g0 hT1) rfl rfl rfl; refine zy 3 ?_ ?_; exact chk_loadN rfl (by exact S.g0 hT2) rfl rfl rfl; exact chkFs_nil; (iterate 4 refine chk_skip ?_); exact chk_end; refine seq_normal ?_; refine wp_false rfl ?_; refine wp_skip ?_; refine block_normal ?_; refine seq_normal ?_; refine wp_region ?_; refine wpO_cons ?_; refine op1_add rfl rfl rfl (by exact wrap_i64 (by omega) (by omega)) ?_; refine zw1 ?_; refine wpO_nil ?_
    exact iter_normal ⟨xs.length - (i + 1), by omega, i + 1, rfl, rfl, by omega, S.drop (S.drop hS)⟩
  · refine wp_exit ?_; refine seq_exit ?_; refine iter_exit ?_; refine block_exit ?_; refine seq_normal ?_; refine zsr ?_; refine zw1 ?_; refine wpO_cons ?_; refine op1_call1 rfl (by (conv => lhs; whnf) <;> rfl) ?_
    refine wpF_mono (L13 hB (hP0 _) hS) ?_
    rintro _ H4 ⟨o1, rfl, hS4⟩
    clear hS
    have hS := hS4
    clear hS4
    refine zw1 ?_; refine wpO_cons ?_; refine op1_extract rfl rfl rfl ?_; refine wpO_cons ?_; refine op1_extract rfl rfl rfl ?_; refine zw1 ?_; refine zw1 ?_; refine zns ?_; refine zsr ?_; refine zw1 ?_; refine wpO_cons ?_; refine op1_call1 rfl (by (conv => lhs; whnf) <;> rfl) ?_
    refine wpF_mono (L15 (hP0 _) (fun x hx => by have := hxd x hx; omega) (by omega) hS) ?_
    rintro w H5 ⟨ys, hys, hS5⟩
    clear hS
    have hS := hS5
    clear hS5
    have hyo : ∀ y ∈ ys, PtN y.1 := fun y hy => by
      have h1 : y.1 ∈ prt xs := by rw [← hys]; exact List.mem_map_of_mem (f := (·.1)) hy
      obtain ⟨x, hx, e⟩ := List.mem_map.1 h1
      rw [← e]
      exact (hP0 []).ok x hx
    have hyl : ys.length = xs.length := by have := congrArg List.length hys; unfold prt at this; simpa using this
    refine wpO_cons ?_; refine op1_call1 rfl (by (conv => lhs; whnf) <;> rfl) ?_
    refine wpF_mono (L14 (PS.own hyo (by omega)) hS) ?_
    rintro _ H6 ⟨o2, rfl, hS6⟩
    clear hS
    have hS := hS6
    clear hS6
    rw [hys] at hS ⊢
    obtain ⟨r1, hr1, _⟩ := S.rd hS
    obtain ⟨r2, hr2, _⟩ := S.rd (S.up3 hS)
    refine zw1 ?_; refine wpO_cons ?_; refine op1_extract rfl rfl rfl ?_; refine wpO_cons ?_; refine op1_extract rfl rfl rfl ?_; refine zw1 ?_; refine zw1 ?_; refine zns ?_; refine zsr ?_; refine zw1 ?_; refine zw1 ?_; refine wpO_cons ?_; refine op1_eqlI_s rfl rfl rfl ?_; refine zw1 ?_; refine zw1 ?_; refine zw1 ?_; refine wpO_cons ?_; refine op1_call2 rfl (by (conv => lhs; whnf) <;> rfl) (by (conv => lhs; whnf) <;> rfl) ?_
    refine wpF_mono (L16 hr2 hr1) ?_
    rintro _ H7 ⟨rfl, rfl⟩
    refine zt ?_; refine zw1 ?_; refine zns ?_; refine wp_ret ?_; refine ret_of ?_; refine zr ?_; refine rk_nil ?_
    rfl
end
end Go.E.Cb
