/- A connection: what is sent. -/
import Derived.Test.YtamcfhhcmjagnaaStC5
namespace Go.E.St
open Go Go.E Go.Proofs.Ytamcfhhcmjagnaa Go.Proofs
set_option linter.unusedVariables false
set_option linter.unusedSimpArgs false
set_option maxRecDepth 100000
def Cn.waits (s : Cn) (now : Int) : Bool := !s.run || decide (now - s.since < s.tmo)
def Cn.back (s : Cn) (now : Int) : Cn := { s with nxt := s.una, finSent := false, tmo := min (2 * s.tmo) 65536, reps := s.reps + 1, since := now }
def Cn.lateB (s : Cn) (now : Int) : Bool := !s.waits now && decide (s.reps = 8)
def Cn.late (s : Cn) (now : Int) : Cn := if s.waits now = true then s else if s.reps = 8 then { s with st := 9 } else s.back now
def Cn.sgm (s : Cn) (f n : Int) (d : List Int) : Sg := ⟨f, n, s.rcv, 4096 - s.inc.length, d⟩
def sgA (g : Sg) (cs : List Value) : Asn := exA fun vd => seps [sl 1 vd (u8s g.data), pur (cs = sgC g vd)]
theorem sgA_of {B H : AHeap} {As : List Asn} {w : Sg} {vd : Value} (hS : S B H (sl 1 vd (u8s w.data) :: As)) : S B H (sgA w (sgC w vd) :: As) :=
  S.exI vd (S.seps (S.up1 (S.pur rfl hS)))
theorem sgA_un {B H : AHeap} {As : List Asn} {w : Sg} {cs : List Value} (hS : S B H (sgA w cs :: As)) : ∃ a c, cs = sgC w (.slice a w.data.length c) ∧ w.data.length ≤ c ∧ S B H (sl 1 (.slice a w.data.length c) (u8s w.data) :: As) := by
  obtain ⟨vd, h⟩ := S.unex hS
  obtain ⟨h1, h⟩ := S.unpur (S.up1 (S.unseps h))
  obtain ⟨a, c, rfl⟩ := S.u1 h
  exact ⟨a, c, h1, S.len_le h, h⟩
theorem sg_one {B H : AHeap} : ∀ {ws : List Sg} {css : List (List Value)} {As : List Asn}, S B H (many sgA ws css :: As) → css.flatten.all (·.oneCell') = true
  | [], css, As, h => by rw [h.many_unnil.1]; rfl
  | w :: ws, css, As, h => by
    obtain ⟨cs, css, rfl, h1⟩ := h.many_uncons
    obtain ⟨a, c, rfl, _, h2⟩ := sgA_un h1
    rw [List.flatten_cons, List.all_append, sg_one h1.drop]
    rfl
theorem sg_snoc {B H : AHeap} {As : List Asn} {a ad : Option Addr} {n c cd : Nat} {l : List Sg} {g : Sg} {css : List (List Value)} (hcss : ∀ cs ∈ css, cs.length = 5) (hn : n = l.length)
    (h : S B H (sl 5 (.slice a (n + 1) c) (css.flatten ++ sgC g (.slice ad g.data.length cd)) :: sl 1 (.slice ad g.data.length cd) (u8s g.data) :: many sgA l css :: As)) : S B H (arr 5 sgA (.slice a (l ++ [g]).length c) (l ++ [g]) :: As) := by
  subst hn
  have h1 := S.many_snoc (S.up1 (S.up2 (sgA_of (w := g) (S.up1 h))))
  have ef : (css ++ [sgC g (.slice ad g.data.length cd)]).flatten = css.flatten ++ sgC g (.slice ad g.data.length cd) := by simp
  rw [List.length_append]
  exact S.arrI (css := css ++ [sgC g (.slice ad g.data.length cd)]) (by rw [ef]; exact S.up1 h1) (fun cs hcs => by
    simp only [List.mem_append, List.mem_singleton] at hcs
    rcases hcs with hcs | rfl
    · exact hcss cs hcs
    · rfl)
section
variable {B H : AHeap} {As : List Asn} {p : Nat} {s : Cn} {g : Sg}
theorem L74 {now : Int} (hok : Ok s) (hn : 0 ≤ now ∧ now ≤ 1099511627776) (hS : S B H (repC p s :: As)) : wpF C 74 [ptC p, .int .i64 now] H fun v H' => v = .bool (s.lateB now) ∧ S B H' (repC p (s.late now) :: As) := by
  have hsi := hok.since
  have htm := hok.tmo
  have hrp := hok.reps
  have hS0 := hS
  obtain ⟨ao, co, ai, ci, ho, hi, hO⟩ := openC hS
  refine wpF_ofW o74 rfl rfl ?_
  clear hS
  have hS := hO
  clear hO
  unfold cnC at hS
  unfold ptC
  obtain ⟨w, hw⟩ : ∃ z, z = s.waits now := ⟨_, rfl⟩
  have e1 : s.lateB now = (!w && decide (s.reps = 8)) := by unfold Cn.lateB; rw [← hw]
  have e2 : s.late now = if w = true then s else if s.reps = 8 then { s with st := 9 } else s.back now := by unfold Cn.late; rw [← hw]
  rw [e1, e2]
  clear e1 e2
  refine zsr ?_; refine zw1 ?_; refine zns ?_; refine wp_seq ?_
  refine wp_cut [25] (fun vs H' => vs = [.bool w] ∧ H = H') ?_ ?_
  · obtain ⟨ru, hru⟩ : ∃ z, z = s.run := ⟨_, rfl⟩
    have hw2 : w = (!ru || decide (now - s.since < s.tmo)) := by rw [hw, hru]; rfl
    refine wp_regionD ?_; refine zd1 ?_; refine zm ?_; refine zg ?_; refine zg ?_; refine zj (S.g0 hS) ?_; refine wpD_cons ?_; refine op1_not rfl rfl ?_; refine zd1 ?_; refine wpD_cons ?_
    rw [← hru]
    cases ru
    · refine op1_skip rfl ?_; (iterate 12 refine zl ?_); refine wpD_cons ?_; refine op1_pick_t rfl rfl (by (conv => lhs; whnf) <;> rfl) ?_; refine wpD_nil ?_; refine dk_of ?_ ?_; (iterate 4 refine chk_skip ?_); refine zx 17 ?_ ?_; refine zy 0 ?_ ?_
      · exact chk_load rfl (S.g0 hS) rfl (by show Value.bool false = Value.bool s.run; rw [← hru])
      exact chkFs_nil; (iterate 7 refine chk_skip ?_); refine chk_unw 9 rfl rfl rfl ?_; (iterate 5 refine chk_skip ?_); refine chk_unw 3 rfl rfl rfl ?_; (iterate 2 refine chk_skip ?_); exact chk_end; refine cut1 (by (conv => lhs; whnf) <;> rfl) ?_
      rw [hw2]
      exact ⟨rfl, rfl⟩
    · refine op1_mov rfl (by (conv => lhs; whnf) <;> rfl) ?_; refine zd1 ?_; refine zm ?_; refine zg ?_; refine zg ?_; refine zj (S.g0 hS) ?_; refine wpD_cons ?_; refine op1_sub rfl rfl rfl (by exact wrap_i64 (by omega) (by omega)) ?_; refine zd1 ?_; refine zm ?_; refine zg ?_; refine zg ?_; refine zj (S.g0 hS) ?_; refine wpD_cons ?_; refine op1_lss rfl rfl rfl ?_; refine wpD_cons ?_; refine op1_pick_f rfl rfl (by (conv => lhs; whnf) <;> rfl) ?_; refine wpD_nil ?_; refine dk_of ?_ ?_; (iterate 4 refine chk_skip ?_); refine zx 17 ?_ ?_; refine zy 0 ?_ ?_
      · exact chk_load rfl (S.g0 hS) rfl (by show Value.bool true = Value.bool s.run; rw [← hru])
      exact chkFs_nil; (iterate 7 refine chk_skip ?_); refine zx 9 ?_ ?_; refine zy 0 ?_ ?_; exact zq (S.g0 hS); exact chkFs_nil; (iterate 5 refine chk_skip ?_); refine zx 3 ?_ ?_; refine zy 0 ?_ ?_; exact zq (S.g0 hS); exact chkFs_nil; (iterate 2 refine chk_skip ?_); exact chk_end; refine cut1 (by (conv => lhs; whnf) <;> rfl) ?_
      rw [hw2]
      exact ⟨rfl, rfl⟩
  rintro vs2 T2 H2 ⟨rfl, rfl⟩
  cases w
  rotate_left
  · rw [if_pos rfl]
    refine wp_true rfl ?_; refine zsr ?_; refine zw1 ?_; refine zns ?_; refine wp_ret ?_; refine seq_ret ?_; refine ret_of ?_; refine zr ?_; refine rk_nil ?_
    exact ⟨rfl, hS0⟩
  rw [if_neg (by simp)]
  refine wp_false rfl ?_; refine wp_skip ?_; refine seq_normal ?_; refine wp_seq ?_; refine zsr ?_; refine zw1 ?_; refine zn ?_; refine zf ?_; refine zf ?_; refine zh (S.g0 hS) ?_; refine wpO_cons ?_; refine op1_eqlI rfl rfl rfl ?_; refine zns ?_
  refine wp_dec rfl (fun h1 => ?_) (fun h1 => ?_)
  · rw [if_pos h1, decide_eq_true h1]
    refine zsr ?_; refine zw1 ?_; refine zn ?_; refine zf ?_; refine wpO_cons ?_; (refine op1_store1S rfl rfl (by (conv => lhs; whnf) <;> rfl) rfl rfl (S.up0 hS) rfl ?_; intro H1 hS; replace hS := S.dn0 hS); refine zns ?_; refine zsr ?_; refine zw1 ?_; refine zns ?_; refine wp_ret ?_; refine seq_ret ?_; refine ret_of ?_; refine zr ?_; refine rk_nil ?_
    exact ⟨rfl, closeC (s := { s with st := 9 }) hS⟩
  · rw [if_neg h1, decide_eq_false h1]
    refine wp_skip ?_; refine seq_normal ?_; refine zsr ?_; refine zw1 ?_; refine zw1 ?_; refine zw1 ?_; refine zn ?_; refine zf ?_; refine zf ?_; refine zh (S.g0 hS) ?_; refine zn ?_; refine zf ?_; refine zf ?_; refine wpO_cons ?_; (refine op1_store1S rfl rfl (by (conv => lhs; whnf) <;> rfl) rfl rfl (S.up0 hS) rfl ?_; intro H1 hS; replace hS := S.dn0 hS); refine zn ?_; refine zf ?_; refine zf ?_; refine wpO_cons ?_; (refine op1_store1S rfl rfl (by (conv => lhs; whnf) <;> rfl) rfl rfl (S.up0 hS) rfl ?_; intro H2 hS; replace hS := S.dn0 hS); refine zns ?_; refine zsr ?_; refine zw1 ?_; refine zw1 ?_; refine zn ?_; refine zf ?_; refine zf ?_; refine zh (S.g0 hS) ?_; refine wpO_cons ?_; refine op1_mul rfl rfl rfl (by exact wrap_i64 (by omega) (by omega)) ?_; refine wpO_cons ?_; refine op1_min rfl rfl rfl ?_; refine zn ?_; refine zf ?_; refine zf ?_; refine wpO_cons ?_; (refine op1_store1S rfl rfl (by (conv => lhs; whnf) <;> rfl) rfl rfl (S.up0 hS) rfl ?_; intro H3 hS; replace hS := S.dn0 hS); refine zns ?_; refine zsr ?_; refine zw1 ?_; refine zn ?_; refine zf ?_; refine zf ?_; refine zh (S.g0 hS) ?_; refine wpO_cons ?_; refine op1_add rfl rfl rfl (by exact wrap_i64 (by omega) (by omega)) ?_; refine zn ?_; refine zf ?_; refine zf ?_; refine wpO_cons ?_; (refine op1_store1S rfl rfl (by (conv => lhs; whnf) <;> rfl) rfl rfl (S.up0 hS) rfl ?_; intro H4 hS; replace hS := S.dn0 hS); refine zns ?_; refine zsr ?_; refine zw1 ?_; refine zw1 ?_; refine zn ?_; refine zf ?_; refine zf ?_; refine wpO_cons ?_; (refine op1_store1S rfl rfl (by (conv => lhs; whnf) <;> rfl) rfl rfl (S.up0 hS) rfl ?_; intro H5 hS; replace hS := S.dn0 hS); refine zns ?_; refine zsr ?_; refine zw1 ?_; refine zns ?_; refine wp_ret ?_; refine ret_of ?_; refine zr ?_; refine rk_nil ?_
    exact ⟨rfl, closeC (s := s.back now) hS⟩
theorem L76 {f n : Int} {vd : Value} {d : List Int} {vo : Value} {ai : Option Addr} {ci : Nat} (hil : s.inc.length ≤ 4096)
    (hd : RD B (pto p (.cells (cnC s vo (.slice ai s.inc.length ci)) 0 false) :: As) 1 vd (u8s d)) (hl : d.length ≤ 1000000)
    (hvo : ∃ a l c, vo = .slice a l c) (hS : S B H (pto p (.cells (cnC s vo (.slice ai s.inc.length ci)) 0 false) :: As)) :
    wpF C 76 [ptC p, .int .i64 f, .int .u32 n, vd] H fun v H' => ∃ a c, v = .agg ⟨sgC (s.sgm f n d) (.slice a d.length c)⟩ ∧ S B H' (sl 1 (.slice a d.length c) (u8s d) :: pto p (.cells (cnC s vo (.slice ai s.inc.length ci)) 0 false) :: As) := by
  obtain ⟨ad, cd, rfl⟩ := hd.u1 hS
  obtain ⟨ao, lo, co, rfl⟩ := hvo
  refine wpF_ofW o76 rfl rfl ?_
  have hS0 := hS
  unfold cnC at hS
  unfold ptC Cn.sgm sgC
  refine zsr ?_; refine wpO_cons ?_; refine op1_allocS rfl hS ?_; intro p1 H1 hS; refine zns ?_; refine wp_seq ?_; refine wp_regionD ?_; refine zd1 ?_; refine zd1 ?_; refine zd1 ?_; refine zm ?_; refine zg ?_; refine wpD_cons ?_; refine op1_faddr rfl rfl ?_; refine zj (S.g1 hS) ?_; refine zd1 ?_; refine zm ?_; refine zg ?_; refine zd1 ?_; refine wpD_cons ?_; refine op1_call1 rfl (by (conv => lhs; whnf) <;> rfl) ?_
  refine wpF_mono (L66 (s := s) (by omega) (S.up1 hS)) ?_
  rintro _ H2 ⟨rfl, rfl⟩
  refine wpD_cons ?_; refine op1_call1 rfl (by (conv => lhs; whnf) <;> rfl) ?_
  refine wpF_mono (L45 (RD.cons hd) hS hl) ?_
  intro v3 H3 hS
  obtain ⟨a3, c3, rfl⟩ := hS.u1
  refine wpD_cons ?_; refine op1_build rfl ?_; refine bk_one (by (conv => lhs; whnf) <;> rfl) rfl rfl rfl ?_; refine bk_one (by (conv => lhs; whnf) <;> rfl) rfl rfl rfl ?_; refine bk_one (by (conv => lhs; whnf) <;> rfl) rfl rfl rfl ?_; refine bk_one (by (conv => lhs; whnf) <;> rfl) rfl rfl rfl ?_; refine bk_one (by (conv => lhs; whnf) <;> rfl) rfl rfl rfl ?_; refine bk_nil ?_; refine wpD_cons ?_; (refine op1_storeNS rfl rfl (by (conv => lhs; whnf) <;> rfl) rfl rfl (S.up1 hS) (Nat.le_of_ble_eq_true rfl) ?_; intro H2 hS; replace hS := S.dn1 hS); refine wpD_nil ?_; refine dk_of ?_ ?_; (iterate 6 refine chk_skip ?_); refine zx 9 ?_ ?_; refine zy 4 ?_ ?_; exact chk_load rfl (by exact S.g1 (by assumption)) rfl rfl; refine zy 3 ?_ ?_; exact chk_load rfl (by exact S.g1 (by assumption)) rfl rfl; refine zy 1 ?_ ?_; exact chk_load rfl (by exact S.g2 (by assumption)) rfl rfl; exact chkFs_nil; (iterate 8 refine chk_skip ?_); exact chk_end; refine seq_normal ?_; refine wp_ret ?_; refine ret_of ?_; refine rk_cellN rfl (by exact S.g1 hS) rfl rfl ?_; refine rk_nil ?_
  exact ⟨a3, c3, rfl, S.drop (S.up1 hS)⟩
end
end Go.E.St
/- A connection: data. -/
namespace Go.E.St
open Go Go.E Go.Proofs.Ytamcfhhcmjagnaa Go.Proofs
set_option linter.unusedVariables false
set_option linter.unusedSimpArgs false
set_option maxRecDepth 100000
def Cn.dn (s : Cn) (lim sent : Int) : Int := min (min s.size (s.out.length - sent)) (lim - sent)
def Cn.dl (s : Cn) (lim : Int) : Nat → Int → Int → List Sg × Int × Int
  | 0, sent, nx => ([], sent, nx)
  | f + 1, sent, nx => if sent < s.out.length ∧ sent < lim then
      (s.sgm 2 nx ((s.out.drop sent.toNat).take (s.dn lim sent).toNat) :: (s.dl lim f (sent + s.dn lim sent) (IntKind.u32.wrap (nx + s.dn lim sent))).1, (s.dl lim f (sent + s.dn lim sent) (IntKind.u32.wrap (nx + s.dn lim sent))).2)
    else ([], sent, nx)
theorem dl_stop (s : Cn) (lim : Int) (f : Nat) {sent nx : Int} (h : ¬ (sent < s.out.length ∧ sent < lim)) : s.dl lim f sent nx = ([], sent, nx) := by
  cases f with
  | zero => rfl
  | succ f => rw [Cn.dl, if_neg h]
def Cn.sent0 (s : Cn) : Int := IntKind.u32.wrap (s.nxt - s.una)
def Cn.dlim (s : Cn) : Int := if s.window = 0 ∧ s.sent0 = 0 then 1 else s.window
def Cn.dr (s : Cn) : List Sg × Int × Int := s.dl s.dlim s.out.length s.sent0 s.nxt
def Cn.finNow (s : Cn) (sent : Int) : Bool := s.asked && (!s.finSent && (!s.finGone && decide (sent = s.out.length)))
def addFin (s : Cn) (nx : Int) : List Sg → List Sg
  | [] => [s.sgm 6 nx []]
  | [g] => [{ g with fl := 6 }]
  | g :: l => g :: addFin s nx l
theorem addFin_snoc (s : Cn) (nx : Int) (l : List Sg) (g : Sg) : addFin s nx (l ++ [g]) = l ++ [{ g with fl := 6 }] := by
  induction l with
  | nil => rfl
  | cons a l ih =>
    cases l with
    | nil => rfl
    | cons b l =>
      show a :: addFin s nx (b :: l ++ [g]) = _
      rw [ih]; rfl
def Cn.dat (s : Cn) : List Sg × Cn :=
  if s.finNow s.dr.2.1 = true then (addFin s s.dr.2.2 s.dr.1, { s with nxt := IntKind.u32.wrap (s.dr.2.2 + 1), finSent := true }) else (s.dr.1, { s with nxt := s.dr.2.2 })
theorem dl_fl (s : Cn) (lim : Int) : ∀ (f : Nat) (sent nx : Int), ∀ g ∈ (s.dl lim f sent nx).1, g.fl = 2
  | 0, _, _, g, h => by simp [Cn.dl] at h
  | f + 1, sent, nx, g, h => by
    rw [Cn.dl] at h
    split at h
    · rcases List.mem_cons.1 h with h | h
      · rw [h]; rfl
      · exact dl_fl s lim f _ _ g h
    · simp at h
theorem dl_len (s : Cn) (lim : Int) (hs : 1 ≤ s.size) : ∀ (f : Nat) (sent nx : Int), 0 ≤ sent → ((s.dl lim f sent nx).1.length : Int) ≤ max 0 (s.out.length - sent)
  | 0, _, _, _ => by simp [Cn.dl]; omega
  | f + 1, sent, nx, h0 => by
    rw [Cn.dl]
    split
    · rename_i h
      have hn : 1 ≤ s.dn lim sent := by unfold Cn.dn; omega
      have := dl_len s lim hs f (sent + s.dn lim sent) (IntKind.u32.wrap (nx + s.dn lim sent)) (by omega)
      simp only [List.length_cons]
      omega
    · simp; omega
theorem flat_len5 : ∀ (css : List (List Value)), (∀ c ∈ css, c.length = 5) → css.flatten.length = css.length * 5
  | [], _ => rfl
  | c :: css, h => by rw [List.flatten_cons, List.length_append, h c (by simp), flat_len5 css fun d hd => h d (by simp [hd]), List.length_cons]; omega
section
variable {B H : AHeap} {As : List Asn} {p : Nat} {s : Cn} {g : Sg}
theorem L90 (hok : Ok s) (hS : S B H (repC p s :: As)) : wpF C 90 [ptC p] H fun v H' => S B H' (arr 5 sgA v s.dat.1 :: repC p s.dat.2 :: As) := by
  have hol := hok.out
  have hil := hok.inc
  have hsz := hok.size
  have hwd := hok.window
  have hnx := hok.nxt
  have hun := hok.una
  obtain ⟨ao, co, ai, ci, ho, hi, hO⟩ := openC hS
  refine wpF_ofW o90 rfl rfl ?_
  clear hS
  have hS := hO
  clear hO
  unfold cnC at hS
  unfold ptC
  obtain ⟨s0, hs0⟩ : ∃ z, z = s.sent0 := ⟨_, rfl⟩
  have hs0b : 0 ≤ s0 ∧ s0 ≤ 4294967295 := by rw [hs0]; unfold Cn.sent0; rw [wrap_u32]; omega
  obtain ⟨lim, hlim⟩ : ∃ z, z = s.dlim := ⟨_, rfl⟩
  have hlb : 0 ≤ lim ∧ lim ≤ 4096 := by rw [hlim]; unfold Cn.dlim; split <;> omega
  refine zsr ?_; refine zw1 ?_; refine zns ?_; refine zsr ?_; refine zw1 ?_; refine zns ?_; refine wp_seq ?_; refine wp_regionD ?_; refine zd1 ?_; refine zm ?_; refine zg ?_; refine zg ?_; refine zj (S.g0 hS) ?_; refine zd1 ?_; refine zm ?_; refine zg ?_; refine zg ?_; refine zj (S.g0 hS) ?_; refine wpD_cons ?_
  refine op1_subW rfl rfl rfl ?_
  rw [show IntKind.u32.wrap (s.nxt - s.una) = s0 from hs0.symm]
  refine wpD_cons ?_; refine op1_convInt rfl rfl (by exact wrap_i64 (by omega) (by omega)) ?_; refine zd1 ?_; refine zm ?_; refine zg ?_; refine zg ?_; refine zj (S.g0 hS) ?_; refine zd1 ?_; refine zd1 ?_; refine wpD_nil ?_; refine dk_of ?_ ?_; (iterate 4 refine chk_skip ?_); refine zx 15 ?_ ?_; refine zy 0 ?_ ?_; exact zq (S.g0 hS); exact chkFs_nil; (iterate 4 refine chk_skip ?_); refine zx 10 ?_ ?_; refine zy 0 ?_ ?_; exact zq (S.g0 hS); exact chkFs_nil; (iterate 6 refine chk_skip ?_); refine zx 3 ?_ ?_; refine zy 0 ?_ ?_; exact zq (S.g0 hS); exact chkFs_nil; (iterate 2 refine chk_skip ?_); exact chk_end; refine seq_normal ?_
  refine wp_cut [5] (fun vs H' => vs = [.int .i64 lim] ∧ H = H') ?_ ?_
  · have hl2 : lim = if s.window = 0 ∧ s0 = 0 then 1 else s.window := by rw [hlim, hs0]; rfl
    refine zsr ?_; refine zw1 ?_; refine zn ?_; refine zf ?_; refine zf ?_; refine zh (S.g0 hS) ?_; refine wpO_cons ?_; refine op1_eqlI rfl rfl rfl ?_; refine zw1 ?_; refine wpO_cons ?_
    refine op1_dec rfl (fun h1 => ?_) (fun h1 => ?_)
    · refine op1_mov rfl (by (conv => lhs; whnf) <;> rfl) ?_; refine wpO_cons ?_; refine op1_eqlI rfl rfl rfl ?_; refine zt ?_; refine zns ?_
      refine wp_dec rfl (fun h2 => ?_) (fun h2 => ?_)
      · rw [if_pos ⟨h1, h2⟩] at hl2
        refine wp_region ?_; refine zw1 ?_; refine wpO_nil ?_; refine cut1 (by (conv => lhs; whnf) <;> rfl) ?_
        rw [hl2]
        exact ⟨rfl, rfl⟩
      · rw [if_neg (fun h => h2 h.2)] at hl2
        refine wp_skip ?_; refine cut1 (by (conv => lhs; whnf) <;> rfl) ?_
        rw [hl2]
        exact ⟨rfl, rfl⟩
    · rw [if_neg (fun h => h1 h.1)] at hl2
      refine op1_skip rfl ?_; refine zk ?_; refine zu ?_; refine zns ?_; refine wp_false rfl ?_; refine wp_skip ?_; refine cut1 (by (conv => lhs; whnf) <;> rfl) ?_
      rw [hl2]
      exact ⟨rfl, rfl⟩
  rintro vs2 T2 H2 ⟨rfl, rfl⟩
  have hdr : s.dl lim s.out.length s0 s.nxt = s.dr := by rw [hlim, hs0]; rfl
  have hS0 := closeC (s := s) hS
  skip
  refine wp_cut [3, 4] (fun vs H' => ∃ (al : Option Addr) (cl : Nat), vs = [.slice al s.dr.1.length cl, .int .i64 s.dr.2.1] ∧ S B H' (repC p { s with nxt := s.dr.2.2 } :: arr 5 sgA (.slice al s.dr.1.length cl) s.dr.1 :: As)) ?_ ?_
  · refine wp_block ?_
    refine wp_loop [3, 4] (fun k vs H' => ∃ (f : Nat) (sent nx : Int) (l : List Sg) (al : Option Addr) (cl : Nat), vs = [.slice al l.length cl, .int .i64 sent] ∧ k = (s.out.length - sent).toNat ∧ 0 ≤ sent ∧ sent ≤ 4294967295 ∧ (0 ≤ nx ∧ nx ≤ 4294967295) ∧
        (l.length : Int) + max 0 (s.out.length - sent) ≤ 4096 ∧ s.out.length - sent ≤ f ∧ l ++ (s.dl lim f sent nx).1 = s.dr.1 ∧ (s.dl lim f sent nx).2 = s.dr.2 ∧ S B H' (repC p { s with nxt := nx } :: arr 5 sgA (.slice al l.length cl) l :: As))
      ⟨_, s.out.length, s0, s.nxt, [], none, 0, rfl, rfl, hs0b.1, hs0b.2, hnx, by simp; omega, by omega, by rw [hdr]; rfl, by rw [hdr], S.up1 (S.arrNil hS0)⟩ ?_
    clear hS hS0 ho hi
    rintro k vs T3 H3 ⟨f, sent, nx, l, al, cl, rfl, rfl, hse, hse2, hnxb, hlen, hf, hd1, hd2, hS⟩
    obtain ⟨ao, co, ai, ci, ho, hi, hO⟩ := openC hS
    have hS0 := hS
    clear hS
    have hS := hO
    clear hO
    unfold cnC at hS
    dsimp only at hS ho hi
    refine wp_seq ?_; refine zsr ?_; refine zw1 ?_; refine zw1 ?_; refine zn ?_; refine zf ?_; refine zf ?_; refine zh (S.g0 hS) ?_; refine wpO_cons ?_; refine op1_len rfl rfl ?_; refine wpO_cons ?_; refine op1_lss rfl rfl rfl ?_; refine zw1 ?_; refine wpO_cons ?_
    refine op1_dec rfl (fun h1 => ?_) (fun h1 => ?_)
    rotate_left
    · rw [dl_stop s lim f (fun h => h1 h.1)] at hd1 hd2
      refine op1_skip rfl ?_; refine zk ?_; refine zk ?_; refine zu ?_; refine zns ?_; refine wp_false rfl ?_; refine wp_exit ?_; refine seq_exit ?_; refine iter_exit ?_; refine block_exit ?_; refine cut2 (by (conv => lhs; whnf) <;> rfl) (by (conv => lhs; whnf) <;> rfl) ?_
      have e1 : l = s.dr.1 := by simpa using hd1
      have e2 : sent = s.dr.2.1 := congrArg (·.1) hd2
      have e3 : nx = s.dr.2.2 := congrArg (·.2) hd2
      subst e1 e2 e3
      exact ⟨al, cl, rfl, hS0⟩
    refine op1_mov rfl (by (conv => lhs; whnf) <;> rfl) ?_; refine zw1 ?_; refine wpO_cons ?_; refine op1_lss rfl rfl rfl ?_; refine zt ?_; refine zns ?_
    refine wp_dec rfl (fun h2 => ?_) (fun h2 => ?_)
    rotate_left
    · rw [dl_stop s lim f (fun h => h2 h.2)] at hd1 hd2
      refine wp_exit ?_; refine seq_exit ?_; refine iter_exit ?_; refine block_exit ?_; refine cut2 (by (conv => lhs; whnf) <;> rfl) (by (conv => lhs; whnf) <;> rfl) ?_
      have e1 : l = s.dr.1 := by simpa using hd1
      have e2 : sent = s.dr.2.1 := congrArg (·.1) hd2
      have e3 : nx = s.dr.2.2 := congrArg (·.2) hd2
      subst e1 e2 e3
      exact ⟨al, cl, rfl, hS0⟩
    clear hS0
    obtain ⟨n, hn⟩ : ∃ n : Nat, n = (s.dn lim sent).toNat := ⟨_, rfl⟩
    have hnd : s.dn lim sent = min (min s.size (s.out.length - sent)) (lim - sent) := rfl
    have hni : (n : Int) = min (min s.size (s.out.length - sent)) (lim - sent) := by omega
    have hnd2 : s.dn lim sent = n := by omega
    obtain ⟨sn, rfl⟩ : ∃ sn : Nat, sent = sn := ⟨sent.toNat, by omega⟩
    have hse3 : sn + n ≤ s.out.length := by omega
    have hn1 : 1 ≤ n := by omega
    obtain ⟨f, rfl⟩ : ∃ f', f = f' + 1 := ⟨f - 1, by omega⟩
    rw [Cn.dl, if_pos ⟨h1, h2⟩, hnd2, Int.toNat_natCast, Int.toNat_natCast] at hd1 hd2
    refine wp_skip ?_; refine seq_normal ?_; refine wp_block ?_; refine wp_seq ?_; refine wp_regionD ?_; refine zd1 ?_; refine zm ?_; refine zg ?_; refine zg ?_; refine zj (S.g0 hS) ?_; refine zd1 ?_; refine zm ?_; refine zg ?_; refine zg ?_; refine zj (S.g0 hS) ?_; refine wpD_cons ?_; refine op1_len rfl rfl ?_; refine zd1 ?_; refine wpD_cons ?_; refine op1_sub rfl rfl rfl (by exact wrap_i64 (by omega) (by omega)) ?_; refine zd1 ?_; refine zd1 ?_; refine wpD_cons ?_; refine op1_sub rfl rfl rfl (by exact wrap_i64 (by omega) (by omega)) ?_; refine wpD_cons ?_
    refine op1_min3 rfl rfl rfl rfl ?_
    rw [← hni]
    refine zd1 ?_; refine wpD_nil ?_; refine dk_of ?_ ?_; (iterate 4 refine chk_skip ?_); refine zx 14 ?_ ?_; refine zy 0 ?_ ?_; exact zq (S.g0 hS); exact chkFs_nil; (iterate 4 refine chk_skip ?_); refine zx 9 ?_ ?_; refine zy 0 ?_ ?_; exact zq (S.g0 hS); exact chkFs_nil; refine zx 8 ?_ ?_; refine zy 0 ?_ ?_; exact chk_len rfl rfl; exact chkFs_nil; (iterate 7 refine chk_skip ?_); exact chk_end; refine seq_normal ?_; refine wp_seq ?_; refine wp_regionD ?_; refine zd1 ?_; refine zd1 ?_; refine zd1 ?_; refine zm ?_; refine zg ?_; refine zg ?_; refine zj (S.g0 hS) ?_; refine zd1 ?_; refine zm ?_; refine zg ?_; refine zg ?_; refine zj (S.g0 hS) ?_; refine zd1 ?_; refine zd1 ?_; refine zd1 ?_; refine wpD_cons ?_; refine op1_add rfl rfl rfl (by exact wrap_i64 (by omega) (by omega)) ?_; refine zd1 ?_; refine zd1 ?_; refine wpD_cons ?_; refine op1_add rfl rfl rfl (by exact wrap_i64 (by omega) (by omega)) ?_; refine wpD_cons ?_
    refine op1_slice3D rfl rfl (RD.cons RD.head) hS (bnds_all3 (by omega) (by omega) (by omega) (by omega)) (by omega) (by omega) (by omega) (by omega) ?_
    simp only [Nat.mul_one, show (sn : Int).toNat = sn from rfl, show ((sn : Int) + (n : Int)).toNat = sn + n by omega, show sn + n - sn = n by omega]
    intro a1 c1 hd1' hck
    rw [u8s_drop, u8s_take] at hd1'
    have hT := hS
    have hdl : ((s.out.drop sn).take n).length = n := by rw [List.length_take, List.length_drop]; omega
    refine wpD_cons ?_; refine op1_call4 rfl (by (conv => lhs; whnf) <;> rfl) (by (conv => lhs; whnf) <;> rfl) (by (conv => lhs; whnf) <;> rfl) (by (conv => lhs; whnf) <;> rfl) ?_
    refine wpF_mono (L76 (s := { s with nxt := nx }) (d := (s.out.drop sn).take n) hil hd1' (by omega) ⟨_, _, _, rfl⟩ hS) ?_
    clear hS
    rintro _ H5 ⟨a2, c2, rfl, hS⟩
    obtain ⟨css, hcss, hcl, hS⟩ := S.unarr (S.up4 hS)
    have hone := sg_one (S.up1 hS)
    unfold sgC
    refine wpD_cons ?_; refine op1_bsliceS rfl hS ?_; refine bk_agg rfl rfl rfl rfl ?_; refine bk_nil ?_; intro p1 H1 hS; refine wpD_cons ?_; (refine op1_appBS rfl rfl (by (conv => lhs; whnf) <;> rfl) rfl (S.g0 hS) rfl rfl (S.up1 hS) (by omega) ?_; intro a3 c3 H2 hS; replace hS := S.dn1 hS; replace hS := S.drop hS); refine zd1 ?_; refine wpD_nil ?_; refine dk_of ?_ ?_; (iterate 6 refine chk_skip ?_); refine zx 18 ?_ ?_; refine zy 4 ?_ ?_; exact zq (S.g0 hT); exact chkFs_nil; (iterate 4 refine chk_skip ?_); refine zx 13 ?_ ?_; refine zy 4 ?_ ?_; exact zq (S.g0 hT); exact chkFs_nil; (iterate 7 refine chk_skip ?_); refine zx 5 ?_ ?_; refine zy 4 ?_ ?_
    · exact hck _ _ hT rfl
    exact chkFs_nil; (iterate 4 refine chk_skip ?_); exact chk_end; refine seq_normal ?_; refine zsr ?_; refine zw1 ?_; refine zw1 ?_; refine wpO_cons ?_; refine op1_add rfl rfl rfl (by exact wrap_i64 (by omega) (by omega)) ?_; refine zw1 ?_; refine zns ?_; refine wp_region ?_; refine zw1 ?_; refine zn ?_; refine zf ?_; refine zf ?_; refine zh (S.g3 hS) ?_; refine zw1 ?_; refine wpO_cons ?_
    refine op1_convInt rfl rfl (by rw [wrap_u32]; omega) ?_
    refine wpO_cons ?_
    refine op1_addW rfl rfl rfl ?_
    refine zn ?_; refine zf ?_; refine zf ?_; refine wpO_cons ?_; (refine op1_store1S rfl rfl (by (conv => lhs; whnf) <;> rfl) rfl rfl (S.up3 hS) rfl ?_; intro H4 hS; replace hS := S.dn3 hS); refine wpO_nil ?_; refine block_normal ?_
    have h9 := sg_snoc (g := s.sgm 2 nx ((s.out.drop sn).take n)) (l := l) (n := l.length) hcss rfl (S.up1 (S.up2 hS))
    refine ⟨(s.out.length - ((sn : Int) + n)).toNat, by omega, f, (sn : Int) + n, IntKind.u32.wrap (nx + n), l ++ [s.sgm 2 nx ((s.out.drop sn).take n)], _, _, by rw [List.length_append]; rfl, rfl, by omega, by omega, by rw [wrap_u32]; omega, by rw [List.length_append]; simp; omega, by omega, by rw [List.append_assoc]; exact hd1, hd2, ?_⟩
    exact closeC (s := { s with nxt := IntKind.u32.wrap (nx + n) }) (S.up3 (S.up3 (S.up3 h9)))
  clear hS hS0
  rintro vs3 T3 H3 ⟨al, cl, rfl, hS⟩
  have hdfl : ∀ g ∈ s.dr.1, g.fl = 2 := dl_fl s _ _ _ _
  have hdle : s.dr.1.length ≤ 4096 := by
    have h1 := dl_len s s.dlim hsz.1 s.out.length s.sent0 s.nxt (by rw [← hs0]; omega)
    have h2 : s.dr.1 = (s.dl s.dlim s.out.length s.sent0 s.nxt).1 := rfl
    have h3 : 0 ≤ s.sent0 := by rw [← hs0]; omega
    rw [h2]; omega
  unfold Cn.dat
  obtain ⟨l, hl⟩ : ∃ z, z = s.dr.1 := ⟨_, rfl⟩
  obtain ⟨sent, hsent⟩ : ∃ z, z = s.dr.2.1 := ⟨_, rfl⟩
  obtain ⟨N, hN⟩ : ∃ z, z = s.dr.2.2 := ⟨_, rfl⟩
  rw [← hl] at hdfl hdle
  rw [← hl, ← hN] at hS
  rw [← hl, ← hsent, ← hN]
  clear hl hN
  obtain ⟨fin, hfin⟩ : ∃ z, z = s.finNow sent := ⟨_, rfl⟩
  rw [← hfin]
  obtain ⟨ao, co, ai, ci, ho, hi, hO⟩ := openC hS
  have hS0 := hS
  clear hS
  have hS := hO
  clear hO
  unfold cnC at hS
  dsimp only at hS ho hi
  refine wp_seq ?_
  refine wp_cut [131] (fun vs H' => vs = [.bool fin] ∧ H3 = H') ?_ ?_
  · obtain ⟨f1, hf1⟩ : ∃ z, z = s.asked := ⟨_, rfl⟩
    obtain ⟨f2, hf2⟩ : ∃ z, z = s.finSent := ⟨_, rfl⟩
    obtain ⟨f3, hf3⟩ : ∃ z, z = s.finGone := ⟨_, rfl⟩
    have hfin2 : fin = (f1 && (!f2 && (!f3 && decide (sent = s.out.length)))) := by rw [hfin, hf1, hf2, hf3]; rfl
    rw [← hf1, ← hf2, ← hf3] at hS
    cases f1
    · refine wp_region ?_; refine zw1 ?_; refine zn ?_; refine zf ?_; refine zf ?_; refine zh (S.g0 hS) ?_; refine zw1 ?_; (iterate 6 refine zk ?_); refine zu ?_; refine zw1 ?_; (iterate 6 refine zk ?_); refine zu ?_; refine zw1 ?_; (iterate 8 refine zk ?_); refine zu ?_; refine wpO_nil ?_; refine cut1 (by (conv => lhs; whnf) <;> rfl) ?_
      rw [hfin2]
      exact ⟨rfl, rfl⟩
    cases f2
    rotate_left
    · refine wp_region ?_; refine zw1 ?_; refine zn ?_; refine zf ?_; refine zf ?_; refine zh (S.g0 hS) ?_; refine zw1 ?_; refine zw1 ?_; refine zn ?_; refine zf ?_; refine zf ?_; refine zh (S.g0 hS) ?_; refine wpO_cons ?_; refine op1_not_t rfl rfl ?_; refine zt ?_; refine zw1 ?_; (iterate 6 refine zk ?_); refine zu ?_; refine zw1 ?_; (iterate 8 refine zk ?_); refine zu ?_; refine wpO_nil ?_; refine cut1 (by (conv => lhs; whnf) <;> rfl) ?_
      rw [hfin2]
      exact ⟨rfl, rfl⟩
    cases f3
    rotate_left
    · refine wp_region ?_; refine zw1 ?_; refine zn ?_; refine zf ?_; refine zf ?_; refine zh (S.g0 hS) ?_; refine zw1 ?_; refine zw1 ?_; refine zn ?_; refine zf ?_; refine zf ?_; refine zh (S.g0 hS) ?_; refine wpO_cons ?_; refine op1_not_f rfl rfl ?_; refine zt ?_; refine zw1 ?_; refine zw1 ?_; refine zn ?_; refine zf ?_; refine zf ?_; refine zh (S.g0 hS) ?_; refine wpO_cons ?_; refine op1_not_t rfl rfl ?_; refine zt ?_; refine zw1 ?_; (iterate 8 refine zk ?_); refine zu ?_; refine wpO_nil ?_; refine cut1 (by (conv => lhs; whnf) <;> rfl) ?_
      rw [hfin2]
      exact ⟨rfl, rfl⟩
    refine wp_region ?_; refine zw1 ?_; refine zn ?_; refine zf ?_; refine zf ?_; refine zh (S.g0 hS) ?_; refine zw1 ?_; refine zw1 ?_; refine zn ?_; refine zf ?_; refine zf ?_; refine zh (S.g0 hS) ?_; refine wpO_cons ?_; refine op1_not_f rfl rfl ?_; refine zt ?_; refine zw1 ?_; refine zw1 ?_; refine zn ?_; refine zf ?_; refine zf ?_; refine zh (S.g0 hS) ?_; refine wpO_cons ?_; refine op1_not_f rfl rfl ?_; refine zt ?_; refine zw1 ?_; refine zw1 ?_; refine zw1 ?_; refine zn ?_; refine zf ?_; refine zf ?_; refine zh (S.g0 hS) ?_; refine wpO_cons ?_; refine op1_len rfl rfl ?_; refine wpO_cons ?_; refine op1_eqlI rfl rfl rfl ?_; refine zt ?_; refine wpO_nil ?_; refine cut1 (by (conv => lhs; whnf) <;> rfl) ?_
    rw [hfin2]
    exact ⟨rfl, rfl⟩
  rintro vs4 T4 H4 ⟨rfl, rfl⟩
  cases fin
  · rw [if_neg (by simp)]
    refine wp_false rfl ?_; refine wp_skip ?_; refine seq_normal ?_; refine zsr ?_; refine zw1 ?_; refine zw1 ?_; refine zns ?_; refine wp_ret ?_; refine ret_of ?_; refine zr ?_; refine rk_nil ?_
    exact S.up1 hS0
  rw [if_pos rfl]
  refine wp_true rfl ?_
  refine wp_cut [3] (fun vs H' => ∃ (l3 : List Sg) (g : Sg) (al : Option Addr) (cl : Nat), vs = [.slice al (l3.length + 1) cl] ∧ l3.length ≤ 4096 ∧ g.fl = 2 ∧ addFin s N l = l3 ++ [{ g with fl := 6 }] ∧ S B H' (repC p { s with nxt := N } :: arr 5 sgA (.slice al (l3.length + 1) cl) (l3 ++ [g]) :: As)) ?_ ?_
  · refine zsr ?_; refine zw1 ?_; refine wpO_cons ?_; refine op1_len rfl rfl ?_; refine wpO_cons ?_; refine op1_eqlI rfl rfl rfl ?_; refine zns ?_
    refine wp_dec rfl (fun h1 => ?_) (fun h1 => ?_)
    · obtain rfl : l = [] := List.eq_nil_of_length_eq_zero (by omega)
      refine wp_region ?_; refine zw1 ?_; refine zw1 ?_; refine zw1 ?_; refine zn ?_; refine zf ?_; refine zf ?_; refine zh (S.g0 hS) ?_; refine wpO_cons ?_; refine op1_call4 rfl (by (conv => lhs; whnf) <;> rfl) (by (conv => lhs; whnf) <;> rfl) (by (conv => lhs; whnf) <;> rfl) (by (conv => lhs; whnf) <;> rfl) ?_
      refine wpF_mono (L76 (s := { s with nxt := N }) (d := []) hil (fun H h => ⟨[], .nil, by simp⟩) (by simp) ⟨_, _, _, rfl⟩ hS) ?_
      clear hS
      rintro _ H5 ⟨a2, c2, rfl, hS⟩
      obtain ⟨css, hcss, hcl, hS⟩ := S.unarr (S.up4 hS)
      have hone := sg_one (S.up1 hS)
      unfold sgC
      refine wpO_cons ?_; refine op1_bsliceS rfl hS ?_; refine bk_agg rfl rfl rfl rfl ?_; refine bk_nil ?_; intro p1 H1 hS; refine wpO_cons ?_; (refine op1_appBS rfl rfl (by (conv => lhs; whnf) <;> rfl) rfl (S.g0 hS) rfl rfl (S.up1 hS) (by omega) ?_; intro a1 c1 H2 hS; replace hS := S.dn1 hS; replace hS := S.drop hS); refine zw1 ?_; refine wpO_nil ?_; refine cut1 (by (conv => lhs; whnf) <;> rfl) ?_
      have h9 := sg_snoc (g := s.sgm 2 N []) (l := []) (n := 0) hcss rfl (S.up1 (S.up2 hS))
      exact ⟨[], s.sgm 2 N [], _, _, rfl, by simp, rfl, rfl, closeC (s := { s with nxt := N }) (S.up3 (S.up3 (S.up3 h9)))⟩
    · refine wp_skip ?_; refine cut1 (by (conv => lhs; whnf) <;> rfl) ?_
      obtain ⟨l3, g, rfl⟩ : ∃ l3 g, l = l3 ++ [g] := ⟨l.dropLast, l.getLast (by rintro rfl; simp at h1), (List.dropLast_concat_getLast _).symm⟩
      rw [List.length_append, List.length_singleton] at hS0 hdle
      rw [List.length_append, List.length_singleton]
      exact ⟨l3, g, al, cl, rfl, by omega, hdfl g (by simp), addFin_snoc _ _ _ _, hS0⟩
  clear hS hS0 hdfl hdle
  rintro vs5 T5 H5 ⟨l3, g, al, cl, rfl, hl3, hg2, hadd, hS⟩
  rw [hadd]
  obtain ⟨css, hcss, hcl, hS⟩ := S.unarr (S.up1 hS)
  obtain ⟨css, cs1, rfl, hS⟩ := S.many_unapp (S.up1 hS)
  obtain ⟨cs, rfl, hS⟩ := S.many_unone (S.up1 hS)
  obtain ⟨ag, cg, rfl, hcg, hS⟩ := sgA_un hS
  obtain ⟨ao, co, ai, ci, ho, hi, hO⟩ := openC (S.up3 hS)
  clear hS
  have hS := hO
  clear hO
  unfold cnC at hS
  dsimp only at hS ho hi
  have hcl3 : css.length = l3.length := S.many_len (S.up4 hS)
  have hfl5 : css.flatten.length = l3.length * 5 := by
    rw [← hcl3]
    exact flat_len5 css fun c hc => hcss c (by simp [hc])
  obtain ⟨lb, lo, lcs, rfl, _⟩ := S.slBlk (S.up5 hS) (by omega)
  have ef : (css ++ [sgC g (.slice ag g.data.length cg)]).flatten = css.flatten ++ sgC g (.slice ag g.data.length cg) := by simp
  rw [ef] at hS
  have hat : (css.flatten ++ sgC g (.slice ag g.data.length cg))[l3.length * 5]? = some (.int .i64 2) := by
    rw [List.getElem?_append_right (by omega), hfl5, Nat.sub_self, ← hg2]; rfl
  refine zsr ?_; refine zw1 ?_; refine zw1 ?_; refine wpO_cons ?_; refine op1_len rfl rfl ?_; refine wpO_cons ?_; refine op1_sub rfl rfl rfl (by exact wrap_i64 (by omega) (by omega)) ?_; refine wpO_cons ?_; refine op1_iaddr rfl rfl rfl (by omega) (by omega) ?_; refine wpO_cons ?_; refine op1_faddr rfl rfl ?_; refine wpO_cons ?_
  rw [show ((l3.length + 1 : Nat) : Int) - 1 = (l3.length : Int) by omega]
  skip
  refine op1_loadL (k := l3.length * 5) rfl rfl (S.up5 hS) (by simp) (by omega) hat ?_
  refine wpO_cons ?_; refine op1_or rfl rfl rfl ?_; refine wpO_cons ?_; refine op1_iaddr rfl rfl rfl (by omega) (by omega) ?_; refine wpO_cons ?_; refine op1_faddr rfl rfl ?_; refine wpO_cons ?_
  refine op1_store1L (k := l3.length * 5) rfl rfl (by (conv => lhs; whnf) <;> rfl) rfl rfl (S.up5 hS) (by omega) ?_
  intro H6 hS
  replace hS := S.dn5 hS
  have eset : (css.flatten ++ sgC g (.slice ag g.data.length cg)).set (l3.length * 5) (.int .i64 (bitOr .i64 2 4)) = css.flatten ++ sgC { g with fl := 6 } (.slice ag g.data.length cg) := by
    rw [List.set_append_right _ _ (by omega), hfl5, Nat.sub_self]; rfl
  rw [eset] at hS
  refine zns ?_; refine zsr ?_; refine zw1 ?_; refine zn ?_; refine zf ?_; refine zf ?_; refine wpO_cons ?_; (refine op1_store1S rfl rfl (by (conv => lhs; whnf) <;> rfl) rfl rfl (S.up0 hS) rfl ?_; intro H1 hS; replace hS := S.dn0 hS); refine zns ?_; refine wp_region ?_; refine zw1 ?_; refine zn ?_; refine zf ?_; refine zf ?_; refine zh (S.g0 hS) ?_; refine wpO_cons ?_
  refine op1_addW rfl rfl rfl ?_
  refine zn ?_; refine zf ?_; refine zf ?_; refine wpO_cons ?_; (refine op1_store1S rfl rfl (by (conv => lhs; whnf) <;> rfl) rfl rfl (S.up0 hS) rfl ?_; intro H2 hS; replace hS := S.dn0 hS); refine zns ?_; refine zsr ?_; refine zw1 ?_; refine zw1 ?_; refine zns ?_; refine wp_ret ?_; refine ret_of ?_; refine zr ?_; refine rk_nil ?_
  have h9 := sg_snoc (g := { g with fl := 6 }) (l := l3) (n := l3.length) (fun c hc => hcss c (by simp [hc])) rfl (S.up2 (S.dn3 (closeC (s := { s with nxt := IntKind.u32.wrap (N + 1), finSent := true }) hS)))
  rw [List.length_append] at h9
  exact h9
end
end Go.E.St
/- A connection: Output, Next. -/
namespace Go.E.St
open Go Go.E Go.Proofs.Ytamcfhhcmjagnaa Go.Proofs
set_option linter.unusedVariables false
set_option linter.unusedSimpArgs false
set_option maxRecDepth 100000
def Cn.hello (s : Cn) : Sg := if s.st = 2 then ⟨1, s.first, 0, 4096 - s.inc.length, []⟩ else s.sgm 3 s.first []
def Cn.segs (s : Cn) : List Sg × Cn :=
  if s.st = 2 ∨ s.st = 3 then (if s.nxt ≠ s.first then ([], s) else ([s.hello], { s with nxt := IntKind.u32.wrap (s.nxt + 1) }))
  else if s.st = 4 ∨ s.st = 5 ∨ s.st = 6 ∨ s.st = 7 then s.dat else ([], s)
def Cn.ackd (s : Cn) (l : List Sg) : List Sg := if s.due = true ∧ l.length = 0 ∧ s.synced = true then [s.sgm 2 s.nxt []] else l
def Cn.mark (now : Int) (s : Cn) (g : Sg) : Cn := { s with due := s.due && !has g.fl 2, run := s.run || decide (0 < lenS g), since := if 0 < lenS g ∧ s.run = false then now else s.since }
def Cn.sent (s : Cn) (now : Int) : List Sg × Cn := (s.segs.2.ackd s.segs.1, (s.segs.2.ackd s.segs.1).foldl (Cn.mark now) s.segs.2)
def Cn.output (s : Cn) (now : Int) : Int × List Sg × Cn :=
  if ¬ (0 ≤ now ∧ now ≤ 1099511627776) then (34, [], s)
  else if now < s.clock then (30, [], s)
  else if s.rst = true then (0, [⟨10, s.nxt, s.rcv, 0, []⟩], { s with clock := now, rst := false })
  else if s.st = 9 then (4, [], s)
  else if s.st = 0 then (35, [], s)
  else if s.lateB now = true then (4, [], s.late now)
  else (0, ({ s.late now with clock := now } : Cn).sent now)
theorem w32b (x : Int) : 0 ≤ IntKind.u32.wrap x ∧ IntKind.u32.wrap x ≤ 4294967295 := by rw [wrap_u32]; omega
theorem sg_single {B H : AHeap} {As : List Asn} {q : Nat} {g : Sg} {vd : Value} (h : S B H (pto q (.cells (sgC g vd) 5 false) :: sl 1 vd (u8s g.data) :: As)) : S B H (arr 5 sgA (.slice (some ⟨q, 0, none⟩) 1 1) [g] :: As) := by
  have h1 := S.slNew (l := 1) (es := 5) h rfl
  have h2 := S.many_one (sgA_of (w := g) (S.up1 h1))
  exact S.arrI (css := [sgC g vd]) (S.up1 h2) (by simp [sgC])
theorem Ok.late {s : Cn} {now : Int} (h : Ok s) (hn : 0 ≤ now ∧ now ≤ 1099511627776) : Ok (s.late now) := by
  unfold Cn.late
  split
  · exact h
  split
  · exact ⟨h.first, h.una, h.nxt, h.rcv, h.size, h.window, h.out, h.inc, h.pat, h.tmo, h.since, h.clock, h.reps, by simp, by simp⟩
  · rename_i h1 h2
    have := h.tmo
    have := h.reps
    exact ⟨h.first, h.una, h.una, h.rcv, h.size, h.window, h.out, h.inc, h.pat, by show 1 ≤ min (2 * s.tmo) 65536 ∧ min (2 * s.tmo) 65536 ≤ 65536; omega, hn, h.clock, by show 0 ≤ s.reps + 1 ∧ s.reps + 1 ≤ 8; omega, h.st, h.syn⟩
theorem dl_nx (s : Cn) (lim : Int) : ∀ (f : Nat) (sent nx : Int), 0 ≤ nx ∧ nx ≤ 4294967295 → 0 ≤ (s.dl lim f sent nx).2.2 ∧ (s.dl lim f sent nx).2.2 ≤ 4294967295
  | 0, _, _, h => h
  | f + 1, sent, nx, h => by
    rw [Cn.dl]
    split
    · exact dl_nx s lim f _ _ (by rw [wrap_u32]; omega)
    · exact h
theorem Ok.dat {s : Cn} (h : Ok s) : Ok s.dat.2 := by
  have hb : 0 ≤ s.dr.2.2 ∧ s.dr.2.2 ≤ 4294967295 := dl_nx s _ _ _ _ h.nxt
  unfold Cn.dat
  split
  · exact ⟨h.first, h.una, w32b _, h.rcv, h.size, h.window, h.out, h.inc, h.pat, h.tmo, h.since, h.clock, h.reps, h.st, h.syn⟩
  · exact ⟨h.first, h.una, hb, h.rcv, h.size, h.window, h.out, h.inc, h.pat, h.tmo, h.since, h.clock, h.reps, h.st, h.syn⟩
theorem Ok.segs {s : Cn} (h : Ok s) : Ok s.segs.2 := by
  unfold Cn.segs
  split
  · split
    · exact h
    · exact ⟨h.first, h.una, w32b _, h.rcv, h.size, h.window, h.out, h.inc, h.pat, h.tmo, h.since, h.clock, h.reps, h.st, h.syn⟩
  split
  · exact h.dat
  · exact h
section
variable {B H : AHeap} {As : List Asn} {p : Nat} {s : Cn} {g : Sg}
theorem L75 (hok : Ok s) (hS : S B H (repC p s :: As)) : wpF C 75 [ptC p] H fun v H' => S B H' (arr 5 sgA v s.segs.1 :: repC p s.segs.2 :: As) := by
  have hil := hok.inc
  have hS0 := hS
  obtain ⟨ao, co, ai, ci, ho, hi, hO⟩ := openC hS
  refine wpF_ofW o75 rfl rfl ?_
  clear hS
  have hS := hO
  clear hO
  unfold cnC at hS
  unfold ptC Cn.segs
  refine zsr ?_; refine zw1 ?_; refine zns ?_; refine wp_seq ?_; refine zsr ?_; refine zw1 ?_; refine zn ?_; refine zf ?_; refine zh (S.g0 hS) ?_; refine zns ?_; refine wp_block ?_
  refine wp_cut [7] (fun vs H' => vs = [.bool (decide (s.st = 2 ∨ s.st = 3))] ∧ H = H') ?_ ?_
  · refine zsr ?_; refine wpO_cons ?_; refine op1_eqlI rfl rfl rfl ?_; refine zw1 ?_; refine zns ?_
    refine wp_dec rfl (fun h1 => ?_) (fun h1 => ?_)
    · refine wp_skip ?_; refine cut1 (by (conv => lhs; whnf) <;> rfl) ?_
      exact ⟨bool_leaf (by simp [h1]), rfl⟩
    · refine wp_region ?_; refine wpO_cons ?_; refine op1_eqlI rfl rfl rfl ?_; refine zw1 ?_; refine wpO_nil ?_; refine cut1 (by (conv => lhs; whnf) <;> rfl) ?_
      exact ⟨bool_leaf (by simp [h1]), rfl⟩
  rintro vs2 T2 H2 ⟨rfl, rfl⟩
  refine wp_dec rfl (fun h1 => ?_) (fun h1 => ?_)
  · rw [if_pos h1]
    refine wp_seq ?_; refine wp_seq ?_; refine wp_regionD ?_; refine zd1 ?_; refine zm ?_; refine zg ?_; refine zg ?_; refine zj (S.g0 hS) ?_; refine zd1 ?_; refine zm ?_; refine zg ?_; refine zg ?_; refine zj (S.g0 hS) ?_; refine wpD_cons ?_; refine op1_neqI rfl rfl rfl ?_; refine wpD_nil ?_; refine dk_of ?_ ?_; (iterate 4 refine chk_skip ?_); refine zx 7 ?_ ?_; refine zy 0 ?_ ?_; exact zq (S.g0 hS); exact chkFs_nil; (iterate 4 refine chk_skip ?_); refine zx 2 ?_ ?_; refine zy 0 ?_ ?_; exact zq (S.g0 hS); exact chkFs_nil; refine chk_skip ?_; exact chk_end; refine seq_normal ?_
    refine wp_ndec rfl (fun h2 => ?_) (fun h2 => ?_)
    · rw [if_pos h2]
      refine zsr ?_; refine zw1 ?_; refine zns ?_; refine wp_ret ?_; refine seq_ret ?_; refine block_ret ?_; refine seq_ret ?_; refine ret_of ?_; refine zr ?_; refine rk_nil ?_
      exact S.arrNil hS0
    rw [if_neg (fun h => h h2)]
    refine wp_skip ?_; refine seq_normal ?_; refine zsr ?_; refine zw1 ?_; refine zn ?_; refine zf ?_; refine zf ?_; refine zh (S.g0 hS) ?_; refine wpO_cons ?_
    refine op1_addW rfl rfl rfl ?_
    refine zn ?_; refine zf ?_; refine zf ?_; refine wpO_cons ?_; (refine op1_store1S rfl rfl (by (conv => lhs; whnf) <;> rfl) rfl rfl (S.up0 hS) rfl ?_; intro H1 hS; replace hS := S.dn0 hS); refine zns ?_; refine wp_seq ?_; refine zsr ?_; refine zw1 ?_; refine zn ?_; refine zf ?_; refine zh (S.g0 hS) ?_; refine wpO_cons ?_; refine op1_eqlI rfl rfl rfl ?_; refine zns ?_
    unfold Cn.hello
    refine wp_dec rfl (fun h3 => ?_) (fun h3 => ?_)
    · rw [if_pos h3]
      refine wp_seq ?_; refine wp_regionD ?_; refine zd1 ?_; refine zm ?_; refine zg ?_; refine zg ?_; refine zj (S.g0 hS) ?_; refine zd1 ?_; refine zm ?_; refine zg ?_; refine wpD_cons ?_; refine op1_call1 rfl (by (conv => lhs; whnf) <;> rfl) ?_
      refine wpF_mono (L66 (s := { s with nxt := IntKind.u32.wrap (s.nxt + 1) }) (by omega) hS) ?_
      rintro _ H5 ⟨rfl, rfl⟩
      refine wpD_cons ?_; refine op1_build rfl ?_; refine bk_one (by (conv => lhs; whnf) <;> rfl) rfl rfl rfl ?_; refine bk_one (by (conv => lhs; whnf) <;> rfl) rfl rfl rfl ?_; refine bk_one (by (conv => lhs; whnf) <;> rfl) rfl rfl rfl ?_; refine bk_nil ?_; refine wpD_cons ?_; refine op1_bsliceS rfl hS ?_; refine bk_agg rfl rfl rfl rfl ?_; refine bk_nil ?_; intro p1 H2 hS; refine zd1 ?_; refine wpD_nil ?_; refine dk_of ?_ ?_; (iterate 4 refine chk_skip ?_); refine zx 8 ?_ ?_; refine zy 4 ?_ ?_; exact chk_load rfl (by exact S.g0 (by assumption)) rfl rfl; refine zy 0 ?_ ?_; exact zq (S.g1 hS); exact chkFs_nil; (iterate 7 refine chk_skip ?_); exact chk_end; refine seq_normal ?_; refine wp_ret ?_; refine seq_ret ?_; refine block_ret ?_; refine seq_ret ?_; refine ret_of ?_; refine zr ?_; refine rk_nil ?_
      exact sg_single (g := ⟨1, s.first, 0, 4096 - s.inc.length, []⟩) (vd := .slice none 0 0) (S.up1 (S.slNil (S.up1 (closeC (s := { s with nxt := IntKind.u32.wrap (s.nxt + 1) }) (S.up3 (S.up3 (S.up3 hS)))))))
    · rw [if_neg h3]
      refine wp_skip ?_; refine seq_normal ?_; refine zsr ?_; refine zw1 ?_; refine zw1 ?_; refine zn ?_; refine zf ?_; refine zf ?_; refine zh (S.g0 hS) ?_; refine wpO_cons ?_; refine op1_call4 rfl (by (conv => lhs; whnf) <;> rfl) (by (conv => lhs; whnf) <;> rfl) (by (conv => lhs; whnf) <;> rfl) (by (conv => lhs; whnf) <;> rfl) ?_
      refine wpF_mono (L76 (s := { s with nxt := IntKind.u32.wrap (s.nxt + 1) }) (d := []) hil (fun H h => ⟨[], .nil, by simp⟩) (by simp) ⟨_, _, _, rfl⟩ hS) ?_
      clear hS
      rintro _ H5 ⟨a2, c2, rfl, hS⟩
      unfold sgC
      refine wpO_cons ?_; refine op1_bsliceS rfl hS ?_; refine bk_agg rfl rfl rfl rfl ?_; refine bk_nil ?_; intro p1 H2 hS; refine zw1 ?_; refine zns ?_; refine wp_ret ?_; refine block_ret ?_; refine seq_ret ?_; refine ret_of ?_; refine zr ?_; refine rk_nil ?_
      exact sg_single (g := s.sgm 3 s.first []) (vd := .slice a2 0 c2) (S.dn2 (S.up1 (S.up1 (closeC (s := { s with nxt := IntKind.u32.wrap (s.nxt + 1) }) (S.up4 (S.up4 (S.up4 hS)))))))
  rw [if_neg h1]
  skip
  refine wp_cut [54] (fun vs H' => vs = [.bool (decide (s.st = 4 ∨ s.st = 5 ∨ s.st = 6 ∨ s.st = 7))] ∧ H = H') ?_ ?_
  · refine zsr ?_; refine wpO_cons ?_; refine op1_eqlI rfl rfl rfl ?_; refine zw1 ?_; refine zns ?_
    refine wp_dec rfl (fun h4 => ?_) (fun h4 => ?_)
    · refine wp_skip ?_; refine cut1 (by (conv => lhs; whnf) <;> rfl) ?_
      exact ⟨bool_leaf (by simp [h4]), rfl⟩
    refine zsr ?_; refine wpO_cons ?_; refine op1_eqlI rfl rfl rfl ?_; refine zw1 ?_; refine zns ?_
    refine wp_dec rfl (fun h5 => ?_) (fun h5 => ?_)
    · refine wp_skip ?_; refine cut1 (by (conv => lhs; whnf) <;> rfl) ?_
      exact ⟨bool_leaf (by simp [h5]), rfl⟩
    refine zsr ?_; refine wpO_cons ?_; refine op1_eqlI rfl rfl rfl ?_; refine zw1 ?_; refine zns ?_
    refine wp_dec rfl (fun h6 => ?_) (fun h6 => ?_)
    · refine wp_skip ?_; refine cut1 (by (conv => lhs; whnf) <;> rfl) ?_
      exact ⟨bool_leaf (by simp [h6]), rfl⟩
    · refine wp_region ?_; refine wpO_cons ?_; refine op1_eqlI rfl rfl rfl ?_; refine zw1 ?_; refine wpO_nil ?_; refine cut1 (by (conv => lhs; whnf) <;> rfl) ?_
      exact ⟨bool_leaf (by simp [h4, h5, h6]), rfl⟩
  rintro vs3 T3 H3 ⟨rfl, rfl⟩
  refine wp_dec rfl (fun h4 => ?_) (fun h4 => ?_)
  · rw [if_pos h4]
    refine zsr ?_; refine zw1 ?_; refine wpO_cons ?_; refine op1_call1 rfl (by (conv => lhs; whnf) <;> rfl) ?_
    refine wpF_mono (L90 hok hS0) ?_
    clear hS hS0
    intro v5 H5 hS
    refine zw1 ?_; refine zns ?_; refine wp_ret ?_; refine block_ret ?_; refine seq_ret ?_; refine ret_of ?_; refine zr ?_; refine rk_nil ?_
    exact hS
  · rw [if_neg h4]
    refine wp_skip ?_; refine block_normal ?_; refine seq_normal ?_; refine zsr ?_; refine zw1 ?_; refine zns ?_; refine wp_ret ?_; refine ret_of ?_; refine zr ?_; refine rk_nil ?_
    exact S.arrNil hS0
end
end Go.E.St
